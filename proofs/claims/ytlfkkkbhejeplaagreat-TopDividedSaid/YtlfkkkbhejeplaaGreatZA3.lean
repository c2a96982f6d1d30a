/- Part 3 of the texts on which the proof rests. Conditions: none. -/
import Derived.Test.YtlfkkkbhejeplaaGreatZA2
set_option linter.unusedVariables false
set_option linter.unusedSimpArgs false
set_option linter.unusedSectionVars false
section
set_option maxRecDepth 100000
set_option maxHeartbeats 16000000
namespace Go.Proofs.YtlfkkkbhejeplaaGreat
open Go Go.Nm
attribute [local irreducible] gd execOp SL SLD SLT WR
def m_balance_in (n aa greatest:Int):M Bool :=
  M.pure ((decide (aa<=n))&&(decide (n<=greatest)))
theorem balance_in_ok {R}(n aa greatest){r}(hM:(m_balance_in n aa greatest).Ends r)(w)(H:St w w [] R):Ret Tryz.prog 37 #[I n,I aa,I greatest] w fun v w'=>∃ y0,y0=r/\v=B y0/\St w w' [] R:=by
 refine ret_of_W Tryz.func37 rfl rfl rfl ?_;refine kg 16 ?_;exact rt

def m_balance_every_api_Span__1 (x:Span) (aa:Span->M Bool):M Bool :=
  M.bind (aa x) fun r2 =>
  M.pure (!r2)
theorem balance_every_api_Span__1_ok {R aa ab}(x ac)(ae:FnM Tryz.prog R ab ac)(ah:Has R (cBlk aa [ab] 126)){r}(hM:(m_balance_every_api_Span__1 x ac).Ends r)(w)(H:St w w [] R):Ret Tryz.prog 122 #[.agg #[I x.lo,I x.hi],Pq aa] w fun v w'=>∃ y0,y0=r/\v=B y0/\St w w' [] R:=by
 refine ret_of_W Tryz.func122 rfl rfl rfl ?_;refine kB 2 ?_;intro ai aj H;refine kg 6 ?_;obtain ⟨r2,ag,hM⟩:=M.e_bind hM;refine t_callM H ae rfl rfl x Reads.none ⟨_,rfl,rfl⟩ ag ?_;intro ak H;refine kg 3 ?_;exact rt

def m_balance_every_api_Span (l:List Span) (so:Span->M Bool):M Bool :=
  M.bind (zas l (fun aa=>m_balance_every_api_Span__1 aa so)) fun r2 =>
  M.pure (!r2)
theorem balance_every_api_Span_ok {R ae aa ag}(l so)(ai:Reads R ae)(aj:Sl ae aa l)(ak:FnM Tryz.prog R ag so){r}(hM:(m_balance_every_api_Span l so).Ends r)(w)(H:St w w [] R):Ret Tryz.prog 70 #[aa,ag] w fun v w'=>∃ y0,y0=r/\v=B y0/\St w w' [] R:=by
 refine ret_of_W Tryz.func70 rfl rfl rfl ?_;refine kB 2 ?_;intro ab az H;refine kg 5 ?_;refine s_val (x_mf (fs:=[]) (cs:=[Pq ab]) rfl rfl) ?_;obtain ⟨aA,al,hM⟩:=M.e_bind hM;refine s_call cq [aa,.func (.func 122) #[] #[Pq ab]] rfl (zb8 l (fun ac=>m_balance_every_api_Span__1 ac so) (ai.app _) aj ⟨122,[Pq ab],rfl,cq,fun ah aB aC ao ac aD ap aE aq au=>by obtain rfl:=Span_arg aq; exact (balance_every_api_Span__1_ok ac so (FnM.app (ak.app _) _) (Has.app (Has.here (k:=0) rfl) _) au ah (St.refl ap)).mono fun ao ah ⟨aF,av,aw,ax⟩=>by subst av; exact ⟨aw,ax⟩⟩ al _ (H.gt 1)) ?_;rintro _ aG ⟨r2,rfl,rfl,ay⟩;replace H:=H.bk ay;refine kg 3 ?_;exact rt

def m_balance_flowing (s:Span):M Bool :=
  M.bind (m_balance_in s.lo (-1000000) s.hi) fun r2 =>
  M.bind (M.opt r2 (m_balance_in s.hi (-1000000) 1000000) false) fun r3 =>
  M.pure (r2&&r3)
theorem balance_flowing_ok {R}(s){r}(hM:(m_balance_flowing s).Ends r)(w)(H:St w w [] R):Ret Tryz.prog 71 #[.agg #[I s.lo,I s.hi]] w fun v w'=>∃ y0,y0=r/\v=B y0/\St w w' [] R:=by
 refine ret_of_W Tryz.func71 rfl rfl rfl ?_;refine kB 2 ?_;intro ae ag H;refine kC 8 @balance_in_ok ?_;intro ah r2 hM H;refine kg 3 ?_;obtain ⟨r3,aa,hM⟩:=M.e_bind hM;refine t_gcall r2 (gy_t rfl) cq (B r3) (fun _=>[I s.hi,I (-1000000),I 1000000]) (fun hg=>lst3 (gd_of hg (I s.hi)) rfl rfl) H (fun hg=>(balance_in_ok s.hi (-1000000) 1000000 (M.e_opt aa hg) _ (H.give (A:=[]) rfl)).mono fun v_ w_ ⟨y_,ab,ac,H_⟩=>by subst ab; exact ⟨ac,H.via H_⟩) ?_;intro ai H;refine kg 3 ?_;exact rt

def m_balance_Check_b0 (n_Gains:List Span) (n_Reaches:List BRch):Nat->M (Nat ⊕ (Int ⊕ Unit)):=fun s =>
  bif decide ((s:Int)<(n_Reaches.length:Int)) then (
  M.grd (decide ((s:Int)<(n_Reaches.length:Int))) <|
  M.bind (m_balance_in ((n_Reaches.getD s default).src) 0 ((n_Gains.length:Int)-1)) fun r4 =>
  M.bind (M.opt (!(!r4)) (m_balance_in ((n_Reaches.getD s default).dst) 0 ((n_Gains.length:Int)-1)) false) fun r5 =>
  bif (((!r4)||(!r5))||(((n_Reaches.getD s default).src)==((n_Reaches.getD s default).dst))) then (
  M.pure (.inr (.inl 2)))
  else (
  M.bind (m_balance_flowing (⟨((n_Reaches.getD s default).lo:Int),((n_Reaches.getD s default).hi:Int)⟩:Span)) fun r6 =>
  bif !r6 then (
  M.pure (.inr (.inl 90)))
  else (
  M.pure (.inl (s+1)))))
  else (
  M.pure (.inr (.inr ())))
def m_balance_Check (n_Gains:List Span) (n_Reaches:List BRch):M Int :=
  M.bind (m_balance_in (n_Gains.length:Int) 1 8) fun r2 =>
  bif ((!r2)||(decide (14<(n_Reaches.length:Int)))) then (
  M.pure 3)
  else (
  M.bind (m_balance_every_api_Span n_Gains (fun aa=>m_balance_flowing aa)) fun r3 =>
  bif !r3 then (
  M.pure 90)
  else (
  M.bind (M.iter (m_balance_Check_b0 n_Gains n_Reaches) 0) fun x_=>match x_ with
  | (.inl s2)=>(
  M.pure s2)
  | (.inr (_:Unit))=>(
  M.pure 0)))
theorem balance_Check_ok {R ai aa aj ab}(n_Gains n_Reaches)(aq:Reads R ai)(ac:Sl ai aa n_Gains)(aN:Reads R aj)(ak:Sl aj ab n_Reaches){r}(hM:(m_balance_Check n_Gains n_Reaches).Ends r)(w)(H:St w w [] R):Ret Tryz.prog 36 #[.agg #[aa,ab]] w fun v w'=>∃ y0,y0=r/\v=I y0/\St w w' [] R:=by
 refine ret_of_W Tryz.func36 rfl rfl rfl ?_;refine kB 2 ?_;intro al aO H;have aP:=(ac).len_le;refine kC 9 @balance_in_ok ?_;intro aQ r2 hM H;have aR:=(ak).len_le;refine kI 9 ?_ ?_
 ·intro au hM;refine kg 4 ?_;exact rt
 intro au hM;refine kg 4 ?_;obtain ⟨aS,av,hM⟩:=M.e_bind hM;refine s_call cq [aa,.func (.func 71) #[] #[]] rfl (balance_every_api_Span_ok n_Gains (fun ae=>m_balance_flowing ae) (aq.app _) ac ⟨71,[],rfl,cq,fun ao aT aU aw ae aV ax aW ay az=>by obtain rfl:=Span_arg ay; exact (balance_flowing_ok ae az ao (St.refl ax)).mono fun aw ao ⟨aX,aA,aB,aC⟩=>by subst aA; exact ⟨aB,aC⟩⟩ av _ (H.gt 1)) ?_;rintro _ aY ⟨r3,rfl,rfl,aD⟩;replace H:=H.bk aD;refine kI 3 ?_ ?_
 ·intro aE hM;refine kg 4 ?_;exact rt
 intro aE hM;have aZ:=(ak).len_le;refine kg 10 ?_;obtain ⟨aF,ap,ag⟩:=M.e_bind hM;obtain ⟨a7,ap⟩:=M.e_iter ap;refine W.loop (fun m σ W=>∃ (s:Nat) (ρ:Env),σ=upds ρ [(1,Pq al),(23,ab),(24,I (n_Reaches.length:Int)),(25,I (s:Int))]/\M.iterN (m_balance_Check_b0 n_Gains n_Reaches) m s=some aF/\St w W [cBlk al [aa,ab] 43] R) ?_ ?_
 ·exact kY
 rintro a8 σ bc ⟨s,ρ,rfl,aG,H⟩;obtain ⟨bf,bh,bi,hM,ah⟩:=M.e_iterN aG;refine kI 5 ?_ ?_
 ·intro aH hM;obtain ⟨bj,hM⟩:=M.e_gq hM;refine kA 7 ?_;intro bm bn H;refine ksw ?_;intro bo H;have bp:=(ac).len_le;refine kC 10 @balance_in_ok ?_;intro br r4 hM H;have bt:=(ac).len_le;refine kg 8 ?_;obtain ⟨r5,aI,hM⟩:=M.e_bind hM;refine t_gcall (!(!r4)) (gy_f rfl) cq (B r5) (fun _=>[I ((n_Reaches.getD s default).dst),I 0,I ((n_Gains.length:Int)-1)]) (fun hg=>lst3 (gd_of hg (I ((n_Reaches.getD s default).dst))) rfl (gd_of hg (I ((n_Gains.length:Int)-1)))) H (fun hg=>(balance_in_ok ((n_Reaches.getD s default).dst) 0 ((n_Gains.length:Int)-1) (M.e_opt aI hg) _ (H.give (A:=[]) rfl)).mono fun v_ w_ ⟨y_,aJ,aK,H_⟩=>by subst aJ; exact ⟨aK,H.via H_⟩) ?_;intro bu H;refine kI 11 ?_ ?_
  ·intro aL hM;refine kg 4 ?_;obtain rfl:=M.e_inr hM ah;replace hM:=ag;exact rt
  intro aL hM;refine kC 4 @balance_flowing_ok ?_;intro bv r6 hM H;refine kI 3 ?_ ?_
  ·intro aM hM;refine kg 4 ?_;obtain rfl:=M.e_inr hM ah;replace hM:=ag;exact rt
  intro aM hM;exact kXp 5 [1]
 intro aH hM;refine W.exit ?_;obtain rfl:=M.e_inr hM ah;replace hM:=ag;refine kg 4 ?_;exact rt

def m_balance_begun_b0 (n_Reaches:List BRch):(Nat × (List BWay))->M ((Nat × (List BWay)) ⊕ ((List BWay) × (List BWay))):=fun (s,l) =>
  bif decide ((s:Int)<(n_Reaches.length:Int)) then (
  M.grd (decide ((s:Int)<(n_Reaches.length:Int))) <|
  M.grd (decide ((l.length+([(⟨((n_Reaches.getD s default).src:Int),((n_Reaches.getD s default).dst:Int),((n_Reaches.getD s default).lo:Int),((n_Reaches.getD s default).hi:Int),(0:Int)⟩:BWay)]).length)*40<=140737488355328)) <|
  M.pure (.inl (s+1,l++([(⟨((n_Reaches.getD s default).src:Int),((n_Reaches.getD s default).dst:Int),((n_Reaches.getD s default).lo:Int),((n_Reaches.getD s default).hi:Int),(0:Int)⟩:BWay)]))))
  else (
  M.pure (.inr (l,l)))
def m_balance_begun_b1 (n_Gains:List Span):((List BWay) × Nat)->M (((List BWay) × Nat) ⊕ ((List BWay) × (List BWay))):=fun (l4,s2) =>
  bif decide ((s2:Int)<(n_Gains.length:Int)) then (
  M.grd (decide ((s2:Int)<(n_Gains.length:Int))) <|
  M.grd (decide ((l4.length+([(⟨(n_Gains.length:Int),(s2:Int),((n_Gains.getD s2 default).lo:Int),((n_Gains.getD s2 default).hi:Int),(0:Int)⟩:BWay)]).length)*40<=140737488355328)) <|
  M.pure (.inl (l4++([(⟨(n_Gains.length:Int),(s2:Int),((n_Gains.getD s2 default).lo:Int),((n_Gains.getD s2 default).hi:Int),(0:Int)⟩:BWay)]),s2+1)))
  else (
  M.pure (.inr (l4,l4)))
def m_balance_begun_b2 (l6:List BWay):((List BWay) × Nat)->M (((List BWay) × Nat) ⊕ ((List BWay) × (List BWay))):=fun (l7,s3) =>
  bif decide ((s3:Int)<(l6.length:Int)) then (
  M.grd (decide ((s3:Int)<(l7.length:Int))) <|
  M.pure (.inl (l7.set s3 ({ (l7.getD s3 default) with now:=min (max 0 ((l7.getD s3 default).lo)) ((l7.getD s3 default).hi) }),s3+1)))
  else (
  M.pure (.inr (l7,l7)))
def m_balance_begun (n_Gains:List Span) (n_Reaches:List BRch):M ((List BWay) × Int × Int) :=
  M.bind (M.iter (m_balance_begun_b0 n_Reaches) (0,[])) fun (l2,l3) =>
  M.bind (M.iter (m_balance_begun_b1 n_Gains) (l3,0)) fun (l5,l6) =>
  M.bind (M.iter (m_balance_begun_b2 l6) (l6,0)) fun (l8,l9) =>
  M.pure (l9,(n_Gains.length:Int),(n_Reaches.length:Int))
theorem balance_begun_ok {R aj aa ak ab}(n_Gains n_Reaches)(aM:Reads R aj)(al:Sl aj aa n_Gains)(aN:Reads R ak)(ao:Sl ak ab n_Reaches){r}(hM:(m_balance_begun n_Gains n_Reaches).Ends r)(w)(H:St w w [] R):Ret Tryz.prog 112 #[.agg #[aa,ab]] w fun v w'=>∃ y0 y1 y2 ap u1,(y0,y1,y2)=r/\v=Pq ap/\St w w' [cBlk ap [u1,I y1,I y2] 114,cOwn (α:=BWay) 120 u1 y0] R:=by
 refine ret_of_W Tryz.func112 rfl rfl rfl ?_;refine kB 2 ?_;intro ae aO H;have aP:=(al).len_le;refine kG 8 ?_;have aQ:=(ao).len_le;refine kB 4 ?_;intro ac aR H;have aS:=(ao).len_le;refine kg 11 ?_;replace H:=H.nilOwn (α:=BWay) 120;obtain ⟨ax,aq,ay⟩:=M.e_bind hM;obtain ⟨au,aq⟩:=M.e_iter aq;refine W.loop (fun m σ W=>∃ (s:Nat) (l:List BWay) (ah:Value) (ρ:Env),σ=upds ρ [(1,Pq ae),(3,Pq ac),(20,ab),(21,I (n_Reaches.length:Int)),(22,I (s:Int))]/\M.iterN (m_balance_begun_b0 n_Reaches) m (s,l)=some ax/\St w W [cOwn (α:=BWay) 120 ah l,cBlk ac [ah,I (n_Gains.length:Int),I (n_Reaches.length:Int)] 114,cBlk ae [aa,ab] 43] R) ?_ ?_
 ·exact kY
 rintro aT σ aU ⟨s,l,ah,ρ,rfl,az,H⟩;obtain ⟨aV,aW,aX,hM,aA⟩:=M.e_iterN az;refine kI 5 ?_ ?_
 ·intro aB hM;obtain ⟨aY,hM⟩:=M.e_gq hM;refine kA 7 ?_;intro aZ a7 H;refine ksw ?_;intro a8 H;refine kDT 1 [0,3] (.q 0 (.q 1 (.q 2 (.q 3 (.q 4 (.q 6 (.q 7 (.q 8 (.q 9 (.q 10 (.q 11 (.q 12 (.l2 5 (.l 13 (.l 14 (.q 15 (.q 16 (.q 17 (.l 18 .nil)))))) 13 (.l 5 (.l 14 (.q 15 (.q 16 (.q 17 (.l 18 .nil))))))))))))))))))) ?_;intro bc H;refine kG 12 ?_;obtain ⟨bf,hM⟩:=M.e_gq hM;refine t_l2 rfl rfl ?_ ?_
  ·refine kG 1 ?_;refine kN ?_;refine kL 1 (α:=BWay) [⟨(n_Reaches.getD s default).src,(n_Reaches.getD s default).dst,(n_Reaches.getD s default).lo,(n_Reaches.getD s default).hi,0⟩] ?_;intro bh bi H;refine kN ?_;refine kP 1 ?_;intro bj bm H;refine kN ?_;refine kS 4 ?_;intro bn H;refine kN ?_;refine t_nil ?_;replace H:=H.pk [2,3,4];exact kX 4
  refine kL 0 (α:=BWay) [⟨(n_Reaches.getD s default).src,(n_Reaches.getD s default).dst,(n_Reaches.getD s default).lo,(n_Reaches.getD s default).hi,0⟩] ?_;intro bo bp H;refine kN ?_;refine kG 2 ?_;refine kN ?_;refine kP 1 ?_;intro br bt H;refine kN ?_;refine kS 4 ?_;intro bu H;refine kN ?_;refine t_nil ?_;replace H:=H.pk [2,3,4];exact kX 4
 intro aB hM;refine W.exit ?_;obtain rfl:=M.e_inr hM aA;replace hM:=ay;have bv:=(al).len_le;refine kg 9 ?_;obtain ⟨aC,av,aD⟩:=M.e_bind hM;obtain ⟨au,av⟩:=M.e_iter av;refine W.loop (fun m σ W=>∃ (l4:List BWay) (s2:Nat) (ai:Value) (ρ:Env),σ=upds ρ [(3,Pq ac),(46,aa),(47,I (n_Gains.length:Int)),(48,I (s2:Int))]/\M.iterN (m_balance_begun_b1 n_Gains) m (l4,s2)=some aC/\St w W [cOwn (α:=BWay) 120 ai l4,cBlk ac [ai,I (n_Gains.length:Int),I (n_Reaches.length:Int)] 114,cBlk ae [aa,ab] 43] R) ?_ ?_
 ·exact kY
 rintro bw σ bA ⟨l4,s2,ai,ρ,rfl,aE,H⟩;obtain ⟨bB,bC,bD,hM,aF⟩:=M.e_iterN aE;refine kI 5 ?_ ?_
 ·intro aG hM;obtain ⟨bE,hM⟩:=M.e_gq hM;refine kA 8 ?_;intro bF bG H;refine kS 1 ?_;intro bH H;refine kDT 1 [0,3] (.q 0 (.q 1 (.q 2 (.q 3 (.q 4 (.q 6 (.q 7 (.q 8 (.q 9 (.q 11 (.q 12 (.l2 5 (.l 10 (.q 13 (.l 14 (.l 15 (.q 16 (.q 17 (.q 18 (.l 19 .nil)))))))) 10 (.q 13 (.l2 5 (.l 14 (.l 15 (.q 16 (.q 17 (.q 18 (.l 19 .nil)))))) 14 (.l 5 (.l 15 (.q 16 (.q 17 (.q 18 (.l 19 .nil)))))))))))))))))))) ?_;intro bI H;obtain ⟨bJ,hM⟩:=M.e_gq hM;refine kg 11 ?_;refine t_l2 rfl rfl ?_ ?_
  ·refine kG 1 ?_;refine kN ?_;refine kG 2 ?_;refine kN ?_;refine kL 2 (α:=BWay) [⟨n_Gains.length,s2,(n_Gains.getD s2 default).lo,(n_Gains.getD s2 default).hi,0⟩] ?_;intro bK bL H;refine kN ?_;refine kP 1 ?_;intro bM bN H;refine kN ?_;refine kS 4 ?_;intro bO H;refine kN ?_;refine t_nil ?_;replace H:=H.pk [2,3,4];exact kX 4
  refine kG 1 ?_;refine kN ?_;refine kG 1 ?_;refine t_l2 rfl rfl ?_ ?_
  ·refine kG 1 ?_;refine kN ?_;refine kL 1 (α:=BWay) [⟨n_Gains.length,s2,(n_Gains.getD s2 default).lo,(n_Gains.getD s2 default).hi,0⟩] ?_;intro bP bQ H;refine kN ?_;refine kP 1 ?_;intro bR bS H;refine kN ?_;refine kS 4 ?_;intro bT H;refine kN ?_;refine t_nil ?_;replace H:=H.pk [2,3,4];exact kX 4
  refine kL 0 (α:=BWay) [⟨n_Gains.length,s2,(n_Gains.getD s2 default).lo,(n_Gains.getD s2 default).hi,0⟩] ?_;intro bU bV H;refine kN ?_;refine kG 2 ?_;refine kN ?_;refine kP 1 ?_;intro bW bX H;refine kN ?_;refine kS 4 ?_;intro bY H;refine kN ?_;refine t_nil ?_;replace H:=H.pk [2,3,4];exact kX 4
 intro aG hM;refine W.exit ?_;obtain rfl:=M.e_inr hM aF;replace hM:=aD;have bZ:=((H.os 0)).len_le;refine kg 12 ?_;obtain ⟨aH,aw,aI⟩:=M.e_bind hM;obtain ⟨au,aw⟩:=M.e_iter aw;refine W.loop (fun m σ W=>∃ (l7:List BWay) (s3:Nat) (ag:Value) (ρ:Env),σ=upds ρ [(3,Pq ac),(77,ag),(78,I (l4.length:Int)),(79,I (s3:Int))]/\M.iterN (m_balance_begun_b2 l4) m (l7,s3)=some aH/\St w W [cOwn (α:=BWay) 120 ag l7,cBlk ac [ag,I (n_Gains.length:Int),I (n_Reaches.length:Int)] 114,cBlk ae [aa,ab] 43] R) ?_ ?_
 ·exact kY
 rintro b5 σ b6 ⟨l7,s3,ag,ρ,rfl,aJ,H⟩;obtain ⟨b7,b8,b9,hM,aK⟩:=M.e_iterN aJ;refine kI 5 ?_ ?_
 ·intro aL hM;obtain ⟨cb,hM⟩:=M.e_gq hM;refine kA 8 ?_;intro cc cd H;refine kS 1 ?_;intro ce H;refine kD 1 [0,2,3] [14,15,16] ?_;intro cf H;refine kG 16 ?_;refine kN ?_;refine kG 2 ?_;refine kN ?_;refine kO 1 (α:=BWay) ({ (l7.getD s3 default) with now:=min (max 0 ((l7.getD s3 default).lo)) ((l7.getD s3 default).hi) }) ?_;intro cg H;have ch:(l7.set s3 ({ (l7.getD s3 default) with now:=min (max 0 ((l7.getD s3 default).lo)) ((l7.getD s3 default).hi) })).length=(l7).length:=List.length_set;refine kN ?_;exact kXp 5 [1,2,3]
 intro aL hM;refine W.exit ?_;obtain rfl:=M.e_inr hM aK;replace hM:=aI;exact kR 5 [1,0]

def m_balance_desk_over_b0 (d_ways_all:List BWay):((List Int) × Nat)->M (((List Int) × Nat) ⊕ (List Int)):=fun (s,s2) =>
  bif decide ((s2:Int)<(d_ways_all.length:Int)) then (
  M.grd (decide ((s2:Int)<(d_ways_all.length:Int))) <|
  M.grd (decide ((0:Int)<=((d_ways_all.getD s2 default).src))&&decide (((d_ways_all.getD s2 default).src)<(10:Int))) <|
  M.gi ((s.getD (Int.toNat ((d_ways_all.getD s2 default).src)) 0)-((d_ways_all.getD s2 default).now)) <|
  M.grd (decide ((0:Int)<=((d_ways_all.getD s2 default).dst))&&decide (((d_ways_all.getD s2 default).dst)<(10:Int))) <|
  M.gi (((s.set (Int.toNat ((d_ways_all.getD s2 default).src)) ((s.getD (Int.toNat ((d_ways_all.getD s2 default).src)) 0)-((d_ways_all.getD s2 default).now))).getD (Int.toNat ((d_ways_all.getD s2 default).dst)) 0)+((d_ways_all.getD s2 default).now)) <|
  M.pure (.inl ((s.set (Int.toNat ((d_ways_all.getD s2 default).src)) ((s.getD (Int.toNat ((d_ways_all.getD s2 default).src)) 0)-((d_ways_all.getD s2 default).now))).set (Int.toNat ((d_ways_all.getD s2 default).dst)) (((s.set (Int.toNat ((d_ways_all.getD s2 default).src)) ((s.getD (Int.toNat ((d_ways_all.getD s2 default).src)) 0)-((d_ways_all.getD s2 default).now))).getD (Int.toNat ((d_ways_all.getD s2 default).dst)) 0)+((d_ways_all.getD s2 default).now)),s2+1)))
  else (
  M.pure (.inr s))
def m_balance_desk_over (d_ways_all:List BWay) (d_ways_outside d_reaches:Int):M (List Int) :=
  M.bind (M.iter (m_balance_desk_over_b0 d_ways_all) (List.replicate 10 0,0)) fun l =>
  M.pure l
theorem balance_desk_over_ok {R aj ak ae}(d_ways_all d_ways_outside d_reaches)(aC:Reads R ak)(ap:Sl ak ae d_ways_all)(aD:Has R (cBlk aj [ae,I d_ways_outside,I d_reaches] 114)){r}(hM:(m_balance_desk_over d_ways_all d_ways_outside d_reaches).Ends r)(w)(H:St w w [] R):Ret Tryz.prog 155 #[Pq aj] w fun v w'=>∃ y0,y0=r/\v = .agg (List.flatten [[],encF (α:=Int) y0]).toArray/\St w w' [] R/\y0.length=10:=by
 refine ret_of_W Tryz.func155 rfl rfl rfl ?_;refine kg 2 ?_;refine t_alloc (cs:=(List.flatten [[],encF (α:=Int) (List.replicate 10 0)])) H Al254.h (by kernel_rfl) ?_;intro ac aE H;refine kg 3 ?_;refine t_alloc (cs:=(List.flatten [[],encF (α:=Int) (List.replicate 10 0)])) H Al254.h (by kernel_rfl) ?_;intro aa aF H;have aG:=(ap).len_le;refine kg 13 ?_;obtain ⟨aq,ag,au⟩:=M.e_bind hM;obtain ⟨aH,ag⟩:=M.e_iter ag;refine W.loop (fun m σ W=>∃ (s:List Int) (s2:Nat) (ρ:Env),σ=upds ρ [(2,Pq ac),(3,Pq aa),(10,ae),(11,I (d_ways_all.length:Int)),(12,I (s2:Int))]/\M.iterN (m_balance_desk_over_b0 d_ways_all) m (s,s2)=some aq/\St w W [cBlk aa (List.flatten [[],encF (α:=Int) s]) 254,cBlk ac (List.flatten [[],encF (α:=Int) (List.replicate 10 0)]) 254] R/\s.length=10) ?_ ?_
 ·exact ⟨_,List.replicate 10 0,0,_,jQ,ag,H,List.length_replicate⟩
 rintro aI σ aJ ⟨s,s2,ρ,rfl,av,H,ab⟩;obtain ⟨aw,ax,aK,hM,al⟩:=M.e_iterN av;refine kI 5 ?_ ?_
 ·intro ay hM;obtain ⟨aL,hM⟩:=M.e_gq hM;refine kA 7 ?_;intro ao aM H;refine ksw ?_;intro aN H;refine kDo 2 [0,2] [(0,true),(1,true),(2,true),(4,true),(5,true),(3,false),(6,true),(7,true),(8,false)] ?_;intro aO H;obtain ⟨aP,hM⟩:=M.e_gq hM;refine kg 2 ?_;refine d_q rfl (fun w' H=>x_ix (v:=.pointer (some ⟨aa,0+Int.toNat ((d_ways_all.getD s2 default).src)*1,none⟩)) rfl rfl (run_indexS Tryz.underlying254 Sz3.h (by omega) (by omega))) ?_;refine kG 3 ?_;refine s_val (x_ld (v:=I (s.getD (Int.toNat ((d_ways_all.getD s2 default).src)) 0)) rfl (ldS (α:=Int) (k:=1) (off:=0) (i:=(Int.toNat ((d_ways_all.getD s2 default).src))) (f:=0) (sz:=1) 0 Sc3.h (H.bl 1) rfl (sgo1 rfl) rfl (by decide) (by have ah:=ab; omega) (by omega) rfl)) ?_;refine kN ?_;obtain ⟨aQ,hM⟩:=M.e_gq hM;refine kg 1 ?_;refine d_q rfl (fun w' H=>x_ix (v:=.pointer (some ⟨aa,0+Int.toNat ((d_ways_all.getD s2 default).src)*1,none⟩)) rfl rfl (run_indexS Tryz.underlying254 Sz3.h (by omega) (by omega)))<|d_l rfl ?_;refine t_stS (α:=Int) (kc:=1) (b:=aa) (k:=1) (off:=0) (i:=(Int.toNat ((d_ways_all.getD s2 default).src))) (f:=0) (sz:=1) (segs:=[[],encF (α:=Int) s]) (segs':=[[],encF (α:=Int) (s.set (Int.toNat ((d_ways_all.getD s2 default).src)) ((s.getD (Int.toNat ((d_ways_all.getD s2 default).src)) 0)-((d_ways_all.getD s2 default).now)))]) (l:=s) (l':=s.set (Int.toNat ((d_ways_all.getD s2 default).src)) ((s.getD (Int.toNat ((d_ways_all.getD s2 default).src)) 0)-((d_ways_all.getD s2 default).now))) (vs:=[I ((s.getD (Int.toNat ((d_ways_all.getD s2 default).src)) 0)-((d_ways_all.getD s2 default).now))]) (L':=[cBlk ao [I ((d_ways_all.getD s2 default).src),I ((d_ways_all.getD s2 default).dst),I ((d_ways_all.getD s2 default).lo),I ((d_ways_all.getD s2 default).hi),I ((d_ways_all.getD s2 default).now)] 120,cBlk aa (List.flatten [[],encF (α:=Int) (s.set (Int.toNat ((d_ways_all.getD s2 default).src)) ((s.getD (Int.toNat ((d_ways_all.getD s2 default).src)) 0)-((d_ways_all.getD s2 default).now)))]) 254,cBlk ac (List.flatten [[],encF (α:=Int) (List.replicate 10 0)]) 254]) H rfl rfl rfl Sz3.h rfl rfl rfl rfl (sgo1 rfl) rfl rfl (by have ah:=ab; omega) (by omega) 0 ((s.getD (Int.toNat ((d_ways_all.getD s2 default).src)) 0)-((d_ways_all.getD s2 default).now)) rfl rfl rfl rfl ?_;intro aR H
  have ai:(s.set (Int.toNat ((d_ways_all.getD s2 default).src)) ((s.getD (Int.toNat ((d_ways_all.getD s2 default).src)) 0)-((d_ways_all.getD s2 default).now))).length=10:=List.length_set.trans ab;refine kN ?_;refine kDo 1 [0,2] [(0,true),(1,true),(2,true),(4,true),(5,true),(3,false),(6,true),(7,true),(8,false)] ?_;intro aS H;obtain ⟨aT,hM⟩:=M.e_gq hM;refine kg 2 ?_;refine d_q rfl (fun w' H=>x_ix (v:=.pointer (some ⟨aa,0+Int.toNat ((d_ways_all.getD s2 default).dst)*1,none⟩)) rfl rfl (run_indexS Tryz.underlying254 Sz3.h (by omega) (by omega))) ?_;refine kG 3 ?_;refine s_val (x_ld (v:=I ((s.set (Int.toNat ((d_ways_all.getD s2 default).src)) ((s.getD (Int.toNat ((d_ways_all.getD s2 default).src)) 0)-((d_ways_all.getD s2 default).now))).getD (Int.toNat ((d_ways_all.getD s2 default).dst)) 0)) rfl (ldS (α:=Int) (k:=1) (off:=0) (i:=(Int.toNat ((d_ways_all.getD s2 default).dst))) (f:=0) (sz:=1) 0 Sc3.h (H.bl 1) rfl (sgo1 rfl) rfl (by decide) (by have ah:=ai; omega) (by omega) rfl)) ?_;refine kN ?_;obtain ⟨aU,hM⟩:=M.e_gq hM;refine kg 1 ?_;refine d_q rfl (fun w' H=>x_ix (v:=.pointer (some ⟨aa,0+Int.toNat ((d_ways_all.getD s2 default).dst)*1,none⟩)) rfl rfl (run_indexS Tryz.underlying254 Sz3.h (by omega) (by omega)))<|d_l rfl ?_;refine t_stS (α:=Int) (kc:=1) (b:=aa) (k:=1) (off:=0) (i:=(Int.toNat ((d_ways_all.getD s2 default).dst))) (f:=0) (sz:=1) (segs:=[[],encF (α:=Int) (s.set (Int.toNat ((d_ways_all.getD s2 default).src)) ((s.getD (Int.toNat ((d_ways_all.getD s2 default).src)) 0)-((d_ways_all.getD s2 default).now)))]) (segs':=[[],encF (α:=Int) ((s.set (Int.toNat ((d_ways_all.getD s2 default).src)) ((s.getD (Int.toNat ((d_ways_all.getD s2 default).src)) 0)-((d_ways_all.getD s2 default).now))).set (Int.toNat ((d_ways_all.getD s2 default).dst)) (((s.set (Int.toNat ((d_ways_all.getD s2 default).src)) ((s.getD (Int.toNat ((d_ways_all.getD s2 default).src)) 0)-((d_ways_all.getD s2 default).now))).getD (Int.toNat ((d_ways_all.getD s2 default).dst)) 0)+((d_ways_all.getD s2 default).now)))]) (l:=s.set (Int.toNat ((d_ways_all.getD s2 default).src)) ((s.getD (Int.toNat ((d_ways_all.getD s2 default).src)) 0)-((d_ways_all.getD s2 default).now))) (l':=(s.set (Int.toNat ((d_ways_all.getD s2 default).src)) ((s.getD (Int.toNat ((d_ways_all.getD s2 default).src)) 0)-((d_ways_all.getD s2 default).now))).set (Int.toNat ((d_ways_all.getD s2 default).dst)) (((s.set (Int.toNat ((d_ways_all.getD s2 default).src)) ((s.getD (Int.toNat ((d_ways_all.getD s2 default).src)) 0)-((d_ways_all.getD s2 default).now))).getD (Int.toNat ((d_ways_all.getD s2 default).dst)) 0)+((d_ways_all.getD s2 default).now))) (vs:=[I (((s.set (Int.toNat ((d_ways_all.getD s2 default).src)) ((s.getD (Int.toNat ((d_ways_all.getD s2 default).src)) 0)-((d_ways_all.getD s2 default).now))).getD (Int.toNat ((d_ways_all.getD s2 default).dst)) 0)+((d_ways_all.getD s2 default).now))]) (L':=[cBlk ao [I ((d_ways_all.getD s2 default).src),I ((d_ways_all.getD s2 default).dst),I ((d_ways_all.getD s2 default).lo),I ((d_ways_all.getD s2 default).hi),I ((d_ways_all.getD s2 default).now)] 120,cBlk aa (List.flatten [[],encF (α:=Int) ((s.set (Int.toNat ((d_ways_all.getD s2 default).src)) ((s.getD (Int.toNat ((d_ways_all.getD s2 default).src)) 0)-((d_ways_all.getD s2 default).now))).set (Int.toNat ((d_ways_all.getD s2 default).dst)) (((s.set (Int.toNat ((d_ways_all.getD s2 default).src)) ((s.getD (Int.toNat ((d_ways_all.getD s2 default).src)) 0)-((d_ways_all.getD s2 default).now))).getD (Int.toNat ((d_ways_all.getD s2 default).dst)) 0)+((d_ways_all.getD s2 default).now)))]) 254,cBlk ac (List.flatten [[],encF (α:=Int) (List.replicate 10 0)]) 254]) H rfl rfl rfl Sz3.h rfl rfl rfl rfl (sgo1 rfl) rfl rfl (by have ah:=ai; omega) (by omega) 0 (((s.set (Int.toNat ((d_ways_all.getD s2 default).src)) ((s.getD (Int.toNat ((d_ways_all.getD s2 default).src)) 0)-((d_ways_all.getD s2 default).now))).getD (Int.toNat ((d_ways_all.getD s2 default).dst)) 0)+((d_ways_all.getD s2 default).now)) rfl rfl rfl rfl ?_;intro aV H
  have az:((s.set (Int.toNat ((d_ways_all.getD s2 default).src)) ((s.getD (Int.toNat ((d_ways_all.getD s2 default).src)) 0)-((d_ways_all.getD s2 default).now))).set (Int.toNat ((d_ways_all.getD s2 default).dst)) (((s.set (Int.toNat ((d_ways_all.getD s2 default).src)) ((s.getD (Int.toNat ((d_ways_all.getD s2 default).src)) 0)-((d_ways_all.getD s2 default).now))).getD (Int.toNat ((d_ways_all.getD s2 default).dst)) 0)+((d_ways_all.getD s2 default).now))).length=10:=List.length_set.trans ai;refine kN ?_;refine kg 5 ?_;exact ⟨aw,ax,(s.set (Int.toNat ((d_ways_all.getD s2 default).src)) ((s.getD (Int.toNat ((d_ways_all.getD s2 default).src)) 0)-((d_ways_all.getD s2 default).now))).set (Int.toNat ((d_ways_all.getD s2 default).dst)) (((s.set (Int.toNat ((d_ways_all.getD s2 default).src)) ((s.getD (Int.toNat ((d_ways_all.getD s2 default).src)) 0)-((d_ways_all.getD s2 default).now))).getD (Int.toNat ((d_ways_all.getD s2 default).dst)) 0)+((d_ways_all.getD s2 default).now)),s2+1,_,jQ,M.e_inl hM al,(H.pk [1,2]),az⟩
 intro ay hM;refine W.exit ?_;obtain rfl:=M.e_inr hM al;replace hM:=au;refine kg 2 ?_;refine s_val (x_ld (v:=.agg (List.flatten [[],encF (α:=Int) s]).toArray) rfl (ldb_seg (l:=s) (pre:=[]) (post:=[]) (by simp) Ag254.h Sz254.h (H.bl 0) (by simp) rfl ab)) ?_;refine t_swI 1 H rfl rfl Sz254.h List.length_replicate ab ?_;intro aW H;refine s_nil ?_;refine W.ret ?_;have aA:=(H.bl 1)
 have aB:=M.e_pure hM;exact ⟨_,(resE_of1 (v:=.agg (List.flatten [[],encF (α:=Int) s]).toArray) rfl (.cell (v:=.agg (List.flatten [[],encF (α:=Int) s]).toArray) rfl (run_loadVar_ag (ds:=(List.flatten [[],encF (α:=Int) s])) Ag254.h Sz254.h aA (seg_whole ab) (seg_len ab))<|.nil)),⟨s,aB,rfl,(H.pk []),ab⟩⟩

def zaj (s:List Int) (f:Int->M Bool):Nat->M (Nat ⊕ (Int ⊕ Unit)):=fun s2 =>
  bif decide ((s2:Int)<(s.length:Int)) then (
  M.grd (decide ((s2:Int)<(s.length:Int))) <|
  M.bind (f (s.getD s2 0)) fun r2 =>
  bif r2 then (
  M.pure (.inr (.inl (s2:Int))))
  else (
  M.pure (.inl (s2+1))))
  else (
  M.pure (.inr (.inr ())))
def zap (s:List Int) (f:Int->M Bool):M Int :=
  M.bind (M.iter (zaj s f) 0) fun x_=>match x_ with
  | (.inl s3)=>(
  M.pure s3)
  | (.inr (_:Unit))=>(
  M.pure (-1))
theorem zcD {R ac aa ab}(s f)(au:Reads R ac)(ai:Sl ac aa s)(aj:FnM Tryz.prog R ab f){r}(hM:(zap s f).Ends r)(w)(H:St w w [] R):Ret Tryz.prog 132 #[aa,ab] w fun v w'=>∃ y0,y0=r/\v=I y0/\St w w' [] R:=by
 refine ret_of_W Tryz.func132 rfl rfl rfl ?_;have av:=(ai).len_le;refine kg 12 ?_;obtain ⟨ak,ae,ag⟩:=M.e_bind hM;obtain ⟨aw,ae⟩:=M.e_iter ae;refine W.loop (fun m σ W=>∃ (s2:Nat) (ρ:Env),σ=upds ρ [(0,aa),(1,ab),(7,I (s.length:Int)),(8,I (s2:Int))]/\M.iterN (zaj s f) m s2=some ak/\St w W [] R) ?_ ?_
 ·exact kY
 rintro ax σ ay ⟨s2,ρ,rfl,al,H⟩;obtain ⟨az,aA,aB,hM,ah⟩:=M.e_iterN al;refine kI 5 ?_ ?_
 ·intro ao hM;obtain ⟨aC,hM⟩:=M.e_gq hM;refine kg 15 ?_;obtain ⟨r2,ap,hM⟩:=M.e_bind hM;refine t_callM H aj rfl rfl (s.getD s2 0) Reads.none (Arg.mkI (fun _=>none) _) ap ?_;intro aD H;refine kI 1 ?_ ?_
  ·intro aq hM;refine kg 5 ?_;obtain rfl:=M.e_inr hM ah;replace hM:=ag;exact rt
  intro aq hM;exact kX 5
 intro ao hM;refine W.exit ?_;obtain rfl:=M.e_inr hM ah;replace hM:=ag;refine kg 4 ?_;exact rt

def m_balance_desk_settle_2 (x:Int):M Bool :=
  M.pure (decide (0<x))
theorem balance_desk_settle_2_ok {R}(x){r}(hM:(m_balance_desk_settle_2 x).Ends r)(w)(H:St w w [] R):Ret Tryz.prog 156 #[I x] w fun v w'=>∃ y0,y0=r/\v=B y0/\St w w' [] R:=by
 refine ret_of_W Tryz.func156 rfl rfl rfl ?_;refine kg 10 ?_;exact rt

def m_balance_desk_steps (d_ways_all:List BWay) (d_ways_outside d_reaches place:Int):M Int :=
  M.pure place
theorem balance_desk_steps_ok {R aa ab ac}(d_ways_all d_ways_outside d_reaches place)(aj:Reads R ab)(ak:Sl ab ac d_ways_all)(al:Has R (cBlk aa [ac,I d_ways_outside,I d_reaches] 114)){r}(hM:(m_balance_desk_steps d_ways_all d_ways_outside d_reaches place).Ends r)(w)(H:St w w [] R):Ret Tryz.prog 159 #[Pq aa,I place] w fun v w'=>∃ y0 ae ag,y0=r/\v = .func (.func 189) #[] #[Pq ae,Pq ag]/\St w w' [cBlk ae [Pq aa] 107,cBlk ag [I y0] 3] R:=by
 refine ret_of_W Tryz.func159 rfl rfl rfl ?_;refine kB 2 ?_;intro ah ao H;refine kbx ?_;intro ai ap H;refine kg 4 ?_;refine s_val (x_mf (fs:=[]) (cs:=[Pq ah,Pq ai]) rfl rfl) ?_;exact kR 2 [1,0]

def m_balance_desk_steps_1_b0 {T_:Type} (ac:T_->BStep->M (Bool × T_)) (aa:List BWay) (ab:Int):(Nat × T_)->M ((Nat × T_) ⊕ (T_ ⊕ T_)):=fun (s,t3) =>
  bif decide ((s:Int)<(aa.length:Int)) then (
  M.grd (decide ((s:Int)<(aa.length:Int))) <|
  M.bind (M.opt (((aa.getD s default).src)==ab) (ac t3 (⟨(s:Int),false⟩:BStep)) (false,t3)) fun (go,t) =>
  M.bind (M.opt ((!((((aa.getD s default).src)==ab)&&(!go)))&&(((aa.getD s default).dst)==ab)) (ac t (⟨(s:Int),true⟩:BStep)) (false,t)) fun (go2,t2) =>
  bif (((((aa.getD s default).src)==ab)&&(!go))||((((aa.getD s default).dst)==ab)&&(!go2))) then (
  M.pure (.inr (.inl t2)))
  else (
  M.pure (.inl (s+1,t2))))
  else (
  M.pure (.inr (.inr t3)))
def m_balance_desk_steps_1 {T_:Type} (aa:T_->BStep->M (Bool × T_)) (t_:T_) (ab:List BWay) (ae ag ac:Int):M T_ :=
  M.bind (M.iter (m_balance_desk_steps_1_b0 aa ab ac) (0,t_)) fun x_=>match x_ with
  | (.inl t4)=>(
  M.pure t4)
  | (.inr t5)=>(
  M.pure t5)
theorem balance_desk_steps_1_ok {R:List Chunk} {T_:Type} {Y_:T_->List Chunk->Prop} {ac:Value} {ae:List Chunk} {ao:Nat} {ap:Nat} {aq:Cells} {ag:Value} {ah:Nat} (ai:T_->BStep->M (Bool × T_)) (t_:T_) (aa:List BWay) (au:Int) (av:Int) (ab:Int) (aw:YieldC Tryz.prog R arBStep Y_ ac ai) (aB:Y_ t_ ae) (aM:Reads R aq) (aC:Sl aq ag aa) (aN:Has R (cBlk ap [ag,I au,I av] 114)) (aO:Has R (cBlk ao [Pq ap] 107)) (aP:Has R (cBlk ah [I ab] 3)) {r:T_} (hM:(m_balance_desk_steps_1 ai t_ aa au av ab).Ends r) (w:World) (H:St w w [cAll ae] R):Ret Tryz.prog 189 #[ac,Pq ao,Pq ah] w fun v w'=>∃ (y0:T_) (Ls0:List Chunk),y0=r/\v = .tuple #[]/\St w w' [cAll Ls0] R/\Y_ y0 Ls0:=by
 refine ret_of_W Tryz.func189 rfl rfl rfl ?_;have aQ:=(aC).len_le;refine kg 11 ?_;obtain ⟨aD,aj,ax⟩:=M.e_bind hM;obtain ⟨aR,aj⟩:=M.e_iter aj;refine W.loop (fun m σ W=>∃ (s:Nat) (t3:T_) (Ls_t3:List Chunk) (ρ:Env),σ=upds ρ [(0,ac),(2,Pq ah),(10,ag),(11,I (aa.length:Int)),(12,I (s:Int))]/\M.iterN (m_balance_desk_steps_1_b0 ai aa ab) m (s,t3)=some aD/\St w W [cAll Ls_t3] R/\Y_ t3 Ls_t3) ?_ ?_
 ·exact ⟨_,0,t_,ae,_,jQ,aj,H,aB⟩
 rintro aS σ aT ⟨s,t3,Ls_t3,ρ,rfl,aE,H,hY_t3⟩;obtain ⟨aF,aG,aU,hM,ak⟩:=M.e_iterN aE;refine kI 5 ?_ ?_
 ·intro aH hM;obtain ⟨aV,hM⟩:=M.e_gq hM;refine kA 8 ?_;intro ay aW H;refine kS 1 ?_;intro aX H;refine kg 10 ?_;refine g_val (((aa.getD s default).src)==ab) (gy_t rfl) (fun hg=>x_bld (ps:=[(0,I (s:Int)),(1,B false)]) (zs:=[I 0,B false]) (L':=[I (s:Int),B false]) (by exact prs2 (gd_of hg (I (s:Int))) rfl) Tryz.underlying222 Al222.h rfl (Bd222 Tryz.underlying222) (.cons (cs:=[I (s:Int)]) rfl rfl rfl rfl rfl<|.cons (cs:=[B false]) rfl rfl rfl rfl rfl<|.nil)) ?_;obtain ⟨⟨go,t⟩,aI,hM⟩:=M.e_bind hM;refine t_gyield (L:=[cBlk ay [I ((aa.getD s default).src),I ((aa.getD s default).dst),I ((aa.getD s default).lo),I ((aa.getD s default).hi),I ((aa.getD s default).now)] 120]) (((aa.getD s default).src)==ab) (gy_t rfl) (H.pk [1,0]) aw hY_t3 (fun hg=>(gd_of hg (ac))) [.agg #[I (s:Int),B false]] (fun hg=>lst1 (gd_of hg (.agg #[I (s:Int),B false]))) (⟨(s:Int),false⟩:BStep) Reads.none rfl aI ?_;intro aY aZ aJ H;replace H:=H.nf;refine kg 10 ?_;refine g_val ((!((((aa.getD s default).src)==ab)&&(!go)))&&(((aa.getD s default).dst)==ab)) (gy_gt rfl rfl) (fun hg=>x_bld (ps:=[(0,I (s:Int)),(1,B true)]) (zs:=[I 0,B false]) (L':=[I (s:Int),B true]) (by exact prs2 (gd_of hg (I (s:Int))) rfl) Tryz.underlying222 Al222.h rfl (Bd222 Tryz.underlying222) (.cons (cs:=[I (s:Int)]) rfl rfl rfl rfl rfl<|.cons (cs:=[B true]) rfl rfl rfl rfl rfl<|.nil)) ?_;obtain ⟨⟨go2,t2⟩,aK,hM⟩:=M.e_bind hM;refine t_gyield (L:=[cBlk ay [I ((aa.getD s default).src),I ((aa.getD s default).dst),I ((aa.getD s default).lo),I ((aa.getD s default).hi),I ((aa.getD s default).now)] 120]) ((!((((aa.getD s default).src)==ab)&&(!go)))&&(((aa.getD s default).dst)==ab)) (gy_gt rfl rfl) H aw aJ (fun hg=>(gd_of hg (ac))) [.agg #[I (s:Int),B true]] (fun hg=>lst1 (gd_of hg (.agg #[I (s:Int),B true]))) (⟨(s:Int),true⟩:BStep) Reads.none rfl aK ?_;intro az a7 aA H;replace H:=H.nf;refine kI 4 ?_ ?_
  ·intro aL hM;refine W.ret ?_;obtain rfl:=M.e_inr hM ak;replace hM:=ax;have al:=M.e_pure hM;exact ⟨_,resE_tmp0 rfl,⟨t2,az,al,rfl,(H.pk [0]),aA⟩⟩
  intro aL hM;refine kg 5 ?_;exact ⟨aF,aG,s+1,t2,az,_,jQ,M.e_inl hM ak,(H.pk [0]),aA⟩
 intro aH hM;refine W.exit ?_;obtain rfl:=M.e_inr hM ak;replace hM:=ax;have al:=M.e_pure hM;exact ⟨_,resE_tmp0 rfl,⟨t3,Ls_t3,al,rfl,H,hY_t3⟩⟩
def m_balance_desk_settle_1 (x:BStep):M Bool :=
  M.pure true
theorem balance_desk_settle_1_ok {R}(x){r}(hM:(m_balance_desk_settle_1 x).Ends r)(w)(H:St w w [] R):Ret Tryz.prog 154 #[.agg #[I x.way,B x.back]] w fun v w'=>∃ y0,y0=r/\v=B y0/\St w w' [] R:=by
 refine ret_of_W Tryz.func154 rfl rfl rfl ?_;refine kB 2 ?_;intro aa ab H;refine kg 6 ?_;exact rt

def m_balance_desk_room_j0 (now aa most:Int):M (Int × Int) :=
  bif decide (now<aa) then (
  M.gi (aa-now) <|
  M.pure ((-1),(aa-now)))
  else (
  bif decide (now<most) then (
  M.gi (most-now) <|
  M.pure (0,(most-now)))
  else (
  M.pure (1,10000000000)))
def m_balance_desk_room (d_ways_all:List BWay) (d_ways_outside d_reaches:Int) (s:BStep):M (Int × Int) :=
  M.grd (decide ((0:Int)<=s.way)&&decide (s.way<(d_ways_all.length:Int))) <|
  bif s.back then (
  M.grd (decide (-9223372036854775807<=((d_ways_all.getD (Int.toNat s.way) default).now))&&decide (((d_ways_all.getD (Int.toNat s.way) default).now)<=9223372036854775807)) <|
  M.grd (decide (-9223372036854775807<=((d_ways_all.getD (Int.toNat s.way) default).hi))&&decide (((d_ways_all.getD (Int.toNat s.way) default).hi)<=9223372036854775807)) <|
  M.grd (decide (-9223372036854775807<=((d_ways_all.getD (Int.toNat s.way) default).lo))&&decide (((d_ways_all.getD (Int.toNat s.way) default).lo)<=9223372036854775807)) <|
  m_balance_desk_room_j0 (-((d_ways_all.getD (Int.toNat s.way) default).now)) (-((d_ways_all.getD (Int.toNat s.way) default).hi)) (-((d_ways_all.getD (Int.toNat s.way) default).lo)))
  else (
  m_balance_desk_room_j0 ((d_ways_all.getD (Int.toNat s.way) default).now) ((d_ways_all.getD (Int.toNat s.way) default).lo) ((d_ways_all.getD (Int.toNat s.way) default).hi))
theorem balance_desk_room_ok {R ab ac ae}(d_ways_all d_ways_outside d_reaches s)(aj:Reads R ac)(ak:Sl ac ae d_ways_all)(al:Has R (cBlk ab [ae,I d_ways_outside,I d_reaches] 114)){r}(hM:(m_balance_desk_room d_ways_all d_ways_outside d_reaches s).Ends r)(w)(H:St w w [] R):Ret Tryz.prog 117 #[Pq ab,.agg #[I s.way,B s.back]] w fun v w'=>∃ y0 y1,(y0,y1)=r/\v = .tuple #[I y0,I y1]/\St w w' [] R:=by
 refine ret_of_W Tryz.func117 rfl rfl rfl ?_;refine kB 2 ?_;intro ao ap H;refine kD 4 [0] [9,10] ?_;intro aq H;obtain ⟨au,hM⟩:=M.e_gq hM;refine kA 10 ?_;intro av aw H;refine kN ?_;refine kS 1 ?_;intro ax H;refine kN ?_;refine kD 2 [0,1] [] ?_;intro ay H;refine kg 12 ?_;refine W.seqJ (fun σ W=>∃ (now:Int) (aa:Int) (most:Int) (ρ:Env),σ=upds ρ [(7,I now),(8,I aa),(9,I most)]/\(m_balance_desk_room_j0 now aa most).Ends r/\St w W [] R) ?_ ?_
 ·refine kg 5 ?_;replace H:=H.pk [];refine kI 0 ?_ ?_
  ·intro ag hM;obtain ⟨az,hM⟩:=M.e_gq hM;refine kg 2 ?_;refine s_val (x_neg (a:=(d_ways_all.getD (Int.toNat s.way) default).now) rfl (by omega)) ?_;obtain ⟨aA,hM⟩:=M.e_gq hM;refine kg 1 ?_;refine s_val (x_neg (a:=(d_ways_all.getD (Int.toNat s.way) default).hi) rfl (by omega)) ?_;obtain ⟨aB,hM⟩:=M.e_gq hM;refine kg 1 ?_;refine s_val (x_neg (a:=(d_ways_all.getD (Int.toNat s.way) default).lo) rfl (by omega)) ?_;refine kg 4 ?_;exact ⟨-((d_ways_all.getD (Int.toNat s.way) default).now),-((d_ways_all.getD (Int.toNat s.way) default).hi),-((d_ways_all.getD (Int.toNat s.way) default).lo),_,jQ,hM,H⟩
  intro ag hM;refine W.skip ?_;exact ⟨(d_ways_all.getD (Int.toNat s.way) default).now,(d_ways_all.getD (Int.toNat s.way) default).lo,(d_ways_all.getD (Int.toNat s.way) default).hi,_,jQ,hM,H⟩
 rintro _ aC ⟨now,aa,most,ρ,rfl,hM,H⟩;unfold m_balance_desk_room_j0 at hM;refine kI 9 ?_ ?_
 ·intro ah hM;obtain ⟨aD,hM⟩:=M.e_gq hM;refine kg 8 ?_;exact rt
 intro ah hM;refine kI 7 ?_ ?_
 ·intro ai hM;obtain ⟨aE,hM⟩:=M.e_gq hM;refine kg 8 ?_;exact rt
 intro ai hM;refine kg 6 ?_;exact rt

def m_balance_desk_to (d_ways_all:List BWay) (d_ways_outside d_reaches:Int) (s:BStep):M Int :=
  bif s.back then (
  M.grd (decide ((0:Int)<=s.way)&&decide (s.way<(d_ways_all.length:Int))) <|
  M.pure ((d_ways_all.getD (Int.toNat s.way) default).src))
  else (
  M.grd (decide ((0:Int)<=s.way)&&decide (s.way<(d_ways_all.length:Int))) <|
  M.pure ((d_ways_all.getD (Int.toNat s.way) default).dst))
theorem balance_desk_to_ok {R aa ab ac}(d_ways_all d_ways_outside d_reaches s)(ag:Reads R ab)(ah:Sl ab ac d_ways_all)(ai:Has R (cBlk aa [ac,I d_ways_outside,I d_reaches] 114)){r}(hM:(m_balance_desk_to d_ways_all d_ways_outside d_reaches s).Ends r)(w)(H:St w w [] R):Ret Tryz.prog 118 #[Pq aa,.agg #[I s.way,B s.back]] w fun v w'=>∃ y0,y0=r/\v=I y0/\St w w' [] R:=by
 refine ret_of_W Tryz.func118 rfl rfl rfl ?_;refine kB 2 ?_;intro aj ak H;refine kI 8 ?_ ?_
 ·intro ae hM;refine kD 1 [0] [] ?_;intro al H;obtain ⟨ao,hM⟩:=M.e_gq hM;refine kg 12 ?_;exact rt
 intro ae hM;refine kD 2 [0] [] ?_;intro ap H;obtain ⟨aq,hM⟩:=M.e_gq hM;refine kg 12 ?_;exact rt

end Go.Proofs.YtlfkkkbhejeplaaGreat
end
section
set_option maxRecDepth 100000
set_option maxHeartbeats 16000000
namespace Go.Proofs.YtlfkkkbhejeplaaGreat
open Go Go.Nm
attribute [local irreducible] gd execOp SL SLD SLT WR
def m_balance_desk_reach_154_b4 (d_ways_all:List BWay) (d_ways_outside d_reaches:Int) (s2:Nat) (aa:List (Int × BFar)):((List (Int × BFar)) × Bool)->BStep->M (((List (Int × BFar)) × Bool) ⊕ Unit):=fun (mp,s5) x =>
  M.bind (m_balance_desk_settle_1 x) fun r2 =>
  bif !r2 then (
  M.pure (.inl (mp,s5)))
  else (
  M.bind (m_balance_desk_room d_ways_all d_ways_outside d_reaches x) fun (r0,r1) =>
  M.gi ((((lookM aa (s2:Int)).getD default).cost)+r0) <|
  M.gi ((((lookM aa (s2:Int)).getD default).many)+1) <|
  M.bind (m_balance_desk_to d_ways_all d_ways_outside d_reaches x) fun r3 =>
  bif (((!((lookM mp (r3:Int)).isSome))||(decide (((((lookM aa (s2:Int)).getD default).cost)+r0)<(((lookM mp (r3:Int)).getD default).cost))))||((((((lookM aa (s2:Int)).getD default).cost)+r0)==(((lookM mp (r3:Int)).getD default).cost))&&(decide (((((lookM aa (s2:Int)).getD default).many)+1)<(((lookM mp (r3:Int)).getD default).many))))) then (
  M.bind (m_balance_desk_to d_ways_all d_ways_outside d_reaches x) fun r4 =>
  M.pure (.inl (setM mp (r4:Int) (⟨((((lookM aa (s2:Int)).getD default).cost)+r0:Int),((((lookM aa (s2:Int)).getD default).many)+1:Int),(x.way:Int),x.back⟩:BFar),true)))
  else (
  M.pure (.inl (mp,s5))))
def m_balance_desk_reach_154_b5 (d_ways_all:List BWay) (d_ways_outside d_reaches:Int):(Nat × (List (Int × BFar)) × Bool)->M ((Nat × (List (Int × BFar)) × Bool) ⊕ ((List (Int × BFar)) × Bool)):=fun (s2,aa,s6) =>
  bif decide ((s2:Int)<(d_ways_outside+2)) then (
  bif !((lookM aa (s2:Int)).isSome) then (
  M.gi ((s2:Int)+1) <|
  M.pure (.inl (s2+1,aa,s6)))
  else (
  M.bind (m_balance_desk_steps d_ways_all d_ways_outside d_reaches (s2:Int)) fun ab =>
  M.bind (m_balance_desk_steps_1 (M.yl (m_balance_desk_reach_154_b4 d_ways_all d_ways_outside d_reaches s2 aa)) (.inl (aa,s6)) d_ways_all d_ways_outside d_reaches ab) fun x_=>match x_ with
  | .inl (mp,s5)=>(
  M.gi ((s2:Int)+1) <|
  M.pure (.inl (s2+1,mp,s5)))
  | .inr _=>M.fail))
  else (
  M.pure (.inr (aa,s6)))
def m_balance_desk_reach_154_b6 (d_ways_all:List BWay) (d_ways_outside d_reaches:Int):((List (Int × BFar)) × Bool)->M (((List (Int × BFar)) × Bool) ⊕ (List (Int × BFar))):=fun (aa,s8) =>
  bif s8 then (
  M.gi (d_ways_outside+2) <|
  M.bind (M.iter (m_balance_desk_reach_154_b5 d_ways_all d_ways_outside d_reaches) (0,aa,false)) fun (ab,s7) =>
  M.pure (.inl (ab,s7)))
  else (
  M.pure (.inr aa))
def m_balance_desk_reach_154 (d_ways_all:List BWay) (d_ways_outside d_reaches aa:Int):M (List (Int × BFar)) :=
  M.bind (M.iter (m_balance_desk_reach_154_b6 d_ways_all d_ways_outside d_reaches) (setM ([]:List (Int × BFar)) (aa:Int) (⟨(0:Int),(0:Int),(0:Int),false⟩:BFar),true)) fun ab =>
  M.pure ab
theorem balance_desk_reach_154_ok {R ab aL aM}(d_ways_all d_ways_outside d_reaches ax)(ay:Reads R aL)(aE:Sl aL aM d_ways_all)(az:Has R (cBlk ab [aM,I d_ways_outside,I d_reaches] 114)){r}(hM:(m_balance_desk_reach_154 d_ways_all d_ways_outside d_reaches ax).Ends r)(w)(H:St w w [] R):Ret Tryz.prog 119 #[Pq ab,I ax,.agg #[.func (.func 154) #[] #[]]] w fun v w'=>∃ y0 aN,y0=r/\v = .map (some aN)/\St w w' [cMl I encFar aN y0] R:=by
 refine ret_of_WD Tryz.func119 rfl rfl rfl ?_;replace H:St w w [cMk ([])] R:=H.mk0;have bu:=aE.len_le;unfold m_balance_desk_reach_154 at hM;refine WD.seq<|WD.of ?_;refine kB 1 ?_;intro ag bv H;refine kbx ?_;intro ah bw H;refine kg 2 ?_;refine WD.seq<|WD.of<|W.region rfl ?_;refine t_mkMl (κ:=Int) (ν:=BFar) I encFar H ?_;intro ac bA H;refine kG 2 ?_;refine t_insMl (i:=0) (kenc:=I) (venc:=encFar) (m:=([]:List (Int × BFar))) (k:=(ax:Int)) (v:=(⟨(0:Int),(0:Int),(0:Int),false⟩:BFar)) (L':=[cMl I encFar ac (setM ([]:List (Int × BFar)) (ax:Int) (⟨(0:Int),(0:Int),(0:Int),false⟩:BFar)),cBlk ah [.func (.func 154) #[] #[]] 227,cBlk ag [Pq ab] 107,cMk ([])]) keyIntFar Tryz.underlying229 H rfl rfl rfl rfl rfl ?_;intro bB H;refine kA 1 ?_;intro ai bC H;refine ksw ?_;intro bD H;refine s_nil<|WD.seq<|WD.of ?_;refine kg 2 ?_;refine s_val (x_mf (fs:=[Pq ab]) (cs:=[]) rfl rfl) ?_;refine kal ?_;intro aj bE H;refine ksw ?_;intro bF H;refine s_nil<|WD.seq<|WD.seq<|WD.of ?_;refine kA 1 ?_;intro bG bH H;refine ksw ?_;intro bI H;refine s_nil<|WD.block ?_;obtain ⟨aT,aO,aU⟩:=M.e_bind hM
 obtain ⟨aV,aO⟩:=M.e_iter aO;refine WD.loop (fun m aP σ W=>∃ (ae:Nat) (aA:List (Int × BFar)) (s8:Bool) (ρ:Env),σ=upds ρ [(3,Pq ag),(5,Pq ah),(7,Pq ai),(8,Pq aj),(9,Pq ae)]/\M.iterN (m_balance_desk_reach_154_b6 d_ways_all d_ways_outside d_reaches) m (aA,s8)=some aT/\St w W [cBlk ae [B s8] 4,cBlk aj [.func (.func 117) #[Pq ab] #[]] 224,cBlk ai [.map (some ac)] 229,cMl I encFar ac aA,cBlk ah [.func (.func 154) #[] #[]] 227,cBlk ag [Pq ab] 107,cMk aP] R) ?_ ?_
 ·exact kY
 rintro bJ aP σ bK ⟨ae,aA,s8,ρ,rfl,aW,H⟩;obtain ⟨bL,bM,bN,hM,aX⟩:=M.e_iterN aW;refine WD.seq<|WD.seq<|WD.of ?_;refine kg 3 ?_
 refine WD.cond s8 rfl (fun aF=>?_) (fun aF=>?_)
 ·replace hM:=M.e_t hM aF;refine WD.of<|W.skip<|WD.seq<|WD.block<|WD.seq<|WD.of ?_;refine kS 1 ?_;intro bO H;refine s_nil<|WD.seq<|WD.of ?_;obtain ⟨bP,hM⟩:=M.e_gq hM;refine kg 9 ?_;refine WD.block ?_;obtain ⟨aY,aQ,aZ⟩:=M.e_bind hM
  obtain ⟨aV,aQ⟩:=M.e_iter aQ;refine WD.loop (fun m ap σ W=>∃ (s2:Nat) (aa:List (Int × BFar)) (s6:Bool) (ρ:Env),σ=upds ρ [(3,Pq ag),(5,Pq ah),(7,Pq ai),(8,Pq aj),(9,Pq ae),(31,I (d_ways_outside+2)),(32,I (s2:Int))]/\M.iterN (m_balance_desk_reach_154_b5 d_ways_all d_ways_outside d_reaches) m (s2,aa,s6)=some aY/\St w W [cBlk ae [B s6] 4,cBlk aj [.func (.func 117) #[Pq ab] #[]] 224,cBlk ai [.map (some ac)] 229,cMl I encFar ac aa,cBlk ah [.func (.func 154) #[] #[]] 227,cBlk ag [Pq ab] 107,cMk ap] R) ?_ ?_
  ·exact kY
  rintro bQ ap σ bR ⟨s2,aa,s6,ρ,rfl,a7,H⟩;obtain ⟨bS,bT,bU,hM,a8⟩:=M.e_iterN a7;refine WD.seq<|WD.of ?_;refine kg 3 ?_;refine WD.seq ?_
  refine WD.cond (decide ((s2:Int)<(d_ways_outside+2))) rfl (fun aq=>?_) (fun aq=>?_)
  ·replace hM:=M.e_t hM aq;replace aq:=dI aq;refine WD.of<|W.skip<|WD.seq<|WD.block<|WD.seq<|WD.of ?_;refine kg 4 ?_;refine WD.seq<|WD.of ?_;refine kg 3 ?_;refine s_val (q_look (kenc:=I) (venc:=encFar) (f:=lookM aa) (k:=(s2:Int)) (v:=.tuple #[.agg #[I (((lookM aa (s2:Int)).getD default).cost),I (((lookM aa (s2:Int)).getD default).many),I (((lookM aa (s2:Int)).getD default).way),B (((lookM aa (s2:Int)).getD default).back)],B ((lookM aa (s2:Int)).isSome)]) keyIntFar Tryz.underlying229 Al232.h rfl rfl (mlMap (H.get (k:=3) rfl)) true (by rw [if_pos rfl,far_val])) ?_;refine kA 3 ?_;intro au bV H;refine ksw ?_;intro bW H;refine kg 2 ?_;refine WD.seq<|WD.seq<|WD.of ?_;refine kg 4 ?_
   refine WD.cond (!((lookM aa (s2:Int)).isSome)) rfl (fun aG=>?_) (fun aG=>?_)
   ·replace hM:=M.e_t hM aG;refine WD.of ?_;refine W.exit<|WD.of ?_;obtain ⟨bX,hM⟩:=M.e_gq hM
    exact kXp 4 [1,2,3,4,5,6,7]
   replace hM:=M.e_f hM aG;refine WD.of<|W.skip<|WD.seq<|WD.of ?_;refine kC 3 @balance_desk_steps_ok ?_;intro bY ak al ao hM H;refine s_nil<|WD.block ?_;obtain ⟨bZ,bc,hM⟩:=M.e_bind hM;refine WD.range (L:=[cBlk ae [B s6] 4,cMl I encFar ac aa,cBlk al [Pq ab] 107,cBlk ao [I ak] 3,cBlk au [I (((lookM aa (s2:Int)).getD default).cost),I (((lookM aa (s2:Int)).getD default).many),I (((lookM aa (s2:Int)).getD default).way),B (((lookM aa (s2:Int)).getD default).back)] 232,cBlk aj [.func (.func 117) #[Pq ab] #[]] 224,cBlk ai [.map (some ac)] 229,cBlk ah [.func (.func 154) #[] #[]] 227,cBlk ag [Pq ab] 107]) [Pq al,Pq ao] (H.pk [9,3,6,0,1,2,4,5,7,8]) rfl cq ?_;intro aB aw aH bf aI H
   have hYC:YieldC Tryz.prog ([cMk (aw :: ap),cBlk al [Pq ab] 107,cBlk ao [I ak] 3,cBlk au [I (((lookM aa (s2:Int)).getD default).cost),I (((lookM aa (s2:Int)).getD default).many),I (((lookM aa (s2:Int)).getD default).way),B (((lookM aa (s2:Int)).getD default).back)] 232,cBlk aj [.func (.func 117) #[Pq ab] #[]] 224,cBlk ai [.map (some ac)] 229,cBlk ah [.func (.func 154) #[] #[]] 227,cBlk ag [Pq ab] 107]++R) arBStep (yJ aB aH (fun (mp,s5) aC=>aC=[cBlk ae [B s5] 4,cMl I encFar ac mp]) (fun (_:Unit) _=>False) (fun _=>.ret)) (.func (.yield aB) #[] #[]) (M.yl (m_balance_desk_reach_154_b4 d_ways_all d_ways_outside d_reaches s2 aa)):=by
    refine YieldC.mk2 aI (fun (mp,s5) aC=>aC=[cBlk ae [B s5] 4,cMl I encFar ac mp]) (fun (_:Unit) _=>False) (fun _=>.ret) (m_balance_desk_reach_154_b4 d_ways_all d_ways_outside d_reaches s2 aa) (by rintro ⟨mp,s5⟩ _ h_; obtain ⟨rfl⟩:=h_; rfl) (fun _ _ h_=>h_.elim) rfl (arBStep_len rfl) ?_;intro C_ b5 x bh;obtain rfl:=bh;intro w R aD aC s_ r bi hM H;obtain ⟨mp,s5⟩:=s_;obtain ⟨rfl⟩:=bi;replace H:=H.nf;refine kA 1 ?_;intro aJ b6 H;refine ksw ?_;intro b7 H;refine s_nil ?_;refine ⟨rfl,[cBlk aJ [I x.way,B x.back] 222],H.pick [0,1,2,3,4,5,6,7,8,9,10] (by decide) rfl,?_⟩;clear H aD;intro w R aD H;replace ay:=ay.sub aD;replace az:=az.sub aD;replace hM:(m_balance_desk_reach_154_b4 d_ways_all d_ways_outside d_reaches s2 aa (mp,s5) x).Ends r:=hM;simp only [m_balance_desk_reach_154_b4] at hM;replace H:=H.nf;refine kg 7 ?_;obtain ⟨b8,bj,hM⟩:=M.e_bind hM;refine s_callv (f:=154) rfl cq [.agg #[I x.way,B x.back]] rfl (balance_desk_settle_1_ok x bj _ (H.gt 11)) ?_;rintro _ b9 ⟨r2,rfl,rfl,av⟩;replace H:=H.bk av;refine kI 2 ?_ ?_
    ·intro bm hM;refine W.exit ?_;exact ⟨(mp,s5),[cBlk ae [B s5] 4,cMl I encFar ac mp],(M.e_pure hM).symm,rfl,H.pick [1,2,3,4,5,6,7,8,9,10] (by decide) rfl⟩
    intro bm hM;refine kg 5 ?_;obtain ⟨cb,bn,hM⟩:=M.e_bind hM;refine s_callm (f:=117) (fs:=[Pq ab]) rfl cq [.agg #[I x.way,B x.back]] rfl (balance_desk_room_ok d_ways_all d_ways_outside d_reaches x (ay.app _) aE (az.app _) bn _ (H.gt 11)) ?_;rintro _ cc ⟨r0,r1,rfl,rfl,av⟩;replace H:=H.bk av;obtain ⟨cd,hM⟩:=M.e_gq hM;obtain ⟨ce,hM⟩:=M.e_gq hM;refine kA 17 ?_;intro aR cf H;refine ksw ?_;intro cg H;refine kDT 2 [0,1,2,3,4,5,6,7,8,9,10,11] (.q 0 (.q 1 (.q 2 (.l2 3 (.q 4 (.q 5 (.q 6 (.q 7 (.l 8 (.l 9 (.q 10 .nil))))))) 8 (.l 3 (.q 4 (.q 5 (.q 6 (.q 7 (.l 9 (.q 10 .nil))))))))))) ?_;intro ch H;refine kg 3 ?_;refine t_l2 rfl rfl ?_ ?_
    ·refine kC 0 @balance_desk_to_ok ?_;intro cj r3 hM H;refine kN ?_;refine t_q rfl (fun w' H=>q_look (kenc:=I) (venc:=encFar) (f:=lookM mp) (k:=(r3:Int)) (v:=.tuple #[.agg #[I (((lookM mp (r3:Int)).getD default).cost),I (((lookM mp (r3:Int)).getD default).many),I (((lookM mp (r3:Int)).getD default).way),B (((lookM mp (r3:Int)).getD default).back)],B ((lookM mp (r3:Int)).isSome)]) keyIntFar Tryz.underlying229 Al232.h rfl rfl (mlMap (H.get (k:=3) rfl)) true (by rw [if_pos rfl,far_val])) ?_;refine kA 4 ?_;intro aK ck H;refine kN ?_;refine kS 1 ?_;intro ct H;refine kN ?_;refine kI 28 ?_ ?_
     ·intro bo hM;refine kDo 0 [0,1,2,5,6,7,8,9,10,11,12] [(0,true),(1,true),(2,true),(4,true),(3,false),(5,false),(6,true),(7,false),(8,false)] ?_;intro cu H;refine kC 5 @balance_desk_to_ok ?_;intro cv r4 hM H;refine kN ?_;refine d_l rfl ?_;refine t_mentL (i:=4) (kenc:=I) (venc:=encFar) (m:=mp) (k:=(r4:Int)) (z:=default) keyIntFar Tryz.underlying229 Al232.h H rfl rfl rfl ?_;intro cw cA H;replace H:=H.nf;refine kN ?_;refine kG 2 ?_;refine t_enstL (i:=4) (kenc:=I) (venc:=encFar) (m0:=mp) (k:=(r4:Int)) (v:=(⟨((((lookM aa (s2:Int)).getD default).cost)+r0:Int),((((lookM aa (s2:Int)).getD default).many)+1:Int),(x.way:Int),x.back⟩:BFar)) (L':=[cBlk aK [I (((lookM mp (r3:Int)).getD default).cost),I (((lookM mp (r3:Int)).getD default).many),I (((lookM mp (r3:Int)).getD default).way),B (((lookM mp (r3:Int)).getD default).back)] 232,cBlk aR [I ((((lookM aa (s2:Int)).getD default).cost)+r0),I ((((lookM aa (s2:Int)).getD default).many)+1),I x.way,B x.back] 232,cBlk aJ [I x.way,B x.back] 222,cBlk ae [B s5] 4,cMl I encFar ac (setM mp (r4:Int) (⟨((((lookM aa (s2:Int)).getD default).cost)+r0:Int),((((lookM aa (s2:Int)).getD default).many)+1:Int),(x.way:Int),x.back⟩:BFar)),cMk (aw :: ap),cBlk al [Pq ab] 107,cBlk ao [I ak] 3,cBlk au [I (((lookM aa (s2:Int)).getD default).cost),I (((lookM aa (s2:Int)).getD default).many),I (((lookM aa (s2:Int)).getD default).way),B (((lookM aa (s2:Int)).getD default).back)] 232,cBlk aj [.func (.func 117) #[Pq ab] #[]] 224,cBlk ai [.map (some ac)] 229,cBlk ah [.func (.func 154) #[] #[]] 227,cBlk ag [Pq ab] 107]) H rfl rfl rfl rfl rfl ?_;intro cB H;refine kN ?_;refine kS 1 ?_;intro cC H;refine kN ?_;refine d_nil ?_;exact ⟨(setM mp (r4:Int) (⟨((((lookM aa (s2:Int)).getD default).cost)+r0:Int),((((lookM aa (s2:Int)).getD default).many)+1:Int),(x.way:Int),x.back⟩:BFar),true),[cBlk ae [B true] 4,cMl I encFar ac (setM mp (r4:Int) (⟨((((lookM aa (s2:Int)).getD default).cost)+r0:Int),((((lookM aa (s2:Int)).getD default).many)+1:Int),(x.way:Int),x.back⟩:BFar))],(M.e_pure hM).symm,rfl,H.pick [3,4,5,6,7,8,9,10,11,12] (by decide) rfl⟩
     intro bo hM;refine W.skip ?_;exact ⟨(mp,s5),[cBlk ae [B s5] 4,cMl I encFar ac mp],(M.e_pure hM).symm,rfl,H.pick [3,4,5,6,7,8,9,10,11,12] (by decide) rfl⟩
    refine kal ?_;intro aK cD H;refine kN ?_;refine kC 1 @balance_desk_to_ok ?_;intro cE r3 hM H;refine kN ?_;refine t_q rfl (fun w' H=>q_look (kenc:=I) (venc:=encFar) (f:=lookM mp) (k:=(r3:Int)) (v:=.tuple #[.agg #[I (((lookM mp (r3:Int)).getD default).cost),I (((lookM mp (r3:Int)).getD default).many),I (((lookM mp (r3:Int)).getD default).way),B (((lookM mp (r3:Int)).getD default).back)],B ((lookM mp (r3:Int)).isSome)]) keyIntFar Tryz.underlying229 Al232.h rfl rfl (mlMap (H.get (k:=3) rfl)) true (by rw [if_pos rfl,far_val])) ?_;refine kS 4 ?_;intro cF H;refine kN ?_;refine kI 28 ?_ ?_
    ·intro bp hM;refine kDo 0 [0,1,2,5,6,7,8,9,10,11,12] [(0,true),(1,true),(2,true),(4,true),(3,false),(5,false),(6,true),(7,false),(8,false)] ?_;intro cG H;refine kC 5 @balance_desk_to_ok ?_;intro cH r4 hM H;refine kN ?_;refine d_l rfl ?_;refine t_mentL (i:=4) (kenc:=I) (venc:=encFar) (m:=mp) (k:=(r4:Int)) (z:=default) keyIntFar Tryz.underlying229 Al232.h H rfl rfl rfl ?_;intro cI cJ H;replace H:=H.nf;refine kN ?_;refine kG 2 ?_;refine t_enstL (i:=4) (kenc:=I) (venc:=encFar) (m0:=mp) (k:=(r4:Int)) (v:=(⟨((((lookM aa (s2:Int)).getD default).cost)+r0:Int),((((lookM aa (s2:Int)).getD default).many)+1:Int),(x.way:Int),x.back⟩:BFar)) (L':=[cBlk aK [I (((lookM mp (r3:Int)).getD default).cost),I (((lookM mp (r3:Int)).getD default).many),I (((lookM mp (r3:Int)).getD default).way),B (((lookM mp (r3:Int)).getD default).back)] 232,cBlk aR [I ((((lookM aa (s2:Int)).getD default).cost)+r0),I ((((lookM aa (s2:Int)).getD default).many)+1),I x.way,B x.back] 232,cBlk aJ [I x.way,B x.back] 222,cBlk ae [B s5] 4,cMl I encFar ac (setM mp (r4:Int) (⟨((((lookM aa (s2:Int)).getD default).cost)+r0:Int),((((lookM aa (s2:Int)).getD default).many)+1:Int),(x.way:Int),x.back⟩:BFar)),cMk (aw :: ap),cBlk al [Pq ab] 107,cBlk ao [I ak] 3,cBlk au [I (((lookM aa (s2:Int)).getD default).cost),I (((lookM aa (s2:Int)).getD default).many),I (((lookM aa (s2:Int)).getD default).way),B (((lookM aa (s2:Int)).getD default).back)] 232,cBlk aj [.func (.func 117) #[Pq ab] #[]] 224,cBlk ai [.map (some ac)] 229,cBlk ah [.func (.func 154) #[] #[]] 227,cBlk ag [Pq ab] 107]) H rfl rfl rfl rfl rfl ?_;intro cK H;refine kN ?_;refine kS 1 ?_;intro cL H;refine kN ?_;refine d_nil ?_;exact ⟨(setM mp (r4:Int) (⟨((((lookM aa (s2:Int)).getD default).cost)+r0:Int),((((lookM aa (s2:Int)).getD default).many)+1:Int),(x.way:Int),x.back⟩:BFar),true),[cBlk ae [B true] 4,cMl I encFar ac (setM mp (r4:Int) (⟨((((lookM aa (s2:Int)).getD default).cost)+r0:Int),((((lookM aa (s2:Int)).getD default).many)+1:Int),(x.way:Int),x.back⟩:BFar))],(M.e_pure hM).symm,rfl,H.pick [3,4,5,6,7,8,9,10,11,12] (by decide) rfl⟩
    intro bp hM;refine W.skip ?_;exact ⟨(mp,s5),[cBlk ae [B s5] 4,cMl I encFar ac mp],(M.e_pure hM).symm,rfl,H.pick [3,4,5,6,7,8,9,10,11,12] (by decide) rfl⟩
   replace H:St w bf (cAll (cObj aB (.loop aH) :: [cBlk ae [B s6] 4,cMl I encFar ac aa]) :: [cMk (aw :: ap),cBlk al [Pq ab] 107,cBlk ao [I ak] 3,cBlk au [I (((lookM aa (s2:Int)).getD default).cost),I (((lookM aa (s2:Int)).getD default).many),I (((lookM aa (s2:Int)).getD default).way),B (((lookM aa (s2:Int)).getD default).back)] 232,cBlk aj [.func (.func 117) #[Pq ab] #[]] 224,cBlk ai [.map (some ac)] 229,cBlk ah [.func (.func 154) #[] #[]] 227,cBlk ag [Pq ab] 107]) R:=St.bundleB (A:=cObj aB (.loop aH) :: [cBlk ae [B s6] 4,cMl I encFar ac aa]) (T:=[cMk (aw :: ap),cBlk al [Pq ab] 107,cBlk ao [I ak] 3,cBlk au [I (((lookM aa (s2:Int)).getD default).cost),I (((lookM aa (s2:Int)).getD default).many),I (((lookM aa (s2:Int)).getD default).way),B (((lookM aa (s2:Int)).getD default).back)] 232,cBlk aj [.func (.func 117) #[Pq ab] #[]] 224,cBlk ai [.map (some ac)] 229,cBlk ah [.func (.func 154) #[] #[]] 227,cBlk ag [Pq ab] 107]) rfl (H.pk [0,2,3,1,4,5,6,7,8,9,10]);refine (balance_desk_steps_1_ok (M.yl (m_balance_desk_reach_154_b4 d_ways_all d_ways_outside d_reaches s2 aa)) (.inl (aa,s6)) d_ways_all d_ways_outside d_reaches ak hYC ⟨_,rfl,rfl⟩ (ay.app _) aE (az.app _) (Has.here (k:=1) rfl) (Has.here (k:=2) rfl) bc _ (H.gt 8)).mono ?_;rintro vq cM ⟨br,cN,rfl,hvq,av,aS⟩;replace H:=H.back av rfl;clear av hYC;rcases br with ⟨mp,s5⟩ | _
   ·obtain ⟨_,rfl,rfl⟩:=aS;refine ⟨_,[cBlk ae [B s5] 4,cMl I encFar ac mp,cBlk al [Pq ab] 107,cBlk ao [I ak] 3,cBlk au [I (((lookM aa (s2:Int)).getD default).cost),I (((lookM aa (s2:Int)).getD default).many),I (((lookM aa (s2:Int)).getD default).way),B (((lookM aa (s2:Int)).getD default).back)] 232,cBlk aj [.func (.func 117) #[Pq ab] #[]] 224,cBlk ai [.map (some ac)] 229,cBlk ah [.func (.func 154) #[] #[]] 227,cBlk ag [Pq ab] 107],H.unbundle.pick [0,3,1,2,4,5,6,7,8,9,10] (by decide) rfl,aI.nb,?_⟩;intro cO H;rw [aI.pd];replace H:=H.nf
    try simp only []
    replace H:=H.pk [0,1,2,6,7,8,9];refine WD.of ?_;obtain ⟨cP,hM⟩:=M.e_gq hM;exact kXp 4 [1,3,4,2,5,6,0]
   obtain ⟨_,_,h_⟩:=aS; exact h_.elim
  replace hM:=M.e_f hM aq;replace aq:=dI aq;refine WD.of ?_;refine W.exit ?_;obtain rfl:=M.e_inr hM a8;replace hM:=aZ;refine WD.seq<|WD.of ?_;refine kg 3 ?_;refine WD.of ?_;refine kA 1 ?_;intro cQ cR H;refine ksw ?_;intro cS H
  exact kXp 1 [0,2,3,4,5,6,7]
 replace hM:=M.e_f hM aF;refine WD.of ?_;refine W.exit ?_;obtain rfl:=M.e_inr hM aX;replace hM:=aU;replace H:=H.pk [2,3,6];refine WD.seq<|WD.of ?_;refine kg 4 ?_;refine WD.of ?_;refine W.ret ?_;refine bodyD_r (H.pk [2,0,1]) ?_;intro cT H;replace H:=H.nf
 have bt:=M.e_pure hM;exact ⟨_,resE_tmp rfl,⟨aA,ac,bt,rfl,(H.pk [1])⟩⟩

def m_balance_desk_moved_1 (s:BStep) (aa:List BWay) (ac ae ab:Int):M (List BWay) :=
  bif s.back then (
  M.grd (decide ((0:Int)<=s.way)&&decide (s.way<(aa.length:Int))) <|
  M.gi (((aa.getD (Int.toNat s.way) default).now)-ab) <|
  M.pure (aa.set (Int.toNat s.way) ({ (aa.getD (Int.toNat s.way) default) with now:=((aa.getD (Int.toNat s.way) default).now)-ab })))
  else (
  M.grd (decide ((0:Int)<=s.way)&&decide (s.way<(aa.length:Int))) <|
  M.gi (((aa.getD (Int.toNat s.way) default).now)+ab) <|
  M.pure (aa.set (Int.toNat s.way) ({ (aa.getD (Int.toNat s.way) default) with now:=((aa.getD (Int.toNat s.way) default).now)+ab })))
theorem balance_desk_moved_1_ok {R aj ae ac ak}(s aa ag ah ab)(ao:Has R (cBlk aj [Pq ae] 107))(ap:Has R (cBlk ak [I ab] 3)){r}(hM:(m_balance_desk_moved_1 s aa ag ah ab).Ends r)(w)(H:St w w [cOwn (α:=BWay) 120 ac aa,cBlk ae [ac,I ag,I ah] 114] R):Ret Tryz.prog 160 #[.agg #[I s.way,B s.back],Pq aj,Pq ak] w fun v w'=>∃ y0 u0,y0=r/\v = .tuple #[]/\St w w' [cOwn (α:=BWay) 120 u0 y0,cBlk ae [u0,I ag,I ah] 114] R:=by
 refine ret_of_W Tryz.func160 rfl rfl rfl ?_;refine kB 2 ?_;intro aq au H;refine kI 6 ?_ ?_
 ·intro al hM;refine kDo 0 [0,2] [(0,true),(1,true),(2,true),(3,true),(4,true),(5,true),(6,true),(10,true),(7,false),(8,false),(9,false),(11,true),(12,false),(13,false),(14,false)] ?_;intro av H;refine kG 9 ?_;obtain ⟨aw,hM⟩:=M.e_gq hM;refine kG 1 ?_;refine kN ?_;refine kG 2 ?_;refine kN ?_;refine kG 2 ?_;refine kN ?_;obtain ⟨ax,hM⟩:=M.e_gq hM;refine kG 3 ?_;refine kN ?_;refine kG 2 ?_;refine kN ?_;refine kO 1 (α:=BWay) ({ (aa.getD (Int.toNat s.way) default) with now:=((aa.getD (Int.toNat s.way) default).now)-ab }) ?_;intro ay H;have az:(aa.set (Int.toNat s.way) ({ (aa.getD (Int.toNat s.way) default) with now:=((aa.getD (Int.toNat s.way) default).now)-ab })).length=(aa).length:=List.length_set;refine kN ?_;refine d_nil ?_;have ai:=M.e_pure hM;exact ⟨_,resE_tmp0 rfl,⟨(aa.set (Int.toNat s.way) ({ (aa.getD (Int.toNat s.way) default) with now:=((aa.getD (Int.toNat s.way) default).now)-ab })),ac,ai,rfl,(H.pk [1,2])⟩⟩
 intro al hM;refine kDo 0 [0,2] [(0,true),(1,true),(2,true),(3,true),(4,true),(5,true),(6,true),(10,true),(7,false),(8,false),(9,false),(11,true),(12,false),(13,false),(14,false)] ?_;intro aA H;refine kG 9 ?_;obtain ⟨aB,hM⟩:=M.e_gq hM;refine kG 1 ?_;refine kN ?_;refine kG 2 ?_;refine kN ?_;refine kG 2 ?_;refine kN ?_;obtain ⟨aC,hM⟩:=M.e_gq hM;refine kG 3 ?_;refine kN ?_;refine kG 2 ?_;refine kN ?_;refine kO 1 (α:=BWay) ({ (aa.getD (Int.toNat s.way) default) with now:=((aa.getD (Int.toNat s.way) default).now)+ab }) ?_;intro aD H;have aE:(aa.set (Int.toNat s.way) ({ (aa.getD (Int.toNat s.way) default) with now:=((aa.getD (Int.toNat s.way) default).now)+ab })).length=(aa).length:=List.length_set;refine kN ?_;refine d_nil ?_;have ai:=M.e_pure hM;exact ⟨_,resE_tmp0 rfl,⟨(aa.set (Int.toNat s.way) ({ (aa.getD (Int.toNat s.way) default) with now:=((aa.getD (Int.toNat s.way) default).now)+ab })),ac,ai,rfl,(H.pk [1,2])⟩⟩

def m_balance_desk_moved_b0 (d_ways_all:List BWay) (d_ways_outside d_reaches aa:Int) (l:List (Int × BFar)):(Int × (List BStep))->M ((Int × (List BStep)) ⊕ ((List BStep) × (List BStep))):=fun (s,l2) =>
  bif s != aa then (
  M.grd (decide ((l2.length+([(⟨(((lookM l (s:Int)).getD default).way:Int),(((lookM l (s:Int)).getD default).back)⟩:BStep)]).length)*16<=140737488355328)) <|
  M.bind (m_balance_desk_to d_ways_all d_ways_outside d_reaches (⟨(((lookM l (s:Int)).getD default).way:Int),(!(((lookM l (s:Int)).getD default).back))⟩:BStep)) fun r2 =>
  M.pure (.inl (r2,l2++([(⟨(((lookM l (s:Int)).getD default).way:Int),(((lookM l (s:Int)).getD default).back)⟩:BStep)]))))
  else (
  M.pure (.inr (l2,l2)))
def m_balance_desk_moved_b1 (d_ways_all:List BWay) (d_ways_outside d_reaches:Int) (l4:List BStep):(Int × Nat)->M ((Int × Nat) ⊕ Int):=fun (s2,s3) =>
  bif decide ((s3:Int)<(l4.length:Int)) then (
  M.grd (decide ((s3:Int)<(l4.length:Int))) <|
  M.bind (m_balance_desk_room d_ways_all d_ways_outside d_reaches (l4.getD s3 default)) fun (r0,r1) =>
  M.pure (.inl (min s2 r1,s3+1)))
  else (
  M.pure (.inr s2))
def m_balance_desk_moved_b2 (d_ways_outside d_reaches:Int) (l4:List BStep) (s4:Int):((List BWay) × Nat)->M (((List BWay) × Nat) ⊕ ((List BWay) × (List BWay))):=fun (l5,s5) =>
  bif decide ((s5:Int)<(l4.length:Int)) then (
  M.grd (decide ((s5:Int)<(l4.length:Int))) <|
  M.bind (m_balance_desk_moved_1 (l4.getD s5 default) l5 d_ways_outside d_reaches s4) fun l_k020 =>
  M.pure (.inl (l_k020,s5+1)))
  else (
  M.pure (.inr (l5,l5)))
def m_balance_desk_moved (d_ways_all:List BWay) (d_ways_outside d_reaches aa to_:Int) (l:List (Int × BFar)) (most:Int):M (Int × (List BWay)) :=
  M.bind (M.iter (m_balance_desk_moved_b0 d_ways_all d_ways_outside d_reaches aa l) (to_,[])) fun (l3,l4) =>
  M.bind (M.iter (m_balance_desk_moved_b1 d_ways_all d_ways_outside d_reaches l4) (most,0)) fun s4 =>
  M.bind (M.iter (m_balance_desk_moved_b2 d_ways_outside d_reaches l4 s4) (d_ways_all,0)) fun (l6,l7) =>
  M.pure (s4,l7)
theorem balance_desk_moved_ok {R aa ag ai}(d_ways_all d_ways_outside d_reaches ah to_ l most)(aq:Has R (cMl I encFar ai l)){r}(hM:(m_balance_desk_moved d_ways_all d_ways_outside d_reaches ah to_ l most).Ends r)(w)(H:St w w [cOwn (α:=BWay) 120 ag d_ways_all,cBlk aa [ag,I d_ways_outside,I d_reaches] 114] R):Ret Tryz.prog 120 #[Pq aa,I ah,I to_,.map (some ai),I most] w fun v w'=>∃ y0 y1 u0,(y0,y1)=r/\v=I y0/\St w w' [cOwn (α:=BWay) 120 u0 y1,cBlk aa [u0,I d_ways_outside,I d_reaches] 114] R:=by
 refine ret_of_W Tryz.func120 rfl rfl rfl ?_;refine kB 2 ?_;intro ae aL H;refine kbx ?_;intro ab aM H;refine kg 13 ?_;replace H:=H.nilOwn (α:=BStep) 222;obtain ⟨au,ak,av⟩:=M.e_bind hM;obtain ⟨al,ak⟩:=M.e_iter ak;refine W.loop (fun m σ W=>∃ (s:Int) (l2:List BStep) (ac:Value) (ρ:Env),σ=upds ρ [(1,I ah),(3,.map (some ai)),(5,Pq ae),(9,Pq ab),(11,ac),(12,I s)]/\M.iterN (m_balance_desk_moved_b0 d_ways_all d_ways_outside d_reaches ah l) m (s,l2)=some au/\St w W [cOwn (α:=BStep) 222 ac l2,cBlk ab [I most] 3,cBlk ae [Pq aa] 107,cOwn (α:=BWay) 120 ag d_ways_all,cBlk aa [ag,I d_ways_outside,I d_reaches] 114] R) ?_ ?_
 ·exact kY
 rintro aN σ aO ⟨s,l2,ac,ρ,rfl,aw,H⟩;obtain ⟨aP,aQ,aR,hM,ax⟩:=M.e_iterN aw;refine kI 7 ?_ ?_
 ·intro ay hM;refine kg 6 ?_;refine s_val (q_look (kenc:=I) (venc:=encFar) (f:=lookM l) (k:=(s:Int)) (v:=.agg #[I (((lookM l (s:Int)).getD default).cost),I (((lookM l (s:Int)).getD default).many),I (((lookM l (s:Int)).getD default).way),B (((lookM l (s:Int)).getD default).back)]) keyIntFar Tryz.underlying229 Al232.h rfl rfl (mlMap (aq.at H)) false (by rw [if_neg (by decide),far_val]))<|s_val (x_fdA (cs:=[I (((lookM l (s:Int)).getD default).cost),I (((lookM l (s:Int)).getD default).many),I (((lookM l (s:Int)).getD default).way),B (((lookM l (s:Int)).getD default).back)]) (ds:=[I (((lookM l (s:Int)).getD default).way),B (((lookM l (s:Int)).getD default).back)]) Fd232_2.h Ag222.h Sz222.h rfl rfl) ?_;refine kal ?_;intro aS aT H;refine ksw ?_;intro aU H;refine kL 5 (α:=BStep) [⟨((lookM l (s:Int)).getD default).way,(((lookM l (s:Int)).getD default).back)⟩] ?_;intro aV aW H;obtain ⟨aX,hM⟩:=M.e_gq hM;refine kP 0 ?_;intro aY aZ H;refine kS 8 ?_;intro a7 H;refine kC 4 @balance_desk_to_ok ?_;intro a8 r2 hM H
  exact kXp 2 [2,3,4,5,6]
 intro ay hM;refine W.exit ?_;obtain rfl:=M.e_inr hM ax;replace hM:=av;have bc:=((H.os 0)).len_le;refine kg 8 ?_;obtain ⟨az,ao,aA⟩:=M.e_bind hM;obtain ⟨al,ao⟩:=M.e_iter ao;refine W.loop (fun m σ W=>∃ (s2:Int) (s3:Nat) (ρ:Env),σ=upds ρ [(5,Pq ae),(9,Pq ab),(11,ac),(40,ac),(41,I (l2.length:Int)),(42,I (s3:Int))]/\M.iterN (m_balance_desk_moved_b1 d_ways_all d_ways_outside d_reaches l2) m (s2,s3)=some az/\St w W [cOwn (α:=BStep) 222 ac l2,cBlk ab [I s2] 3,cBlk ae [Pq aa] 107,cOwn (α:=BWay) 120 ag d_ways_all,cBlk aa [ag,I d_ways_outside,I d_reaches] 114] R) ?_ ?_
 ·exact kY
 rintro bf σ bh ⟨s2,s3,ρ,rfl,aB,H⟩;obtain ⟨bi,bj,bm,hM,aC⟩:=M.e_iterN aB;refine kI 5 ?_ ?_
 ·intro aD hM;obtain ⟨bn,hM⟩:=M.e_gq hM;refine kA 7 ?_;intro bo bp H;refine ksw ?_;intro br H;refine kC 5 @balance_desk_room_ok ?_;intro bt r0 r1 hM H;refine kS 10 ?_;intro bu H;exact kXp 5 [1,2,3,4,5]
 intro aD hM;refine W.exit ?_;obtain rfl:=M.e_inr hM aC;replace hM:=aA;refine kg 2 ?_;refine s_val (x_mf (fs:=[]) (cs:=[Pq ae,Pq ab]) rfl rfl) ?_;have bv:=((H.os 0)).len_le;refine kg 10 ?_;obtain ⟨aE,ap,aF⟩:=M.e_bind hM;obtain ⟨al,ap⟩:=M.e_iter ap;refine W.loop (fun m σ W=>∃ (l5:List BWay) (s5:Nat) (aj:Value) (ρ:Env),σ=upds ρ [(9,Pq ab),(18,.func (.func 160) #[] #[Pq ae,Pq ab]),(57,ac),(58,I (l2.length:Int)),(59,I (s5:Int))]/\M.iterN (m_balance_desk_moved_b2 d_ways_outside d_reaches l2 s2) m (l5,s5)=some aE/\St w W [cOwn (α:=BStep) 222 ac l2,cBlk ab [I s2] 3,cBlk ae [Pq aa] 107,cOwn (α:=BWay) 120 aj l5,cBlk aa [aj,I d_ways_outside,I d_reaches] 114] R) ?_ ?_
 ·exact kY
 rintro bw σ bA ⟨l5,s5,aj,ρ,rfl,aG,H⟩;obtain ⟨bB,bC,bD,hM,aH⟩:=M.e_iterN aG;refine kI 5 ?_ ?_
 ·intro aI hM;obtain ⟨bE,hM⟩:=M.e_gq hM;refine kA 7 ?_;intro bF bG H;refine ksw ?_;intro bH H;refine kg 4 ?_;obtain ⟨bI,aJ,hM⟩:=M.e_bind hM;refine s_callv (f:=160) rfl cq [.agg #[I ((l2.getD s5 default).way),B ((l2.getD s5 default).back)]] rfl (balance_desk_moved_1_ok (l2.getD s5 default) l5 d_ways_outside d_reaches s2 (Has.here (k:=3) rfl) (Has.here (k:=2) rfl) aJ _ ((H.pk [4,5,0,1,2,3]).gt 4)) ?_;rintro _ bJ ⟨l_k020,bK,rfl,rfl,aK⟩;replace H:=H.pk [4,5,0,1,2,3] |>.bk aK
  exact kXp 5 [3,4,5,0,1]
 intro aI hM;refine W.exit ?_;obtain rfl:=M.e_inr hM aH;replace hM:=aF;replace H:=H.pk [1,3,4];exact kR 5 [1,2]

def m_balance_desk_settle_b1 (aa:List Int) (r2:Int) (r3:List (Int × BFar)):(Nat × Int × Int × Int × Int × Bool)->M ((Nat × Int × Int × Int × Int × Bool) ⊕ (Int × Int × Int × Int × Bool)):=fun (s,s2,s3,s4,s5,s6) =>
  bif decide ((s:Int)<10) then (
  M.grd (decide ((0:Int)<=(s:Int))&&decide ((s:Int)<(10:Int))) <|
  bif ((decide (0<=(aa.getD s 0)))||(!((lookM r3 (s:Int)).isSome))) then (
  M.pure (.inl (s+1,s2,s3,s4,s5,s6)))
  else (
  bif (((s2==r2)||(decide ((((lookM r3 (s:Int)).getD default).cost)<s3)))||(((((lookM r3 (s:Int)).getD default).cost)==s3)&&(decide ((((lookM r3 (s:Int)).getD default).many)<s4)))) then (
  M.pure (.inl (s+1,(s:Int),((lookM r3 (s:Int)).getD default).cost,((lookM r3 (s:Int)).getD default).many,((lookM r3 (s:Int)).getD default).way,((lookM r3 (s:Int)).getD default).back)))
  else (
  M.pure (.inl (s+1,s2,s3,s4,s5,s6)))))
  else (
  M.pure (.inr (s2,s3,s4,s5,s6)))
def m_balance_desk_settle_b2 (d_ways_outside d_reaches:Int):((List BWay) × (List Int))->M (((List BWay) × (List Int)) ⊕ ((List BWay) × (List BWay))):=fun (l,aa) =>
  bif !(decide (aa=(List.replicate 10 0))) then (
  M.bind (zap aa (fun ab=>m_balance_desk_settle_2 ab)) fun r2 =>
  M.bind (m_balance_desk_reach_154 l d_ways_outside d_reaches r2) fun r3 =>
  M.bind (M.iter (m_balance_desk_settle_b1 aa r2 r3) (0,r2,0,0,0,false)) fun (s7,s8,s9,ae,ag) =>
  M.grd (decide ((0:Int)<=r2)&&decide (r2<(10:Int))) <|
  M.grd (decide ((0:Int)<=s7)&&decide (s7<(10:Int))) <|
  M.grd (decide (-9223372036854775807<=(aa.getD (Int.toNat s7) 0))&&decide ((aa.getD (Int.toNat s7) 0)<=9223372036854775807)) <|
  M.bind (m_balance_desk_moved l d_ways_outside d_reaches r2 s7 r3 (min (aa.getD (Int.toNat r2) 0) (-(aa.getD (Int.toNat s7) 0)))) fun (r4,l_d_ways_all) =>
  M.bind (m_balance_desk_over l_d_ways_all d_ways_outside d_reaches) fun ac =>
  M.pure (.inl (l_d_ways_all,ac)))
  else (
  M.pure (.inr (l,l)))
def m_balance_desk_settle (d_ways_all:List BWay) (d_ways_outside d_reaches:Int):M (List BWay) :=
  M.bind (m_balance_desk_over d_ways_all d_ways_outside d_reaches) fun r0 =>
  M.bind (M.iter (m_balance_desk_settle_b2 d_ways_outside d_reaches) (d_ways_all,r0)) fun (l2,l3) =>
  M.pure l3
theorem balance_desk_settle_ok {R ae ai}(d_ways_all d_ways_outside d_reaches){r}(hM:(m_balance_desk_settle d_ways_all d_ways_outside d_reaches).Ends r)(w)(H:St w w [cOwn (α:=BWay) 120 ai d_ways_all,cBlk ae [ai,I d_ways_outside,I d_reaches] 114] R):Ret Tryz.prog 113 #[Pq ae] w fun v w'=>∃ y0 u0,y0=r/\v = .tuple #[]/\St w w' [cOwn (α:=BWay) 120 u0 y0,cBlk ae [u0,I d_ways_outside,I d_reaches] 114] R:=by
 refine ret_of_W Tryz.func113 rfl rfl rfl ?_;refine kA 3 ?_;intro ah bc H;refine ksw ?_;intro bf H;refine kC 4 @balance_desk_over_ok ?_;intro bh r0 ap hM H;refine t_alloc (cs:=(List.flatten [[],encF (α:=Int) (List.replicate 10 0)])) H Al254.h (by kernel_rfl) ?_;intro ay bi H;refine t_swI 0 H rfl rfl Sz254.h List.length_replicate ap ?_;intro bj H;refine kg 2 ?_;obtain ⟨az,aj,aA⟩:=M.e_bind hM;obtain ⟨aB,aj⟩:=M.e_iter aj;refine W.loop (fun m σ W=>∃ (ab:Nat) (l:List BWay) (aa:List Int) (ag:Value) (ρ:Env),σ=upds ρ [(0,Pq ae),(2,Pq ah),(3,Pq ab)]/\M.iterN (m_balance_desk_settle_b2 d_ways_outside d_reaches) m (l,aa)=some az/\St w W [cBlk ab (List.flatten [[],encF (α:=Int) aa]) 254,cBlk ah [.func (.func 154) #[] #[]] 227,cOwn (α:=BWay) 120 ag l,cBlk ae [ag,I d_ways_outside,I d_reaches] 114] R/\aa.length=10) ?_ ?_
 ·exact ⟨_,ay,d_ways_all,r0,ai,_,jQ,aj,H,ap⟩
 rintro bm σ bn ⟨ab,l,aa,ag,ρ,rfl,aC,H,ac⟩;obtain ⟨aD,aE,bo,hM,aq⟩:=M.e_iterN aC;refine kg 3 ?_;refine s_val (x_ld (v:=.agg (List.flatten [[],encF (α:=Int) aa]).toArray) rfl (ldb_seg (l:=aa) (pre:=[]) (post:=[]) (by simp) Ag254.h Sz254.h (H.bl 0) (by simp) rfl ac))<|s_val (x_bldA (e:=3) (n:=10) (s:=1) (ps:=[]) (zs:=(List.flatten [[],encF (α:=Int) (List.replicate 10 0)])) (L':=(List.flatten [[],encF (α:=Int) (List.replicate 10 0)])) rfl Tryz.underlying254 Al254.h (by kernel_rfl) Sz3.h rfl .nil)<|s_val (x_neS (eqArr (d:=9998) (by simp) (by simp) Tryz.underlying254 Tryz.underlying3 Sz3.h ac (List.length_replicate (n:=10) (a:=(0:Int))) _) gdA254 rfl rfl) ?_;refine kI 1 ?_ ?_
 ·intro aF hM;refine kg 3 ?_;refine W.scope ?_;refine kg 2 ?_;have aG:Sl (blkC ab (List.flatten [[],encF (α:=Int) aa])) (.slice (some ⟨ab,0,none⟩) 10 10) aa:=segSlA (α:=Int) (pre:=[]) (post:=[]) (by simp) rfl ac (by omega);refine s_val (x_sl (v:=Pq ab) (u:=(.slice (some ⟨ab,0,none⟩) 10 10)) (lo':=none) (hi':=none) (mx':=none) rfl rfl rfl rfl (run_sliceN Tryz.underlying254 Sz3.h)) ?_;obtain ⟨bp,aH,hM⟩:=M.e_bind hM;refine s_call cq [(.slice (some ⟨ab,0,none⟩) 10 10),.func (.func 156) #[] #[]] rfl (zcD aa (fun ak=>m_balance_desk_settle_2 ak) (Reads.of (k:=0) rfl blkLe) aG ⟨156,[],rfl,cq,fun au br bt aI ak bu aJ bv aK aL=>by obtain rfl:=Arg.int aK; exact (balance_desk_settle_2_ok ak aL au (St.refl aJ)).mono fun aI au ⟨bw,aM,aN,aO⟩=>by subst aM; exact ⟨aN,aO⟩⟩ aH _ (H.gt 4)) ?_;rintro _ bA ⟨r2,rfl,rfl,al⟩;replace H:=H.bk al;refine kC 7 @balance_desk_reach_154_ok ?_;intro bB r3 ao hM H;refine kA 6 ?_;intro av bC H;refine kS 1 ?_;intro bD H;refine kg 2 ?_;refine W.label ?_;refine kg 3 ?_;refine s_val (x_ld (v:=.agg (List.flatten [[],encF (α:=Int) aa]).toArray) rfl (ldb_seg (l:=aa) (pre:=[]) (post:=[]) (by simp) Ag254.h Sz254.h (H.bl 2) (by simp) rfl ac)) ?_;refine kg 3 ?_;obtain ⟨aP,aw,aQ⟩:=M.e_bind hM;obtain ⟨aB,aw⟩:=M.e_iter aw;refine W.loop (fun m σ W=>∃ (s:Nat) (s2:Int) (s3:Int) (s4:Int) (s5:Int) (s6:Bool) (ρ:Env),σ=upds ρ [(0,Pq ae),(2,Pq ah),(3,Pq ab),(4,I r2),(5,.map (some ao)),(6,I s2),(7,Pq av),(28,.agg (List.flatten [[],encF (α:=Int) aa]).toArray),(29,I (s:Int))]/\M.iterN (m_balance_desk_settle_b1 aa r2 r3) m (s,s2,s3,s4,s5,s6)=some aP/\St w W [cBlk av [I s3,I s4,I s5,B s6] 232,cMl I encFar ao r3,cBlk ab (List.flatten [[],encF (α:=Int) aa]) 254,cBlk ah [.func (.func 154) #[] #[]] 227,cOwn (α:=BWay) 120 ag l,cBlk ae [ag,I d_ways_outside,I d_reaches] 114] R) ?_ ?_
  ·exact kY
  rintro bE σ bF ⟨s,s2,s3,s4,s5,s6,ρ,rfl,aR,H⟩;obtain ⟨bG,bH,bI,hM,aS⟩:=M.e_iterN aR;refine kI 5 ?_ ?_
  ·intro aT hM;obtain ⟨bJ,hM⟩:=M.e_gq hM;refine kg 6 ?_;refine s_val (x_idxA (l:=aa) (i:=(s:Int)) (by simp) Tryz.underlying254 Sc3.h Sz3.h rfl rfl ac (by omega)) ?_;refine kg 7 ?_;refine s_val (q_look (kenc:=I) (venc:=encFar) (f:=lookM r3) (k:=(s:Int)) (v:=.tuple #[.agg #[I (((lookM r3 (s:Int)).getD default).cost),I (((lookM r3 (s:Int)).getD default).many),I (((lookM r3 (s:Int)).getD default).way),B (((lookM r3 (s:Int)).getD default).back)],B ((lookM r3 (s:Int)).isSome)]) keyIntFar Tryz.underlying229 Al232.h rfl rfl (mlMap (H.get (k:=1) rfl)) true (by rw [if_pos rfl,far_val])) ?_;refine kA 3 ?_;intro bK bL H;refine ksw ?_;intro bM H;refine kI 12 ?_ ?_
   ·intro aU hM;refine W.exit ?_;exact kXp 4 [1,2,3,4,5,6]
   intro aU hM;refine kI 28 ?_ ?_
   ·intro aV hM;refine kD 0 [0,2,3,4,5,6] [3] ?_;intro bN H;refine kS 4 ?_;intro bO H;refine kN ?_;exact kXp 5 [1,2,3,4,5,6]
   intro aV hM;exact kXp 5 [1,2,3,4,5,6]
  intro aT hM;refine W.exit ?_;obtain rfl:=M.e_inr hM aS;replace hM:=aQ;refine kD 0 [0,1,2,3] [12] ?_;intro bP H;obtain ⟨bQ,hM⟩:=M.e_gq hM;refine kg 5 ?_;refine d_q rfl (fun w' H=>x_ix (v:=.pointer (some ⟨ab,0+Int.toNat r2*1,none⟩)) rfl rfl (run_indexS Tryz.underlying254 Sz3.h (by omega) (by omega)))<|d_q rfl (fun w' H=>x_ld (v:=I (aa.getD (Int.toNat r2) 0)) rfl (ldS (α:=Int) (k:=1) (off:=0) (i:=(Int.toNat r2)) (f:=0) (sz:=1) 0 Sc3.h (H.bl 2) rfl (sgo1 rfl) rfl (by decide) (by have aW:=ac; omega) (by omega) rfl)) ?_;obtain ⟨bR,hM⟩:=M.e_gq hM;refine kg 1 ?_;refine d_q rfl (fun w' H=>x_ix (v:=.pointer (some ⟨ab,0+Int.toNat s2*1,none⟩)) rfl rfl (run_indexS Tryz.underlying254 Sz3.h (by omega) (by omega)))<|d_q rfl (fun w' H=>x_ld (v:=I (aa.getD (Int.toNat s2) 0)) rfl (ldS (α:=Int) (k:=1) (off:=0) (i:=(Int.toNat s2)) (f:=0) (sz:=1) 0 Sc3.h (H.bl 2) rfl (sgo1 rfl) rfl (by decide) (by have aW:=ac; omega) (by omega) rfl)) ?_;obtain ⟨bS,hM⟩:=M.e_gq hM;refine d_q rfl (fun w' H=>x_neg (a:=aa.getD (Int.toNat s2) 0) rfl (by omega)) ?_;refine kG 2 ?_;obtain ⟨bT,aX,hM⟩:=M.e_bind hM;refine s_call cq [Pq ae,I r2,I s2,.map (some ao),I (min (aa.getD (Int.toNat r2) 0) (-(aa.getD (Int.toNat s2) 0)))] rfl (balance_desk_moved_ok l d_ways_outside d_reaches r2 s2 r3 (min (aa.getD (Int.toNat r2) 0) (-(aa.getD (Int.toNat s2) 0))) (Has.here (k:=1) rfl) aX _ ((H.pk [4,5,0,1,2,3]).gt 4)) ?_
  rintro _ bU ⟨r4,l_d_ways_all,aY,rfl,rfl,al⟩;replace H:=H.pk [4,5,0,1,2,3] |>.bk al
  refine kN ?_;refine d_nil ?_;replace H:=H.pk [0,1,4,5];refine kg 3 ?_;refine s_val (x_ld (v:=.agg (List.flatten [[],encF (α:=Int) aa]).toArray) rfl (ldb_seg (l:=aa) (pre:=[]) (post:=[]) (by simp) Ag254.h Sz254.h (H.bl 2) (by simp) rfl ac)) ?_;refine kg 2 ?_;refine t_alloc (cs:=(List.flatten [[],encF (α:=Int) (List.replicate 10 0)])) H Al254.h (by kernel_rfl) ?_;intro aZ bV H;refine t_swI 0 H rfl rfl Sz254.h List.length_replicate ac ?_;intro bW H;refine kC 3 @balance_desk_over_ok ?_;intro bX a7 ax hM H;refine t_swI 0 H rfl rfl Sz254.h ac ax ?_;intro bY H;refine s_nil ?_;exact ⟨aD,aE,aZ,l_d_ways_all,a7,aY,_,jQ,M.e_inl hM aq,(H.pk [0,4,1,2]),ax⟩
 intro aF hM;refine W.exit ?_;obtain rfl:=M.e_inr hM aq;replace hM:=aA;have a8:=M.e_pure hM;exact ⟨_,resE_tmp0 rfl,⟨l,ag,a8,rfl,(H.pk [2,3])⟩⟩

end Go.Proofs.YtlfkkkbhejeplaaGreat
end
section
set_option maxRecDepth 100000
set_option maxHeartbeats 16000000
namespace Go.Proofs.YtlfkkkbhejeplaaGreat
open Go Go.Nm
attribute [local irreducible] gd execOp SL SLD SLT WR
def m_balance_desk_truth_b0 (d_ways_all:List BWay):(Nat × (List Int))->M ((Nat × (List Int)) ⊕ ((List Int) × (List Int))):=fun (s,l) =>
  bif decide ((s:Int)<(d_ways_all.length:Int)) then (
  M.grd (decide ((s:Int)<(d_ways_all.length:Int))) <|
  M.grd (decide ((l.length+([((d_ways_all.getD s default).now:Int)]).length)*8<=140737488355328)) <|
  M.pure (.inl (s+1,l++([((d_ways_all.getD s default).now:Int)]))))
  else (
  M.pure (.inr (l,l)))
def m_balance_desk_truth_j1 (d_ways_outside d_reaches:Int) (l3:List Int):M ((List Int) × (List Int)) :=
  M.grd (decide ((0:Int)<=d_reaches)&&decide (d_reaches<=(l3.length:Int))) <|
  M.pure ((l3.take (List.replicate (Int.toNat d_reaches) (0:Int)).length++(List.replicate (Int.toNat d_reaches) (0:Int)).drop l3.length),((l3.drop (Int.toNat d_reaches)).take (List.replicate (Int.toNat d_ways_outside) (0:Int)).length++(List.replicate (Int.toNat d_ways_outside) (0:Int)).drop (l3.drop (Int.toNat d_reaches)).length))
def m_balance_desk_truth (d_ways_all:List BWay) (d_ways_outside d_reaches:Int):M ((List Int) × (List Int)) :=
  M.bind (M.iter (m_balance_desk_truth_b0 d_ways_all) (0,[])) fun (l2,l3) =>
  M.grd (decide ((0:Int)<=d_reaches)&&decide ((8:Int)*d_reaches<=281474976710656)&&decide (d_reaches<=(9223372036854775807:Int))) <|
  M.grd (decide ((0:Int)<=d_ways_outside)&&decide ((8:Int)*d_ways_outside<=281474976710656)&&decide (d_ways_outside<=(9223372036854775807:Int))) <|
  m_balance_desk_truth_j1 d_ways_outside d_reaches l3
theorem balance_desk_truth_ok {R aj az ax}(d_ways_all d_ways_outside d_reaches)(aT:Reads R az)(aE:Sl az ax d_ways_all)(aU:Has R (cBlk aj [ax,I d_ways_outside,I d_reaches] 114)){r}(hM:(m_balance_desk_truth d_ways_all d_ways_outside d_reaches).Ends r)(w)(H:St w w [] R):Ret Tryz.prog 115 #[Pq aj] w fun v w'=>∃ y0 y1 u0 u1,(y0,y1)=r/\v = .agg #[u0,u1]/\St w w' [cOwn (α:=Int) 3 u0 y0,cOwn (α:=Int) 3 u1 y1] R:=by
 refine ret_of_W Tryz.func115 rfl rfl rfl ?_;refine kA 2 ?_;intro ai aV H;have aW:=(aE).len_le;refine kg 17 ?_;replace H:=H.nilOwn (α:=Int) 3;obtain ⟨aF,aA,aG⟩:=M.e_bind hM;obtain ⟨aX,aA⟩:=M.e_iter aA;refine W.loop (fun m σ W=>∃ (s:Nat) (l:List Int) (ab:Value) (ρ:Env),σ=upds ρ [(0,Pq aj),(2,Pq ai),(3,ab),(11,ax),(12,I (d_ways_all.length:Int)),(13,I (s:Int))]/\M.iterN (m_balance_desk_truth_b0 d_ways_all) m (s,l)=some aF/\St w W [cOwn (α:=Int) 3 ab l,cBlk ai [.slice none 0 0,.slice none 0 0] 219] R) ?_ ?_
 ·exact kY
 rintro aY σ aZ ⟨s,l,ab,ρ,rfl,aH,H⟩;obtain ⟨a7,a8,bc,hM,aI⟩:=M.e_iterN aH;refine kI 5 ?_ ?_
 ·intro aJ hM;obtain ⟨bf,hM⟩:=M.e_gq hM;refine kA 7 ?_;intro bh bi H;refine ksw ?_;intro bj H;refine kL 5 (α:=Int) [(d_ways_all.getD s default).now] ?_;intro bm bn H;obtain ⟨bo,hM⟩:=M.e_gq hM;refine kP 0 ?_;intro bp br H;refine kg 2 ?_;replace H:=H.pk [2,3];exact kX 4
 intro aJ hM;refine W.exit ?_;obtain rfl:=M.e_inr hM aI;replace hM:=aG;refine W.seqJ (fun σ W=>∃ (aa:Nat) (ag:Value) (ah:Value) (ρ:Env),σ=upds ρ [(0,Pq aj),(2,Pq ai),(3,ab),(6,Pq aa)]/\(m_balance_desk_truth_j1 d_ways_outside d_reaches l).Ends r/\St w W [cBlk aa [ag,ah] 219,cOwn (α:=Int) 3 ah (List.replicate (Int.toNat d_ways_outside) (0:Int)),cOwn (α:=Int) 3 ag (List.replicate (Int.toNat d_reaches) (0:Int)),cOwn (α:=Int) 3 ab l,cBlk ai [.slice none 0 0,.slice none 0 0] 219] R) ?_ ?_
 ·refine kDT 0 [0,1] (.q 0 (.q 1 (.q 2 (.q 3 (.q 5 (.q 6 (.q 7 (.q 8 (.q 9 (.l3 4 (.l2 10 (.q 11 (.l 12 (.l 13 .nil))) 12 (.l 10 (.q 11 (.l 13 .nil)))) 10 (.l2 4 (.q 11 (.l 12 (.l 13 .nil))) 12 (.l 4 (.q 11 (.l 13 .nil)))) 12 (.l2 4 (.l 10 (.q 11 (.l 13 .nil))) 10 (.l 4 (.q 11 (.l 13 .nil)))))))))))))) ?_;intro bt H;obtain ⟨bu,hM⟩:=M.e_gq hM;obtain ⟨bv,hM⟩:=M.e_gq hM;refine kg 9 ?_;refine t_l3 rfl rfl rfl ?_ ?_ ?_
  ·refine t_mk (α:=Int) T26.h (0:Int) rfl (n:=d_reaches) H rfl rfl (by omega) (by omega) (by omega) ?_;intro ac bw H;replace H:=H.nf;have aB:=Sl.cells (H.os 0);refine kN ?_;refine t_l2 rfl rfl ?_ ?_
   ·refine t_mk (α:=Int) T26.h (0:Int) rfl (n:=d_ways_outside) H rfl rfl (by omega) (by omega) (by omega) ?_;intro ak bA H;replace H:=H.nf;have aK:=Sl.cells (H.os 0);refine kN ?_;refine t_q rfl (fun w' H=>x_bld (ps:=[(0,ac),(1,ak)]) (zs:=[.slice none 0 0,.slice none 0 0]) (L':=[ac,ak]) rfl Tryz.underlying219 Al219.h rfl (Bd219 Tryz.underlying219) (.cons (cs:=[ac]) aB rfl rfl rfl rfl<|.cons (cs:=[ak]) aK rfl rfl rfl rfl<|.nil)) ?_;refine kA 1 ?_;intro aa bB H;refine kN ?_;refine kS 1 ?_;intro bC H;refine kN ?_;refine t_nil ?_;exact ⟨aa,ac,ak,_,jQ,hM,H⟩
   refine kal ?_;intro aa bD H;refine kN ?_;refine t_l rfl ?_;refine t_mk (α:=Int) T26.h (0:Int) rfl (n:=d_ways_outside) H rfl rfl (by omega) (by omega) (by omega) ?_;intro al bE H;replace H:=H.nf;have aL:=Sl.cells (H.os 0);refine kN ?_;refine t_q rfl (fun w' H=>x_bld (ps:=[(0,ac),(1,al)]) (zs:=[.slice none 0 0,.slice none 0 0]) (L':=[ac,al]) rfl Tryz.underlying219 Al219.h rfl (Bd219 Tryz.underlying219) (.cons (cs:=[ac]) aB rfl rfl rfl rfl<|.cons (cs:=[al]) aL rfl rfl rfl rfl<|.nil)) ?_;refine kS 1 ?_;intro bF H;refine kN ?_;refine t_nil ?_;exact ⟨aa,ac,al,_,jQ,hM,(H.pk [1,0,2,3,4])⟩
  ·refine t_mk (α:=Int) T26.h (0:Int) rfl (n:=d_ways_outside) H rfl rfl (by omega) (by omega) (by omega) ?_;intro ae bG H;replace H:=H.nf;have aC:=Sl.cells (H.os 0);refine kN ?_;refine t_l2 rfl rfl ?_ ?_
   ·refine t_mk (α:=Int) T26.h (0:Int) rfl (n:=d_reaches) H rfl rfl (by omega) (by omega) (by omega) ?_;intro ao bH H;replace H:=H.nf;have aM:=Sl.cells (H.os 0);refine kN ?_;refine t_q rfl (fun w' H=>x_bld (ps:=[(0,ao),(1,ae)]) (zs:=[.slice none 0 0,.slice none 0 0]) (L':=[ao,ae]) rfl Tryz.underlying219 Al219.h rfl (Bd219 Tryz.underlying219) (.cons (cs:=[ao]) aM rfl rfl rfl rfl<|.cons (cs:=[ae]) aC rfl rfl rfl rfl<|.nil)) ?_;refine kA 1 ?_;intro aa bI H;refine kN ?_;refine kS 1 ?_;intro bJ H;refine kN ?_;refine t_nil ?_;exact ⟨aa,ao,ae,_,jQ,hM,(H.pk [0,2,1,3,4])⟩
   refine kal ?_;intro aa bK H;refine kN ?_;refine t_l rfl ?_;refine t_mk (α:=Int) T26.h (0:Int) rfl (n:=d_reaches) H rfl rfl (by omega) (by omega) (by omega) ?_;intro ap bL H;replace H:=H.nf;have aN:=Sl.cells (H.os 0);refine kN ?_;refine t_q rfl (fun w' H=>x_bld (ps:=[(0,ap),(1,ae)]) (zs:=[.slice none 0 0,.slice none 0 0]) (L':=[ap,ae]) rfl Tryz.underlying219 Al219.h rfl (Bd219 Tryz.underlying219) (.cons (cs:=[ap]) aN rfl rfl rfl rfl<|.cons (cs:=[ae]) aC rfl rfl rfl rfl<|.nil)) ?_;refine kS 1 ?_;intro bM H;refine kN ?_;refine t_nil ?_;exact ⟨aa,ap,ae,_,jQ,hM,(H.pk [1,2,0,3,4])⟩
  refine kal ?_;intro aa bN H;refine kN ?_;refine t_l2 rfl rfl ?_ ?_
  ·refine t_mk (α:=Int) T26.h (0:Int) rfl (n:=d_reaches) H rfl rfl (by omega) (by omega) (by omega) ?_;intro aq bO H;replace H:=H.nf;have aO:=Sl.cells (H.os 0);refine kN ?_;refine t_l rfl ?_;refine t_mk (α:=Int) T26.h (0:Int) rfl (n:=d_ways_outside) H rfl rfl (by omega) (by omega) (by omega) ?_;intro au bP H;replace H:=H.nf;have aP:=Sl.cells (H.os 0);refine kN ?_;refine t_q rfl (fun w' H=>x_bld (ps:=[(0,aq),(1,au)]) (zs:=[.slice none 0 0,.slice none 0 0]) (L':=[aq,au]) rfl Tryz.underlying219 Al219.h rfl (Bd219 Tryz.underlying219) (.cons (cs:=[aq]) aO rfl rfl rfl rfl<|.cons (cs:=[au]) aP rfl rfl rfl rfl<|.nil)) ?_;refine kS 1 ?_;intro bQ H;refine kN ?_;refine t_nil ?_;exact ⟨aa,aq,au,_,jQ,hM,(H.pk [2,0,1,3,4])⟩
  refine t_mk (α:=Int) T26.h (0:Int) rfl (n:=d_ways_outside) H rfl rfl (by omega) (by omega) (by omega) ?_;intro av bR H;replace H:=H.nf;have aQ:=Sl.cells (H.os 0);refine kN ?_;refine t_l rfl ?_;refine t_mk (α:=Int) T26.h (0:Int) rfl (n:=d_reaches) H rfl rfl (by omega) (by omega) (by omega) ?_;intro aw bS H;replace H:=H.nf;have aR:=Sl.cells (H.os 0);refine kN ?_;refine t_q rfl (fun w' H=>x_bld (ps:=[(0,aw),(1,av)]) (zs:=[.slice none 0 0,.slice none 0 0]) (L':=[aw,av]) rfl Tryz.underlying219 Al219.h rfl (Bd219 Tryz.underlying219) (.cons (cs:=[aw]) aR rfl rfl rfl rfl<|.cons (cs:=[av]) aQ rfl rfl rfl rfl<|.nil)) ?_;refine kS 1 ?_;intro bT H;refine kN ?_;refine t_nil ?_;exact ⟨aa,aw,av,_,jQ,hM,(H.pk [2,1,0,3,4])⟩
 rintro _ bU ⟨aa,ag,ah,ρ,rfl,hM,H⟩;unfold m_balance_desk_truth_j1 at hM;refine kg 5 ?_;refine t_copyI (k:=2) (l:=List.replicate (Int.toNat d_reaches) (0:Int)) (s:=l) (L':=[cBlk aa [ag,ah] 219,cOwn (α:=Int) 3 ah (List.replicate (Int.toNat d_ways_outside) (0:Int)),cOwn (α:=Int) 3 ag (l.take (List.replicate (Int.toNat d_reaches) (0:Int)).length++(List.replicate (Int.toNat d_reaches) (0:Int)).drop l.length),cOwn (α:=Int) 3 ab l,cBlk ai [.slice none 0 0,.slice none 0 0] 219]) H rfl T26.h.und T26.h.size rfl rfl (H.os 3) (H.ol 3) rfl ?_;intro bV bW H;refine kD 2 [0,2,3,4] [8] ?_;intro bX H;obtain ⟨bY,hM⟩:=M.e_gq hM;refine kg 7 ?_;obtain ⟨aD,aS,ay⟩:=sl_lo T26.h.und T26.h.size (H.os 3) (i:=d_reaches) (by omega) (by omega);replace ay:Sl _ aD (l.drop (Int.toNat d_reaches)):=ay;refine d_q rfl (fun w' H=>x_sl (v:=ab) (u:=aD) (lo':=some (I d_reaches)) (hi':=none) (mx':=none) rfl rfl rfl rfl (aS _))<|d_l rfl ?_;refine t_copyI (k:=1) (l:=List.replicate (Int.toNat d_ways_outside) (0:Int)) (s:=l.drop (Int.toNat d_reaches)) (L':=[cBlk aa [ag,ah] 219,cOwn (α:=Int) 3 ah ((l.drop (Int.toNat d_reaches)).take (List.replicate (Int.toNat d_ways_outside) (0:Int)).length++(List.replicate (Int.toNat d_ways_outside) (0:Int)).drop (l.drop (Int.toNat d_reaches)).length),cOwn (α:=Int) 3 ag (l.take (List.replicate (Int.toNat d_reaches) (0:Int)).length++(List.replicate (Int.toNat d_reaches) (0:Int)).drop l.length),cOwn (α:=Int) 3 ab l,cBlk ai [.slice none 0 0,.slice none 0 0] 219]) H rfl T26.h.und T26.h.size rfl rfl ay (H.ol 3) rfl ?_;intro bZ b5 H;refine kN ?_;refine kS 4 ?_;intro b6 H;refine s_nil ?_;replace H:=H.pk [1,2,4]
 exact kR 0 [1,0]

def m_balance_off (x:Int) (s:Span):M Int :=
  M.gi (s.lo-x) <|
  M.gi (x-s.hi) <|
  M.pure (max (max 0 (s.lo-x)) (x-s.hi))
theorem balance_off_ok {R}(x s){r}(hM:(m_balance_off x s).Ends r)(w)(H:St w w [] R):Ret Tryz.prog 157 #[I x,.agg #[I s.lo,I s.hi]] w fun v w'=>∃ y0,y0=r/\v=I y0/\St w w' [] R:=by
 refine ret_of_W Tryz.func157 rfl rfl rfl ?_;refine kB 2 ?_;intro aa ab H;obtain ⟨ac,hM⟩:=M.e_gq hM;obtain ⟨ae,hM⟩:=M.e_gq hM;refine kg 12 ?_;refine s_val (x_max3 (a:=0) (b:=s.lo-x) (c:=x-s.hi) rfl rfl rfl) ?_;refine kg 2 ?_;exact rt

def m_balance_sum_b0 (l:List Int):(Int × Nat)->M ((Int × Nat) ⊕ Int):=fun (n,s) =>
  bif decide ((s:Int)<(l.length:Int)) then (
  M.grd (decide ((s:Int)<(l.length:Int))) <|
  M.gi (n+(l.getD s 0)) <|
  M.pure (.inl (n+(l.getD s 0),s+1)))
  else (
  M.pure (.inr n))
def m_balance_sum (l:List Int):M Int :=
  M.bind (M.iter (m_balance_sum_b0 l) (0,0)) fun n2 =>
  M.pure n2
theorem balance_sum_ok {R ab aa}(l)(al:Reads R ab)(ae:Sl ab aa l){r}(hM:(m_balance_sum l).Ends r)(w)(H:St w w [] R):Ret Tryz.prog 158 #[aa] w fun v w'=>∃ y0,y0=r/\v=I y0/\St w w' [] R:=by
 refine ret_of_W Tryz.func158 rfl rfl rfl ?_;have ao:=(ae).len_le;refine kg 16 ?_;obtain ⟨ag,ac,ah⟩:=M.e_bind hM;obtain ⟨ap,ac⟩:=M.e_iter ac;refine W.loop (fun m σ W=>∃ (n:Int) (s:Nat) (ρ:Env),σ=upds ρ [(3,I n),(6,aa),(7,I (l.length:Int)),(8,I (s:Int))]/\M.iterN (m_balance_sum_b0 l) m (n,s)=some ag/\St w W [] R) ?_ ?_
 ·exact kY
 rintro aq σ au ⟨n,s,ρ,rfl,ai,H⟩;obtain ⟨av,aw,ax,hM,aj⟩:=M.e_iterN ai;refine kI 5 ?_ ?_
 ·intro ak hM;obtain ⟨ay,hM⟩:=M.e_gq hM;obtain ⟨az,hM⟩:=M.e_gq hM;exact kX 19
 intro ak hM;refine W.exit ?_;obtain rfl:=M.e_inr hM aj;replace hM:=ah;refine kg 5 ?_;exact rt

def m_balance_cost_b0 (n_Reaches:List BRch) (t_Flows:List Int):(Nat × (List Int))->M ((Nat × (List Int)) ⊕ ((List Int) × (List Int))):=fun (s,l) =>
  bif decide ((s:Int)<(n_Reaches.length:Int)) then (
  M.grd (decide ((s:Int)<(n_Reaches.length:Int))) <|
  M.grd (decide ((s:Int)<(t_Flows.length:Int))) <|
  M.bind (m_balance_off (t_Flows.getD s 0) (⟨((n_Reaches.getD s default).lo:Int),((n_Reaches.getD s default).hi:Int)⟩:Span)) fun r2 =>
  M.grd (decide ((l.length+([(r2:Int)]).length)*8<=140737488355328)) <|
  M.pure (.inl (s+1,l++([(r2:Int)]))))
  else (
  M.pure (.inr (l,l)))
def m_balance_cost_b1 (n_Gains:List Span) (t_Gains:List Int):((List Int) × Nat)->M (((List Int) × Nat) ⊕ ((List Int) × (List Int))):=fun (l4,s2) =>
  bif decide ((s2:Int)<(n_Gains.length:Int)) then (
  M.grd (decide ((s2:Int)<(n_Gains.length:Int))) <|
  M.grd (decide ((s2:Int)<(t_Gains.length:Int))) <|
  M.bind (m_balance_off (t_Gains.getD s2 0) (n_Gains.getD s2 default)) fun r3 =>
  M.grd (decide ((l4.length+([(r3:Int)]).length)*8<=140737488355328)) <|
  M.pure (.inl (l4++([(r3:Int)]),s2+1)))
  else (
  M.pure (.inr (l4,l4)))
def m_balance_cost (n_Gains:List Span) (n_Reaches:List BRch) (t_Flows t_Gains:List Int):M Int :=
  M.bind (M.iter (m_balance_cost_b0 n_Reaches t_Flows) (0,[])) fun (l2,l3) =>
  M.bind (M.iter (m_balance_cost_b1 n_Gains t_Gains) (l3,0)) fun (l5,l6) =>
  M.bind (m_balance_sum l6) fun r4 =>
  M.pure r4
theorem balance_cost_ok {R ak aa al ab ao ac ap ae}(n_Gains n_Reaches t_Flows t_Gains)(aI:Reads R ak)(av:Sl ak aa n_Gains)(aJ:Reads R al)(aw:Sl al ab n_Reaches)(aK:Reads R ao)(aL:Sl ao ac t_Flows)(aM:Reads R ap)(aN:Sl ap ae t_Gains){r}(hM:(m_balance_cost n_Gains n_Reaches t_Flows t_Gains).Ends r)(w)(H:St w w [] R):Ret Tryz.prog 114 #[.agg #[aa,ab],.agg #[ac,ae]] w fun v w'=>∃ y0,y0=r/\v=I y0/\St w w' [] R:=by
 refine ret_of_W Tryz.func114 rfl rfl rfl ?_;refine kB 2 ?_;intro ah aO H;refine kbx ?_;intro ag aP H;have aQ:=(aw).len_le;refine kg 15 ?_;replace H:=H.nilOwn (α:=Int) 3;obtain ⟨ax,aq,ay⟩:=M.e_bind hM;obtain ⟨az,aq⟩:=M.e_iter aq;refine W.loop (fun m σ W=>∃ (s:Nat) (l:List Int) (ai:Value) (ρ:Env),σ=upds ρ [(2,Pq ah),(3,Pq ag),(5,ai),(11,ab),(12,I (n_Reaches.length:Int)),(13,I (s:Int))]/\M.iterN (m_balance_cost_b0 n_Reaches t_Flows) m (s,l)=some ax/\St w W [cOwn (α:=Int) 3 ai l,cBlk ag [ac,ae] 219,cBlk ah [aa,ab] 43] R) ?_ ?_
 ·exact kY
 rintro aR σ aS ⟨s,l,ai,ρ,rfl,aA,H⟩;obtain ⟨aT,aU,aV,hM,aB⟩:=M.e_iterN aA;refine kI 5 ?_ ?_
 ·intro aC hM;obtain ⟨aW,hM⟩:=M.e_gq hM;refine kA 8 ?_;intro aX aY H;refine kS 1 ?_;intro aZ H;refine kD 1 [0,2,3] [8,9,10] ?_;intro a7 H;obtain ⟨a8,hM⟩:=M.e_gq hM;refine kC 9 @balance_off_ok ?_;intro bc r2 hM H;refine kN ?_;refine kL 1 (α:=Int) [r2] ?_;intro bf bh H;refine kN ?_;refine d_l rfl ?_;obtain ⟨bi,hM⟩:=M.e_gq hM;refine kP 0 ?_;intro bj bm H;refine kN ?_;refine kg 2 ?_;replace H:=H.pk [2,3,4];exact kX 4
 intro aC hM;refine W.exit ?_;obtain rfl:=M.e_inr hM aB;replace hM:=ay;have bn:=(av).len_le;refine kg 9 ?_;obtain ⟨aD,au,aE⟩:=M.e_bind hM;obtain ⟨az,au⟩:=M.e_iter au;refine W.loop (fun m σ W=>∃ (l4:List Int) (s2:Nat) (aj:Value) (ρ:Env),σ=upds ρ [(3,Pq ag),(5,aj),(31,aa),(32,I (n_Gains.length:Int)),(33,I (s2:Int))]/\M.iterN (m_balance_cost_b1 n_Gains t_Gains) m (l4,s2)=some aD/\St w W [cOwn (α:=Int) 3 aj l4,cBlk ag [ac,ae] 219,cBlk ah [aa,ab] 43] R) ?_ ?_
 ·exact kY
 rintro bo σ bp ⟨l4,s2,aj,ρ,rfl,aF,H⟩;obtain ⟨br,bt,bu,hM,aG⟩:=M.e_iterN aF;refine kI 5 ?_ ?_
 ·intro aH hM;obtain ⟨bv,hM⟩:=M.e_gq hM;refine kA 8 ?_;intro bw bA H;refine kS 1 ?_;intro bB H;refine kD 1 [0,2,3] [7,8,9] ?_;intro bC H;obtain ⟨bD,hM⟩:=M.e_gq hM;refine kC 8 @balance_off_ok ?_;intro bE r3 hM H;refine kN ?_;refine kL 1 (α:=Int) [r3] ?_;intro bF bG H;refine kN ?_;refine d_l rfl ?_;obtain ⟨bH,hM⟩:=M.e_gq hM;refine kP 0 ?_;intro bI bJ H;refine kN ?_;refine kg 2 ?_;replace H:=H.pk [2,3,4];exact kX 4
 intro aH hM;refine W.exit ?_;obtain rfl:=M.e_inr hM aG;replace hM:=aE;replace H:=H.pk [0];refine kC 3 @balance_sum_ok ?_;intro bK r4 hM H;refine kg 2 ?_;exact rt

def m_balance_settled (n_Gains:List Span) (n_Reaches:List BRch):M ((Int × Int) ⊕ ((List BWay) × Int × Int × Int × Int)) :=
  M.bind (m_balance_Check n_Gains n_Reaches) fun r2 =>
  bif r2 != 0 then (
  M.pure (.inl (0,r2)))
  else (
  M.bind (m_balance_begun n_Gains n_Reaches) fun (r0,r1,aa) =>
  M.bind (m_balance_desk_settle r0 r1 aa) fun l_d_ways_all =>
  M.bind (m_balance_desk_truth l_d_ways_all r1 aa) fun (ab,ac) =>
  M.bind (m_balance_cost n_Gains n_Reaches ab ac) fun r3 =>
  M.pure (.inr (l_d_ways_all,r1,aa,r3,0)))
theorem balance_settled_ok {R ab ac ae ag}(n_Gains n_Reaches)(aq:Reads R ab)(au:Sl ab ac n_Gains)(av:Reads R ae)(aw:Sl ae ag n_Reaches){r}(hM:(m_balance_settled n_Gains n_Reaches).Ends r)(w)(H:St w w [] R):Ret Tryz.prog 68 #[.agg #[ac,ag]] w fun v w'=>(∃ (y0:Int) (y1:Int),(.inl (y0,y1))=r/\v = .tuple #[.pointer none,I y0,I y1]/\St w w' [] R)∨(∃ (y0:List BWay) (y1:Int) (y2:Int) (y3:Int) (y4:Int) (ah:Nat) (u1:Value),(.inr (y0,y1,y2,y3,y4))=r/\v = .tuple #[Pq ah,I y3,I y4]/\St w w' [cBlk ah [u1,I y1,I y2] 114,cOwn (α:=BWay) 120 u1 y0] R):=by
 refine ret_of_W Tryz.func68 rfl rfl rfl ?_;refine kB 2 ?_;intro ax ay H;refine kC 8 @balance_Check_ok ?_;intro az r2 hM H;refine kI 7 ?_ ?_
 ·intro ak hM;refine kg 7 ?_;refine W.ret ?_;have aa:=M.e_pure hM;exact ⟨_,resE_tmp3 rfl,.inl (⟨0,r2,aa,rfl,(H.pk [])⟩)⟩
 intro ak hM;refine kC 4 @balance_begun_ok ?_;intro aA r0 r1 ai aj aB hM H;refine kg 5 ?_;obtain ⟨aC,al,hM⟩:=M.e_bind hM;refine s_call cq [Pq aj] rfl (balance_desk_settle_ok r0 r1 ai al _ ((H.pk [1,0,2]).gt 1)) ?_;rintro _ aD ⟨l_d_ways_all,ao,rfl,rfl,ap⟩;replace H:=H.pk [1,0,2] |>.bk ap
 refine kD 2 [0,1,2] [3,4] ?_;intro aE H;refine kC 4 @balance_desk_truth_ok ?_;intro aF aG aH aI aJ hM H;refine kN ?_;refine kC 1 @balance_cost_ok ?_;intro aK r3 hM H;refine kN ?_;refine kg 4 ?_;replace H:=H.pk [2,3];refine W.ret ?_;have aa:=M.e_pure hM;exact ⟨_,resE_tmp3 rfl,.inr (⟨l_d_ways_all,r1,ai,r3,0,aj,ao,aa,rfl,(H.pk [1,0])⟩)⟩

def m_balance_fitting (n_Gains:List Span) (n_Reaches:List BRch):M (Int ⊕ ((List BWay) × Int × Int × Int)) :=
  M.bind (m_balance_settled n_Gains n_Reaches) fun x_=>match x_ with
  | (.inl (r1,r2))=>(
  bif ((r2==0)&&(decide (0<r1))) then (
  M.pure (.inl 6))
  else (
  M.pure (.inl r2)))
  | (.inr (aa,ab,ac,ag,ae))=>(
  bif ((ae==0)&&(decide (0<ag))) then (
  M.pure (.inr (aa,ab,ac,6)))
  else (
  M.pure (.inr (aa,ab,ac,ae))))
theorem balance_fitting_ok {R ag ab ah ac}(n_Gains n_Reaches)(aq:Reads R ag)(au:Sl ag ab n_Gains)(av:Reads R ah)(aw:Sl ah ac n_Reaches){r}(hM:(m_balance_fitting n_Gains n_Reaches).Ends r)(w)(H:St w w [] R):Ret Tryz.prog 34 #[.agg #[ab,ac]] w fun v w'=>(∃ (y0:Int),(.inl y0)=r/\v = .tuple #[.pointer none,I y0]/\St w w' [] R)∨(∃ (y0:List BWay) (y1:Int) (y2:Int) (y3:Int) (ai:Nat) (u1:Value),(.inr (y0,y1,y2,y3))=r/\v = .tuple #[Pq ai,I y3]/\St w w' [cBlk ai [u1,I y1,I y2] 114,cOwn (α:=BWay) 120 u1 y0] R):=by
 refine ret_of_W Tryz.func34 rfl rfl rfl ?_;refine kB 2 ?_;intro aD aE H;refine kg 6 ?_;obtain ⟨aF,ax,hM⟩:=M.e_bind hM;refine s_call cq [.agg #[ab,ac]] rfl (balance_settled_ok n_Gains n_Reaches (aq.app _) au (av.app _) aw ax _ (H.gt 1)) ?_;rintro vq aG (⟨r1,r2,ay,hvq,ae⟩ | ⟨aj,ak,al,aH,az,ao,ap,aA,hvq,ae⟩)
 ·subst ay;subst vq;replace H:=H.bk ae;refine kI 18 ?_ ?_
  ·intro aB hM;refine kg 10 ?_;refine W.ret ?_;have aa:=M.e_pure hM;exact ⟨_,resE_tmp2 rfl,.inl (⟨6,aa,rfl,(H.pk [])⟩)⟩
  intro aB hM;refine kg 8 ?_;refine W.ret ?_;have aa:=M.e_pure hM;exact ⟨_,resE_tmp2 rfl,.inl (⟨r2,aa,rfl,(H.pk [])⟩)⟩
 subst aA;subst vq;replace H:=H.bk ae;refine kI 18 ?_ ?_
 ·intro aC hM;refine kg 10 ?_;refine W.ret ?_;have aa:=M.e_pure hM;exact ⟨_,resE_tmp2 rfl,.inr (⟨aj,ak,al,6,ao,ap,aa,rfl,(H.pk [0,1])⟩)⟩
 intro aC hM;refine kg 8 ?_;refine W.ret ?_;have aa:=M.e_pure hM;exact ⟨_,resE_tmp2 rfl,.inr (⟨aj,ak,al,az,ao,ap,aa,rfl,(H.pk [0,1])⟩)⟩

def zcC (s:List BWay):M (List BWay) :=
  M.grd (decide (0<s.length)) <|
  M.grd (decide ((([]:List BWay).length+s.length)*40<=140737488355328)) <|
  M.pure s
theorem zdt {R aa ab}(s)(ag:Reads R aa)(ae:Sl aa ab s){r}(hM:(zcC s).Ends r)(w)(H:St w w [] R):Ret Tryz.prog 72 #[ab] w fun v w'=>∃ y0 u0,y0=r/\v=u0/\St w w' [cOwn (α:=BWay) 120 u0 y0] R:=by
 refine ret_of_W Tryz.func72 rfl rfl rfl ?_;obtain ⟨ah,hM⟩:=M.e_gq hM;refine kg 8 ?_;refine s_val (x_eqnilp (α:=BWay) T110.h.und rfl rfl ae (by omega))<|s_nil ?_
 refine W.cond false rfl (fun ac=>?_) (fun ac=>?_)
 ·exact absurd ac (by decide)
 refine kg 3 ?_;refine t_bs0 (α:=BWay) T110.h H ?_;intro ai aj H;obtain ⟨ak,hM⟩:=M.e_gq hM;refine kP 1 ?_;intro al ao H;refine kg 2 ?_;exact rt

def m_balance_desk_copied (d_ways_all:List BWay) (d_ways_outside d_reaches:Int):M ((List BWay) × Int × Int) :=
  M.bind (zcC d_ways_all) fun r2 =>
  M.pure (r2,d_ways_outside,d_reaches)
theorem balance_desk_copied_ok {R ab ac ae}(d_ways_all d_ways_outside d_reaches)(ai:Reads R ac)(aj:Sl ac ae d_ways_all)(ak:Has R (cBlk ab [ae,I d_ways_outside,I d_reaches] 114)){r}(hM:(m_balance_desk_copied d_ways_all d_ways_outside d_reaches).Ends r)(w)(H:St w w [] R):Ret Tryz.prog 38 #[Pq ab] w fun v w'=>∃ y0 y1 y2 ag u1,(y0,y1,y2)=r/\v=Pq ag/\St w w' [cBlk ag [u1,I y1,I y2] 114,cOwn (α:=BWay) 120 u1 y0] R:=by
 refine ret_of_W Tryz.func38 rfl rfl rfl ?_;refine kDo 5 [] [(0,true),(1,true),(2,true),(3,true),(4,true),(6,true),(7,true),(8,true),(9,true),(10,true),(12,true),(13,true),(14,true),(15,true),(5,false),(11,true),(16,true),(17,false),(18,true)] ?_;intro al H;refine kC 15 @zdt ?_;intro ao r2 aa hM H;have ah:=Sl.cells (H.os 0);refine kN ?_;refine d_q rfl (fun w' H=>x_bld (ps:=[(0,aa),(1,I d_ways_outside)]) (zs:=[.slice none 0 0,I 0]) (L':=[aa,I d_ways_outside]) rfl Tryz.underlying112 Al112.h rfl (Bd112 Tryz.underlying112) (.cons (cs:=[aa]) ah rfl rfl rfl rfl<|.cons (cs:=[I d_ways_outside]) rfl rfl rfl rfl rfl<|.nil)) ?_;refine kB 2 ?_;intro ap aq H;refine kN ?_;refine kg 2 ?_;exact rt

def m_balance_desk_shift_1 (s:BStep) (ab:List BWay) (ac ae aa:Int):M Bool :=
  M.bind (m_balance_desk_room ab ac ae s) fun (r0,r1) =>
  M.pure (((r0==0)&&(!(decide (s=(⟨(aa:Int),true⟩:BStep)))))&&(!(decide (s=(⟨(aa:Int),false⟩:BStep)))))
theorem balance_desk_shift_1_ok {R ab ac ae ag ah}(s ai aj ak aa)(al:Reads R ae)(ao:Sl ae ag ai)(ap:Has R (cBlk ac [ag,I aj,I ak] 114))(aq:Has R (cBlk ab [Pq ac] 107))(au:Has R (cBlk ah [I aa] 3)){r}(hM:(m_balance_desk_shift_1 s ai aj ak aa).Ends r)(w)(H:St w w [] R):Ret Tryz.prog 116 #[.agg #[I s.way,B s.back],Pq ab,Pq ah] w fun v w'=>∃ y0,y0=r/\v=B y0/\St w w' [] R:=by
 refine ret_of_W Tryz.func116 rfl rfl rfl ?_;refine kB 2 ?_;intro av aw H;refine kC 6 @balance_desk_room_ok ?_;intro ax r0 r1 hM H;refine kg 13 ?_;refine g_val (r0==0) (gy_t rfl) (fun hg=>x_bld (ps:=[(0,I aa),(1,B true)]) (zs:=[I 0,B false]) (L':=[I aa,B true]) (by exact prs2 (gd_of hg (I aa)) rfl) Tryz.underlying222 Al222.h rfl (Bd222 Tryz.underlying222) (.cons (cs:=[I aa]) rfl rfl rfl rfl rfl<|.cons (cs:=[B true]) rfl rfl rfl rfl rfl<|.nil))<|g_val (r0==0) (gy_t rfl) (fun hg=>x_neS (eqT222 s (⟨(aa:Int),true⟩:BStep) _) gdT222 (gd_of hg (.agg #[I s.way,B s.back])) (gd_of hg (.agg #[I aa,B true]))) ?_;refine kg 4 ?_;refine g_val ((r0==0)&&(!(decide (s=(⟨(aa:Int),true⟩:BStep))))) (gy_t rfl) (fun hg=>x_bld (ps:=[(0,I aa),(1,B false)]) (zs:=[I 0,B false]) (L':=[I aa,B false]) (by exact prs2 (gd_of hg (I aa)) rfl) Tryz.underlying222 Al222.h rfl (Bd222 Tryz.underlying222) (.cons (cs:=[I aa]) rfl rfl rfl rfl rfl<|.cons (cs:=[B false]) rfl rfl rfl rfl rfl<|.nil))<|g_val ((r0==0)&&(!(decide (s=(⟨(aa:Int),true⟩:BStep))))) (gy_t rfl) (fun hg=>x_neS (eqT222 s (⟨(aa:Int),false⟩:BStep) _) gdT222 (gd_of hg (.agg #[I s.way,B s.back])) (gd_of hg (.agg #[I aa,B false]))) ?_;refine kg 3 ?_
 exact rt

end Go.Proofs.YtlfkkkbhejeplaaGreat
end
section
set_option maxRecDepth 100000
set_option maxHeartbeats 16000000
namespace Go.Proofs.YtlfkkkbhejeplaaGreat
open Go Go.Nm
attribute [local irreducible] gd execOp SL SLD SLT WR
def m_balance_desk_reach_116_b4 (d_ways_all:List BWay) (d_ways_outside d_reaches:Int) (ab:List BWay) (ac ae ag:Int) (s2:Nat) (aa:List (Int × BFar)):((List (Int × BFar)) × Bool)->BStep->M (((List (Int × BFar)) × Bool) ⊕ Unit):=fun (mp,s5) x =>
  M.bind (m_balance_desk_shift_1 x ab ac ae ag) fun r2 =>
  bif !r2 then (
  M.pure (.inl (mp,s5)))
  else (
  M.bind (m_balance_desk_room d_ways_all d_ways_outside d_reaches x) fun (r0,r1) =>
  M.gi ((((lookM aa (s2:Int)).getD default).cost)+r0) <|
  M.gi ((((lookM aa (s2:Int)).getD default).many)+1) <|
  M.bind (m_balance_desk_to d_ways_all d_ways_outside d_reaches x) fun r3 =>
  bif (((!((lookM mp (r3:Int)).isSome))||(decide (((((lookM aa (s2:Int)).getD default).cost)+r0)<(((lookM mp (r3:Int)).getD default).cost))))||((((((lookM aa (s2:Int)).getD default).cost)+r0)==(((lookM mp (r3:Int)).getD default).cost))&&(decide (((((lookM aa (s2:Int)).getD default).many)+1)<(((lookM mp (r3:Int)).getD default).many))))) then (
  M.bind (m_balance_desk_to d_ways_all d_ways_outside d_reaches x) fun r4 =>
  M.pure (.inl (setM mp (r4:Int) (⟨((((lookM aa (s2:Int)).getD default).cost)+r0:Int),((((lookM aa (s2:Int)).getD default).many)+1:Int),(x.way:Int),x.back⟩:BFar),true)))
  else (
  M.pure (.inl (mp,s5))))
def m_balance_desk_reach_116_b5 (d_ways_all:List BWay) (d_ways_outside d_reaches:Int) (ab:List BWay) (ac ae ag:Int):(Nat × (List (Int × BFar)) × Bool)->M ((Nat × (List (Int × BFar)) × Bool) ⊕ ((List (Int × BFar)) × Bool)):=fun (s2,aa,s6) =>
  bif decide ((s2:Int)<(d_ways_outside+2)) then (
  bif !((lookM aa (s2:Int)).isSome) then (
  M.gi ((s2:Int)+1) <|
  M.pure (.inl (s2+1,aa,s6)))
  else (
  M.bind (m_balance_desk_steps d_ways_all d_ways_outside d_reaches (s2:Int)) fun ah =>
  M.bind (m_balance_desk_steps_1 (M.yl (m_balance_desk_reach_116_b4 d_ways_all d_ways_outside d_reaches ab ac ae ag s2 aa)) (.inl (aa,s6)) d_ways_all d_ways_outside d_reaches ah) fun x_=>match x_ with
  | .inl (mp,s5)=>(
  M.gi ((s2:Int)+1) <|
  M.pure (.inl (s2+1,mp,s5)))
  | .inr _=>M.fail))
  else (
  M.pure (.inr (aa,s6)))
def m_balance_desk_reach_116_b6 (d_ways_all:List BWay) (d_ways_outside d_reaches:Int) (ab:List BWay) (ac ae ag:Int):((List (Int × BFar)) × Bool)->M (((List (Int × BFar)) × Bool) ⊕ (List (Int × BFar))):=fun (aa,s8) =>
  bif s8 then (
  M.gi (d_ways_outside+2) <|
  M.bind (M.iter (m_balance_desk_reach_116_b5 d_ways_all d_ways_outside d_reaches ab ac ae ag) (0,aa,false)) fun (ah,s7) =>
  M.pure (.inl (ah,s7)))
  else (
  M.pure (.inr aa))
def m_balance_desk_reach_116 (d_ways_all:List BWay) (d_ways_outside d_reaches aa:Int) (ab:List BWay) (ac ae ag:Int):M (List (Int × BFar)) :=
  M.bind (M.iter (m_balance_desk_reach_116_b6 d_ways_all d_ways_outside d_reaches ab ac ae ag) (setM ([]:List (Int × BFar)) (aa:Int) (⟨(0:Int),(0:Int),(0:Int),false⟩:BFar),true)) fun ah =>
  M.pure ah
theorem balance_desk_reach_116_ok {R ab aV aW ag aX aY aZ ah}(d_ways_all d_ways_outside d_reaches aE ao ap aq au)(aF:Reads R aV)(aK:Sl aV aW d_ways_all)(aG:Has R (cBlk ab [aW,I d_ways_outside,I d_reaches] 114))(aL:Reads R aY)(a7:Sl aY aZ ao)(aM:Has R (cBlk aX [aZ,I ap,I aq] 114))(aN:Has R (cBlk ag [Pq aX] 107))(aO:Has R (cBlk ah [I au] 3)){r}(hM:(m_balance_desk_reach_116 d_ways_all d_ways_outside d_reaches aE ao ap aq au).Ends r)(w)(H:St w w [] R):Ret Tryz.prog 119 #[Pq ab,I aE,.agg #[.func (.func 116) #[] #[Pq ag,Pq ah]]] w fun v w'=>∃ y0 a8,y0=r/\v = .map (some a8)/\St w w' [cMl I encFar a8 y0] R:=by
 refine ret_of_WD Tryz.func119 rfl rfl rfl ?_;replace H:St w w [cMk ([])] R:=H.mk0;have bL:=aK.len_le;have bM:=a7.len_le;unfold m_balance_desk_reach_116 at hM;refine WD.seq<|WD.of ?_;refine kB 1 ?_;intro ai bN H;refine kbx ?_;intro aj bO H;refine kg 2 ?_;refine WD.seq<|WD.of<|W.region rfl ?_;refine t_mkMl (κ:=Int) (ν:=BFar) I encFar H ?_;intro ac bP H;refine kG 2 ?_;refine t_insMl (i:=0) (kenc:=I) (venc:=encFar) (m:=([]:List (Int × BFar))) (k:=(aE:Int)) (v:=(⟨(0:Int),(0:Int),(0:Int),false⟩:BFar)) (L':=[cMl I encFar ac (setM ([]:List (Int × BFar)) (aE:Int) (⟨(0:Int),(0:Int),(0:Int),false⟩:BFar)),cBlk aj [.func (.func 116) #[] #[Pq ag,Pq ah]] 227,cBlk ai [Pq ab] 107,cMk ([])]) keyIntFar Tryz.underlying229 H rfl rfl rfl rfl rfl ?_;intro bQ H;refine kA 1 ?_;intro ak bR H;refine ksw ?_;intro bS H;refine s_nil<|WD.seq<|WD.of ?_;refine kg 2 ?_;refine s_val (x_mf (fs:=[Pq ab]) (cs:=[]) rfl rfl) ?_;refine kal ?_;intro al bT H;refine ksw ?_;intro bU H;refine s_nil<|WD.seq<|WD.seq<|WD.of ?_;refine kA 1 ?_;intro bV bW H;refine ksw ?_;intro bX H;refine s_nil<|WD.block ?_;obtain ⟨bm,bc,bn⟩:=M.e_bind hM
 obtain ⟨bo,bc⟩:=M.e_iter bc;refine WD.loop (fun m bf σ W=>∃ (ae:Nat) (aH:List (Int × BFar)) (s8:Bool) (ρ:Env),σ=upds ρ [(3,Pq ai),(5,Pq aj),(7,Pq ak),(8,Pq al),(9,Pq ae)]/\M.iterN (m_balance_desk_reach_116_b6 d_ways_all d_ways_outside d_reaches ao ap aq au) m (aH,s8)=some bm/\St w W [cBlk ae [B s8] 4,cBlk al [.func (.func 117) #[Pq ab] #[]] 224,cBlk ak [.map (some ac)] 229,cMl I encFar ac aH,cBlk aj [.func (.func 116) #[] #[Pq ag,Pq ah]] 227,cBlk ai [Pq ab] 107,cMk bf] R) ?_ ?_
 ·exact kY
 rintro bY bf σ bZ ⟨ae,aH,s8,ρ,rfl,bp,H⟩;obtain ⟨b5,b6,b7,hM,br⟩:=M.e_iterN bp;refine WD.seq<|WD.seq<|WD.of ?_;refine kg 3 ?_
 refine WD.cond s8 rfl (fun aP=>?_) (fun aP=>?_)
 ·replace hM:=M.e_t hM aP;refine WD.of<|W.skip<|WD.seq<|WD.block<|WD.seq<|WD.of ?_;refine kS 1 ?_;intro b8 H;refine s_nil<|WD.seq<|WD.of ?_;obtain ⟨b9,hM⟩:=M.e_gq hM;refine kg 9 ?_;refine WD.block ?_;obtain ⟨bt,bh,bu⟩:=M.e_bind hM
  obtain ⟨bo,bh⟩:=M.e_iter bh;refine WD.loop (fun m az σ W=>∃ (s2:Nat) (aa:List (Int × BFar)) (s6:Bool) (ρ:Env),σ=upds ρ [(3,Pq ai),(5,Pq aj),(7,Pq ak),(8,Pq al),(9,Pq ae),(31,I (d_ways_outside+2)),(32,I (s2:Int))]/\M.iterN (m_balance_desk_reach_116_b5 d_ways_all d_ways_outside d_reaches ao ap aq au) m (s2,aa,s6)=some bt/\St w W [cBlk ae [B s6] 4,cBlk al [.func (.func 117) #[Pq ab] #[]] 224,cBlk ak [.map (some ac)] 229,cMl I encFar ac aa,cBlk aj [.func (.func 116) #[] #[Pq ag,Pq ah]] 227,cBlk ai [Pq ab] 107,cMk az] R) ?_ ?_
  ·exact kY
  rintro cb az σ cc ⟨s2,aa,s6,ρ,rfl,bv,H⟩;obtain ⟨cd,ce,cf,hM,bw⟩:=M.e_iterN bv;refine WD.seq<|WD.of ?_;refine kg 3 ?_;refine WD.seq ?_
  refine WD.cond (decide ((s2:Int)<(d_ways_outside+2))) rfl (fun aA=>?_) (fun aA=>?_)
  ·replace hM:=M.e_t hM aA;replace aA:=dI aA;refine WD.of<|W.skip<|WD.seq<|WD.block<|WD.seq<|WD.of ?_;refine kg 4 ?_;refine WD.seq<|WD.of ?_;refine kg 3 ?_;refine s_val (q_look (kenc:=I) (venc:=encFar) (f:=lookM aa) (k:=(s2:Int)) (v:=.tuple #[.agg #[I (((lookM aa (s2:Int)).getD default).cost),I (((lookM aa (s2:Int)).getD default).many),I (((lookM aa (s2:Int)).getD default).way),B (((lookM aa (s2:Int)).getD default).back)],B ((lookM aa (s2:Int)).isSome)]) keyIntFar Tryz.underlying229 Al232.h rfl rfl (mlMap (H.get (k:=3) rfl)) true (by rw [if_pos rfl,far_val])) ?_;refine kA 3 ?_;intro aB cg H;refine ksw ?_;intro ch H;refine kg 2 ?_;refine WD.seq<|WD.seq<|WD.of ?_;refine kg 4 ?_
   refine WD.cond (!((lookM aa (s2:Int)).isSome)) rfl (fun aQ=>?_) (fun aQ=>?_)
   ·replace hM:=M.e_t hM aQ;refine WD.of ?_;refine W.exit<|WD.of ?_;obtain ⟨cj,hM⟩:=M.e_gq hM
    exact kXp 4 [1,2,3,4,5,6,7]
   replace hM:=M.e_f hM aQ;refine WD.of<|W.skip<|WD.seq<|WD.of ?_;refine kC 3 @balance_desk_steps_ok ?_;intro ck av aw ax hM H;refine s_nil<|WD.block ?_;obtain ⟨ct,bA,hM⟩:=M.e_bind hM;refine WD.range (L:=[cBlk ae [B s6] 4,cMl I encFar ac aa,cBlk aw [Pq ab] 107,cBlk ax [I av] 3,cBlk aB [I (((lookM aa (s2:Int)).getD default).cost),I (((lookM aa (s2:Int)).getD default).many),I (((lookM aa (s2:Int)).getD default).way),B (((lookM aa (s2:Int)).getD default).back)] 232,cBlk al [.func (.func 117) #[Pq ab] #[]] 224,cBlk ak [.map (some ac)] 229,cBlk aj [.func (.func 116) #[] #[Pq ag,Pq ah]] 227,cBlk ai [Pq ab] 107]) [Pq aw,Pq ax] (H.pk [9,3,6,0,1,2,4,5,7,8]) rfl cq ?_;intro aI aD aR bB aS H
   have hYC:YieldC Tryz.prog ([cMk (aD :: az),cBlk aw [Pq ab] 107,cBlk ax [I av] 3,cBlk aB [I (((lookM aa (s2:Int)).getD default).cost),I (((lookM aa (s2:Int)).getD default).many),I (((lookM aa (s2:Int)).getD default).way),B (((lookM aa (s2:Int)).getD default).back)] 232,cBlk al [.func (.func 117) #[Pq ab] #[]] 224,cBlk ak [.map (some ac)] 229,cBlk aj [.func (.func 116) #[] #[Pq ag,Pq ah]] 227,cBlk ai [Pq ab] 107]++R) arBStep (yJ aI aR (fun (mp,s5) aJ=>aJ=[cBlk ae [B s5] 4,cMl I encFar ac mp]) (fun (_:Unit) _=>False) (fun _=>.ret)) (.func (.yield aI) #[] #[]) (M.yl (m_balance_desk_reach_116_b4 d_ways_all d_ways_outside d_reaches ao ap aq au s2 aa)):=by
    refine YieldC.mk2 aS (fun (mp,s5) aJ=>aJ=[cBlk ae [B s5] 4,cMl I encFar ac mp]) (fun (_:Unit) _=>False) (fun _=>.ret) (m_balance_desk_reach_116_b4 d_ways_all d_ways_outside d_reaches ao ap aq au s2 aa) (by rintro ⟨mp,s5⟩ _ h_; obtain ⟨rfl⟩:=h_; rfl) (fun _ _ h_=>h_.elim) rfl (arBStep_len rfl) ?_;intro C_ cu x bC;obtain rfl:=bC;intro w R ay aJ s_ r bD hM H;obtain ⟨mp,s5⟩:=s_;obtain ⟨rfl⟩:=bD;replace H:=H.nf;refine kA 1 ?_;intro aT cv H;refine ksw ?_;intro cw H;refine s_nil ?_;refine ⟨rfl,[cBlk aT [I x.way,B x.back] 222],H.pick [0,1,2,3,4,5,6,7,8,9,10] (by decide) rfl,?_⟩;clear H ay;intro w R ay H;replace aF:=aF.sub ay;replace aG:=aG.sub ay;replace aL:=aL.sub ay;replace aM:=aM.sub ay;replace aN:=aN.sub ay;replace aO:=aO.sub ay;replace hM:(m_balance_desk_reach_116_b4 d_ways_all d_ways_outside d_reaches ao ap aq au s2 aa (mp,s5) x).Ends r:=hM;simp only [m_balance_desk_reach_116_b4] at hM;replace H:=H.nf;refine kg 7 ?_;obtain ⟨cA,bE,hM⟩:=M.e_bind hM;refine s_callv (f:=116) rfl cq [.agg #[I x.way,B x.back]] rfl (balance_desk_shift_1_ok x ao ap aq au (aL.app _) a7 (aM.app _) (aN.app _) (aO.app _) bE _ (H.gt 11)) ?_;rintro _ cB ⟨r2,rfl,rfl,aC⟩;replace H:=H.bk aC;refine kI 2 ?_ ?_
    ·intro bF hM;refine W.exit ?_;exact ⟨(mp,s5),[cBlk ae [B s5] 4,cMl I encFar ac mp],(M.e_pure hM).symm,rfl,H.pick [1,2,3,4,5,6,7,8,9,10] (by decide) rfl⟩
    intro bF hM;refine kg 5 ?_;obtain ⟨cC,bG,hM⟩:=M.e_bind hM;refine s_callm (f:=117) (fs:=[Pq ab]) rfl cq [.agg #[I x.way,B x.back]] rfl (balance_desk_room_ok d_ways_all d_ways_outside d_reaches x (aF.app _) aK (aG.app _) bG _ (H.gt 11)) ?_;rintro _ cD ⟨r0,r1,rfl,rfl,aC⟩;replace H:=H.bk aC;obtain ⟨cE,hM⟩:=M.e_gq hM;obtain ⟨cF,hM⟩:=M.e_gq hM;refine kA 17 ?_;intro bi cG H;refine ksw ?_;intro cH H;refine kDT 2 [0,1,2,3,4,5,6,7,8,9,10,11] (.q 0 (.q 1 (.q 2 (.l2 3 (.q 4 (.q 5 (.q 6 (.q 7 (.l 8 (.l 9 (.q 10 .nil))))))) 8 (.l 3 (.q 4 (.q 5 (.q 6 (.q 7 (.l 9 (.q 10 .nil))))))))))) ?_;intro cI H;refine kg 3 ?_;refine t_l2 rfl rfl ?_ ?_
    ·refine kC 0 @balance_desk_to_ok ?_;intro cJ r3 hM H;refine kN ?_;refine t_q rfl (fun w' H=>q_look (kenc:=I) (venc:=encFar) (f:=lookM mp) (k:=(r3:Int)) (v:=.tuple #[.agg #[I (((lookM mp (r3:Int)).getD default).cost),I (((lookM mp (r3:Int)).getD default).many),I (((lookM mp (r3:Int)).getD default).way),B (((lookM mp (r3:Int)).getD default).back)],B ((lookM mp (r3:Int)).isSome)]) keyIntFar Tryz.underlying229 Al232.h rfl rfl (mlMap (H.get (k:=3) rfl)) true (by rw [if_pos rfl,far_val])) ?_;refine kA 4 ?_;intro aU cK H;refine kN ?_;refine kS 1 ?_;intro cL H;refine kN ?_;refine kI 28 ?_ ?_
     ·intro bH hM;refine kDo 0 [0,1,2,5,6,7,8,9,10,11,12] [(0,true),(1,true),(2,true),(4,true),(3,false),(5,false),(6,true),(7,false),(8,false)] ?_;intro cM H;refine kC 5 @balance_desk_to_ok ?_;intro cN r4 hM H;refine kN ?_;refine d_l rfl ?_;refine t_mentL (i:=4) (kenc:=I) (venc:=encFar) (m:=mp) (k:=(r4:Int)) (z:=default) keyIntFar Tryz.underlying229 Al232.h H rfl rfl rfl ?_;intro cO cP H;replace H:=H.nf;refine kN ?_;refine kG 2 ?_;refine t_enstL (i:=4) (kenc:=I) (venc:=encFar) (m0:=mp) (k:=(r4:Int)) (v:=(⟨((((lookM aa (s2:Int)).getD default).cost)+r0:Int),((((lookM aa (s2:Int)).getD default).many)+1:Int),(x.way:Int),x.back⟩:BFar)) (L':=[cBlk aU [I (((lookM mp (r3:Int)).getD default).cost),I (((lookM mp (r3:Int)).getD default).many),I (((lookM mp (r3:Int)).getD default).way),B (((lookM mp (r3:Int)).getD default).back)] 232,cBlk bi [I ((((lookM aa (s2:Int)).getD default).cost)+r0),I ((((lookM aa (s2:Int)).getD default).many)+1),I x.way,B x.back] 232,cBlk aT [I x.way,B x.back] 222,cBlk ae [B s5] 4,cMl I encFar ac (setM mp (r4:Int) (⟨((((lookM aa (s2:Int)).getD default).cost)+r0:Int),((((lookM aa (s2:Int)).getD default).many)+1:Int),(x.way:Int),x.back⟩:BFar)),cMk (aD :: az),cBlk aw [Pq ab] 107,cBlk ax [I av] 3,cBlk aB [I (((lookM aa (s2:Int)).getD default).cost),I (((lookM aa (s2:Int)).getD default).many),I (((lookM aa (s2:Int)).getD default).way),B (((lookM aa (s2:Int)).getD default).back)] 232,cBlk al [.func (.func 117) #[Pq ab] #[]] 224,cBlk ak [.map (some ac)] 229,cBlk aj [.func (.func 116) #[] #[Pq ag,Pq ah]] 227,cBlk ai [Pq ab] 107]) H rfl rfl rfl rfl rfl ?_;intro cQ H;refine kN ?_;refine kS 1 ?_;intro cR H;refine kN ?_;refine d_nil ?_;exact ⟨(setM mp (r4:Int) (⟨((((lookM aa (s2:Int)).getD default).cost)+r0:Int),((((lookM aa (s2:Int)).getD default).many)+1:Int),(x.way:Int),x.back⟩:BFar),true),[cBlk ae [B true] 4,cMl I encFar ac (setM mp (r4:Int) (⟨((((lookM aa (s2:Int)).getD default).cost)+r0:Int),((((lookM aa (s2:Int)).getD default).many)+1:Int),(x.way:Int),x.back⟩:BFar))],(M.e_pure hM).symm,rfl,H.pick [3,4,5,6,7,8,9,10,11,12] (by decide) rfl⟩
     intro bH hM;refine W.skip ?_;exact ⟨(mp,s5),[cBlk ae [B s5] 4,cMl I encFar ac mp],(M.e_pure hM).symm,rfl,H.pick [3,4,5,6,7,8,9,10,11,12] (by decide) rfl⟩
    refine kal ?_;intro aU cS H;refine kN ?_;refine kC 1 @balance_desk_to_ok ?_;intro cT r3 hM H;refine kN ?_;refine t_q rfl (fun w' H=>q_look (kenc:=I) (venc:=encFar) (f:=lookM mp) (k:=(r3:Int)) (v:=.tuple #[.agg #[I (((lookM mp (r3:Int)).getD default).cost),I (((lookM mp (r3:Int)).getD default).many),I (((lookM mp (r3:Int)).getD default).way),B (((lookM mp (r3:Int)).getD default).back)],B ((lookM mp (r3:Int)).isSome)]) keyIntFar Tryz.underlying229 Al232.h rfl rfl (mlMap (H.get (k:=3) rfl)) true (by rw [if_pos rfl,far_val])) ?_;refine kS 4 ?_;intro cU H;refine kN ?_;refine kI 28 ?_ ?_
    ·intro bI hM;refine kDo 0 [0,1,2,5,6,7,8,9,10,11,12] [(0,true),(1,true),(2,true),(4,true),(3,false),(5,false),(6,true),(7,false),(8,false)] ?_;intro cV H;refine kC 5 @balance_desk_to_ok ?_;intro cW r4 hM H;refine kN ?_;refine d_l rfl ?_;refine t_mentL (i:=4) (kenc:=I) (venc:=encFar) (m:=mp) (k:=(r4:Int)) (z:=default) keyIntFar Tryz.underlying229 Al232.h H rfl rfl rfl ?_;intro cX cY H;replace H:=H.nf;refine kN ?_;refine kG 2 ?_;refine t_enstL (i:=4) (kenc:=I) (venc:=encFar) (m0:=mp) (k:=(r4:Int)) (v:=(⟨((((lookM aa (s2:Int)).getD default).cost)+r0:Int),((((lookM aa (s2:Int)).getD default).many)+1:Int),(x.way:Int),x.back⟩:BFar)) (L':=[cBlk aU [I (((lookM mp (r3:Int)).getD default).cost),I (((lookM mp (r3:Int)).getD default).many),I (((lookM mp (r3:Int)).getD default).way),B (((lookM mp (r3:Int)).getD default).back)] 232,cBlk bi [I ((((lookM aa (s2:Int)).getD default).cost)+r0),I ((((lookM aa (s2:Int)).getD default).many)+1),I x.way,B x.back] 232,cBlk aT [I x.way,B x.back] 222,cBlk ae [B s5] 4,cMl I encFar ac (setM mp (r4:Int) (⟨((((lookM aa (s2:Int)).getD default).cost)+r0:Int),((((lookM aa (s2:Int)).getD default).many)+1:Int),(x.way:Int),x.back⟩:BFar)),cMk (aD :: az),cBlk aw [Pq ab] 107,cBlk ax [I av] 3,cBlk aB [I (((lookM aa (s2:Int)).getD default).cost),I (((lookM aa (s2:Int)).getD default).many),I (((lookM aa (s2:Int)).getD default).way),B (((lookM aa (s2:Int)).getD default).back)] 232,cBlk al [.func (.func 117) #[Pq ab] #[]] 224,cBlk ak [.map (some ac)] 229,cBlk aj [.func (.func 116) #[] #[Pq ag,Pq ah]] 227,cBlk ai [Pq ab] 107]) H rfl rfl rfl rfl rfl ?_;intro cZ H;refine kN ?_;refine kS 1 ?_;intro c3 H;refine kN ?_;refine d_nil ?_;exact ⟨(setM mp (r4:Int) (⟨((((lookM aa (s2:Int)).getD default).cost)+r0:Int),((((lookM aa (s2:Int)).getD default).many)+1:Int),(x.way:Int),x.back⟩:BFar),true),[cBlk ae [B true] 4,cMl I encFar ac (setM mp (r4:Int) (⟨((((lookM aa (s2:Int)).getD default).cost)+r0:Int),((((lookM aa (s2:Int)).getD default).many)+1:Int),(x.way:Int),x.back⟩:BFar))],(M.e_pure hM).symm,rfl,H.pick [3,4,5,6,7,8,9,10,11,12] (by decide) rfl⟩
    intro bI hM;refine W.skip ?_;exact ⟨(mp,s5),[cBlk ae [B s5] 4,cMl I encFar ac mp],(M.e_pure hM).symm,rfl,H.pick [3,4,5,6,7,8,9,10,11,12] (by decide) rfl⟩
   replace H:St w bB (cAll (cObj aI (.loop aR) :: [cBlk ae [B s6] 4,cMl I encFar ac aa]) :: [cMk (aD :: az),cBlk aw [Pq ab] 107,cBlk ax [I av] 3,cBlk aB [I (((lookM aa (s2:Int)).getD default).cost),I (((lookM aa (s2:Int)).getD default).many),I (((lookM aa (s2:Int)).getD default).way),B (((lookM aa (s2:Int)).getD default).back)] 232,cBlk al [.func (.func 117) #[Pq ab] #[]] 224,cBlk ak [.map (some ac)] 229,cBlk aj [.func (.func 116) #[] #[Pq ag,Pq ah]] 227,cBlk ai [Pq ab] 107]) R:=St.bundleB (A:=cObj aI (.loop aR) :: [cBlk ae [B s6] 4,cMl I encFar ac aa]) (T:=[cMk (aD :: az),cBlk aw [Pq ab] 107,cBlk ax [I av] 3,cBlk aB [I (((lookM aa (s2:Int)).getD default).cost),I (((lookM aa (s2:Int)).getD default).many),I (((lookM aa (s2:Int)).getD default).way),B (((lookM aa (s2:Int)).getD default).back)] 232,cBlk al [.func (.func 117) #[Pq ab] #[]] 224,cBlk ak [.map (some ac)] 229,cBlk aj [.func (.func 116) #[] #[Pq ag,Pq ah]] 227,cBlk ai [Pq ab] 107]) rfl (H.pk [0,2,3,1,4,5,6,7,8,9,10]);refine (balance_desk_steps_1_ok (M.yl (m_balance_desk_reach_116_b4 d_ways_all d_ways_outside d_reaches ao ap aq au s2 aa)) (.inl (aa,s6)) d_ways_all d_ways_outside d_reaches av hYC ⟨_,rfl,rfl⟩ (aF.app _) aK (aG.app _) (Has.here (k:=1) rfl) (Has.here (k:=2) rfl) bA _ (H.gt 8)).mono ?_;rintro vq c4 ⟨bJ,c6,rfl,hvq,aC,bj⟩;replace H:=H.back aC rfl;clear aC hYC;rcases bJ with ⟨mp,s5⟩ | _
   ·obtain ⟨_,rfl,rfl⟩:=bj;refine ⟨_,[cBlk ae [B s5] 4,cMl I encFar ac mp,cBlk aw [Pq ab] 107,cBlk ax [I av] 3,cBlk aB [I (((lookM aa (s2:Int)).getD default).cost),I (((lookM aa (s2:Int)).getD default).many),I (((lookM aa (s2:Int)).getD default).way),B (((lookM aa (s2:Int)).getD default).back)] 232,cBlk al [.func (.func 117) #[Pq ab] #[]] 224,cBlk ak [.map (some ac)] 229,cBlk aj [.func (.func 116) #[] #[Pq ag,Pq ah]] 227,cBlk ai [Pq ab] 107],H.unbundle.pick [0,3,1,2,4,5,6,7,8,9,10] (by decide) rfl,aS.nb,?_⟩;intro c7 H;rw [aS.pd];replace H:=H.nf
    try simp only []
    replace H:=H.pk [0,1,2,6,7,8,9];refine WD.of ?_;obtain ⟨c8,hM⟩:=M.e_gq hM;exact kXp 4 [1,3,4,2,5,6,0]
   obtain ⟨_,_,h_⟩:=bj; exact h_.elim
  replace hM:=M.e_f hM aA;replace aA:=dI aA;refine WD.of ?_;refine W.exit ?_;obtain rfl:=M.e_inr hM bw;replace hM:=bu;refine WD.seq<|WD.of ?_;refine kg 3 ?_;refine WD.of ?_;refine kA 1 ?_;intro c9 da H;refine ksw ?_;intro dc H
  exact kXp 1 [0,2,3,4,5,6,7]
 replace hM:=M.e_f hM aP;refine WD.of ?_;refine W.exit ?_;obtain rfl:=M.e_inr hM br;replace hM:=bn;replace H:=H.pk [2,3,6];refine WD.seq<|WD.of ?_;refine kg 4 ?_;refine WD.of ?_;refine W.ret ?_;refine bodyD_r (H.pk [2,0,1]) ?_;intro dg H;replace H:=H.nf
 have bK:=M.e_pure hM;exact ⟨_,resE_tmp rfl,⟨aH,ac,bK,rfl,(H.pk [1])⟩⟩

def m_balance_desk_shift_b0 (d_ways_outside d_reaches at_:Int) (up:Bool) (most:Int):((List BWay) × Int)->M (((List BWay) × Int) ⊕ (Int × (List BWay) × (List BWay))):=fun (l2,total) =>
  bif decide (total<most) then (
  M.bind (m_balance_desk_room l2 d_ways_outside d_reaches (⟨(at_:Int),(!up)⟩:BStep)) fun (r0,r1) =>
  M.bind (m_balance_desk_to l2 d_ways_outside d_reaches (⟨(at_:Int),(!up)⟩:BStep)) fun r2 =>
  M.bind (m_balance_desk_to l2 d_ways_outside d_reaches (⟨(at_:Int),up⟩:BStep)) fun r3 =>
  M.bind (m_balance_desk_reach_116 l2 d_ways_outside d_reaches r2 l2 d_ways_outside d_reaches at_) fun r4 =>
  bif ((!((lookM r4 (r3:Int)).isSome))||(decide (0<r0))) then (
  M.pure (.inr (total,l2,l2)))
  else (
  M.gi (most-total) <|
  M.bind (m_balance_desk_moved l2 d_ways_outside d_reaches r2 r3 r4 (min r1 (most-total))) fun (r5,l_d_ways_all) =>
  bif up then (
  M.grd (decide ((0:Int)<=at_)&&decide (at_<(l_d_ways_all.length:Int))) <|
  M.gi (((l_d_ways_all.getD (Int.toNat at_) default).now)+r5) <|
  M.gi (total+r5) <|
  M.pure (.inl (l_d_ways_all.set (Int.toNat at_) ({ (l_d_ways_all.getD (Int.toNat at_) default) with now:=((l_d_ways_all.getD (Int.toNat at_) default).now)+r5 }),total+r5)))
  else (
  M.grd (decide ((0:Int)<=at_)&&decide (at_<(l_d_ways_all.length:Int))) <|
  M.gi (((l_d_ways_all.getD (Int.toNat at_) default).now)-r5) <|
  M.gi (total+r5) <|
  M.pure (.inl (l_d_ways_all.set (Int.toNat at_) ({ (l_d_ways_all.getD (Int.toNat at_) default) with now:=((l_d_ways_all.getD (Int.toNat at_) default).now)-r5 }),total+r5)))))
  else (
  M.pure (.inr (total,l2,l2)))
def m_balance_desk_shift (d_ways_all:List BWay) (d_ways_outside d_reaches at_:Int) (up:Bool) (most:Int):M (Int × (List BWay)) :=
  M.bind (M.iter (m_balance_desk_shift_b0 d_ways_outside d_reaches at_ up most) (d_ways_all,0)) fun (total2,l3,l4) =>
  M.pure (total2,l4)
theorem balance_desk_shift_ok {R aa ag}(d_ways_all d_ways_outside d_reaches at_ up most){r}(hM:(m_balance_desk_shift d_ways_all d_ways_outside d_reaches at_ up most).Ends r)(w)(H:St w w [cOwn (α:=BWay) 120 ag d_ways_all,cBlk aa [ag,I d_ways_outside,I d_reaches] 114] R):Ret Tryz.prog 69 #[Pq aa,I at_,B up,I most] w fun v w'=>∃ y0 y1 u0,(y0,y1)=r/\v=I y0/\St w w' [cOwn (α:=BWay) 120 u0 y1,cBlk aa [u0,I d_ways_outside,I d_reaches] 114] R:=by
 refine ret_of_W Tryz.func69 rfl rfl rfl ?_;refine kB 2 ?_;intro ab az H;refine kbx ?_;intro ac aA H;refine kg 4 ?_;refine s_val (x_mf (fs:=[]) (cs:=[Pq ab,Pq ac]) rfl rfl) ?_;refine kA 1 ?_;intro ah aB H;refine ksw ?_;intro aC H;refine kA 7 ?_;intro ai aD H;refine ksw ?_;intro aE H;refine kg 7 ?_;obtain ⟨ao,aj,ak⟩:=M.e_bind hM;obtain ⟨aF,aj⟩:=M.e_iter aj;refine W.loop (fun m σ W=>∃ (l2:List BWay) (total:Int) (ae:Value) (ρ:Env),σ=upds ρ [(2,B up),(3,I most),(4,Pq ab),(5,Pq ac),(9,Pq ah),(10,Pq ai),(11,I total)]/\M.iterN (m_balance_desk_shift_b0 d_ways_outside d_reaches at_ up most) m (l2,total)=some ao/\St w W [cBlk ai [I at_,B (!up)] 222,cBlk ah [.func (.func 116) #[] #[Pq ab,Pq ac]] 227,cBlk ac [I at_] 3,cBlk ab [Pq aa] 107,cOwn (α:=BWay) 120 ae l2,cBlk aa [ae,I d_ways_outside,I d_reaches] 114] R) ?_ ?_
 ·exact kY
 rintro aG σ aH ⟨l2,total,ae,ρ,rfl,ap,H⟩;obtain ⟨aI,aJ,aK,hM,al⟩:=M.e_iterN ap;refine kI 7 ?_ ?_
 ·intro aq hM;refine kC 6 @balance_desk_room_ok ?_;intro aL r0 r1 hM H;refine kDo 7 [0,1,2,3,4,5] [(0,true),(1,true),(3,true),(4,true),(5,true),(6,true),(2,false),(7,false),(8,true),(9,true)] ?_;intro aM H;refine kC 7 @balance_desk_to_ok ?_;intro aN r2 hM H;refine kN ?_;refine kC 1 @balance_desk_to_ok ?_;intro aO r3 hM H;refine kN ?_;refine kC 8 @balance_desk_reach_116_ok ?_;intro aP r4 au hM H;refine kg 7 ?_;refine s_val (q_look (kenc:=I) (venc:=encFar) (f:=lookM r4) (k:=(r3:Int)) (v:=.tuple #[.agg #[I (((lookM r4 (r3:Int)).getD default).cost),I (((lookM r4 (r3:Int)).getD default).many),I (((lookM r4 (r3:Int)).getD default).way),B (((lookM r4 (r3:Int)).getD default).back)],B ((lookM r4 (r3:Int)).isSome)]) keyIntFar Tryz.underlying229 Al232.h rfl rfl (mlMap (H.get (k:=0) rfl)) true (by rw [if_pos rfl,far_val])) ?_;refine kA 3 ?_;intro aQ aR H;refine ksw ?_;intro aS H;refine kI 11 ?_ ?_
  ·intro av hM;refine W.exit ?_;obtain rfl:=M.e_inr hM al;replace hM:=ak;replace H:=H.pk [6,7];refine kg 5 ?_;exact rt
  intro av hM;obtain ⟨aT,hM⟩:=M.e_gq hM;refine kg 12 ?_;obtain ⟨aU,aw,hM⟩:=M.e_bind hM;refine s_call cq [Pq aa,I r2,I r3,.map (some au),I (min r1 (most-total))] rfl (balance_desk_moved_ok l2 d_ways_outside d_reaches r2 r3 r4 (min r1 (most-total)) (Has.here (k:=1) rfl) aw _ ((H.pk [6,7,0,1,2,3,4,5]).gt 6)) ?_;rintro _ aV ⟨r5,l_d_ways_all,aW,rfl,rfl,ax⟩;replace H:=H.pk [6,7,0,1,2,3,4,5] |>.bk ax
  refine kg 2 ?_;replace H:=H.pk [0,1,4,5,6,7];refine kI 5 ?_ ?_
  ·intro ay hM;refine kDo 0 [1,2,3,4,5] [(0,true),(1,true),(2,true),(3,true),(4,true),(5,true),(9,true),(6,false),(7,false),(8,false),(10,true),(11,false),(12,false),(13,false)] ?_;intro aX H;refine kG 8 ?_;obtain ⟨aY,hM⟩:=M.e_gq hM;refine kG 1 ?_;refine kN ?_;refine kG 2 ?_;refine kN ?_;refine kG 2 ?_;refine kN ?_;obtain ⟨aZ,hM⟩:=M.e_gq hM;refine kG 3 ?_;refine kN ?_;refine kG 2 ?_;refine kN ?_;refine kO 1 (α:=BWay) ({ (l_d_ways_all.getD (Int.toNat at_) default) with now:=((l_d_ways_all.getD (Int.toNat at_) default).now)+r5 }) ?_;intro a7 H;have a8:(l_d_ways_all.set (Int.toNat at_) ({ (l_d_ways_all.getD (Int.toNat at_) default) with now:=((l_d_ways_all.getD (Int.toNat at_) default).now)+r5 })).length=(l_d_ways_all).length:=List.length_set;refine kN ?_;obtain ⟨bc,hM⟩:=M.e_gq hM;exact kXp 7 [2,3,4,5,0,1]
  intro ay hM;refine kDo 0 [1,2,3,4,5] [(0,true),(1,true),(2,true),(3,true),(4,true),(5,true),(9,true),(6,false),(7,false),(8,false),(10,true),(11,false),(12,false),(13,false)] ?_;intro bf H;refine kG 8 ?_;obtain ⟨bh,hM⟩:=M.e_gq hM;refine kG 1 ?_;refine kN ?_;refine kG 2 ?_;refine kN ?_;refine kG 2 ?_;refine kN ?_;obtain ⟨bi,hM⟩:=M.e_gq hM;refine kG 3 ?_;refine kN ?_;refine kG 2 ?_;refine kN ?_;refine kO 1 (α:=BWay) ({ (l_d_ways_all.getD (Int.toNat at_) default) with now:=((l_d_ways_all.getD (Int.toNat at_) default).now)-r5 }) ?_;intro bj H;have bm:(l_d_ways_all.set (Int.toNat at_) ({ (l_d_ways_all.getD (Int.toNat at_) default) with now:=((l_d_ways_all.getD (Int.toNat at_) default).now)-r5 })).length=(l_d_ways_all).length:=List.length_set;refine kN ?_;obtain ⟨bn,hM⟩:=M.e_gq hM;exact kXp 7 [2,3,4,5,0,1]
 intro aq hM;refine W.exit ?_;obtain rfl:=M.e_inr hM al;replace hM:=ak;replace H:=H.pk [4,5];refine kg 5 ?_;exact rt

def m_balance_desk_span (d_ways_all:List BWay) (d_ways_outside d_reaches at_:Int):M (Int × Int) :=
  M.bind (m_balance_desk_copied d_ways_all d_ways_outside d_reaches) fun (r0,r1,r2) =>
  M.bind (m_balance_desk_copied d_ways_all d_ways_outside d_reaches) fun (aa,ab,ac) =>
  M.bind (m_balance_desk_shift r0 r1 r2 at_ false 100000000) fun (r3,l_d_ways_all) =>
  M.bind (m_balance_desk_shift aa ab ac at_ true 100000000) fun (r4,l_d_ways_all2) =>
  M.grd (decide ((0:Int)<=at_)&&decide (at_<(l_d_ways_all.length:Int))) <|
  M.grd (decide ((0:Int)<=at_)&&decide (at_<(l_d_ways_all2.length:Int))) <|
  M.pure (((l_d_ways_all.getD (Int.toNat at_) default).now),((l_d_ways_all2.getD (Int.toNat at_) default).now))
theorem balance_desk_span_ok {R ab ac ae}(d_ways_all d_ways_outside d_reaches at_)(ap:Reads R ac)(aq:Sl ac ae d_ways_all)(au:Has R (cBlk ab [ae,I d_ways_outside,I d_reaches] 114)){r}(hM:(m_balance_desk_span d_ways_all d_ways_outside d_reaches at_).Ends r)(w)(H:St w w [] R):Ret Tryz.prog 35 #[Pq ab,I at_] w fun v w'=>∃ y0 y1,(y0,y1)=r/\v = .agg #[I y0,I y1]/\St w w' [] R:=by
 refine ret_of_W Tryz.func35 rfl rfl rfl ?_;refine kA 2 ?_;intro av aw H;refine kC 4 @balance_desk_copied_ok ?_;intro ax r0 r1 r2 ag ay hM H;refine kC 1 @balance_desk_copied_ok ?_;intro az ah ai aj ak aA hM H;refine kg 7 ?_;obtain ⟨aB,al,hM⟩:=M.e_bind hM;refine s_call cq [Pq ag,I at_,B false,I 100000000] rfl (balance_desk_shift_ok r0 r1 r2 at_ false 100000000 al _ ((H.pk [3,2,0,1,4]).gt 3)) ?_;rintro _ aC ⟨r3,l_d_ways_all,aD,rfl,rfl,aa⟩;replace H:=H.pk [3,2,0,1,4] |>.bk aa
 refine kg 5 ?_;obtain ⟨aE,ao,hM⟩:=M.e_bind hM;refine s_call cq [Pq ak,I at_,B true,I 100000000] rfl (balance_desk_shift_ok ah ai aj at_ true 100000000 ao _ ((H.pk [3,2,0,1,4]).gt 3)) ?_;rintro _ aF ⟨r4,l_d_ways_all2,aG,rfl,rfl,aa⟩;replace H:=H.pk [3,2,0,1,4] |>.bk aa
 refine kD 2 [0,1,2,3] [19] ?_;intro aH H;obtain ⟨aI,hM⟩:=M.e_gq hM;obtain ⟨aJ,hM⟩:=M.e_gq hM;refine kS 20 ?_;intro aK H;refine kN ?_;refine d_nil ?_;replace H:=H.pk [4];exact kR 0 []

def m_balance_Spans_b0 (ab:List BWay) (ae ac:Int):(Nat × (List Span) × (List Span))->M ((Nat × (List Span) × (List Span)) ⊕ ((List Span) × (List Span) × (List Span) × (List Span))):=fun (s,l,l2) =>
  bif decide ((s:Int)<(ab.length:Int)) then (
  M.bind (m_balance_desk_span ab ae ac (s:Int)) fun (r0,aa) =>
  bif decide ((s:Int)<ac) then (
  M.grd (decide ((l.length+([(⟨(r0:Int),(aa:Int)⟩:Span)]).length)*16<=140737488355328)) <|
  M.pure (.inl (s+1,l++([(⟨(r0:Int),(aa:Int)⟩:Span)]),l2)))
  else (
  M.grd (decide ((l2.length+([(⟨(r0:Int),(aa:Int)⟩:Span)]).length)*16<=140737488355328)) <|
  M.pure (.inl (s+1,l,l2++([(⟨(r0:Int),(aa:Int)⟩:Span)])))))
  else (
  M.pure (.inr (l,l2,l2,l)))
def m_balance_Spans (n_Gains:List Span) (n_Reaches:List BRch):M ((List Span) × (List Span) × Int) :=
  M.bind (m_balance_fitting n_Gains n_Reaches) fun x_=>match x_ with
  | (.inl r1)=>(
  bif r1 != 0 then (
  M.pure (([]),([]),r1))
  else (
  M.fail))
  | (.inr (aa,ab,ac,ae))=>(
  bif ae != 0 then (
  M.fail)
  else (
  M.bind (M.iter (m_balance_Spans_b0 aa ab ac) (0,[],[])) fun (l3,l4,l5,l6) =>
  M.pure (l6,l5,0)))
theorem balance_Spans_ok {R ai aa aj ab}(n_Gains n_Reaches)(av:Reads R ai)(aw:Sl ai aa n_Gains)(ax:Reads R aj)(ay:Sl aj ab n_Reaches){r}(hM:(m_balance_Spans n_Gains n_Reaches).Ends r)(w)(H:St w w [] R):Ret Tryz.prog 9 #[.agg #[aa,ab]] w fun v w'=>∃ y0 y1 y2 u0 u1,(y0,y1,y2)=r/\v = .tuple #[u0,u1,I y2]/\St w w' [cOwn (α:=Span) 32 u0 y0,cOwn (α:=Span) 32 u1 y1] R:=by
 refine ret_of_W Tryz.func9 rfl rfl rfl ?_;refine kB 2 ?_;intro az aM H;refine kg 7 ?_;obtain ⟨aN,aA,hM⟩:=M.e_bind hM;refine s_call cq [.agg #[aa,ab]] rfl (balance_fitting_ok n_Gains n_Reaches (av.app _) aw (ax.app _) ay aA _ (H.gt 1)) ?_;rintro vq aO (⟨r1,aB,hvq,ac⟩ | ⟨ae,ak,al,aP,ao,ap,aC,hvq,ac⟩)
 ·subst aB;subst vq;replace H:=H.bk ac;refine kI 12 ?_ ?_
  ·intro aD hM;refine kg 7 ?_;refine W.ret ?_;have aE:=M.e_pure hM;replace H:=H.nilOwn (α:=Span) 32;replace H:=H.nilOwn (α:=Span) 32;exact ⟨_,resE_tmp3 rfl,⟨([]),([]),r1,(.slice none 0 0),(.slice none 0 0),aE,rfl,(H.pk [1,0])⟩⟩
  intro aD hM;exact (M.e_fail hM).elim
 subst aC;subst vq;replace H:=H.bk ac;refine kI 12 ?_ ?_
 ·intro aF hM;exact (M.e_fail hM).elim
 intro aF hM;have aQ:=((H.os 1)).len_le;refine kg 13 ?_;replace H:=H.nilOwn (α:=Span) 32;replace H:=H.nilOwn (α:=Span) 32;obtain ⟨aG,aq,aH⟩:=M.e_bind hM;obtain ⟨aR,aq⟩:=M.e_iter aq;refine W.loop (fun m σ W=>∃ (s:Nat) (l:List Span) (l2:List Span) (ag:Value) (ah:Value) (ρ:Env),σ=upds ρ [(2,ag),(3,ah),(5,Pq ao),(21,I (ae.length:Int)),(22,I (s:Int))]/\M.iterN (m_balance_Spans_b0 ae ak al) m (s,l,l2)=some aG/\St w W [cOwn (α:=Span) 32 ah l2,cOwn (α:=Span) 32 ag l,cBlk ao [ap,I ak,I al] 114,cOwn (α:=BWay) 120 ap ae,cBlk az [aa,ab] 43] R) ?_ ?_
 ·exact kY
 rintro aS σ aT ⟨s,l,l2,ag,ah,ρ,rfl,aI,H⟩;obtain ⟨aU,aV,aW,hM,aJ⟩:=M.e_iterN aI;refine kI 5 ?_ ?_
 ·intro aK hM;refine kC 12 @balance_desk_span_ok ?_;intro aX r0 au hM H;refine kal ?_;intro aY aZ H;refine ksw ?_;intro a7 H;refine kI 10 ?_ ?_
  ·intro aL hM;refine kL 3 (α:=Span) [⟨r0,au⟩] ?_;intro a8 bc H;obtain ⟨bf,hM⟩:=M.e_gq hM;refine kP 0 ?_;intro bh bi H;refine kg 2 ?_;replace H:=H.pk [2,3,4,5,6];exact kX 4
  intro aL hM;refine kL 3 (α:=Span) [⟨r0,au⟩] ?_;intro bj bm H;obtain ⟨bn,hM⟩:=M.e_gq hM;refine kP 0 ?_;intro bo bp H;refine kg 2 ?_;replace H:=H.pk [2,3,4,5,6];exact kX 4
 intro aK hM;refine W.exit ?_;obtain rfl:=M.e_inr hM aJ;replace hM:=aH;replace H:=H.pk [0,1];exact kR 8 [1,0]

end Go.Proofs.YtlfkkkbhejeplaaGreat
end
section
set_option maxRecDepth 100000
set_option maxHeartbeats 16000000
namespace Go.Proofs.YtlfkkkbhejeplaaGreat
open Go Go.Nm
attribute [local irreducible] gd execOp SL SLD SLT WR
def m_balance_Group_b0 (n_Gains:List Span) (stations:List Int):(Int × Int × Nat)->M ((Int × Int × Nat) ⊕ Int):=fun (e2,last,s) =>
  bif decide ((s:Int)<(stations.length:Int)) then (
  M.grd (decide ((s:Int)<(stations.length:Int))) <|
  M.grd ((!(e2==0)||(decide ((-9223372036854775808:Int)<=(last+1))&&decide ((last+1)<=(9223372036854775807:Int))))) <|
  M.bind (M.opt (e2==0) (m_balance_in (stations.getD s 0) (last+1) ((n_Gains.length:Int)-1)) false) fun r3 =>
  bif ((e2==0)&&(!r3)) then (
  M.pure (.inl (2,stations.getD s 0,s+1)))
  else (
  M.pure (.inl (e2,stations.getD s 0,s+1))))
  else (
  M.pure (.inr e2))
def m_balance_Group_b1 (stations:List Int) (ab aa:Int):((List BWay) × Int × Nat)->M (((List BWay) × Int × Nat) ⊕ ((List BWay) × Int × (List BWay))):=fun (l,total,s2) =>
  bif decide ((s2:Int)<(stations.length:Int)) then (
  M.grd (decide ((s2:Int)<(stations.length:Int))) <|
  M.gi (aa+(stations.getD s2 0)) <|
  M.grd (decide ((0:Int)<=(aa+(stations.getD s2 0)))&&decide ((aa+(stations.getD s2 0))<(l.length:Int))) <|
  M.gi (total+(((l.set (Int.toNat (aa+(stations.getD s2 0))) ({ (l.getD (Int.toNat (aa+(stations.getD s2 0))) default) with src:=ab+1 })).getD (Int.toNat (aa+(stations.getD s2 0))) default).now)) <|
  M.pure (.inl (l.set (Int.toNat (aa+(stations.getD s2 0))) ({ (l.getD (Int.toNat (aa+(stations.getD s2 0))) default) with src:=ab+1 }),total+(((l.set (Int.toNat (aa+(stations.getD s2 0))) ({ (l.getD (Int.toNat (aa+(stations.getD s2 0))) default) with src:=ab+1 })).getD (Int.toNat (aa+(stations.getD s2 0))) default).now),s2+1)))
  else (
  M.pure (.inr (l,total,l)))
def m_balance_Group_j2 (n_Gains:List Span) (n_Reaches:List BRch) (stations:List Int) (e4:Int):M (Int × Int × Int) :=
  bif e4 != 0 then (
  M.pure (0,0,e4))
  else (
  M.bind (m_balance_fitting n_Gains n_Reaches) fun x_=>match x_ with
  | (.inl r1)=>(
  bif r1 != 0 then (
  M.pure (0,0,r1))
  else (
  M.fail))
  | (.inr (ac,ae,ag,ah))=>(
  bif ah != 0 then (
  M.fail)
  else (
  M.bind (m_balance_desk_copied ac ae ag) fun (r0,aa,ab) =>
  M.gi (aa+1) <|
  M.bind (M.iter (m_balance_Group_b1 stations aa ab) (r0,0,0)) fun (l2,total2,l3) =>
  M.grd (decide ((r0.length:Int)=(l3.length:Int))) <|
  M.grd (decide (0<l3.length)&&decide (0<([(⟨(aa:Int),(aa+1:Int),(-100000000:Int),(100000000:Int),(total2:Int)⟩:BWay)]).length)&&decide ((l3.length+([(⟨(aa:Int),(aa+1:Int),(-100000000:Int),(100000000:Int),(total2:Int)⟩:BWay)]).length)*40<=140737488355328)) <|
  M.bind (m_balance_desk_span (l3++([(⟨(aa:Int),(aa+1:Int),(-100000000:Int),(100000000:Int),(total2:Int)⟩:BWay)])) aa ab (r0.length:Int)) fun (ai,aj) =>
  M.pure (ai,aj,0))))
def m_balance_Group (n_Gains:List Span) (n_Reaches:List BRch) (stations:List Int):M (Int × Int × Int) :=
  M.bind (m_balance_Check n_Gains n_Reaches) fun r2 =>
  M.bind (M.iter (m_balance_Group_b0 n_Gains stations) (r2,-1,0)) fun e3 =>
  bif ((e3==0)&&((stations.length:Int)==0)) then (
  m_balance_Group_j2 n_Gains n_Reaches stations 2)
  else (
  m_balance_Group_j2 n_Gains n_Reaches stations e3)
theorem balance_Group_ok {R ap ah aq ai au ae}(n_Gains n_Reaches stations)(aB:Reads R ap)(av:Sl ap ah n_Gains)(aC:Reads R aq)(aD:Sl aq ai n_Reaches)(bo:Reads R au)(ak:Sl au ae stations){r}(hM:(m_balance_Group n_Gains n_Reaches stations).Ends r)(w)(H:St w w [] R):Ret Tryz.prog 10 #[.agg #[ah,ai],ae] w fun v w'=>∃ y0 y1 y2,(y0,y1,y2)=r/\v = .tuple #[.agg #[I y0,I y1],I y2]/\St w w' [] R:=by
 refine ret_of_W Tryz.func10 rfl rfl rfl ?_;refine kB 2 ?_;intro aj bp H;refine kal ?_;intro ag br H;refine kC 5 @balance_Check_ok ?_;intro bt r2 hM H;have bu:=(ak).len_le;refine kg 14 ?_;obtain ⟨aE,aw,aF⟩:=M.e_bind hM;obtain ⟨aG,aw⟩:=M.e_iter aw;refine W.loop (fun m σ W=>∃ (e2:Int) (last:Int) (s:Nat) (ρ:Env),σ=upds ρ [(1,ae),(2,Pq aj),(4,Pq ag),(6,I e2),(7,I last),(19,ae),(20,I (stations.length:Int)),(21,I (s:Int))]/\M.iterN (m_balance_Group_b0 n_Gains stations) m (e2,last,s)=some aE/\St w W [cBlk ag [I 0,I 0] 32,cBlk aj [ah,ai] 43] R) ?_ ?_
 ·exact kY
 rintro bv σ bw ⟨e2,last,s,ρ,rfl,aH,H⟩;obtain ⟨bA,bB,bC,hM,aI⟩:=M.e_iterN aH;refine kI 5 ?_ ?_
 ·intro aJ hM;obtain ⟨bD,hM⟩:=M.e_gq hM;obtain ⟨al,hM⟩:=M.e_grd hM;replace al:=M.imp_of al;simp only [Bool.and_eq_true,decide_eq_true_eq] at al;have bE:=(av).len_le;refine kg 22 ?_;obtain ⟨r3,aK,hM⟩:=M.e_bind hM;refine t_gcall (e2==0) (gy_t rfl) cq (B r3) (fun _=>[I (stations.getD s 0),I (last+1),I ((n_Gains.length:Int)-1)]) (fun hg=>lst3 (gd_of hg (I (stations.getD s 0))) (gd_of hg (I (last+1))) (gd_of hg (I ((n_Gains.length:Int)-1)))) H (fun hg=>(balance_in_ok (stations.getD s 0) (last+1) ((n_Gains.length:Int)-1) (M.e_opt aK hg) _ (H.give (A:=[]) rfl)).mono fun v_ w_ ⟨y_,aL,aM,H_⟩=>by subst aL; exact ⟨aM,H.via H_⟩) ?_;intro bF H;refine kI 3 ?_ ?_
  ·intro aN hM;exact kX 11
  intro aN hM;exact kX 9
 intro aJ hM;refine W.exit ?_;obtain rfl:=M.e_inr hM aI;replace hM:=aF;refine W.seqJ (fun σ W=>∃ (e4:Int) (ρ:Env),σ=upds ρ [(1,ae),(2,Pq aj),(4,Pq ag),(6,I e4)]/\(m_balance_Group_j2 n_Gains n_Reaches stations e4).Ends r/\St w W [cBlk ag [I 0,I 0] 32,cBlk aj [ah,ai] 43] R) ?_ ?_
 ·have bG:=(ak).len_le;refine kI 10 ?_ ?_
  ·intro aO hM;refine kg 3 ?_;exact ⟨2,_,jQ,hM,H⟩
  intro aO hM;refine W.skip ?_;exact ⟨e2,_,jQ,hM,H⟩
 rintro _ bH ⟨e4,ρ,rfl,hM,H⟩;unfold m_balance_Group_j2 at hM;refine kI 6 ?_ ?_
 ·intro aP hM;refine kS 4 ?_;intro bI H;exact kR 2 []
 intro aP hM;refine kg 4 ?_;obtain ⟨bJ,aQ,hM⟩:=M.e_bind hM;refine s_call cq [.agg #[ah,ai]] rfl (balance_fitting_ok n_Gains n_Reaches (aB.app _) av (aC.app _) aD aQ _ (H.gt 2)) ?_;rintro vq bK (⟨r1,aR,hvq,ao⟩ | ⟨bL,bM,bN,bO,bP,bQ,aS,hvq,ao⟩)
 ·subst aR;subst vq;replace H:=H.bk ao;refine kI 12 ?_ ?_
  ·intro aT hM;refine kS 4 ?_;intro bR H;exact kR 2 []
  intro aT hM;exact (M.e_fail hM).elim
 subst aS;subst vq;replace H:=H.bk ao;refine kI 12 ?_ ?_
 ·intro aU hM;exact (M.e_fail hM).elim
 intro aU hM;refine kC 4 @balance_desk_copied_ok ?_;intro bS r0 aa ab ax bT hM H;refine kg 2 ?_;replace H:=H.pk [0,1,4];refine kD 1 [0,1,2] [] ?_;intro bU H;obtain ⟨bV,hM⟩:=M.e_gq hM;have bW:=((H.os 1)).len_le;have bX:=(ak).len_le;refine kg 27 ?_;obtain ⟨aV,ay,aW⟩:=M.e_bind hM;obtain ⟨aG,ay⟩:=M.e_iter ay;refine W.loop (fun m σ W=>∃ (l:List BWay) (total:Int) (s2:Nat) (ac:Value) (ρ:Env),σ=upds ρ [(4,Pq ag),(10,Pq ax),(11,I (aa+1)),(12,I (r0.length:Int)),(13,I total),(74,ae),(75,I (stations.length:Int)),(76,I (s2:Int))]/\M.iterN (m_balance_Group_b1 stations aa ab) m (l,total,s2)=some aV/\St w W [cBlk ax [ac,I aa,I ab] 114,cOwn (α:=BWay) 120 ac l,cBlk ag [I 0,I 0] 32] R) ?_ ?_
 ·exact kY
 rintro bY σ bZ ⟨l,total,s2,ac,ρ,rfl,aX,H⟩;obtain ⟨b5,b6,b7,hM,aY⟩:=M.e_iterN aX;refine kI 5 ?_ ?_
 ·intro aZ hM;obtain ⟨b8,hM⟩:=M.e_gq hM;refine kD 10 [0,1,2] [] ?_;intro b9 H;obtain ⟨cb,hM⟩:=M.e_gq hM;obtain ⟨cc,hM⟩:=M.e_gq hM;refine kg 18 ?_;refine s_val (x_ncE (p:=vat ac 5 (Int.toNat (ab+(stations.getD s2 0)))) rfl (Sl.pl (i:=ab+(stations.getD s2 0)) (H.os 1) (by omega) (by omega))) ?_;refine kO 1 (α:=BWay) ({ (l.getD (Int.toNat (ab+(stations.getD s2 0))) default) with src:=aa+1 }) ?_;intro cd H;have ce:(l.set (Int.toNat (ab+(stations.getD s2 0))) ({ (l.getD (Int.toNat (ab+(stations.getD s2 0))) default) with src:=aa+1 })).length=(l).length:=List.length_set;refine kg 4 ?_;refine s_val (x_ncE (p:=vat ac 5 (Int.toNat (ab+(stations.getD s2 0)))) rfl (Sl.pl (i:=ab+(stations.getD s2 0)) (H.os 1) (by omega) (by omega))) ?_;obtain ⟨cf,hM⟩:=M.e_gq hM;exact kX 9
 intro aZ hM;refine W.exit ?_;obtain rfl:=M.e_inr hM aY;replace hM:=aW;refine kDT 1 [1,2] (.q 0 (.q 1 (.q 2 (.q 3 (.q 4 (.q 6 (.q 7 (.q 9 (.q 10 (.q 11 (.q 12 (.q 14 (.q 15 (.q 16 (.l2 5 (.q 8 (.l 13 (.q 17 (.l 18 (.l 19 (.q 20 (.q 21 (.q 22 (.l 23 .nil))))))))) 13 (.q 17 (.l2 5 (.q 8 (.l 18 (.l 19 (.q 20 (.q 21 (.q 22 (.l 23 .nil))))))) 18 (.l 5 (.q 8 (.l 19 (.q 20 (.q 21 (.q 22 (.l 23 .nil)))))))))))))))))))))))) ?_;intro cg H;refine kG 13 ?_;obtain ⟨ch,hM⟩:=M.e_gq hM;obtain ⟨cj,hM⟩:=M.e_gq hM;refine kg 1 ?_;refine t_l2 rfl rfl ?_ ?_
 ·refine kG 1 ?_;refine kN ?_;obtain ⟨a7,a8,bc⟩:=sl_full T110.h.und T110.h.size (H.os 1) (j:=(r0.length:Int)) (by omega);refine t_q rfl (fun w' H=>x_sl (v:=ac) (u:=(.slice a7 l.length l.length)) (lo':=none) (hi':=some (I (r0.length:Int))) (mx':=some (I (r0.length:Int))) rfl rfl rfl rfl (a8 _)) ?_;refine kG 2 ?_;refine kN ?_;refine kL 2 (α:=BWay) [⟨aa,aa+1,-100000000,100000000,total⟩] ?_;intro ck ct H;refine kN ?_;refine t_l rfl ?_;refine t_app3 (α:=BWay) (l:=l) (l2:=[(⟨(aa:Int),(aa+1:Int),(-100000000:Int),(100000000:Int),(total:Int)⟩:BWay)]) T110.h H rfl rfl bc (H.ol 2) (H.os 0) (H.ol 0) (by omega) (by omega) (by omega) (by omega) ?_;intro cu cv H;refine kN ?_;refine kS 4 ?_;intro cw H;refine kN ?_;refine t_nil ?_;replace H:=H.pk [0,2,4];refine kC 4 @balance_desk_span_ok ?_;intro cA az aA hM H;refine ksw ?_;intro cB H;refine kg 2 ?_;replace H:=H.pk [2];exact kR 0 []
 refine kG 1 ?_;refine kN ?_;refine kG 1 ?_;refine t_l2 rfl rfl ?_ ?_
 ·refine kG 1 ?_;refine kN ?_;obtain ⟨bf,bh,bi⟩:=sl_full T110.h.und T110.h.size (H.os 1) (j:=(r0.length:Int)) (by omega);refine t_q rfl (fun w' H=>x_sl (v:=ac) (u:=(.slice bf l.length l.length)) (lo':=none) (hi':=some (I (r0.length:Int))) (mx':=some (I (r0.length:Int))) rfl rfl rfl rfl (bh _)) ?_;refine kL 1 (α:=BWay) [⟨aa,aa+1,-100000000,100000000,total⟩] ?_;intro cC cD H;refine kN ?_;refine t_l rfl ?_;refine t_app3 (α:=BWay) (l:=l) (l2:=[(⟨(aa:Int),(aa+1:Int),(-100000000:Int),(100000000:Int),(total:Int)⟩:BWay)]) T110.h H rfl rfl bi (H.ol 2) (H.os 0) (H.ol 0) (by omega) (by omega) (by omega) (by omega) ?_;intro cE cF H;refine kN ?_;refine kS 4 ?_;intro cG H;refine kN ?_;refine t_nil ?_;replace H:=H.pk [0,2,4];refine kC 4 @balance_desk_span_ok ?_;intro cH az aA hM H;refine ksw ?_;intro cI H;refine kg 2 ?_;replace H:=H.pk [2];exact kR 0 []
 refine kL 0 (α:=BWay) [⟨aa,aa+1,-100000000,100000000,total⟩] ?_;intro cJ cK H;refine kN ?_;refine kG 2 ?_;refine kN ?_;obtain ⟨bj,bm,bn⟩:=sl_full T110.h.und T110.h.size (H.os 2) (j:=(r0.length:Int)) (by omega);refine t_q rfl (fun w' H=>x_sl (v:=ac) (u:=(.slice bj l.length l.length)) (lo':=none) (hi':=some (I (r0.length:Int))) (mx':=some (I (r0.length:Int))) rfl rfl rfl rfl (bm _))<|t_l rfl ?_;refine t_app3 (α:=BWay) (l:=l) (l2:=[(⟨(aa:Int),(aa+1:Int),(-100000000:Int),(100000000:Int),(total:Int)⟩:BWay)]) T110.h H rfl rfl bn (H.ol 2) (H.os 0) (H.ol 0) (by omega) (by omega) (by omega) (by omega) ?_;intro cL cM H;refine kN ?_;refine kS 4 ?_;intro cN H;refine kN ?_;refine t_nil ?_;replace H:=H.pk [0,2,4];refine kC 4 @balance_desk_span_ok ?_;intro cO az aA hM H;refine ksw ?_;intro cP H;refine kg 2 ?_;replace H:=H.pk [2]
 exact kR 0 []

end Go.Proofs.YtlfkkkbhejeplaaGreat
end
section
set_option maxRecDepth 100000
set_option maxHeartbeats 16000000
namespace Go.Proofs.YtlfkkkbhejeplaaGreat
open Go Go.Nm
attribute [local irreducible] gd execOp SL SLD SLT WR
def za2 (s_bytes:List UInt8) (r2 r3:Int):(Int × Int × Nat × (List Rgt))->M ((Int × Int × Nat × (List Rgt)) ⊕ ((List Rgt) × (List Rgt) × Int × Int)):=fun (s2,s3,s4,l) =>
  bif decide ((s4:Int)<r3) then (
  M.bind (zac s_bytes s2 s3 r2) fun (r4,aa,ab) =>
  M.bind (zac s_bytes aa ab 100) fun (r5,ac,ae) =>
  M.bind (zac s_bytes ac ae 2) fun (r6,ag,ah) =>
  M.bind (zac s_bytes ag ah 400) fun (r7,ai,aj) =>
  M.gi (r6*r7) <|
  M.grd (decide ((l.length+([(⟨(r4:Int),(r5:Int),(r6*r7:Int)⟩:Rgt)]).length)*24<=140737488355328)) <|
  M.gi ((s4:Int)+1) <|
  M.pure (.inl (ai,aj,s4+1,l++([(⟨(r4:Int),(r5:Int),(r6*r7:Int)⟩:Rgt)]))))
  else (
  M.pure (.inr (l,l,s2,s3)))
def zaQ (s_bytes:List UInt8) (s_used s_mix:Int):M (Int × (List Rgt) × Int × Int) :=
  M.bind (zae s_bytes s_used s_mix 1 6) fun (r2,q1,q2) =>
  M.bind (zae s_bytes q1 q2 1 12) fun (r3,aa,ab) =>
  M.bind (M.iter (za2 s_bytes r2 r3) (aa,ab,0,[])) fun (l2,l3,s5,s6) =>
  M.pure (r2,l3,s5,s6)
theorem zde {R aa aq ai}(s_bytes s_used s_mix)(ac:Reads R aq)(ae:Sl aq ai s_bytes){r}(hM:(zaQ s_bytes s_used s_mix).Ends r)(w)(H:St w w [cBlk aa [ai,I s_used,I s_mix] 77] R):Ret Tryz.prog 11 #[Pq aa] w fun v w'=>∃ y0 y1 y2 y3 u0,(y0,y1,y2,y3)=r/\v = .agg #[I y0,u0]/\St w w' [cOwn (α:=Rgt) 122 u0 y1,cBlk aa [ai,I y2,I y3] 77] R:=by
 refine ret_of_W Tryz.func11 rfl rfl rfl ?_;refine kA 2 ?_;intro au aJ H;refine kg 4 ?_;obtain ⟨aK,az,hM⟩:=M.e_bind hM;refine s_call cq [Pq aa,I 1,I 6] rfl (zag s_bytes s_used s_mix 1 6 (ac.app _) ae az _ ((H.pk [1,0]).gt 1)) ?_;rintro _ aL ⟨r2,q1,q2,rfl,rfl,ab⟩;replace H:=H.pk [1,0] |>.bk ab
 refine kA 1 ?_;intro av aM H;refine ksw ?_;intro aN H;refine kg 5 ?_;obtain ⟨aO,aA,hM⟩:=M.e_bind hM;refine s_call cq [Pq aa,I 1,I 12] rfl (zag s_bytes q1 q2 1 12 (ac.app _) ae aA _ ((H.pk [1,0,2]).gt 2)) ?_;rintro _ aP ⟨r3,aQ,aR,rfl,rfl,ab⟩;replace H:=H.pk [1,0,2] |>.bk ab
 refine kg 3 ?_;replace H:=H.nilOwn (α:=Rgt) 122;obtain ⟨aB,aw,aC⟩:=M.e_bind hM;obtain ⟨aS,aw⟩:=M.e_iter aw;refine W.loop (fun m σ W=>∃ (s2:Int) (s3:Int) (s4:Nat) (l:List Rgt) (al:Value) (ρ:Env),σ=upds ρ [(0,Pq aa),(2,Pq au),(3,Pq av),(8,I r3),(9,I (s4:Int))]/\M.iterN (za2 s_bytes r2 r3) m (s2,s3,s4,l)=some aB/\St w W [cOwn (α:=Rgt) 122 al l,cBlk aa [ai,I s2,I s3] 77,cBlk av [I r2,al] 49,cBlk au [I 0,.slice none 0 0] 49] R) ?_ ?_
 ·exact kY
 rintro aT σ aU ⟨s2,s3,s4,l,al,ρ,rfl,aD,H⟩;obtain ⟨aV,aW,aX,hM,aE⟩:=M.e_iterN aD;refine kI 5 ?_ ?_
 ·intro aF hM;refine kDT 3 [3] (.q 0 (.q 2 (.q 3 (.q 6 (.q 8 (.q 10 (.l2 1 (.l 4 (.l 5 (.l 7 (.l 9 (.l 11 (.q 12 (.q 13 (.l 14 (.l 15 (.q 16 (.l 17 .nil))))))))))) 4 (.l2 1 (.l 5 (.l 7 (.l 9 (.l 11 (.q 12 (.q 13 (.l 14 (.l 15 (.q 16 (.l 17 .nil)))))))))) 5 (.l2 1 (.l 7 (.l 9 (.l 11 (.q 12 (.q 13 (.l 14 (.l 15 (.q 16 (.l 17 .nil))))))))) 7 (.l2 1 (.l 9 (.l 11 (.q 12 (.q 13 (.l 14 (.l 15 (.q 16 (.l 17 .nil)))))))) 9 (.l2 1 (.l 11 (.q 12 (.q 13 (.l 14 (.l 15 (.q 16 (.l 17 .nil))))))) 11 (.q 12 (.q 13 (.l2 1 (.l 14 (.l 15 (.q 16 (.l 17 .nil)))) 14 (.l 1 (.l 15 (.q 16 (.l 17 .nil)))))))))))))))))) ?_;intro aY H;refine kg 6 ?_;refine t_l2 rfl rfl ?_ ?_
  ·refine kG 1 ?_;refine kN ?_;refine kG 2 ?_;refine kN ?_;refine t_l rfl ?_;obtain ⟨aZ,aG,hM⟩:=M.e_bind hM;refine s_call cq [Pq aa,I r2] rfl (zab s_bytes s2 s3 r2 (ac.app _) ae aG _ ((H.pk [1,0,2,3]).gt 3)) ?_;rintro _ a7 ⟨r4,ax,ay,rfl,rfl,ab⟩;replace H:=H.pk [1,0,2,3] |>.bk ab
   refine kN ?_;refine kC 1 @zab ?_;intro a8 r5 ao ap hM H;refine kN ?_;refine kC 1 @zab ?_;intro bc r6 aj ak hM H;refine kN ?_;refine kC 1 @zab ?_;intro bf r7 ag ah hM H;refine kN ?_;obtain ⟨bh,hM⟩:=M.e_gq hM;refine kL 3 (α:=Rgt) [⟨r4,r5,r6*r7⟩] ?_;intro bi bj H;refine kN ?_;refine t_l rfl ?_;obtain ⟨bm,hM⟩:=M.e_gq hM;refine kP 0 ?_;intro bn bo H;refine kN ?_;refine kS 2 ?_;intro bp H;refine kN ?_;obtain ⟨br,hM⟩:=M.e_gq hM;exact kXp 5 [2,1,3,4]
  refine kG 1 ?_;refine kN ?_;refine t_l2 rfl rfl ?_ ?_
  ·refine kG 1 ?_;refine kN ?_;refine t_l rfl ?_;obtain ⟨bt,aH,hM⟩:=M.e_bind hM;refine s_call cq [Pq aa,I r2] rfl (zab s_bytes s2 s3 r2 (ac.app _) ae aH _ ((H.pk [1,0,2,3]).gt 3)) ?_;rintro _ bu ⟨r4,ax,ay,rfl,rfl,ab⟩;replace H:=H.pk [1,0,2,3] |>.bk ab
   refine kN ?_;refine kC 1 @zab ?_;intro bv r5 ao ap hM H;refine kN ?_;refine kC 1 @zab ?_;intro bw r6 aj ak hM H;refine kN ?_;refine kC 1 @zab ?_;intro bA r7 ag ah hM H;refine kN ?_;obtain ⟨bB,hM⟩:=M.e_gq hM;refine kL 3 (α:=Rgt) [⟨r4,r5,r6*r7⟩] ?_;intro bC bD H;refine kN ?_;refine t_l rfl ?_;obtain ⟨bE,hM⟩:=M.e_gq hM;refine kP 0 ?_;intro bF bG H;refine kN ?_;refine kS 2 ?_;intro bH H;refine kN ?_;obtain ⟨bI,hM⟩:=M.e_gq hM;exact kXp 5 [2,1,3,4]
  obtain ⟨bJ,aI,hM⟩:=M.e_bind hM;refine s_call cq [Pq aa,I r2] rfl (zab s_bytes s2 s3 r2 (ac.app _) ae aI _ ((H.pk [1,0,2,3]).gt 3)) ?_;rintro _ bK ⟨r4,ax,ay,rfl,rfl,ab⟩;replace H:=H.pk [1,0,2,3] |>.bk ab
  refine kN ?_;refine t_l2 rfl rfl ?_ ?_
  ·refine kG 1 ?_;refine kN ?_;refine kC 1 @zab ?_;intro bL r5 ao ap hM H;refine kN ?_;refine kC 1 @zab ?_;intro bM r6 aj ak hM H;refine kN ?_;refine kC 1 @zab ?_;intro bN r7 ag ah hM H;refine kN ?_;obtain ⟨bO,hM⟩:=M.e_gq hM;refine kL 3 (α:=Rgt) [⟨r4,r5,r6*r7⟩] ?_;intro bP bQ H;refine kN ?_;refine t_l rfl ?_;obtain ⟨bR,hM⟩:=M.e_gq hM;refine kP 0 ?_;intro bS bT H;refine kN ?_;refine kS 2 ?_;intro bU H;refine kN ?_;obtain ⟨bV,hM⟩:=M.e_gq hM;exact kXp 5 [2,1,3,4]
  refine kC 0 @zab ?_;intro bW r5 ao ap hM H;refine kN ?_;refine t_l2 rfl rfl ?_ ?_
  ·refine kG 1 ?_;refine kN ?_;refine kC 1 @zab ?_;intro bX r6 aj ak hM H;refine kN ?_;refine kC 1 @zab ?_;intro bY r7 ag ah hM H;refine kN ?_;obtain ⟨bZ,hM⟩:=M.e_gq hM;refine kL 3 (α:=Rgt) [⟨r4,r5,r6*r7⟩] ?_;intro b5 b6 H;refine kN ?_;refine t_l rfl ?_;obtain ⟨b7,hM⟩:=M.e_gq hM;refine kP 0 ?_;intro b8 b9 H;refine kN ?_;refine kS 2 ?_;intro cb H;refine kN ?_;obtain ⟨cc,hM⟩:=M.e_gq hM;exact kXp 5 [2,1,3,4]
  refine kC 0 @zab ?_;intro cd r6 aj ak hM H;refine kN ?_;refine t_l2 rfl rfl ?_ ?_
  ·refine kG 1 ?_;refine kN ?_;refine kC 1 @zab ?_;intro ce r7 ag ah hM H;refine kN ?_;obtain ⟨cf,hM⟩:=M.e_gq hM;refine kL 3 (α:=Rgt) [⟨r4,r5,r6*r7⟩] ?_;intro cg ch H;refine kN ?_;refine t_l rfl ?_;obtain ⟨cj,hM⟩:=M.e_gq hM;refine kP 0 ?_;intro ck ct H;refine kN ?_;refine kS 2 ?_;intro cu H;refine kN ?_;obtain ⟨cv,hM⟩:=M.e_gq hM;exact kXp 5 [2,1,3,4]
  refine kC 0 @zab ?_;intro cw r7 ag ah hM H;refine kN ?_;obtain ⟨cA,hM⟩:=M.e_gq hM;refine kG 2 ?_;obtain ⟨cB,hM⟩:=M.e_gq hM;refine t_l2 rfl rfl ?_ ?_
  ·refine kG 1 ?_;refine kN ?_;refine kL 1 (α:=Rgt) [⟨r4,r5,r6*r7⟩] ?_;intro cC cD H;refine kN ?_;refine kP 1 ?_;intro cE cF H;refine kN ?_;refine kS 2 ?_;intro cG H;refine kN ?_;obtain ⟨cH,hM⟩:=M.e_gq hM;exact kXp 5 [2,1,3,4]
  refine kL 0 (α:=Rgt) [⟨r4,r5,r6*r7⟩] ?_;intro cI cJ H;refine kN ?_;refine kG 2 ?_;refine kN ?_;refine kP 1 ?_;intro cK cL H;refine kN ?_;refine kS 2 ?_;intro cM H;refine kN ?_;obtain ⟨cN,hM⟩:=M.e_gq hM;exact kXp 5 [2,1,3,4]
 intro aF hM;refine W.exit ?_;obtain rfl:=M.e_inr hM aE;replace hM:=aC;refine kS 3 ?_;intro cO H;exact kR 1 [0,1]

def m_share_in (n aa greatest:Int):M Bool :=
  M.pure ((decide (aa<=n))&&(decide (n<=greatest)))
theorem share_in_ok {R}(n aa greatest){r}(hM:(m_share_in n aa greatest).Ends r)(w)(H:St w w [] R):Ret Tryz.prog 46 #[I n,I aa,I greatest] w fun v w'=>∃ y0,y0=r/\v=B y0/\St w w' [] R:=by
 refine ret_of_W Tryz.func46 rfl rfl rfl ?_;refine kg 16 ?_;exact rt

def zaG (s:List Rgt) (f:Rgt->M Bool):Nat->M (Nat ⊕ (Int ⊕ Unit)):=fun s2 =>
  bif decide ((s2:Int)<(s.length:Int)) then (
  M.grd (decide ((s2:Int)<(s.length:Int))) <|
  M.bind (f (s.getD s2 default)) fun r2 =>
  bif r2 then (
  M.pure (.inr (.inl (s2:Int))))
  else (
  M.pure (.inl (s2+1))))
  else (
  M.pure (.inr (.inr ())))
def zbw (s:List Rgt) (f:Rgt->M Bool):M Int :=
  M.bind (M.iter (zaG s f) 0) fun x_=>match x_ with
  | (.inl s3)=>(
  M.pure s3)
  | (.inr (_:Unit))=>(
  M.pure (-1))
theorem zdL {R ac aa ab}(s f)(au:Reads R ac)(ai:Sl ac aa s)(aj:FnM Tryz.prog R ab f){r}(hM:(zbw s f).Ends r)(w)(H:St w w [] R):Ret Tryz.prog 162 #[aa,ab] w fun v w'=>∃ y0,y0=r/\v=I y0/\St w w' [] R:=by
 refine ret_of_W Tryz.func162 rfl rfl rfl ?_;have av:=(ai).len_le;refine kg 12 ?_;obtain ⟨ak,ae,ag⟩:=M.e_bind hM;obtain ⟨aw,ae⟩:=M.e_iter ae;refine W.loop (fun m σ W=>∃ (s2:Nat) (ρ:Env),σ=upds ρ [(0,aa),(1,ab),(7,I (s.length:Int)),(8,I (s2:Int))]/\M.iterN (zaG s f) m s2=some ak/\St w W [] R) ?_ ?_
 ·exact kY
 rintro ax σ ay ⟨s2,ρ,rfl,al,H⟩;obtain ⟨az,aA,aB,hM,ah⟩:=M.e_iterN al;refine kI 5 ?_ ?_
 ·intro ao hM;obtain ⟨aC,hM⟩:=M.e_gq hM;refine kg 15 ?_;obtain ⟨r2,ap,hM⟩:=M.e_bind hM;refine t_callM H aj rfl rfl (s.getD s2 default) Reads.none ⟨_,rfl,rfl⟩ ap ?_;intro aD H;refine kI 1 ?_ ?_
  ·intro aq hM;refine kg 5 ?_;obtain rfl:=M.e_inr hM ah;replace hM:=ag;exact rt
  intro aq hM;exact kX 5
 intro ao hM;refine W.exit ?_;obtain rfl:=M.e_inr hM ah;replace hM:=ag;refine kg 4 ?_;exact rt

def zaO (s:List Rgt) (f:Rgt->M Bool):M Bool :=
  M.bind (zbw s f) fun r2 =>
  M.pure (decide (0<=r2))
theorem zdC {R aa ab ac}(s f)(ae:Reads R aa)(ag:Sl aa ab s)(ah:FnM Tryz.prog R ac f){r}(hM:(zaO s f).Ends r)(w)(H:St w w [] R):Ret Tryz.prog 123 #[ab,ac] w fun v w'=>∃ y0,y0=r/\v=B y0/\St w w' [] R:=by
 refine ret_of_W Tryz.func123 rfl rfl rfl ?_;refine kC 8 @zdL ?_;intro ai r2 hM H;refine kg 3 ?_;exact rt

def m_share_every_share_Right__1 (x:Rgt) (aa:Rgt->M Bool):M Bool :=
  M.bind (aa x) fun r2 =>
  M.pure (!r2)
theorem share_every_share_Right__1_ok {R aa ab}(x ac)(ae:FnM Tryz.prog R ab ac)(ah:Has R (cBlk aa [ab] 173)){r}(hM:(m_share_every_share_Right__1 x ac).Ends r)(w)(H:St w w [] R):Ret Tryz.prog 124 #[.agg #[I x.state,I x.amount,I x.loss],Pq aa] w fun v w'=>∃ y0,y0=r/\v=B y0/\St w w' [] R:=by
 refine ret_of_W Tryz.func124 rfl rfl rfl ?_;refine kB 2 ?_;intro ai aj H;refine kg 6 ?_;obtain ⟨r2,ag,hM⟩:=M.e_bind hM;refine t_callM H ae rfl rfl x Reads.none ⟨_,rfl,rfl⟩ ag ?_;intro ak H;refine kg 3 ?_;exact rt

def m_share_every_share_Right (l:List Rgt) (so:Rgt->M Bool):M Bool :=
  M.bind (zaO l (fun aa=>m_share_every_share_Right__1 aa so)) fun r2 =>
  M.pure (!r2)
theorem share_every_share_Right_ok {R ae aa ag}(l so)(ai:Reads R ae)(aj:Sl ae aa l)(ak:FnM Tryz.prog R ag so){r}(hM:(m_share_every_share_Right l so).Ends r)(w)(H:St w w [] R):Ret Tryz.prog 73 #[aa,ag] w fun v w'=>∃ y0,y0=r/\v=B y0/\St w w' [] R:=by
 refine ret_of_W Tryz.func73 rfl rfl rfl ?_;refine kB 2 ?_;intro ab az H;refine kg 5 ?_;refine s_val (x_mf (fs:=[]) (cs:=[Pq ab]) rfl rfl) ?_;obtain ⟨aA,al,hM⟩:=M.e_bind hM;refine s_call cq [aa,.func (.func 124) #[] #[Pq ab]] rfl (zdC l (fun ac=>m_share_every_share_Right__1 ac so) (ai.app _) aj ⟨124,[Pq ab],rfl,cq,fun ah aB aC ao ac aD ap aE aq au=>by obtain rfl:=Rgt_arg aq; exact (share_every_share_Right__1_ok ac so (FnM.app (ak.app _) _) (Has.app (Has.here (k:=0) rfl) _) au ah (St.refl ap)).mono fun ao ah ⟨aF,av,aw,ax⟩=>by subst av; exact ⟨aw,ax⟩⟩ al _ (H.gt 1)) ?_;rintro _ aG ⟨r2,rfl,rfl,ay⟩;replace H:=H.bk ay;refine kg 3 ?_;exact rt

def m_share_water (n:Int):M Bool :=
  M.bind (m_share_in n 0 1000000000) fun r2 =>
  M.pure r2
theorem share_water_ok {R}(n){r}(hM:(m_share_water n).Ends r)(w)(H:St w w [] R):Ret Tryz.prog 40 #[I n] w fun v w'=>∃ y0,y0=r/\v=B y0/\St w w' [] R:=by
 refine ret_of_W Tryz.func40 rfl rfl rfl ?_;refine kC 7 @share_in_ok ?_;intro aa r2 hM H;refine kg 2 ?_;exact rt

def m_share_Check_1 (r_:Rgt) (aa:Int) (ab:List Rgt):M Bool :=
  M.gi (aa-1) <|
  M.bind (m_share_in r_.state 0 (aa-1)) fun r2 =>
  M.bind (M.opt r2 (m_share_water r_.amount) false) fun r3 =>
  M.bind (M.opt (r2&&r3) (m_share_in r_.loss 0 1000) false) fun r4 =>
  M.pure ((r2&&r3)&&r4)
theorem share_Check_1_ok {R ac ae ag}(r_ ah ai)(al:Reads R ae)(ao:Sl ae ag ai)(ap:Has R (cBlk ac [I ah,ag] 49)){r}(hM:(m_share_Check_1 r_ ah ai).Ends r)(w)(H:St w w [] R):Ret Tryz.prog 74 #[.agg #[I r_.state,I r_.amount,I r_.loss],Pq ac] w fun v w'=>∃ y0,y0=r/\v=B y0/\St w w' [] R:=by
 refine ret_of_W Tryz.func74 rfl rfl rfl ?_;refine kB 2 ?_;intro aq au H;obtain ⟨av,hM⟩:=M.e_gq hM;refine kC 9 @share_in_ok ?_;intro aw r2 hM H;refine kg 3 ?_;obtain ⟨r3,aj,hM⟩:=M.e_bind hM;refine t_gcall r2 (gy_t rfl) cq (B r3) (fun _=>[I r_.amount]) (fun hg=>lst1 (gd_of hg (I r_.amount))) H (fun hg=>(share_water_ok r_.amount (M.e_opt aj hg) _ (H.give (A:=[]) rfl)).mono fun v_ w_ ⟨y_,aa,ab,H_⟩=>by subst aa; exact ⟨ab,H.via H_⟩) ?_;intro ax H;refine kg 4 ?_;obtain ⟨r4,ak,hM⟩:=M.e_bind hM;refine t_gcall (r2&&r3) (gy_t rfl) cq (B r4) (fun _=>[I r_.loss,I 0,I 1000]) (fun hg=>lst3 (gd_of hg (I r_.loss)) rfl rfl) H (fun hg=>(share_in_ok r_.loss 0 1000 (M.e_opt ak hg) _ (H.give (A:=[]) rfl)).mono fun v_ w_ ⟨y_,aa,ab,H_⟩=>by subst aa; exact ⟨ab,H.via H_⟩) ?_;intro ay H;refine kg 3 ?_;exact rt

def m_share_Check (c_States:Int) (c_Rights:List Rgt):M Int :=
  M.bind (m_share_in c_States 1 12) fun r2 =>
  M.bind (M.opt (!(!r2)) (m_share_in (c_Rights.length:Int) 1 30) false) fun r3 =>
  bif ((!r2)||(!r3)) then (
  M.pure 3)
  else (
  M.bind (m_share_every_share_Right c_Rights (fun aa=>m_share_Check_1 aa c_States c_Rights)) fun r4 =>
  bif !r4 then (
  M.pure 100)
  else (
  M.pure 0))
theorem share_Check_ok {R ag aa}(c_States c_Rights)(ah:Reads R ag)(ab:Sl ag aa c_Rights){r}(hM:(m_share_Check c_States c_Rights).Ends r)(w)(H:St w w [] R):Ret Tryz.prog 39 #[.agg #[I c_States,aa]] w fun v w'=>∃ y0,y0=r/\v=I y0/\St w w' [] R:=by
 refine ret_of_W Tryz.func39 rfl rfl rfl ?_;refine kB 2 ?_;intro ac aC H;refine kC 8 @share_in_ok ?_;intro aD r2 hM H;have aE:=(ab).len_le;refine kg 5 ?_;obtain ⟨r3,aj,hM⟩:=M.e_bind hM;refine t_gcall (!(!r2)) (gy_f rfl) cq (B r3) (fun _=>[I (c_Rights.length:Int),I 1,I 30]) (fun hg=>lst3 (gd_of hg (I (c_Rights.length:Int))) rfl rfl) H (fun hg=>(share_in_ok (c_Rights.length:Int) 1 30 (M.e_opt aj hg) _ (H.give (A:=[]) rfl)).mono fun v_ w_ ⟨y_,ak,al,H_⟩=>by subst ak; exact ⟨al,H.via H_⟩) ?_;intro aF H;refine kI 4 ?_ ?_
 ·intro ao hM;refine kg 4 ?_;exact rt
 intro ao hM;refine kg 4 ?_;refine s_val (x_mf (fs:=[]) (cs:=[Pq ac]) rfl rfl) ?_;obtain ⟨aG,ap,hM⟩:=M.e_bind hM;refine s_call cq [aa,.func (.func 74) #[] #[Pq ac]] rfl (share_every_share_Right_ok c_Rights (fun ae=>m_share_Check_1 ae c_States c_Rights) (ah.app _) ab ⟨74,[Pq ac],rfl,cq,fun ai aH aI aq ae aJ au aK av aw=>by obtain rfl:=Rgt_arg av; exact (share_Check_1_ok ae c_States c_Rights (Reads.app (ah.app _) _) ab (Has.app (Has.here (k:=0) rfl) _) aw ai (St.refl au)).mono fun aq ai ⟨aL,ax,ay,az⟩=>by subst ax; exact ⟨ay,az⟩⟩ ap _ (H.gt 1)) ?_;rintro _ aM ⟨r4,rfl,rfl,aA⟩;replace H:=H.bk aA;refine kI 3 ?_ ?_
 ·intro aB hM;refine kg 4 ?_;exact rt
 intro aB hM;refine kg 5 ?_;exact rt

def m_share_office_taken (aa:Int) (ab:List Rgt) (flow:Int):M Int :=
  M.pure flow
theorem share_office_taken_ok {R aa ab ac}(ae ag flow)(al:Reads R ab)(ao:Sl ab ac ag)(ap:Fld R aa [I ae,ac]){r}(hM:(m_share_office_taken ae ag flow).Ends r)(w)(H:St w w [] R):Ret Tryz.prog 75 #[Pq aa,I flow] w fun v w'=>∃ y0 ah ai,y0=r/\v = .func (.func 125) #[] #[Pq ah,Pq ai]/\St w w' [cBlk ah [Pq aa] 174,cBlk ai [I y0] 3] R:=by
 refine ret_of_W Tryz.func75 rfl rfl rfl ?_;refine kB 2 ?_;intro aj aq H;refine kbx ?_;intro ak au H;refine kg 4 ?_;refine s_val (x_mf (fs:=[]) (cs:=[Pq aj,Pq ak]) rfl rfl) ?_;exact kR 2 [1,0]

def m_share_office_taken_1_b0 {T_:Type} (ab:T_->(Rgt × Int)->M (Bool × T_)) (aa:List Rgt):(Int × Nat × T_)->M ((Int × Nat × T_) ⊕ ((T_ × Int) ⊕ (T_ × Int))):=fun (s,s2,t2) =>
  bif decide ((s2:Int)<(aa.length:Int)) then (
  M.grd (decide ((s2:Int)<(aa.length:Int))) <|
  M.gi (s-(min ((aa.getD s2 default).amount) s)) <|
  M.bind (ab t2 ((aa.getD s2 default),min ((aa.getD s2 default).amount) s)) fun (go,t) =>
  bif !go then (
  M.pure (.inr (.inl (t,s-(min ((aa.getD s2 default).amount) s)))))
  else (
  M.pure (.inl (s-(min ((aa.getD s2 default).amount) s),s2+1,t))))
  else (
  M.pure (.inr (.inr (t2,s))))
def m_share_office_taken_1 {T_:Type} (aa:T_->(Rgt × Int)->M (Bool × T_)) (t_:T_) (ae:Int) (ab:List Rgt) (ac:Int):M (T_ × Int) :=
  M.bind (M.iter (m_share_office_taken_1_b0 aa ab) (ac,0,t_)) fun x_=>match x_ with
  | (.inl (t3,s3))=>(
  M.pure (t3,s3))
  | (.inr (t4,s4))=>(
  M.pure (t4,s4))
theorem share_office_taken_1_ok {R:List Chunk} {T_:Type} {Y_:T_->List Chunk->Prop} {ag:Value} {ab:List Chunk} {ap:Nat} {aq:Nat} {au:Cells} {ae:Value} {ac:Nat} (ah:T_->(Rgt × Int)->M (Bool × T_)) (t_:T_) (ai:Int) (aa:List Rgt) (aj:Int) (az:YieldC Tryz.prog R arRgtI Y_ ag ah) (av:Y_ t_ ab) (aK:Reads R au) (aA:Sl au ae aa) (aB:∀ (t_:T_) (ab:List Chunk),Y_ t_ ab->Fld (cAll ab :: R) aq [I ai,ae]) (aL:Has R (cBlk ap [Pq aq] 174)) {r:(T_ × Int)} (hM:(m_share_office_taken_1 ah t_ ai aa aj).Ends r) (w:World) (H:St w w [cAll ab,cBlk ac [I aj] 3] R):Ret Tryz.prog 125 #[ag,Pq ap,Pq ac] w fun v w'=>∃ (y0:T_) (y1:Int) (Ls0:List Chunk),(y0,y1)=r/\v = .tuple #[]/\St w w' [cAll Ls0,cBlk ac [I y1] 3] R/\Y_ y0 Ls0:=by
 refine ret_of_W Tryz.func125 rfl rfl rfl ?_;refine kg 6 ?_;refine s_val (x_ld (v:=ae) rfl (fld_sc (pre:=[I ai,ae]) (i:=1) Sc47.h (Fld.get (Fld.up (aB _ _ av) (k:=0) rfl) H) rfl)) ?_;have aM:=(aA).len_le;refine kg 4 ?_;obtain ⟨aC,ak,aw⟩:=M.e_bind hM;obtain ⟨aN,ak⟩:=M.e_iter ak;refine W.loop (fun m σ W=>∃ (s:Int) (s2:Nat) (t2:T_) (Ls_t2:List Chunk) (ρ:Env),σ=upds ρ [(0,ag),(2,Pq ac),(11,ae),(12,I (aa.length:Int)),(13,I (s2:Int))]/\M.iterN (m_share_office_taken_1_b0 ah aa) m (s,s2,t2)=some aC/\St w W [cAll Ls_t2,cBlk ac [I s] 3] R/\Y_ t2 Ls_t2) ?_ ?_
 ·exact ⟨_,aj,0,t_,ab,_,jQ,ak,H,av⟩
 rintro aO σ aP ⟨s,s2,t2,Ls_t2,ρ,rfl,aD,H,hY_t2⟩;obtain ⟨aE,aF,aQ,hM,al⟩:=M.e_iterN aD;refine kI 5 ?_ ?_
 ·intro aG hM;obtain ⟨aR,hM⟩:=M.e_gq hM;refine kA 7 ?_;intro aH aS H;refine ksw ?_;intro aT H;obtain ⟨aU,hM⟩:=M.e_gq hM;refine kS 14 ?_;intro aV H;refine kg 6 ?_;obtain ⟨⟨go,t⟩,aI,hM⟩:=M.e_bind hM;refine t_yield (L:=[cBlk aH [I ((aa.getD s2 default).state),I ((aa.getD s2 default).amount),I ((aa.getD s2 default).loss)] 122,cBlk ac [I (s-(min ((aa.getD s2 default).amount) s))] 3]) (H.pk [1,0,2]) az hY_t2 rfl [.agg #[I ((aa.getD s2 default).state),I ((aa.getD s2 default).amount),I ((aa.getD s2 default).loss)],I (min ((aa.getD s2 default).amount) s)] rfl ((aa.getD s2 default),min ((aa.getD s2 default).amount) s) Reads.none rfl aI ?_;intro ax aW ay H;replace H:=H.nf;refine kI 2 ?_ ?_
  ·intro aJ hM;refine W.ret ?_;obtain rfl:=M.e_inr hM al;replace hM:=aw;have ao:=M.e_pure hM;exact ⟨_,resE_tmp0 rfl,⟨t,(s-(min ((aa.getD s2 default).amount) s)),ax,ao,rfl,(H.pk [0,2]),ay⟩⟩
  intro aJ hM;refine kg 5 ?_;exact ⟨aE,aF,s-(min ((aa.getD s2 default).amount) s),s2+1,t,ax,_,jQ,M.e_inl hM al,(H.pk [0,2]),ay⟩
 intro aG hM;refine W.exit ?_;obtain rfl:=M.e_inr hM al;replace hM:=aw;have ao:=M.e_pure hM;exact ⟨_,resE_tmp0 rfl,⟨t2,s,Ls_t2,ao,rfl,H,hY_t2⟩⟩
def m_share_serve_b0  : (List Int)->(Rgt × Int)->M ((List Int) ⊕ Unit):=fun s (x,x2) =>
  M.grd (decide ((0:Int)<=x.state)&&decide (x.state<(12:Int))) <|
  M.gi (1000-x.loss) <|
  M.gi (x2*(1000-x.loss)) <|
  M.grd (decide (0<=(x2*(1000-x.loss)))&&decide ((x2*(1000-x.loss))<=(9223372036854775807:Int))&&decide ((0:Int)<1000)) <|
  M.gi ((s.getD (Int.toNat x.state) 0)+((x2*(1000-x.loss)) / 1000)) <|
  M.pure (.inl (s.set (Int.toNat x.state) ((s.getD (Int.toNat x.state) 0)+((x2*(1000-x.loss)) / 1000))))
def m_share_serve (c_States:Int) (c_Rights:List Rgt) (flow:Int):M (List Int) :=
  M.bind (m_share_office_taken c_States c_Rights flow) fun aa =>
  M.bind (m_share_office_taken_1 (M.yl m_share_serve_b0) (.inl (List.replicate 12 0)) c_States c_Rights aa) fun x_=>match x_ with
  | (.inl s,q0)=>(
  M.grd (decide ((0:Int)<=c_States)&&decide (c_States<=(12:Int))) <|
  M.grd (decide ((s.take (Int.toNat c_States)).length*8<=140737488355328)) <|
  M.pure (s.take (Int.toNat c_States)))
  | (.inr _,_)=>M.fail
theorem share_serve_ok {R aA ab}(c_States c_Rights flow)(ap:Reads R aA)(aw:Sl aA ab c_Rights){r}(hM:(m_share_serve c_States c_Rights flow).Ends r)(w)(H:St w w [] R):Ret Tryz.prog 41 #[.agg #[I c_States,ab],I flow] w fun v w'=>∃ y0 u0,y0=r/\v=u0/\St w w' [cOwn (α:=Int) 3 u0 y0] R:=by
 refine ret_of_WD Tryz.func41 rfl rfl rfl ?_;replace H:St w w [cMk ([])] R:=H.mk0;have aO:=aw.len_le;unfold m_share_serve at hM;refine WD.seq<|WD.of ?_;refine kB 1 ?_;intro ah aP H;refine zA (.slice none 0 0) rfl<|s_nil<|WD.seq<|WD.of<|W.region rfl<|s_val (x_ld (v:=.agg #[I c_States,ab]) rfl (ldb_ag (ds:=[I c_States,ab]) Ag49.h Sz49.h (H.bl 0) rfl rfl))<|s_val (x_bld (ps:=[(0,.agg #[I c_States,ab])]) (zs:=(List.flatten [[I 0,.slice none 0 0],encF (α:=Int) (List.replicate 12 0)])) (L':=(List.flatten [[I c_States,ab],encF (α:=Int) (List.replicate 12 0)])) rfl Tryz.underlying177 Al177.h rfl (Bd177 Tryz.underlying177) (.cons (cs:=[I c_States,ab]) rfl rfl rfl (by kernel_rfl) rfl<|.nil)) ?_;refine kB 0 ?_;intro aa aQ H;refine kA 0 ?_;intro ac aR H;refine kS 0 ?_;intro aS H;refine s_nil<|WD.seq<|WD.seq<|WD.of<|W.region rfl<|s_val (x_ld (v:=Pq aa) rfl (ldb_sc Sc174.h (H.bl 0) rfl))<|zM (I flow) rfl ?_;obtain ⟨aT,aD,hM⟩:=M.e_bind hM;refine s_call cq [Pq aa,I flow] rfl (share_office_taken_ok c_States c_Rights flow (ap.app _) aw (Fld.here (k:=1) rfl rfl) aD _ (H.gt 4)) ?_
 rintro vq aU ⟨aq,ae,aj,rfl,hvq,ag⟩;subst vq;(try dsimp only at hM);replace H:=H.bk ag;clear ag;refine s_nil<|WD.block ?_;obtain ⟨aV,aE,hM⟩:=M.e_bind hM;refine WD.range (L:=[cBlk aa (List.flatten [[I c_States,ab],encF (α:=Int) (List.replicate 12 0)]) 177,cBlk ae [Pq aa] 174,cBlk ac [Pq aa] 174,cBlk ah [I c_States,ab] 49,cBlk aj [I aq] 3]) [Pq ae,Pq aj] (H.pk [5,3,0,2,4,1]) rfl cq ?_;intro au ai ax aF ay H
 have hYC:YieldC Tryz.prog ([cMk (ai :: ([])),cBlk ae [Pq aa] 174,cBlk ac [Pq aa] 174,cBlk ah [I c_States,ab] 49]++R) arRgtI (yJ au ax (fun s av=>av=[cBlk aa (List.flatten [[I c_States,ab],encF (α:=Int) s]) 177]/\s.length=12) (fun (_:Unit) _=>False) (fun _=>.ret)) (.func (.yield au) #[] #[]) (M.yl m_share_serve_b0):=by
  refine YieldC.mk2 ay (fun s av=>av=[cBlk aa (List.flatten [[I c_States,ab],encF (α:=Int) s]) 177]/\s.length=12) (fun (_:Unit) _=>False) (fun _=>.ret) m_share_serve_b0 (by rintro s _ h_; obtain ⟨rfl,_⟩:=h_; rfl) (fun _ _ h_=>h_.elim) rfl (arRgtI_len rfl) ?_;intro C_ aW x_ aG;obtain ⟨x,x2⟩:=x_;obtain rfl:=aG;intro w R az av s_ r aH hM H
  skip
  obtain ⟨s,aI⟩:∃ y_,y_=s_:=⟨_,rfl⟩
  subst aI;obtain ⟨rfl,ak⟩:=aH;replace H:=H.nf;refine kA 2 ?_;intro al aX H;refine kS 0 ?_;intro aY H;refine kG 2 ?_;refine zA (I x2) rfl<|s_nil ?_
  refine ⟨rfl,[cBlk al [I x.state,I x.amount,I x.loss] 122],H.pick [0,1,2,3,4,5] (by decide) rfl,?_⟩;clear H az;intro w R az H;replace ap:=ap.sub az;replace hM:(m_share_serve_b0 s (x,x2)).Ends r:=hM;simp only [m_share_serve_b0] at hM;replace H:=H.nf;refine W.block ?_;refine W.draw (fun W=>St w W [cBlk al [I x.state,I x.amount,I x.loss] 122,cMk (ai :: ([])),cBlk ae [Pq aa] 174,cBlk ac [Pq aa] 174,cBlk ah [I c_States,ab] 49] R) [(0,true),(1,true),(2,true),(3,true),(4,true),(5,true),(7,true),(8,true),(9,true),(10,true),(11,true),(12,true),(14,true),(15,true),(6,false),(13,true),(16,true),(17,false)] mixed (by decide +kernel) rfl ?_;intro aZ ao;replace H:=H.ext ao;clear ao;refine ⟨(H.pk [0,2,3,4,5]),?_⟩;refine d_q rfl (fun w' H=>x_ld (v:=Pq aa) rfl (ldb_sc Sc174.h (H.bl 3) rfl))<|d_q rfl (fun w' H=>x_fa (v:=Pq al) rfl (fa_blk (o:=0) Fd122_0.h Sz3.h))<|d_q rfl (fun w' H=>x_ld (v:=I x.state) rfl (ldb_sc Sc3.h (H.bl 0) rfl))<|d_q rfl (fun w' H=>x_nc (a:=⟨aa,0,none⟩) rfl)<|d_q rfl (fun w' H=>x_fa (v:=Oq aa 2) rfl (fa_blk (o:=0) Fd177_1.h Sz175.h)) ?_;obtain ⟨a7,hM⟩:=M.e_gd hM;refine d_q rfl (fun w' H=>x_ix (v:=.pointer (some ⟨aa,2+Int.toNat x.state*1,none⟩)) rfl rfl (run_indexS Tryz.underlying175 Sz3.h (by omega) (by omega)))<|d_q rfl (fun w' H=>x_mv (v:=I x2) rfl)<|d_q rfl (fun w' H=>x_fa (v:=Oq al 2) rfl (fa_blk (o:=0) Fd122_2.h Sz3.h))<|d_q rfl (fun w' H=>x_ld (v:=I x.loss) rfl (ldb_sc Sc3.h (H.bl 0) rfl)) ?_;obtain ⟨a8,hM⟩:=M.e_gd hM;refine d_q rfl (fun w' H=>x_ari (r:=1000-x.loss) rfl rfl rfl (by omega)) ?_;obtain ⟨bc,hM⟩:=M.e_gd hM;refine d_q rfl (fun w' H=>x_ari (r:=x2*(1000-x.loss)) rfl rfl rfl (by omega)) ?_;obtain ⟨bf,hM⟩:=M.e_gd hM;refine d_q rfl (fun w' H=>x_quo (a:=x2*(1000-x.loss)) (b:=1000) rfl rfl (by omega))<|d_q rfl (fun w' H=>x_nc (a:=⟨aa,0,none⟩) rfl)<|d_q rfl (fun w' H=>x_fa (v:=Oq aa 2) rfl (fa_blk (o:=0) Fd177_1.h Sz175.h))<|d_l rfl<|s_val (x_ld (v:=I (s.getD (Int.toNat x.state) 0)) rfl (ldS (α:=Int) (k:=1) (off:=2) (i:=(Int.toNat x.state)) (f:=0) (sz:=1) 0 Sc3.h (H.bl 1) rfl (sgo1 rfl) rfl (by decide) (by have aJ:=ak; omega) (by omega) rfl)) ?_;refine kN ?_;obtain ⟨bh,hM⟩:=M.e_gd hM;refine d_q rfl (fun w' H=>x_ari (r:=(s.getD (Int.toNat x.state) 0)+((x2*(1000-x.loss)) / 1000)) rfl rfl rfl (by omega))<|d_q rfl (fun w' H=>x_ix (v:=.pointer (some ⟨aa,2+Int.toNat x.state*1,none⟩)) rfl rfl (run_indexS Tryz.underlying175 Sz3.h (by omega) (by omega)))<|d_l rfl ?_;refine t_stS (α:=Int) (kc:=1) (b:=aa) (k:=1) (off:=2) (i:=(Int.toNat x.state)) (f:=0) (sz:=1) (segs:=[[I c_States,ab],encF (α:=Int) s]) (segs':=[[I c_States,ab],encF (α:=Int) (s.set (Int.toNat x.state) ((s.getD (Int.toNat x.state) 0)+((x2*(1000-x.loss)) / 1000)))]) (l:=s) (l':=s.set (Int.toNat x.state) ((s.getD (Int.toNat x.state) 0)+((x2*(1000-x.loss)) / 1000))) (vs:=[I ((s.getD (Int.toNat x.state) 0)+((x2*(1000-x.loss)) / 1000))]) (L':=[cBlk al [I x.state,I x.amount,I x.loss] 122,cBlk aa (List.flatten [[I c_States,ab],encF (α:=Int) (s.set (Int.toNat x.state) ((s.getD (Int.toNat x.state) 0)+((x2*(1000-x.loss)) / 1000)))]) 177,cMk (ai :: ([])),cBlk ae [Pq aa] 174,cBlk ac [Pq aa] 174,cBlk ah [I c_States,ab] 49]) H rfl rfl rfl Sz3.h rfl rfl rfl rfl (sgo1 rfl) rfl rfl (by have aJ:=ak; omega) (by omega) 0 ((s.getD (Int.toNat x.state) 0)+((x2*(1000-x.loss)) / 1000)) rfl rfl rfl rfl ?_;intro bi H
  have aK:(s.set (Int.toNat x.state) ((s.getD (Int.toNat x.state) 0)+((x2*(1000-x.loss)) / 1000))).length=12:=List.length_set.trans ak;refine kN ?_;refine d_nil ?_;exact ⟨s.set (Int.toNat x.state) ((s.getD (Int.toNat x.state) 0)+((x2*(1000-x.loss)) / 1000)),[cBlk aa (List.flatten [[I c_States,ab],encF (α:=Int) (s.set (Int.toNat x.state) ((s.getD (Int.toNat x.state) 0)+((x2*(1000-x.loss)) / 1000)))]) 177],(M.e_pure hM).symm,⟨rfl,aK⟩,H.pick [1,2,3,4,5] (by decide) rfl⟩
 replace H:St w aF (cAll (cObj au (.loop ax) :: [cBlk aa (List.flatten [[I c_States,ab],encF (α:=Int) (List.replicate 12 0)]) 177]) :: [cBlk aj [I aq] 3,cMk (ai :: ([])),cBlk ae [Pq aa] 174,cBlk ac [Pq aa] 174,cBlk ah [I c_States,ab] 49]) R:=St.bundleB (A:=cObj au (.loop ax) :: [cBlk aa (List.flatten [[I c_States,ab],encF (α:=Int) (List.replicate 12 0)]) 177]) (T:=[cBlk aj [I aq] 3,cMk (ai :: ([])),cBlk ae [Pq aa] 174,cBlk ac [Pq aa] 174,cBlk ah [I c_States,ab] 49]) rfl (H.pk [0,2,6,1,3,4,5]);refine (share_office_taken_1_ok (M.yl m_share_serve_b0) (.inl (List.replicate 12 0)) c_States c_Rights aq hYC ⟨_,rfl,⟨rfl,List.length_replicate⟩⟩ (ap.app _) aw (by rintro (s | _) _ h_; (obtain ⟨_,rfl,rfl,_⟩:=h_; exact Fld.all (Fld.here (k:=1) rfl rfl)); (obtain ⟨_,_,h_⟩:=h_; exact h_.elim)) (Has.here (k:=1) rfl) aE _ (H.gt 4)).mono ?_;rintro vq bj ⟨aL,q0,bm,rfl,hvq,ag,aB⟩;replace H:=H.back ag rfl;clear ag hYC;rcases aL with s | _
 ·(try dsimp only at hM);obtain ⟨_,rfl,rfl,ak⟩:=aB;refine ⟨_,[cBlk aa (List.flatten [[I c_States,ab],encF (α:=Int) s]) 177,cBlk ae [Pq aa] 174,cBlk ac [Pq aa] 174,cBlk ah [I c_States,ab] 49,cBlk aj [I q0] 3],H.unbundle.pick [0,3,1,4,5,6,2] (by decide) rfl,ay.nb,?_⟩;intro bn H;rw [ay.pd];replace H:=H.nf
  try simp only []
  replace H:=H.pk [0,1,3];refine WD.seq<|WD.of ?_;refine W.draw (fun W=>St w W [cMk (ai :: ([])),cBlk aa (List.flatten [[I c_States,ab],encF (α:=Int) s]) 177,cBlk ac [Pq aa] 174] R) [(0,true),(1,true),(2,true),(3,true),(4,true),(5,true),(6,true),(7,true),(8,true),(9,false),(10,true)] mixed (by decide +kernel) rfl ?_;intro bo ao;replace H:=H.ext ao;clear ao
  refine ⟨(H.pk [0,1,2]),?_⟩;refine d_q rfl (fun w' H=>x_ld (v:=Pq aa) rfl (ldb_sc Sc174.h (H.bl 2) rfl))<|d_q rfl (fun w' H=>x_nc (a:=⟨aa,0,none⟩) rfl)<|d_q rfl (fun w' H=>x_fa (v:=Oq aa 2) rfl (fa_blk (o:=0) Fd177_1.h Sz175.h))<|d_q rfl (fun w' H=>x_ld (v:=Pq aa) rfl (ldb_sc Sc174.h (H.bl 2) rfl))<|d_q rfl (fun w' H=>x_nc (a:=⟨aa,0,none⟩) rfl)<|d_q rfl (fun w' H=>x_fa (v:=Pq aa) rfl (fa_blk (o:=0) Fd177_0.h Sz49.h))<|d_q rfl (fun w' H=>x_fa (v:=Pq aa) rfl (fa_blk (o:=0) Fd49_0.h Sz3.h))<|d_q rfl (fun w' H=>x_ld (v:=I c_States) rfl (ldb_sc Sc3.h (H.bl 1) rfl)) ?_;obtain ⟨bp,hM⟩:=M.e_gd hM
  have aM:Sl (blkC aa (List.flatten [[I c_States,ab],encF (α:=Int) s])) (.slice (some ⟨aa,2,none⟩) (Int.toNat c_States) 12) (s.take (Int.toNat c_States)):=segSl (α:=Int) (pre:=[I c_States,ab]) (post:=[]) (by simp) rfl ak (by omega) (by omega);refine d_q rfl (fun w' H=>x_sl (v:=Oq aa 2) (u:=(.slice (some ⟨aa,2,none⟩) (Int.toNat c_States) 12)) (lo':=none) (hi':=some (I c_States)) (mx':=none) rfl rfl rfl rfl (run_sliceA Tryz.underlying175 Sz3.h (by omega) (by omega)))<|d_l rfl ?_;obtain ⟨br,hM⟩:=M.e_gd hM;refine s_call cq [(.slice (some ⟨aa,2,none⟩) (Int.toNat c_States) 12)] rfl (clone_any (s.take (Int.toNat c_States)) (Reads.of (k:=1) rfl blkLe) aM (by omega) _ H.sep) ?_
  rintro aC bt ag;replace H:=H.bk ag;clear ag;refine kN ?_;refine d_q rfl (fun w' H=>x_as (v:=aC) rfl) ?_;refine d_nil ?_;replace H:=H.pk [0,1];refine WD.of ?_;refine W.ret ?_;refine bodyD_r (H.pk [1,0]) ?_;intro bu H;replace H:=H.nf;have aN:=M.e_pure hM;exact ⟨_,resE_tmp rfl,⟨(s.take (Int.toNat c_States)),aC,aN,rfl,H⟩⟩
 obtain ⟨_,_,h_⟩:=aB; exact h_.elim

def m_share_Real (c_States:Int) (c_Rights:List Rgt) (flow:Int):M ((List Int) × Int) :=
  M.bind (m_share_Check c_States c_Rights) fun r2 =>
  bif r2 != 0 then (
  M.pure (([]),r2))
  else (
  M.bind (m_share_water flow) fun r3 =>
  bif !r3 then (
  M.pure (([]),4))
  else (
  M.bind (m_share_serve c_States c_Rights flow) fun r4 =>
  M.pure (r4,0)))
theorem share_Real_ok {R ab ac}(c_States c_Rights flow)(ah:Reads R ab)(ai:Sl ab ac c_Rights){r}(hM:(m_share_Real c_States c_Rights flow).Ends r)(w)(H:St w w [] R):Ret Tryz.prog 12 #[.agg #[I c_States,ac],I flow] w fun v w'=>∃ y0 y1 u0,(y0,y1)=r/\v = .tuple #[u0,I y1]/\St w w' [cOwn (α:=Int) 3 u0 y0] R:=by
 refine ret_of_W Tryz.func12 rfl rfl rfl ?_;refine kB 2 ?_;intro aj ak H;refine kC 6 @share_Check_ok ?_;intro al r2 hM H;refine kI 10 ?_ ?_
 ·intro ae hM;refine kg 6 ?_;refine W.ret ?_;have aa:=M.e_pure hM;replace H:=H.nilOwn (α:=Int) 3;exact ⟨_,resE_tmp2 rfl,⟨([]),r2,(.slice none 0 0),aa,rfl,(H.pk [0])⟩⟩
 intro ae hM;refine kC 3 @share_water_ok ?_;intro ao r3 hM H;refine kI 3 ?_ ?_
 ·intro ag hM;refine kg 5 ?_;refine W.ret ?_;have aa:=M.e_pure hM;replace H:=H.nilOwn (α:=Int) 3;exact ⟨_,resE_tmp2 rfl,⟨([]),4,(.slice none 0 0),aa,rfl,(H.pk [0])⟩⟩
 intro ag hM;refine kC 5 @share_serve_ok ?_;intro ap r4 aq hM H;exact kR 3 [0]

def m_share_waters (s:Span):M Bool :=
  M.bind (m_share_in s.lo 0 s.hi) fun r2 =>
  M.bind (M.opt r2 (m_share_water s.hi) false) fun r3 =>
  M.pure (r2&&r3)
theorem share_waters_ok {R}(s){r}(hM:(m_share_waters s).Ends r)(w)(H:St w w [] R):Ret Tryz.prog 42 #[.agg #[I s.lo,I s.hi]] w fun v w'=>∃ y0,y0=r/\v=B y0/\St w w' [] R:=by
 refine ret_of_W Tryz.func42 rfl rfl rfl ?_;refine kB 2 ?_;intro ae ag H;refine kC 8 @share_in_ok ?_;intro ah r2 hM H;refine kg 3 ?_;obtain ⟨r3,aa,hM⟩:=M.e_bind hM;refine t_gcall r2 (gy_t rfl) cq (B r3) (fun _=>[I s.hi]) (fun hg=>lst1 (gd_of hg (I s.hi))) H (fun hg=>(share_water_ok s.hi (M.e_opt aa hg) _ (H.give (A:=[]) rfl)).mono fun v_ w_ ⟨y_,ab,ac,H_⟩=>by subst ab; exact ⟨ac,H.via H_⟩) ?_;intro ai H;refine kg 3 ?_;exact rt

def m_share_Shares_b0 (r4 r5:List Int):(Nat × (List Span))->M ((Nat × (List Span)) ⊕ ((List Span) × (List Span))):=fun (s,l) =>
  bif decide ((s:Int)<(r4.length:Int)) then (
  M.grd (decide ((s:Int)<(r4.length:Int))) <|
  M.grd (decide ((s:Int)<(r5.length:Int))) <|
  M.grd (decide ((l.length+([(⟨(r4.getD s 0:Int),(r5.getD s 0:Int)⟩:Span)]).length)*16<=140737488355328)) <|
  M.pure (.inl (s+1,l++([(⟨(r4.getD s 0:Int),(r5.getD s 0:Int)⟩:Span)]))))
  else (
  M.pure (.inr (l,l)))
def m_share_Shares (c_States:Int) (c_Rights:List Rgt) (flow:Span):M ((List Span) × Int) :=
  M.bind (m_share_Check c_States c_Rights) fun r2 =>
  bif r2 != 0 then (
  M.pure (([]),r2))
  else (
  M.bind (m_share_waters flow) fun r3 =>
  bif !r3 then (
  M.pure (([]),4))
  else (
  M.bind (m_share_serve c_States c_Rights flow.lo) fun r4 =>
  M.bind (m_share_serve c_States c_Rights flow.hi) fun r5 =>
  M.bind (M.iter (m_share_Shares_b0 r4 r5) (0,[])) fun (l2,l3) =>
  M.pure (l3,0)))
theorem share_Shares_ok {R ac ae}(c_States c_Rights flow)(av:Reads R ac)(aw:Sl ac ae c_Rights){r}(hM:(m_share_Shares c_States c_Rights flow).Ends r)(w)(H:St w w [] R):Ret Tryz.prog 13 #[.agg #[I c_States,ae],.agg #[I flow.lo,I flow.hi]] w fun v w'=>∃ y0 y1 u0,(y0,y1)=r/\v = .tuple #[u0,I y1]/\St w w' [cOwn (α:=Span) 32 u0 y0] R:=by
 refine ret_of_W Tryz.func13 rfl rfl rfl ?_;refine kB 2 ?_;intro ax ay H;refine kbx ?_;intro az aA H;refine kC 6 @share_Check_ok ?_;intro aB r2 hM H;refine kI 10 ?_ ?_
 ·intro aj hM;refine kg 6 ?_;replace H:=H.pk [];refine W.ret ?_;have aa:=M.e_pure hM;replace H:=H.nilOwn (α:=Span) 32;exact ⟨_,resE_tmp2 rfl,⟨([]),r2,(.slice none 0 0),aa,rfl,H⟩⟩
 intro aj hM;refine kC 3 @share_waters_ok ?_;intro aC r3 hM H;refine kI 3 ?_ ?_
 ·intro ak hM;refine kg 5 ?_;replace H:=H.pk [];refine W.ret ?_;have aa:=M.e_pure hM;replace H:=H.nilOwn (α:=Span) 32;exact ⟨_,resE_tmp2 rfl,⟨([]),4,(.slice none 0 0),aa,rfl,H⟩⟩
 intro ak hM;refine kDo 2 [0,1] [(0,true),(1,true),(2,true),(4,true),(5,true),(6,true),(3,false),(7,false),(8,true),(9,true)] ?_;intro aD H;refine kC 7 @share_serve_ok ?_;intro aE r4 ag hM H;refine kN ?_;refine kC 1 @share_serve_ok ?_;intro aF r5 ah hM H;refine kN ?_;refine kg 3 ?_;replace H:=H.pk [0,1];have aG:=((H.os 1)).len_le;refine kg 12 ?_;replace H:=H.nilOwn (α:=Span) 32;obtain ⟨al,ai,ao⟩:=M.e_bind hM;obtain ⟨aH,ai⟩:=M.e_iter ai;refine W.loop (fun m σ W=>∃ (s:Nat) (l:List Span) (ab:Value) (ρ:Env),σ=upds ρ [(7,ag),(8,ah),(9,ab),(30,I (r4.length:Int)),(31,I (s:Int))]/\M.iterN (m_share_Shares_b0 r4 r5) m (s,l)=some al/\St w W [cOwn (α:=Span) 32 ab l,cOwn (α:=Int) 3 ah r5,cOwn (α:=Int) 3 ag r4] R) ?_ ?_
 ·exact kY
 rintro aI σ aJ ⟨s,l,ab,ρ,rfl,ap,H⟩;obtain ⟨aK,aL,aM,hM,aq⟩:=M.e_iterN ap;refine kI 5 ?_ ?_
 ·intro au hM;refine kD 8 [1,2] [10,11] ?_;intro aN H;obtain ⟨aO,hM⟩:=M.e_gq hM;obtain ⟨aP,hM⟩:=M.e_gq hM;refine kL 11 (α:=Span) [⟨r4.getD s 0,r5.getD s 0⟩] ?_;intro aQ aR H;refine kN ?_;refine d_l rfl ?_;obtain ⟨aS,hM⟩:=M.e_gq hM;refine kP 0 ?_;intro aT aU H;refine kN ?_;exact kXp 6 [1,2,3]
 intro au hM;refine W.exit ?_;obtain rfl:=M.e_inr hM aq;replace hM:=ao;replace H:=H.pk [0];refine kg 6 ?_;exact rt

end Go.Proofs.YtlfkkkbhejeplaaGreat
end
section
set_option maxRecDepth 100000
set_option maxHeartbeats 16000000
namespace Go.Proofs.YtlfkkkbhejeplaaGreat
open Go Go.Nm
attribute [local irreducible] gd execOp SL SLD SLT WR
def zaY (lo hi:Int):M (Int × Int) :=
  M.pure (lo,hi)
theorem zbc {R}(lo hi){r}(hM:(zaY lo hi).Ends r)(w)(H:St w w [] R):Ret Tryz.prog 43 #[I lo,I hi] w fun v w'=>∃ y0 y1,(y0,y1)=r/\v = .agg #[I y0,I y1]/\St w w' [] R:=by
 refine ret_of_W Tryz.func43 rfl rfl rfl ?_;refine kA 2 ?_;intro aa ab H;refine kS 6 ?_;intro ac H;exact kR 1 []

def za6 (s_bytes:List UInt8) (r5:Int):(Int × Int × Int × Int × Nat × (List SPt))->M ((Int × Int × Int × Int × Nat × (List SPt)) ⊕ (Int × Int × (List SPt) × (List SPt))):=fun (s2,s3,index,due,s4,l) =>
  bif decide ((s4:Int)<r5) then (
  M.grd (decide ((l.length+([(⟨(index:Int),(due:Int)⟩:SPt)]).length)*16<=140737488355328)) <|
  M.bind (zae s_bytes s2 s3 1 60) fun (r6,aa,ab) =>
  M.gi (index+r6) <|
  M.bind (zac s_bytes aa ab 50) fun (r7,ac,ae) =>
  M.gi (due+r7) <|
  M.gi ((s4:Int)+1) <|
  M.pure (.inl (ac,ae,index+r6,due+r7,s4+1,l++([(⟨(index:Int),(due:Int)⟩:SPt)]))))
  else (
  M.pure (.inr (s2,s3,l,l)))
def zaW (s_bytes:List UInt8) (ap:Int):(Int × Int × Nat × (List SYr) × (List STr))->M ((Int × Int × Nat × (List SYr) × (List STr)) ⊕ ((List SYr) × (List STr) × (List STr) × (List SYr) × Int × Int)):=fun (s7,s8,s9,l4,l5) =>
  bif decide ((s9:Int)<ap) then (
  M.bind (zac s_bytes s7 s8 200) fun (aa,aq,au) =>
  M.bind (zac s_bytes aq au 120) fun (ab,av,aw) =>
  M.bind (zac s_bytes av aw 20) fun (ac,ax,ay) =>
  M.gi (aa-ac) <|
  M.bind (zac s_bytes ax ay 20) fun (ae,az,aA) =>
  M.gi (aa+ae) <|
  M.bind (zaY (max 0 (aa-ac)) (aa+ae)) fun (ai,aj) =>
  M.bind (zac s_bytes az aA 9) fun (ag,aB,aC) =>
  M.gi (ab-ag) <|
  M.bind (zac s_bytes aB aC 9) fun (ah,aD,aE) =>
  M.gi (ab+ah) <|
  M.bind (zaY (max 0 (ab-ag)) (ab+ah)) fun (ak,al) =>
  M.bind (zac s_bytes aD aE 9) fun (ao,aF,aG) =>
  M.grd (decide ((l4.length+([(⟨(ai:Int),(aj:Int),(ak:Int),(al:Int),(ao==0)⟩:SYr)]).length)*40<=140737488355328)) <|
  M.grd (decide ((l5.length+([(⟨(aa:Int),(ab:Int)⟩:STr)]).length)*16<=140737488355328)) <|
  M.gi ((s9:Int)+1) <|
  M.pure (.inl (aF,aG,s9+1,l4++([(⟨(ai:Int),(aj:Int),(ak:Int),(al:Int),(ao==0)⟩:SYr)]),l5++([(⟨(aa:Int),(ab:Int)⟩:STr)]))))
  else (
  M.pure (.inr (l4,l5,l5,l4,s7,s8)))
def zaR (s_bytes:List UInt8) (s_used s_mix most:Int):M ((List SPt) × Int × Int × Int × (List SYr) × (List STr) × Int × Int) :=
  M.bind (zac s_bytes s_used s_mix 60) fun (r2,q1,q2) =>
  M.bind (zac s_bytes q1 q2 50) fun (r3,aa,ab) =>
  M.bind (zac s_bytes aa ab 20) fun (r4,ac,ae) =>
  M.bind (zae s_bytes ac ae 2 6) fun (r5,ag,ah) =>
  M.bind (M.iter (za6 s_bytes r5) (ag,ah,r3,r4,0,[])) fun (s5,s6,l2,l3) =>
  M.bind (zae s_bytes s5 s6 (-40) 40) fun (r8,ai,aj) =>
  M.bind (zac s_bytes ai aj 20) fun (r9,ak,al) =>
  M.gi (r8+r9) <|
  M.bind (zaY r8 (r8+r9)) fun (r0,r1) =>
  M.bind (zae s_bytes ak al 1 most) fun (ao,ap,aq) =>
  M.bind (M.iter (zaW s_bytes ao) (ap,aq,0,[],[])) fun (l6,l7,l8,l9,au,av) =>
  M.pure (l3,r2,r0,r1,l9,l8,au,av)
theorem zdr {R aa ap ag}(s_bytes s_used s_mix most)(ac:Reads R ap)(ae:Sl ap ag s_bytes){r}(hM:(zaR s_bytes s_used s_mix most).Ends r)(w)(H:St w w [cBlk aa [ag,I s_used,I s_mix] 77] R):Ret Tryz.prog 14 #[Pq aa,I most] w fun v w'=>∃ y0 y1 y2 y3 y4 y5 y6 y7 u0 u1 u2,(y0,y1,y2,y3,y4,y5,y6,y7)=r/\v = .tuple #[.agg #[u0,I y1],.agg #[I y2,I y3],u1,u2]/\St w w' [cOwn (α:=SPt) 128 u0 y0,cOwn (α:=SYr) 63 u1 y4,cOwn (α:=STr) 65 u2 y5,cBlk aa [ag,I y6,I y7] 77] R:=by
 refine ret_of_W Tryz.func14 rfl rfl rfl ?_;refine kA 2 ?_;intro ai a7 H;refine kal ?_;intro aj a8 H;refine kg 6 ?_;obtain ⟨bc,ax,hM⟩:=M.e_bind hM;refine s_call cq [Pq aa,I 60] rfl (zab s_bytes s_used s_mix 60 (ac.app _) ae ax _ ((H.pk [2,0,1]).gt 2)) ?_;rintro _ bf ⟨r2,q1,q2,rfl,rfl,ab⟩;replace H:=H.pk [2,0,1] |>.bk ab
 refine kA 1 ?_;intro ak bh H;refine ksw ?_;intro bi H;refine kg 4 ?_;obtain ⟨bj,ay,hM⟩:=M.e_bind hM;refine s_call cq [Pq aa,I 50] rfl (zab s_bytes q1 q2 50 (ac.app _) ae ay _ ((H.pk [1,0,2,3]).gt 3)) ?_;rintro _ bm ⟨r3,bn,bo,rfl,rfl,ab⟩;replace H:=H.pk [1,0,2,3] |>.bk ab
 refine kC 1 @zab ?_;intro bp r4 br bt hM H;refine kC 7 @zag ?_;intro bu r5 bv bw hM H;refine kg 3 ?_;replace H:=H.nilOwn (α:=SPt) 128;obtain ⟨az,aq,aA⟩:=M.e_bind hM;obtain ⟨aB,aq⟩:=M.e_iter aq;refine W.loop (fun m σ W=>∃ (s2:Int) (s3:Int) (index:Int) (due:Int) (s4:Nat) (l:List SPt) (ah:Value) (ρ:Env),σ=upds ρ [(0,Pq aa),(1,I most),(4,Pq ai),(5,Pq aj),(8,Pq ak),(9,I index),(10,I due),(24,I r5),(25,I (s4:Int))]/\M.iterN (za6 s_bytes r5) m (s2,s3,index,due,s4,l)=some az/\St w W [cOwn (α:=SPt) 128 ah l,cBlk aa [ag,I s2,I s3] 77,cBlk ak [ah,I r2] 57,cBlk aj [I 0,I 0] 32,cBlk ai [.slice none 0 0,I 0] 57] R) ?_ ?_
 ·exact kY
 rintro bA σ bB ⟨s2,s3,index,due,s4,l,ah,ρ,rfl,aC,H⟩;obtain ⟨bC,bD,bE,hM,aD⟩:=M.e_iterN aC;refine kI 5 ?_ ?_
 ·intro aE hM;refine kL 10 (α:=SPt) [⟨index,due⟩] ?_;intro bF bG H;obtain ⟨bH,hM⟩:=M.e_gq hM;refine kP 0 ?_;intro bI bJ H;refine kS 1 ?_;intro bK H;refine kg 4 ?_;obtain ⟨bL,aF,hM⟩:=M.e_bind hM;refine s_call cq [Pq aa,I 1,I 60] rfl (zag s_bytes s2 s3 1 60 (ac.app _) ae aF _ ((H.pk [2,0,1,3,4,5]).gt 5)) ?_;rintro _ bM ⟨r6,bN,bO,rfl,rfl,ab⟩;replace H:=H.pk [2,0,1,3,4,5] |>.bk ab
  obtain ⟨bP,hM⟩:=M.e_gq hM;refine kC 3 @zab ?_;intro bQ r7 bR bS hM H;obtain ⟨bT,hM⟩:=M.e_gq hM;obtain ⟨bU,hM⟩:=M.e_gq hM;exact kXp 8 [2,0,3,4,5]
 intro aE hM;refine W.exit ?_;obtain rfl:=M.e_inr hM aD;replace hM:=aA;refine kg 3 ?_;obtain ⟨bV,aG,hM⟩:=M.e_bind hM;refine s_call cq [Pq aa,I (-40),I 40] rfl (zag s_bytes s2 s3 (-40) 40 (ac.app _) ae aG _ ((H.pk [1,0,2,3,4]).gt 4)) ?_;rintro _ bW ⟨r8,bX,bY,rfl,rfl,ab⟩;replace H:=H.pk [1,0,2,3,4] |>.bk ab
 refine kC 7 @zab ?_;intro bZ r9 aH aI hM H;obtain ⟨b5,hM⟩:=M.e_gq hM;refine kC 1 @zbc ?_;intro b6 r0 r1 hM H;refine kal ?_;intro au b7 H;refine ksw ?_;intro b8 H;refine kg 14 ?_;obtain ⟨b9,aJ,hM⟩:=M.e_bind hM;refine s_call cq [Pq aa,I 1,I most] rfl (zag s_bytes aH aI 1 most (ac.app _) ae aJ _ ((H.pk [1,0,2,3,4,5]).gt 5)) ?_;rintro _ cb ⟨av,cc,cd,rfl,rfl,ab⟩;replace H:=H.pk [1,0,2,3,4,5] |>.bk ab
 refine kg 3 ?_;replace H:=H.nilOwn (α:=SYr) 63;replace H:=H.nilOwn (α:=STr) 65;obtain ⟨aK,aw,aL⟩:=M.e_bind hM;obtain ⟨aB,aw⟩:=M.e_iter aw;refine W.loop (fun m σ W=>∃ (s7:Int) (s8:Int) (s9:Nat) (l4:List SYr) (l5:List STr) (al:Value) (ao:Value) (ρ:Env),σ=upds ρ [(0,Pq aa),(4,Pq ai),(5,Pq aj),(8,Pq ak),(12,Pq au),(13,al),(14,ao),(54,I av),(55,I (s9:Int))]/\M.iterN (zaW s_bytes av) m (s7,s8,s9,l4,l5)=some aK/\St w W [cOwn (α:=STr) 65 ao l5,cOwn (α:=SYr) 63 al l4,cBlk aa [ag,I s7,I s8] 77,cBlk au [I r0,I r1] 32,cOwn (α:=SPt) 128 ah l,cBlk ak [ah,I r2] 57,cBlk aj [I 0,I 0] 32,cBlk ai [.slice none 0 0,I 0] 57] R) ?_ ?_
 ·exact kY
 rintro ce σ cf ⟨s7,s8,s9,l4,l5,al,ao,ρ,rfl,aM,H⟩;obtain ⟨cg,ch,cj,hM,aN⟩:=M.e_iterN aM;refine kI 5 ?_ ?_
 ·intro aO hM;refine kg 6 ?_;obtain ⟨ck,aP,hM⟩:=M.e_bind hM;refine s_call cq [Pq aa,I 200] rfl (zab s_bytes s7 s8 200 (ac.app _) ae aP _ ((H.pk [2,0,1,3,4,5,6,7]).gt 7)) ?_;rintro _ ct ⟨aQ,cu,cv,rfl,rfl,ab⟩;replace H:=H.pk [2,0,1,3,4,5,6,7] |>.bk ab
  refine kC 1 @zab ?_;intro cw aR aS aT hM H;refine kA 1 ?_;intro cA cB H;refine ksw ?_;intro cC H;refine kDo 2 [0,2,4,5,6,7,8] [(0,true),(1,true),(2,true),(3,true),(7,true),(8,true),(9,true),(13,true),(14,true),(15,true),(19,true),(20,true),(21,true),(25,true),(4,false),(5,true),(6,true),(10,false),(11,true),(12,false),(16,false),(17,true),(18,true),(22,false),(23,true),(24,false),(26,false),(27,true),(28,true),(29,false),(30,false),(31,true)] ?_;intro cD H;refine kG 15 ?_;obtain ⟨cE,aU,hM⟩:=M.e_bind hM;refine s_call cq [Pq aa,I 20] rfl (zab s_bytes aS aT 20 (ac.app _) ae aU _ ((H.pk [1,0,2,3,4,5,6,7,8]).gt 8)) ?_;rintro _ cF ⟨cG,cH,cI,rfl,rfl,ab⟩;replace H:=H.pk [1,0,2,3,4,5,6,7,8] |>.bk ab
  refine kN ?_;obtain ⟨cJ,hM⟩:=M.e_gq hM;refine kC 3 @zab ?_;intro cK cL cM cN hM H;refine kN ?_;obtain ⟨cO,hM⟩:=M.e_gq hM;refine kC 2 @zbc ?_;intro cP aV aW hM H;refine kN ?_;refine kC 1 @zab ?_;intro cQ cR cS cT hM H;refine kN ?_;obtain ⟨cU,hM⟩:=M.e_gq hM;refine kC 3 @zab ?_;intro cV cW cX cY hM H;refine kN ?_;obtain ⟨cZ,hM⟩:=M.e_gq hM;refine kC 2 @zbc ?_;intro c3 aX aY hM H;refine kN ?_;refine kC 1 @zab ?_;intro c4 aZ c6 c7 hM H;refine kN ?_;refine kL 3 (α:=SYr) [⟨aV,aW,aX,aY,(aZ==0)⟩] ?_;intro c8 c9 H;refine kN ?_;refine d_l rfl ?_;obtain ⟨da,hM⟩:=M.e_gq hM;refine kP 0 ?_;intro dc dg H;refine kN ?_;refine kL 5 (α:=STr) [⟨aQ,aR⟩] ?_;intro dh di H;obtain ⟨dj,hM⟩:=M.e_gq hM;refine kP 0 ?_;intro dk dp H;refine kg 2 ?_;replace H:=H.pk [2,4,5,6,7,8,9,10];obtain ⟨dq,hM⟩:=M.e_gq hM;exact kXp 4 [1,2,0,3,4,5,6,7]
 intro aO hM;refine W.exit ?_;obtain rfl:=M.e_inr hM aN;replace hM:=aL;refine kD 1 [0,1,2,3,4,5] [4,5] ?_;intro dr H;refine kS 5 ?_;intro dt H;refine kN ?_;refine kS 1 ?_;intro dw H;refine kN ?_;refine kg 3 ?_;replace H:=H.pk [0,1,2,4,6,7];exact kR 0 [3,1,0,2]

def zak (s:List SPt) (f:SPt->M Bool):Nat->M (Nat ⊕ (Int ⊕ Unit)):=fun s2 =>
  bif decide ((s2:Int)<(s.length:Int)) then (
  M.grd (decide ((s2:Int)<(s.length:Int))) <|
  M.bind (f (s.getD s2 default)) fun r2 =>
  bif r2 then (
  M.pure (.inr (.inl (s2:Int))))
  else (
  M.pure (.inl (s2+1))))
  else (
  M.pure (.inr (.inr ())))
def zat (s:List SPt) (f:SPt->M Bool):M Int :=
  M.bind (M.iter (zak s f) 0) fun x_=>match x_ with
  | (.inl s3)=>(
  M.pure s3)
  | (.inr (_:Unit))=>(
  M.pure (-1))
theorem zbY {R ac aa ab}(s f)(au:Reads R ac)(ai:Sl ac aa s)(aj:FnM Tryz.prog R ab f){r}(hM:(zat s f).Ends r)(w)(H:St w w [] R):Ret Tryz.prog 130 #[aa,ab] w fun v w'=>∃ y0,y0=r/\v=I y0/\St w w' [] R:=by
 refine ret_of_W Tryz.func130 rfl rfl rfl ?_;have av:=(ai).len_le;refine kg 12 ?_;obtain ⟨ak,ae,ag⟩:=M.e_bind hM;obtain ⟨aw,ae⟩:=M.e_iter ae;refine W.loop (fun m σ W=>∃ (s2:Nat) (ρ:Env),σ=upds ρ [(0,aa),(1,ab),(7,I (s.length:Int)),(8,I (s2:Int))]/\M.iterN (zak s f) m s2=some ak/\St w W [] R) ?_ ?_
 ·exact kY
 rintro ax σ ay ⟨s2,ρ,rfl,al,H⟩;obtain ⟨az,aA,aB,hM,ah⟩:=M.e_iterN al;refine kI 5 ?_ ?_
 ·intro ao hM;obtain ⟨aC,hM⟩:=M.e_gq hM;refine kg 15 ?_;obtain ⟨r2,ap,hM⟩:=M.e_bind hM;refine t_callM H aj rfl rfl (s.getD s2 default) Reads.none ⟨_,rfl,rfl⟩ ap ?_;intro aD H;refine kI 1 ?_ ?_
  ·intro aq hM;refine kg 5 ?_;obtain rfl:=M.e_inr hM ah;replace hM:=ag;exact rt
  intro aq hM;exact kX 5
 intro ao hM;refine W.exit ?_;obtain rfl:=M.e_inr hM ah;replace hM:=ag;refine kg 4 ?_;exact rt

def zaC (s:List SPt) (f:SPt->M Bool):M Bool :=
  M.bind (zat s f) fun r2 =>
  M.pure (decide (0<=r2))
theorem zdA {R aa ab ac}(s f)(ae:Reads R aa)(ag:Sl aa ab s)(ah:FnM Tryz.prog R ac f){r}(hM:(zaC s f).Ends r)(w)(H:St w w [] R):Ret Tryz.prog 163 #[ab,ac] w fun v w'=>∃ y0,y0=r/\v=B y0/\St w w' [] R:=by
 refine ret_of_W Tryz.func163 rfl rfl rfl ?_;refine kC 8 @zbY ?_;intro ai r2 hM H;refine kg 3 ?_;exact rt

def m_share_every_share_Point__1 (x:SPt) (aa:SPt->M Bool):M Bool :=
  M.bind (aa x) fun r2 =>
  M.pure (!r2)
theorem share_every_share_Point__1_ok {R aa ab}(x ac)(ae:FnM Tryz.prog R ab ac)(ah:Has R (cBlk aa [ab] 237)){r}(hM:(m_share_every_share_Point__1 x ac).Ends r)(w)(H:St w w [] R):Ret Tryz.prog 164 #[.agg #[I x.index,I x.due],Pq aa] w fun v w'=>∃ y0,y0=r/\v=B y0/\St w w' [] R:=by
 refine ret_of_W Tryz.func164 rfl rfl rfl ?_;refine kB 2 ?_;intro ai aj H;refine kg 6 ?_;obtain ⟨r2,ag,hM⟩:=M.e_bind hM;refine t_callM H ae rfl rfl x Reads.none ⟨_,rfl,rfl⟩ ag ?_;intro ak H;refine kg 3 ?_;exact rt

def m_share_every_share_Point (l:List SPt) (so:SPt->M Bool):M Bool :=
  M.bind (zaC l (fun aa=>m_share_every_share_Point__1 aa so)) fun r2 =>
  M.pure (!r2)
theorem share_every_share_Point_ok {R ae aa ag}(l so)(ai:Reads R ae)(aj:Sl ae aa l)(ak:FnM Tryz.prog R ag so){r}(hM:(m_share_every_share_Point l so).Ends r)(w)(H:St w w [] R):Ret Tryz.prog 126 #[aa,ag] w fun v w'=>∃ y0,y0=r/\v=B y0/\St w w' [] R:=by
 refine ret_of_W Tryz.func126 rfl rfl rfl ?_;refine kB 2 ?_;intro ab az H;refine kg 5 ?_;refine s_val (x_mf (fs:=[]) (cs:=[Pq ab]) rfl rfl) ?_;obtain ⟨aA,al,hM⟩:=M.e_bind hM;refine s_call cq [aa,.func (.func 164) #[] #[Pq ab]] rfl (zdA l (fun ac=>m_share_every_share_Point__1 ac so) (ai.app _) aj ⟨164,[Pq ab],rfl,cq,fun ah aB aC ao ac aD ap aE aq au=>by obtain rfl:=SPt_arg aq; exact (share_every_share_Point__1_ok ac so (FnM.app (ak.app _) _) (Has.app (Has.here (k:=0) rfl) _) au ah (St.refl ap)).mono fun ao ah ⟨aF,av,aw,ax⟩=>by subst av; exact ⟨aw,ax⟩⟩ al _ (H.gt 1)) ?_;rintro _ aG ⟨r2,rfl,rfl,ay⟩;replace H:=H.bk ay;refine kg 3 ?_;exact rt

def m_share_CheckBorder_1 (p:SPt):M Bool :=
  M.bind (m_share_water p.index) fun r2 =>
  M.bind (M.opt r2 (m_share_water p.due) false) fun r3 =>
  M.pure (r2&&r3)
theorem share_CheckBorder_1_ok {R}(p){r}(hM:(m_share_CheckBorder_1 p).Ends r)(w)(H:St w w [] R):Ret Tryz.prog 127 #[.agg #[I p.index,I p.due]] w fun v w'=>∃ y0,y0=r/\v=B y0/\St w w' [] R:=by
 refine ret_of_W Tryz.func127 rfl rfl rfl ?_;refine kB 2 ?_;intro ae ag H;refine kC 6 @share_water_ok ?_;intro ah r2 hM H;refine kg 3 ?_;obtain ⟨r3,aa,hM⟩:=M.e_bind hM;refine t_gcall r2 (gy_t rfl) cq (B r3) (fun _=>[I p.due]) (fun hg=>lst1 (gd_of hg (I p.due))) H (fun hg=>(share_water_ok p.due (M.e_opt aa hg) _ (H.give (A:=[]) rfl)).mono fun v_ w_ ⟨y_,ab,ac,H_⟩=>by subst ab; exact ⟨ac,H.via H_⟩) ?_;intro ai H;refine kg 3 ?_;exact rt

def m_share_CheckBorder_b0 (aa:List SPt):Nat->M (Nat ⊕ (Unit ⊕ Unit)):=fun s =>
  bif decide ((s:Int)<((aa.drop 1).length:Int)) then (
  M.grd (decide ((s:Int)<(aa.length:Int))) <|
  M.grd (decide ((0:Int)<=((s:Int)+1))&&decide (((s:Int)+1)<(aa.length:Int))) <|
  bif ((decide (((aa.getD (Int.toNat ((s:Int)+1)) default).index)<=((aa.getD s default).index)))||(decide (((aa.getD (Int.toNat ((s:Int)+1)) default).due)<((aa.getD s default).due)))) then (
  M.pure (.inr (.inl ())))
  else (
  M.pure (.inl (s+1))))
  else (
  M.pure (.inr (.inr ())))
def m_share_CheckBorder (aa:List SPt) (ab:Int):M Int :=
  M.bind (m_share_in (aa.length:Int) 2 12) fun r2 =>
  bif !r2 then (
  M.pure 3)
  else (
  M.bind (m_share_every_share_Point aa (fun ac=>m_share_CheckBorder_1 ac)) fun r3 =>
  M.bind (M.opt (!(!r3)) (m_share_water ab) false) fun r4 =>
  bif ((!r3)||(!r4)) then (
  M.pure 100)
  else (
  M.grd (decide (1<=(aa.length:Int))) <|
  M.bind (M.iter (m_share_CheckBorder_b0 aa) 0) fun x_=>match x_ with
  | (.inl (_:Unit))=>(
  M.pure 9)
  | (.inr (_:Unit))=>(
  M.pure 0)))
theorem share_CheckBorder_ok {R ak ac}(aa ab)(au:Reads R ak)(ae:Sl ak ac aa){r}(hM:(m_share_CheckBorder aa ab).Ends r)(w)(H:St w w [] R):Ret Tryz.prog 77 #[.agg #[ac,I ab]] w fun v w'=>∃ y0,y0=r/\v=I y0/\St w w' [] R:=by
 refine ret_of_W Tryz.func77 rfl rfl rfl ?_;refine kB 2 ?_;intro al aR H;have aS:=(ae).len_le;refine kC 9 @share_in_ok ?_;intro aT r2 hM H;refine kI 3 ?_ ?_
 ·intro av hM;refine kg 4 ?_;exact rt
 intro av hM;refine kg 4 ?_;obtain ⟨aU,aw,hM⟩:=M.e_bind hM;refine s_call cq [ac,.func (.func 127) #[] #[]] rfl (share_every_share_Point_ok aa (fun ag=>m_share_CheckBorder_1 ag) (au.app _) ae ⟨127,[],rfl,cq,fun ao aV aW ax ag aX ay aY az aA=>by obtain rfl:=SPt_arg az; exact (share_CheckBorder_1_ok ag aA ao (St.refl ay)).mono fun ax ao ⟨aZ,aB,aC,aD⟩=>by subst aB; exact ⟨aC,aD⟩⟩ aw _ (H.gt 1)) ?_;rintro _ a7 ⟨r3,rfl,rfl,aE⟩;replace H:=H.bk aE;refine kg 4 ?_;obtain ⟨r4,aF,hM⟩:=M.e_bind hM;refine t_gcall (!(!r3)) (gy_f rfl) cq (B r4) (fun _=>[I ab]) (fun hg=>lst1 (gd_of hg (I ab))) H (fun hg=>(share_water_ok ab (M.e_opt aF hg) _ (H.give (A:=[]) rfl)).mono fun v_ w_ ⟨y_,aG,aH,H_⟩=>by subst aG; exact ⟨aH,H.via H_⟩) ?_;intro a8 H;refine kI 4 ?_ ?_
 ·intro aI hM;refine kg 4 ?_;exact rt
 intro aI hM;obtain ⟨bc,hM⟩:=M.e_gq hM;refine kg 6 ?_;obtain ⟨ap,aJ,ah⟩:=sl_lo T55.h.und T55.h.size ae (i:=1) (by omega) (by omega);replace ah:Sl _ ap (aa.drop 1):=ah;refine s_val (x_sl (v:=ac) (u:=ap) (lo':=some (I 1)) (hi':=none) (mx':=none) rfl rfl rfl rfl (aJ _)) ?_;have bf:=(ah).len_le;refine kg 4 ?_;obtain ⟨aK,aq,ai⟩:=M.e_bind hM;obtain ⟨bh,aq⟩:=M.e_iter aq;refine W.loop (fun m σ W=>∃ (s:Nat) (ρ:Env),σ=upds ρ [(1,Pq al),(26,I ((aa.drop 1).length:Int)),(27,I (s:Int))]/\M.iterN (m_share_CheckBorder_b0 aa) m s=some aK/\St w W [cBlk al [ac,I ab] 57] R) ?_ ?_
 ·exact kY
 rintro bi σ bj ⟨s,ρ,rfl,aL,H⟩;obtain ⟨bm,bn,bo,hM,aj⟩:=M.e_iterN aL;refine kI 5 ?_ ?_
 ·intro aM hM;refine kDT 9 [0] (.q 0 (.q 1 (.q 2 (.q 3 (.q 4 (.q 5 (.q 6 (.q 7 (.q 8 (.q 9 (.q 10 (.l2 11 (.l 12 (.l 13 (.l 14 .nil))) 12 (.l 11 (.l 13 (.l 14 .nil))))))))))))))) ?_;intro bp H;obtain ⟨br,hM⟩:=M.e_gq hM;obtain ⟨bt,hM⟩:=M.e_gq hM;refine kg 11 ?_;refine t_l2 rfl rfl ?_ ?_
  ·refine kal ?_;intro aN bu H;refine kN ?_;refine kA 1 ?_;intro aO bv H;refine kN ?_;refine kS 1 ?_;intro bw H;refine kN ?_;refine kS 1 ?_;intro bA H;refine kN ?_;refine kI 16 ?_ ?_
   ·intro aP hM;refine kg 4 ?_;replace H:=H.pk [2];obtain rfl:=M.e_inr hM aj;replace hM:=ai;exact rt
   intro aP hM;exact kXp 5 [2]
  refine kal ?_;intro aO bB H;refine kN ?_;refine kA 1 ?_;intro aN bC H;refine kN ?_;refine kS 1 ?_;intro bD H;refine kN ?_;refine kS 1 ?_;intro bE H;refine kN ?_;refine kI 16 ?_ ?_
  ·intro aQ hM;refine kg 4 ?_;replace H:=H.pk [2];obtain rfl:=M.e_inr hM aj;replace hM:=ai;exact rt
  intro aQ hM;exact kXp 5 [2]
 intro aM hM;refine W.exit ?_;obtain rfl:=M.e_inr hM aj;replace hM:=ai;refine kg 4 ?_;exact rt

def zaD (s:List SYr) (f:SYr->M Bool):Nat->M (Nat ⊕ (Int ⊕ Unit)):=fun s2 =>
  bif decide ((s2:Int)<(s.length:Int)) then (
  M.grd (decide ((s2:Int)<(s.length:Int))) <|
  M.bind (f (s.getD s2 default)) fun r2 =>
  bif r2 then (
  M.pure (.inr (.inl (s2:Int))))
  else (
  M.pure (.inl (s2+1))))
  else (
  M.pure (.inr (.inr ())))
def zbf (s:List SYr) (f:SYr->M Bool):M Int :=
  M.bind (M.iter (zaD s f) 0) fun x_=>match x_ with
  | (.inl s3)=>(
  M.pure s3)
  | (.inr (_:Unit))=>(
  M.pure (-1))
theorem zcW {R ac aa ab}(s f)(au:Reads R ac)(ai:Sl ac aa s)(aj:FnM Tryz.prog R ab f){r}(hM:(zbf s f).Ends r)(w)(H:St w w [] R):Ret Tryz.prog 165 #[aa,ab] w fun v w'=>∃ y0,y0=r/\v=I y0/\St w w' [] R:=by
 refine ret_of_W Tryz.func165 rfl rfl rfl ?_;have av:=(ai).len_le;refine kg 12 ?_;obtain ⟨ak,ae,ag⟩:=M.e_bind hM;obtain ⟨aw,ae⟩:=M.e_iter ae;refine W.loop (fun m σ W=>∃ (s2:Nat) (ρ:Env),σ=upds ρ [(0,aa),(1,ab),(7,I (s.length:Int)),(8,I (s2:Int))]/\M.iterN (zaD s f) m s2=some ak/\St w W [] R) ?_ ?_
 ·exact kY
 rintro ax σ ay ⟨s2,ρ,rfl,al,H⟩;obtain ⟨az,aA,aB,hM,ah⟩:=M.e_iterN al;refine kI 5 ?_ ?_
 ·intro ao hM;obtain ⟨aC,hM⟩:=M.e_gq hM;refine kg 15 ?_;obtain ⟨r2,ap,hM⟩:=M.e_bind hM;refine t_callM H aj rfl rfl (s.getD s2 default) Reads.none ⟨_,rfl,rfl⟩ ap ?_;intro aD H;refine kI 1 ?_ ?_
  ·intro aq hM;refine kg 5 ?_;obtain rfl:=M.e_inr hM ah;replace hM:=ag;exact rt
  intro aq hM;exact kX 5
 intro ao hM;refine W.exit ?_;obtain rfl:=M.e_inr hM ah;replace hM:=ag;refine kg 4 ?_;exact rt

def zay (s:List SYr) (f:SYr->M Bool):M Bool :=
  M.bind (zbf s f) fun r2 =>
  M.pure (decide (0<=r2))
theorem zdp {R aa ab ac}(s f)(ae:Reads R aa)(ag:Sl aa ab s)(ah:FnM Tryz.prog R ac f){r}(hM:(zay s f).Ends r)(w)(H:St w w [] R):Ret Tryz.prog 128 #[ab,ac] w fun v w'=>∃ y0,y0=r/\v=B y0/\St w w' [] R:=by
 refine ret_of_W Tryz.func128 rfl rfl rfl ?_;refine kC 8 @zcW ?_;intro ai r2 hM H;refine kg 3 ?_;exact rt

def m_share_every_share_Year__1 (x:SYr) (aa:SYr->M Bool):M Bool :=
  M.bind (aa x) fun r2 =>
  M.pure (!r2)
theorem share_every_share_Year__1_ok {R aa ab}(x ac)(ae:FnM Tryz.prog R ab ac)(ah:Has R (cBlk aa [ab] 184)){r}(hM:(m_share_every_share_Year__1 x ac).Ends r)(w)(H:St w w [] R):Ret Tryz.prog 129 #[.agg #[I x.ilo,I x.ihi,I x.dlo,I x.dhi,B x.spill],Pq aa] w fun v w'=>∃ y0,y0=r/\v=B y0/\St w w' [] R:=by
 refine ret_of_W Tryz.func129 rfl rfl rfl ?_;refine kB 2 ?_;intro ai aj H;refine kg 6 ?_;obtain ⟨r2,ag,hM⟩:=M.e_bind hM;refine t_callM H ae rfl rfl x Reads.none ⟨_,rfl,rfl⟩ ag ?_;intro ak H;refine kg 3 ?_;exact rt

def m_share_every_share_Year (l:List SYr) (so:SYr->M Bool):M Bool :=
  M.bind (zay l (fun aa=>m_share_every_share_Year__1 aa so)) fun r2 =>
  M.pure (!r2)
theorem share_every_share_Year_ok {R ae aa ag}(l so)(ai:Reads R ae)(aj:Sl ae aa l)(ak:FnM Tryz.prog R ag so){r}(hM:(m_share_every_share_Year l so).Ends r)(w)(H:St w w [] R):Ret Tryz.prog 78 #[aa,ag] w fun v w'=>∃ y0,y0=r/\v=B y0/\St w w' [] R:=by
 refine ret_of_W Tryz.func78 rfl rfl rfl ?_;refine kB 2 ?_;intro ab az H;refine kg 5 ?_;refine s_val (x_mf (fs:=[]) (cs:=[Pq ab]) rfl rfl) ?_;obtain ⟨aA,al,hM⟩:=M.e_bind hM;refine s_call cq [aa,.func (.func 129) #[] #[Pq ab]] rfl (zdp l (fun ac=>m_share_every_share_Year__1 ac so) (ai.app _) aj ⟨129,[Pq ab],rfl,cq,fun ah aB aC ao ac aD ap aE aq au=>by obtain rfl:=SYr_arg aq; exact (share_every_share_Year__1_ok ac so (FnM.app (ak.app _) _) (Has.app (Has.here (k:=0) rfl) _) au ah (St.refl ap)).mono fun ao ah ⟨aF,av,aw,ax⟩=>by subst av; exact ⟨aw,ax⟩⟩ al _ (H.gt 1)) ?_;rintro _ aG ⟨r2,rfl,rfl,ay⟩;replace H:=H.bk ay;refine kg 3 ?_;exact rt

def m_share_asked_1 (y:SYr):M Bool :=
  M.bind (m_share_waters (⟨(y.ilo:Int),(y.ihi:Int)⟩:Span)) fun r2 =>
  M.bind (M.opt r2 (m_share_waters (⟨(y.dlo:Int),(y.dhi:Int)⟩:Span)) false) fun r3 =>
  M.pure (r2&&r3)
theorem share_asked_1_ok {R}(y){r}(hM:(m_share_asked_1 y).Ends r)(w)(H:St w w [] R):Ret Tryz.prog 79 #[.agg #[I y.ilo,I y.ihi,I y.dlo,I y.dhi,B y.spill]] w fun v w'=>∃ y0,y0=r/\v=B y0/\St w w' [] R:=by
 refine ret_of_W Tryz.func79 rfl rfl rfl ?_;refine kB 2 ?_;intro ae ag H;refine kC 6 @share_waters_ok ?_;intro ah r2 hM H;refine kg 3 ?_;obtain ⟨r3,aa,hM⟩:=M.e_bind hM;refine t_gcall r2 (gy_t rfl) cq (B r3) (fun _=>[.agg #[I y.dlo,I y.dhi]]) (fun hg=>lst1 (gd_of hg (.agg #[I y.dlo,I y.dhi]))) H (fun hg=>(share_waters_ok (⟨(y.dlo:Int),(y.dhi:Int)⟩:Span) (M.e_opt aa hg) _ (H.give (A:=[]) rfl)).mono fun v_ w_ ⟨y_,ab,ac,H_⟩=>by subst ab; exact ⟨ac,H.via H_⟩) ?_;intro ai H;refine kg 3 ?_;exact rt

def m_share_asked (aa:List SPt) (ab:Int) (start:Span) (years:List SYr):M Int :=
  M.bind (m_share_CheckBorder aa ab) fun r2 =>
  bif r2 != 0 then (
  M.pure r2)
  else (
  M.bind (m_share_in start.lo (-1000000000) start.hi) fun r3 =>
  bif ((!r3)||(decide (1000000000<start.hi))) then (
  M.pure 4)
  else (
  bif decide (40<(years.length:Int)) then (
  M.pure 3)
  else (
  M.bind (m_share_every_share_Year years (fun ac=>m_share_asked_1 ac)) fun r4 =>
  bif !r4 then (
  M.pure 100)
  else (
  M.pure 0))))
theorem share_asked_ok {R ac ae ag aa}(ah ai start years)(aE:Reads R ac)(aF:Sl ac ae ah)(al:Reads R ag)(aj:Sl ag aa years){r}(hM:(m_share_asked ah ai start years).Ends r)(w)(H:St w w [] R):Ret Tryz.prog 44 #[.agg #[ae,I ai],.agg #[I start.lo,I start.hi],aa] w fun v w'=>∃ y0,y0=r/\v=I y0/\St w w' [] R:=by
 refine ret_of_W Tryz.func44 rfl rfl rfl ?_;refine kB 2 ?_;intro aG aH H;refine kbx ?_;intro aI aJ H;refine kC 5 @share_CheckBorder_ok ?_;intro aK r2 hM H;refine kI 10 ?_ ?_
 ·intro ao hM;refine kg 5 ?_;replace H:=H.pk [];exact rt
 intro ao hM;refine kC 6 @share_in_ok ?_;intro aL r3 hM H;refine kg 8 ?_;replace H:=H.pk [];refine kI 0 ?_ ?_
 ·intro ap hM;refine kg 4 ?_;exact rt
 intro ap hM;have aM:=(aj).len_le;refine kI 7 ?_ ?_
 ·intro aq hM;refine kg 4 ?_;exact rt
 intro aq hM;refine kg 3 ?_;obtain ⟨aN,au,hM⟩:=M.e_bind hM;refine s_call cq [aa,.func (.func 79) #[] #[]] rfl (share_every_share_Year_ok years (fun ab=>m_share_asked_1 ab) (al.app _) aj ⟨79,[],rfl,cq,fun ak aO aP av ab aQ aw aR ax ay=>by obtain rfl:=SYr_arg ax; exact (share_asked_1_ok ab ay ak (St.refl aw)).mono fun av ak ⟨aS,az,aA,aB⟩=>by subst az; exact ⟨aA,aB⟩⟩ au _ (H.gt 0)) ?_;rintro _ aT ⟨r4,rfl,rfl,aC⟩;replace H:=H.bk aC;refine kI 3 ?_ ?_
 ·intro aD hM;refine kg 4 ?_;exact rt
 intro aD hM;refine kg 5 ?_;exact rt

def m_share_Border_goes (ab:List SPt) (aa debt:Int):M ((Int->Option Int) × Int × Int) :=
  M.pure ((fun _=>none),aa,debt)
theorem share_Border_goes_ok {R ab aa}(ac ae debt)(ap:Reads R ab)(aq:Sl ab aa ac){r}(hM:(m_share_Border_goes ac ae debt).Ends r)(w)(H:St w w [] R):Ret Tryz.prog 45 #[.agg #[aa,I ae],I debt] w fun v w'=>∃ y0 y1 y2 ag ah ai aj,(y0,y1,y2)=r/\v = .func (.func 80) #[] #[Pq ag,Pq ai,Pq aj]/\St w w' [cBlk ag [.map (some ah)] 185,cMap I I ah y0,cBlk ai [aa,I y1] 57,cBlk aj [I y2] 3] R:=by
 refine ret_of_W Tryz.func45 rfl rfl rfl ?_;refine kB 2 ?_;intro ak au H;refine kbx ?_;intro al av H;refine kg 4 ?_;refine t_mkmap (κ:=Int) (ν:=Int) I I H ?_;intro aw ax H;refine kal ?_;intro ao ay H;refine ksw ?_;intro az H;refine kg 3 ?_;refine s_val (x_mf (fs:=[]) (cs:=[Pq ao,Pq ak,Pq al]) rfl rfl) ?_;exact kR 2 [0,1,3,2]

def m_share_Border_due_1 (p:SPt) (aa:Int):M Bool :=
  M.pure (decide (aa<p.index))
theorem share_Border_due_1_ok {R aa}(p ab)(ac:Has R (cBlk aa [I ab] 3)){r}(hM:(m_share_Border_due_1 p ab).Ends r)(w)(H:St w w [] R):Ret Tryz.prog 131 #[.agg #[I p.index,I p.due],Pq aa] w fun v w'=>∃ y0,y0=r/\v=B y0/\St w w' [] R:=by
 refine ret_of_W Tryz.func131 rfl rfl rfl ?_;refine kB 2 ?_;intro ae ag H;refine kg 10 ?_;exact rt

def m_share_Border_due (aa:List SPt) (ac index:Int):M Int :=
  M.bind (zat aa (fun ab=>m_share_Border_due_1 ab index)) fun r2 =>
  bif r2==0 then (
  M.grd (decide (0<(aa.length:Int))) <|
  M.pure ((aa.getD 0 default).due))
  else (
  bif r2==(-1) then (
  M.grd (decide ((0:Int)<=((aa.length:Int)-1))&&decide (((aa.length:Int)-1)<(aa.length:Int))) <|
  M.pure ((aa.getD (Int.toNat ((aa.length:Int)-1)) default).due))
  else (
  M.gi (r2-1) <|
  M.grd (decide ((0:Int)<=(r2-1))&&decide ((r2-1)<(aa.length:Int))) <|
  M.grd (decide ((0:Int)<=r2)&&decide (r2<(aa.length:Int))) <|
  M.gi (((aa.getD (Int.toNat r2) default).due)-((aa.getD (Int.toNat (r2-1)) default).due)) <|
  M.gi (index-((aa.getD (Int.toNat (r2-1)) default).index)) <|
  M.gi ((((aa.getD (Int.toNat r2) default).due)-((aa.getD (Int.toNat (r2-1)) default).due))*(index-((aa.getD (Int.toNat (r2-1)) default).index))) <|
  M.gi (((aa.getD (Int.toNat r2) default).index)-((aa.getD (Int.toNat (r2-1)) default).index)) <|
  M.grd (decide (0<=((((aa.getD (Int.toNat r2) default).due)-((aa.getD (Int.toNat (r2-1)) default).due))*(index-((aa.getD (Int.toNat (r2-1)) default).index))))&&decide (((((aa.getD (Int.toNat r2) default).due)-((aa.getD (Int.toNat (r2-1)) default).due))*(index-((aa.getD (Int.toNat (r2-1)) default).index)))<=(9223372036854775807:Int))&&decide ((0:Int)<(((aa.getD (Int.toNat r2) default).index)-((aa.getD (Int.toNat (r2-1)) default).index)))) <|
  M.gi (((aa.getD (Int.toNat (r2-1)) default).due)+(((((aa.getD (Int.toNat r2) default).due)-((aa.getD (Int.toNat (r2-1)) default).due))*(index-((aa.getD (Int.toNat (r2-1)) default).index))) / (((aa.getD (Int.toNat r2) default).index)-((aa.getD (Int.toNat (r2-1)) default).index)))) <|
  M.pure (((aa.getD (Int.toNat (r2-1)) default).due)+(((((aa.getD (Int.toNat r2) default).due)-((aa.getD (Int.toNat (r2-1)) default).due))*(index-((aa.getD (Int.toNat (r2-1)) default).index))) / (((aa.getD (Int.toNat r2) default).index)-((aa.getD (Int.toNat (r2-1)) default).index))))))
theorem share_Border_due_ok {R ag aa}(ab ah index)(ak:Reads R ag)(ai:Sl ag aa ab){r}(hM:(m_share_Border_due ab ah index).Ends r)(w)(H:St w w [] R):Ret Tryz.prog 81 #[.agg #[aa,I ah],I index] w fun v w'=>∃ y0,y0=r/\v=I y0/\St w w' [] R:=by
 refine ret_of_W Tryz.func81 rfl rfl rfl ?_;refine kB 2 ?_;intro aD aE H;refine kbx ?_;intro ac aF H;refine kg 6 ?_;refine s_val (x_mf (fs:=[]) (cs:=[Pq ac]) rfl rfl) ?_;obtain ⟨aG,al,hM⟩:=M.e_bind hM;refine s_call cq [aa,.func (.func 131) #[] #[Pq ac]] rfl (zbY ab (fun ae=>m_share_Border_due_1 ae index) (ak.app _) ai ⟨131,[Pq ac],rfl,cq,fun aj aH aI ao ae aJ ap aK aq au=>by obtain rfl:=SPt_arg aq; exact (share_Border_due_1_ok ae index (Has.app (Has.here (k:=0) rfl) _) au aj (St.refl ap)).mono fun ao aj ⟨aL,av,aw,ax⟩=>by subst av; exact ⟨aw,ax⟩⟩ al _ (H.gt 2)) ?_;rintro _ aM ⟨r2,rfl,rfl,ay⟩;replace H:=H.bk ay;refine kI 13 ?_ ?_
 ·intro az hM;obtain ⟨aN,hM⟩:=M.e_gq hM;refine kg 9 ?_;replace H:=H.pk [];exact rt
 intro az hM;refine kI 5 ?_ ?_
 ·intro aA hM;have aO:=(ai).len_le;obtain ⟨aP,hM⟩:=M.e_gq hM;refine kg 13 ?_;replace H:=H.pk [];exact rt
 intro aA hM;refine kDT 2 [0,1] (.q 0 (.q 1 (.q 2 (.q 3 (.q 4 (.q 5 (.q 6 (.q 7 (.q 8 (.q 9 (.q 10 (.l2 11 (.l 12 (.l 13 (.l 14 .nil))) 12 (.l 11 (.l 13 (.l 14 .nil))))))))))))))) ?_;intro aQ H;obtain ⟨aR,hM⟩:=M.e_gq hM;obtain ⟨aS,hM⟩:=M.e_gq hM;obtain ⟨aT,hM⟩:=M.e_gq hM;refine kg 11 ?_;refine t_l2 rfl rfl ?_ ?_
 ·refine kal ?_;intro aB aU H;refine kN ?_;refine kA 1 ?_;intro aC aV H;refine kN ?_;refine kS 1 ?_;intro aW H;refine kN ?_;refine kS 1 ?_;intro aX H;refine kN ?_;refine kD 2 [0,1,2,3] [] ?_;intro aY H;obtain ⟨aZ,hM⟩:=M.e_gq hM;obtain ⟨a7,hM⟩:=M.e_gq hM;obtain ⟨a8,hM⟩:=M.e_gq hM;obtain ⟨bc,hM⟩:=M.e_gq hM;obtain ⟨bf,hM⟩:=M.e_gq hM;obtain ⟨bh,hM⟩:=M.e_gq hM;refine kg 21 ?_;replace H:=H.pk [];exact rt
 refine kal ?_;intro aC bi H;refine kN ?_;refine kA 1 ?_;intro aB bj H;refine kN ?_;refine kS 1 ?_;intro bm H;refine kN ?_;refine kS 1 ?_;intro bn H;refine kN ?_;refine kD 2 [0,1,2,3] [] ?_;intro bo H;obtain ⟨bp,hM⟩:=M.e_gq hM;obtain ⟨br,hM⟩:=M.e_gq hM;obtain ⟨bt,hM⟩:=M.e_gq hM;obtain ⟨bu,hM⟩:=M.e_gq hM;obtain ⟨bv,hM⟩:=M.e_gq hM;obtain ⟨bw,hM⟩:=M.e_gq hM;refine kg 21 ?_;replace H:=H.pk [];exact rt

def m_share_Border_goes_1_j0 (t:STr) (spill:Bool) (ab aa due:Int) (mp:Int->Option Int):M (Int × (Int->Option Int) × Int) :=
  M.grd (decide (-9223372036854775807<=ab)&&decide (ab<=9223372036854775807)) <|
  M.gi (aa+due) <|
  M.gi ((aa+due)-t.delivered) <|
  bif spill then (
  M.pure (0,mp,0))
  else (
  M.pure ((max (-ab) ((aa+due)-t.delivered)),mp,(max (-ab) ((aa+due)-t.delivered))))
def m_share_Border_goes_1 (t:STr) (spill:Bool) (aa:Int->Option Int) (ae:List SPt) (ab ac:Int):M (Int × (Int->Option Int) × Int) :=
  bif !((aa (t.index:Int)).isSome) then (
  M.bind (m_share_Border_due ae ab t.index) fun r2 =>
  m_share_Border_goes_1_j0 t spill ab ac r2 (updF aa (t.index:Int) (r2:Int)))
  else (
  m_share_Border_goes_1_j0 t spill ab ac ((aa (t.index:Int)).getD 0) aa)
theorem share_Border_goes_1_ok {R ak ae ai al ah ab}(t spill aa ao ac ag)(av:Has R (cBlk ak [.map (some ae)] 185))(aw:Reads R al)(ax:Sl al ah ao)(ap:Has R (cBlk ai [ah,I ac] 57)){r}(hM:(m_share_Border_goes_1 t spill aa ao ac ag).Ends r)(w)(H:St w w [cMap I I ae aa,cBlk ab [I ag] 3] R):Ret Tryz.prog 80 #[.agg #[I t.index,I t.delivered],B spill,Pq ak,Pq ai,Pq ab] w fun v w'=>∃ y0 y1 y2,(y0,y1,y2)=r/\v=I y0/\St w w' [cMap I I ae y1,cBlk ab [I y2] 3] R:=by
 refine ret_of_W Tryz.func80 rfl rfl rfl ?_;refine kB 2 ?_;intro aj ay H;refine kg 7 ?_;refine s_val (q_look (kenc:=I) (venc:=I) (f:=aa) (k:=(t.index:Int)) (v:=.tuple #[I ((aa (t.index:Int)).getD 0),B ((aa (t.index:Int)).isSome)]) keyIntI Tryz.underlying185 Al3.h rfl rfl (H.get (k:=1) rfl) true (by rw [if_pos rfl,int_val])) ?_;refine kg 6 ?_;refine W.seqJ (fun σ W=>∃ (due:Int) (mp:Int->Option Int) (ρ:Env),σ=upds ρ [(1,B spill),(3,Pq ai),(4,Pq ab),(5,Pq aj),(8,I due)]/\(m_share_Border_goes_1_j0 t spill ac ag due mp).Ends r/\St w W [cBlk aj [I t.index,I t.delivered] 65,cMap I I ae mp,cBlk ab [I ag] 3] R) ?_ ?_
 ·refine kI 5 ?_ ?_
  ·intro aq hM;refine kg 2 ?_;refine s_val (x_ld (v:=.agg #[ah,I ac]) rfl (ldb_ag (ds:=[ah,I ac]) Ag57.h Sz57.h (ap.blk H) rfl rfl)) ?_;refine kC 2 @share_Border_due_ok ?_;intro az r2 hM H;refine kg 7 ?_;refine t_mapu (i:=1) (kenc:=I) (venc:=I) (f:=aa) (k:=(t.index:Int)) (v:=(r2:Int)) (L':=[cBlk aj [I t.index,I t.delivered] 65,cMap I I ae (updF aa (t.index:Int) (r2:Int)),cBlk ab [I ag] 3]) keyIntI Tryz.underlying185 H rfl rfl rfl rfl rfl ?_;intro aA H;refine s_nil ?_;exact ⟨r2,updF aa (t.index:Int) (r2:Int),_,jQ,hM,H⟩
  intro aq hM;refine W.skip ?_;exact ⟨(aa (t.index:Int)).getD 0,aa,_,jQ,hM,H⟩
 rintro _ aB ⟨due,mp,ρ,rfl,hM,H⟩;unfold m_share_Border_goes_1_j0 at hM;obtain ⟨aC,hM⟩:=M.e_gq hM;refine kg 4 ?_;refine s_val (x_neg (a:=ac) rfl (by omega)) ?_;obtain ⟨aD,hM⟩:=M.e_gq hM;obtain ⟨aE,hM⟩:=M.e_gq hM;refine kS 7 ?_;intro aF H;refine kI 6 ?_ ?_
 ·intro au hM;refine kS 1 ?_;intro aG H;exact kR 6 [1,2]
 intro au hM;exact kR 6 [1,2]

def m_share_Owed_b0 (aa:List SPt) (years:List SYr) (truth:List STr) (ab:Int):((Int->Option Int) × Int × Nat × (List Int))->M (((Int->Option Int) × Int × Nat × (List Int)) ⊕ (((List Int) × (Int->Option Int) × Int) ⊕ ((List Int) × (List Int) × (Int->Option Int) × Int))):=fun (mp,s,s2,l) =>
  bif decide ((s2:Int)<(years.length:Int)) then (
  M.grd (decide ((s2:Int)<(years.length:Int))) <|
  M.grd (decide ((s2:Int)<(truth.length:Int))) <|
  M.bind (m_share_in ((truth.getD s2 default).index) ((years.getD s2 default).ilo) ((years.getD s2 default).ihi)) fun r3 =>
  M.bind (M.opt (!(!r3)) (m_share_in ((truth.getD s2 default).delivered) ((years.getD s2 default).dlo) ((years.getD s2 default).dhi)) false) fun r4 =>
  bif ((!r3)||(!r4)) then (
  M.pure (.inr (.inl (l,mp,s))))
  else (
  M.bind (m_share_Border_goes_1 (truth.getD s2 default) ((years.getD s2 default).spill) mp aa ab s) fun (r5,ac,q0) =>
  M.grd (decide ((l.length+([(r5:Int)]).length)*8<=140737488355328)) <|
  M.pure (.inl (ac,q0,s2+1,l++([(r5:Int)])))))
  else (
  M.pure (.inr (.inr (l,l,mp,s))))
def m_share_Owed (aa:List SPt) (ab start:Int) (years:List SYr) (truth:List STr):M ((List Int) × Int) :=
  M.bind (m_share_asked aa ab (⟨(start:Int),(start:Int)⟩:Span) years) fun r2 =>
  bif r2 != 0 then (
  M.pure (([]),r2))
  else (
  bif (truth.length:Int) != (years.length:Int) then (
  M.pure (([]),2))
  else (
  M.bind (m_share_Border_goes aa ab start) fun (ac,ae,ag) =>
  M.bind (M.iter (m_share_Owed_b0 aa years truth ae) (ac,ag,0,[])) fun x_=>match x_ with
  | (.inl (l2,ah,s3))=>(
  M.pure (([]),7))
  | (.inr (l3,l4,ai,s4))=>(
  M.pure (l4,0))))
theorem share_Owed_ok {R ak ab al ae ao ag}(ac ah start years truth)(aA:Reads R ak)(aB:Sl ak ab ac)(aO:Reads R al)(ap:Sl al ae years)(aP:Reads R ao)(aC:Sl ao ag truth){r}(hM:(m_share_Owed ac ah start years truth).Ends r)(w)(H:St w w [] R):Ret Tryz.prog 15 #[.agg #[ab,I ah],I start,ae,ag] w fun v w'=>∃ y0 y1 u0,(y0,y1)=r/\v = .tuple #[u0,I y1]/\St w w' [cOwn (α:=Int) 3 u0 y0] R:=by
 refine ret_of_W Tryz.func15 rfl rfl rfl ?_;refine kB 2 ?_;intro aD aQ H;refine kC 10 @share_asked_ok ?_;intro aR r2 hM H;refine kI 10 ?_ ?_
 ·intro aE hM;refine kg 6 ?_;refine W.ret ?_;have aa:=M.e_pure hM;replace H:=H.nilOwn (α:=Int) 3;exact ⟨_,resE_tmp2 rfl,⟨([]),r2,(.slice none 0 0),aa,rfl,(H.pk [0])⟩⟩
 intro aE hM;have aS:=(aC).len_le;have aT:=(ap).len_le;refine kI 9 ?_ ?_
 ·intro aF hM;refine kg 5 ?_;refine W.ret ?_;have aa:=M.e_pure hM;replace H:=H.nilOwn (α:=Int) 3;exact ⟨_,resE_tmp2 rfl,⟨([]),2,(.slice none 0 0),aa,rfl,(H.pk [0])⟩⟩
 intro aF hM;refine kC 9 @share_Border_goes_ok ?_;intro aU aV ai aW aq au av aw hM H;have aX:=(ap).len_le;refine kg 10 ?_;replace H:=H.nilOwn (α:=Int) 3;obtain ⟨aG,ax,ay⟩:=M.e_bind hM;obtain ⟨aY,ax⟩:=M.e_iter ax;refine W.loop (fun m σ W=>∃ (mp:Int->Option Int) (s:Int) (s2:Nat) (l:List Int) (aj:Value) (ρ:Env),σ=upds ρ [(3,ag),(11,aj),(12,.func (.func 80) #[] #[Pq aq,Pq av,Pq aw]),(35,ae),(36,I (years.length:Int)),(37,I (s2:Int))]/\M.iterN (m_share_Owed_b0 ac years truth ai) m (mp,s,s2,l)=some aG/\St w W [cOwn (α:=Int) 3 aj l,cBlk aq [.map (some au)] 185,cMap I I au mp,cBlk av [ab,I ai] 57,cBlk aw [I s] 3,cBlk aD [ab,I ah] 57] R) ?_ ?_
 ·exact kY
 rintro aZ σ a7 ⟨mp,s,s2,l,aj,ρ,rfl,aH,H⟩;obtain ⟨a8,bc,bf,hM,az⟩:=M.e_iterN aH;refine kI 5 ?_ ?_
 ·intro aI hM;obtain ⟨bh,hM⟩:=M.e_gq hM;refine kA 8 ?_;intro bi bj H;refine kS 1 ?_;intro bm H;obtain ⟨bn,hM⟩:=M.e_gq hM;refine kA 7 ?_;intro bo bp H;refine ksw ?_;intro br H;refine kC 12 @share_in_ok ?_;intro bt r3 hM H;refine kg 10 ?_;obtain ⟨r4,aJ,hM⟩:=M.e_bind hM;refine t_gcall (!(!r3)) (gy_f rfl) cq (B r4) (fun _=>[I ((truth.getD s2 default).delivered),I ((years.getD s2 default).dlo),I ((years.getD s2 default).dhi)]) (fun hg=>lst3 (gd_of hg (I ((truth.getD s2 default).delivered))) (gd_of hg (I ((years.getD s2 default).dlo))) (gd_of hg (I ((years.getD s2 default).dhi)))) H (fun hg=>(share_in_ok ((truth.getD s2 default).delivered) ((years.getD s2 default).dlo) ((years.getD s2 default).dhi) (M.e_opt aJ hg) _ (H.give (A:=[]) rfl)).mono fun v_ w_ ⟨y_,aa,aK,H_⟩=>by subst aa; exact ⟨aK,H.via H_⟩) ?_;intro bu H;refine kI 3 ?_ ?_
  ·intro aL hM;refine kg 5 ?_;replace H:=H.pk [2,3,4,5,6,7];refine W.ret ?_;obtain rfl:=M.e_inr hM az;replace hM:=ay;have aa:=M.e_pure hM;replace H:=H.nilOwn (α:=Int) 3;exact ⟨_,resE_tmp2 rfl,⟨([]),7,(.slice none 0 0),aa,rfl,(H.pk [0])⟩⟩
  intro aL hM;refine kg 7 ?_;obtain ⟨bv,aM,hM⟩:=M.e_bind hM;refine s_callv (f:=80) rfl cq [.agg #[I ((truth.getD s2 default).index),I ((truth.getD s2 default).delivered)],B ((years.getD s2 default).spill)] rfl (share_Border_goes_1_ok (truth.getD s2 default) ((years.getD s2 default).spill) mp ac ai s (Has.here (k:=3) rfl) (aA.app _) aB (Has.here (k:=4) rfl) aM _ ((H.pk [4,6,0,1,2,3,5,7]).gt 6)) ?_;rintro _ bw ⟨r5,bA,q0,rfl,rfl,aN⟩;replace H:=H.pk [4,6,0,1,2,3,5,7] |>.bk aN
  refine kL 0 (α:=Int) [r5] ?_;intro bB bC H;obtain ⟨bD,hM⟩:=M.e_gq hM;refine kP 0 ?_;intro bE bF H;exact kXp 6 [5,6,1,7,2,8]
 intro aI hM;refine W.exit ?_;obtain rfl:=M.e_inr hM az;replace hM:=ay;replace H:=H.pk [0];refine kg 6 ?_;exact rt

def m_share_low  : M Unit :=
  M.pure ()
theorem share_low_ok {R r}(hM:(m_share_low).Ends r)(w)(H:St w w [] R):Ret Tryz.prog 47 #[] w fun v w'=>()=r/\v = .agg #[.func (.func 82) #[] #[],.func (.func 83) #[] #[]]/\St w w' [] R:=by
 refine ret_of_W Tryz.func47 rfl rfl rfl ?_;refine kA 2 ?_;intro aa ab H;refine kS 4 ?_;intro ac H;exact kR 1 []

def m_share_high  : M Unit :=
  M.pure ()
theorem share_high_ok {R r}(hM:(m_share_high).Ends r)(w)(H:St w w [] R):Ret Tryz.prog 48 #[] w fun v w'=>()=r/\v = .agg #[.func (.func 84) #[] #[],.func (.func 85) #[] #[]]/\St w w' [] R:=by
 refine ret_of_W Tryz.func48 rfl rfl rfl ?_;refine kA 2 ?_;intro aa ab H;refine kS 4 ?_;intro ac H;exact kR 1 []

def m_share_low_1 (s:Span):M Int :=
  M.pure s.lo
theorem share_low_1_ok {R}(s){r}(hM:(m_share_low_1 s).Ends r)(w)(H:St w w [] R):Ret Tryz.prog 82 #[.agg #[I s.lo,I s.hi]] w fun v w'=>∃ y0,y0=r/\v=I y0/\St w w' [] R:=by
 refine ret_of_W Tryz.func82 rfl rfl rfl ?_;refine kB 2 ?_;intro aa ab H;refine kg 8 ?_;exact rt

def m_share_low_2 (s:Span):M Int :=
  M.pure s.hi
theorem share_low_2_ok {R}(s){r}(hM:(m_share_low_2 s).Ends r)(w)(H:St w w [] R):Ret Tryz.prog 83 #[.agg #[I s.lo,I s.hi]] w fun v w'=>∃ y0,y0=r/\v=I y0/\St w w' [] R:=by
 refine ret_of_W Tryz.func83 rfl rfl rfl ?_;refine kB 2 ?_;intro aa ab H;refine kg 8 ?_;exact rt

def m_share_high_1 (s:Span):M Int :=
  M.pure s.hi
theorem share_high_1_ok {R}(s){r}(hM:(m_share_high_1 s).Ends r)(w)(H:St w w [] R):Ret Tryz.prog 84 #[.agg #[I s.lo,I s.hi]] w fun v w'=>∃ y0,y0=r/\v=I y0/\St w w' [] R:=by
 refine ret_of_W Tryz.func84 rfl rfl rfl ?_;refine kB 2 ?_;intro aa ab H;refine kg 8 ?_;exact rt

def m_share_high_2 (s:Span):M Int :=
  M.pure s.lo
theorem share_high_2_ok {R}(s){r}(hM:(m_share_high_2 s).Ends r)(w)(H:St w w [] R):Ret Tryz.prog 85 #[.agg #[I s.lo,I s.hi]] w fun v w'=>∃ y0,y0=r/\v=I y0/\St w w' [] R:=by
 refine ret_of_W Tryz.func85 rfl rfl rfl ?_;refine kB 2 ?_;intro aa ab H;refine kg 8 ?_;exact rt

end Go.Proofs.YtlfkkkbhejeplaaGreat
end
section
set_option maxRecDepth 100000
set_option maxHeartbeats 16000000
namespace Go.Proofs.YtlfkkkbhejeplaaGreat
open Go Go.Nm
attribute [local irreducible] gd execOp SL SLD SLT WR
def m_share_Debts_b0 (aa:List SPt) (years:List SYr) (ac ae:Int):((Int->Option Int) × Int × (Int->Option Int) × Int × Nat × (List Span))->M (((Int->Option Int) × Int × (Int->Option Int) × Int × Nat × (List Span)) ⊕ ((List Span) × (List Span) × (Int->Option Int) × Int × (Int->Option Int) × Int)):=fun (mp,s,ab,s2,s3,l) =>
  bif decide ((s3:Int)<(years.length:Int)) then (
  M.grd (decide ((s3:Int)<(years.length:Int))) <|
  M.bind (m_share_low_1 (⟨((years.getD s3 default).ilo:Int),((years.getD s3 default).ihi:Int)⟩:Span)) fun r3 =>
  M.bind (m_share_low_2 (⟨((years.getD s3 default).dlo:Int),((years.getD s3 default).dhi:Int)⟩:Span)) fun r4 =>
  M.bind (m_share_Border_goes_1 (⟨(r3:Int),(r4:Int)⟩:STr) ((years.getD s3 default).spill) mp aa ac s) fun (r5,ag,q0) =>
  M.bind (m_share_high_1 (⟨((years.getD s3 default).ilo:Int),((years.getD s3 default).ihi:Int)⟩:Span)) fun r6 =>
  M.bind (m_share_high_2 (⟨((years.getD s3 default).dlo:Int),((years.getD s3 default).dhi:Int)⟩:Span)) fun r7 =>
  M.bind (m_share_Border_goes_1 (⟨(r6:Int),(r7:Int)⟩:STr) ((years.getD s3 default).spill) ab aa ae s2) fun (r8,ah,ai) =>
  M.grd (decide ((l.length+([(⟨(r5:Int),(r8:Int)⟩:Span)]).length)*16<=140737488355328)) <|
  M.pure (.inl (ag,q0,ah,ai,s3+1,l++([(⟨(r5:Int),(r8:Int)⟩:Span)]))))
  else (
  M.pure (.inr (l,l,ab,s2,mp,s)))
def m_share_Debts (aa:List SPt) (ab:Int) (start:Span) (years:List SYr):M ((List Span) × Int) :=
  M.bind (m_share_asked aa ab start years) fun r2 =>
  bif r2 != 0 then (
  M.pure (([]),r2))
  else (
  M.bind (m_share_Border_goes aa ab start.lo) fun (ac,ae,ag) =>
  M.bind (m_share_Border_goes aa ab start.hi) fun (ah,ai,aj) =>
  M.bind (m_share_low) fun (_:Unit) =>
  M.bind (m_share_high) fun (_:Unit) =>
  M.bind (M.iter (m_share_Debts_b0 aa years ae ai) (ac,ag,ah,aj,0,[])) fun (l2,l3,ak,s4,al,s5) =>
  M.pure (l3,0))
theorem share_Debts_ok {R ak ac al ag}(ab ao start years)(ap:Reads R ak)(aq:Sl ak ac ab)(aT:Reads R al)(aF:Sl al ag years){r}(hM:(m_share_Debts ab ao start years).Ends r)(w)(H:St w w [] R):Ret Tryz.prog 16 #[.agg #[ac,I ao],.agg #[I start.lo,I start.hi],ag] w fun v w'=>∃ y0 y1 u0,(y0,y1)=r/\v = .tuple #[u0,I y1]/\St w w' [cOwn (α:=Span) 32 u0 y0] R:=by
 refine ret_of_W Tryz.func16 rfl rfl rfl ?_;refine kB 2 ?_;intro aU aV H;refine kbx ?_;intro aW aX H;refine kC 9 @share_asked_ok ?_;intro aY r2 hM H;refine kI 7 ?_ ?_
 ·intro aG hM;refine kg 6 ?_;replace H:=H.pk [];refine W.ret ?_;have aH:=M.e_pure hM;replace H:=H.nilOwn (α:=Span) 32;exact ⟨_,resE_tmp2 rfl,⟨([]),r2,(.slice none 0 0),aH,rfl,H⟩⟩
 intro aG hM;refine kDo 6 [0,1] [(0,true),(1,true),(2,true),(4,true),(5,true),(6,true),(3,false),(7,false),(8,true),(9,true)] ?_;intro aZ H;refine kC 7 @share_Border_goes_ok ?_;intro a7 a8 ah bc au av aw ax hM H;refine kN ?_;refine kC 1 @share_Border_goes_ok ?_;intro bf bh ai bi ay az aA aB hM H;refine kN ?_;refine kg 3 ?_;replace H:=H.pk [0,1,2,3,4,5,6,7];refine kC 2 @share_low_ok ?_;intro bj hM H;refine kC 0 @share_high_ok ?_;intro bm hM H;refine kal ?_;intro aC bn H;refine kal ?_;intro aD bo H;refine ksw ?_;intro bp H;refine ksw ?_;intro br H;have bt:=(aF).len_le;refine kg 9 ?_;replace H:=H.nilOwn (α:=Span) 32;obtain ⟨aI,aE,aJ⟩:=M.e_bind hM;obtain ⟨bu,aE⟩:=M.e_iter aE;refine W.loop (fun m σ W=>∃ (mp:Int->Option Int) (s:Int) (ae:Int->Option Int) (s2:Int) (s3:Nat) (l:List Span) (aj:Value) (ρ:Env),σ=upds ρ [(9,aj),(10,.func (.func 80) #[] #[Pq au,Pq aw,Pq ax]),(11,.func (.func 80) #[] #[Pq ay,Pq aA,Pq aB]),(12,Pq aC),(13,Pq aD),(35,ag),(36,I (years.length:Int)),(37,I (s3:Int))]/\M.iterN (m_share_Debts_b0 ab years ah ai) m (mp,s,ae,s2,s3,l)=some aI/\St w W [cOwn (α:=Span) 32 aj l,cBlk aD [.func (.func 84) #[] #[],.func (.func 85) #[] #[]] 134,cBlk aC [.func (.func 82) #[] #[],.func (.func 83) #[] #[]] 134,cBlk ay [.map (some az)] 185,cMap I I az ae,cBlk aA [ac,I ai] 57,cBlk aB [I s2] 3,cBlk au [.map (some av)] 185,cMap I I av mp,cBlk aw [ac,I ah] 57,cBlk ax [I s] 3] R) ?_ ?_
 ·exact kY
 rintro bv σ bw ⟨mp,s,ae,s2,s3,l,aj,ρ,rfl,aK,H⟩;obtain ⟨bA,bB,bC,hM,aL⟩:=M.e_iterN aK;refine kI 5 ?_ ?_
 ·intro aM hM;obtain ⟨bD,hM⟩:=M.e_gq hM;refine kA 7 ?_;intro bE bF H;refine ksw ?_;intro bG H;refine kDo 2 [0,1,2,3,4,5,6,7,8,10] [(0,true),(1,true),(2,true),(3,true),(4,true),(6,true),(7,true),(8,true),(9,true),(12,true),(13,true),(5,false),(10,false),(11,true),(14,false),(15,true)] ?_;intro bH H;refine kG 12 ?_;obtain ⟨bI,aN,hM⟩:=M.e_bind hM;refine s_callv (f:=82) rfl cq [.agg #[I ((years.getD s3 default).ilo),I ((years.getD s3 default).ihi)]] rfl (share_low_1_ok (⟨((years.getD s3 default).ilo:Int),((years.getD s3 default).ihi:Int)⟩:Span) aN _ (H.gt 12)) ?_;rintro _ bJ ⟨r3,rfl,rfl,aa⟩;replace H:=H.bk aa;refine kN ?_;refine d_l rfl ?_;obtain ⟨bK,aO,hM⟩:=M.e_bind hM;refine s_callv (f:=83) rfl cq [.agg #[I ((years.getD s3 default).dlo),I ((years.getD s3 default).dhi)]] rfl (share_low_2_ok (⟨((years.getD s3 default).dlo:Int),((years.getD s3 default).dhi:Int)⟩:Span) aO _ (H.gt 12)) ?_;rintro _ bL ⟨r4,rfl,rfl,aa⟩;replace H:=H.bk aa;refine kN ?_;refine kG 2 ?_;obtain ⟨bM,aP,hM⟩:=M.e_bind hM;refine s_callv (f:=80) rfl cq [.agg #[I r3,I r4],B ((years.getD s3 default).spill)] rfl (share_Border_goes_1_ok (⟨(r3:Int),(r4:Int)⟩:STr) ((years.getD s3 default).spill) mp ab ah s (Has.here (k:=8) rfl) (ap.app _) aq (Has.here (k:=9) rfl) aP _ ((H.pk [9,11,0,1,2,3,4,5,6,7,8,10]).gt 10)) ?_;rintro _ bN ⟨r5,bO,q0,rfl,rfl,aa⟩;replace H:=H.pk [9,11,0,1,2,3,4,5,6,7,8,10] |>.bk aa
  refine kN ?_;refine kDo 3 [0,1,2,3,4,5,6,8,10,11] [(0,true),(1,true),(2,true),(3,true),(4,true),(6,true),(7,true),(8,true),(9,true),(12,true),(13,true),(5,false),(10,false),(11,true),(14,false),(15,true)] ?_;intro bP H;refine kG 12 ?_;obtain ⟨bQ,aQ,hM⟩:=M.e_bind hM;refine s_callv (f:=84) rfl cq [.agg #[I ((years.getD s3 default).ilo),I ((years.getD s3 default).ihi)]] rfl (share_high_1_ok (⟨((years.getD s3 default).ilo:Int),((years.getD s3 default).ihi:Int)⟩:Span) aQ _ (H.gt 12)) ?_;rintro _ bR ⟨r6,rfl,rfl,aa⟩;replace H:=H.bk aa;refine kN ?_;refine d_l rfl ?_;obtain ⟨bS,aR,hM⟩:=M.e_bind hM;refine s_callv (f:=85) rfl cq [.agg #[I ((years.getD s3 default).dlo),I ((years.getD s3 default).dhi)]] rfl (share_high_2_ok (⟨((years.getD s3 default).dlo:Int),((years.getD s3 default).dhi:Int)⟩:Span) aR _ (H.gt 12)) ?_;rintro _ bT ⟨r7,rfl,rfl,aa⟩;replace H:=H.bk aa;refine kN ?_;refine kG 2 ?_;obtain ⟨bU,aS,hM⟩:=M.e_bind hM;refine s_callv (f:=80) rfl cq [.agg #[I r6,I r7],B ((years.getD s3 default).spill)] rfl (share_Border_goes_1_ok (⟨(r6:Int),(r7:Int)⟩:STr) ((years.getD s3 default).spill) ae ab ai s2 (Has.here (k:=6) rfl) (ap.app _) aq (Has.here (k:=7) rfl) aS _ ((H.pk [7,9,0,1,2,3,4,5,6,8,10,11]).gt 10)) ?_;rintro _ bV ⟨r8,bW,bX,rfl,rfl,aa⟩;replace H:=H.pk [7,9,0,1,2,3,4,5,6,8,10,11] |>.bk aa
  refine kN ?_;refine kL 7 (α:=Span) [⟨r5,r8⟩] ?_;intro bY bZ H;obtain ⟨b5,hM⟩:=M.e_gq hM;refine kP 0 ?_;intro b6 b7 H;refine kg 2 ?_;replace H:=H.pk [1,2,3,4,6,7,8,9,10,11,12];exact kXp 4 [4,5,6,7,0,8,1,9,2,10,3]
 intro aM hM;refine W.exit ?_;obtain rfl:=M.e_inr hM aL;replace hM:=aJ;replace H:=H.pk [0];refine kg 6 ?_;exact rt

def zam (s:List Int) (f:Int->M Bool):M Bool :=
  M.bind (zap s f) fun r2 =>
  M.pure (decide (0<=r2))
theorem zcA {R aa ab ac}(s f)(ae:Reads R aa)(ag:Sl aa ab s)(ah:FnM Tryz.prog R ac f){r}(hM:(zam s f).Ends r)(w)(H:St w w [] R):Ret Tryz.prog 86 #[ab,ac] w fun v w'=>∃ y0,y0=r/\v=B y0/\St w w' [] R:=by
 refine ret_of_W Tryz.func86 rfl rfl rfl ?_;refine kC 8 @zcD ?_;intro ai r2 hM H;refine kg 3 ?_;exact rt

def m_share_every_int__1 (x:Int) (aa:Int->M Bool):M Bool :=
  M.bind (aa x) fun r2 =>
  M.pure (!r2)
theorem share_every_int__1_ok {R aa ab}(x ac)(ae:FnM Tryz.prog R ab ac)(ah:Has R (cBlk aa [ab] 124)){r}(hM:(m_share_every_int__1 x ac).Ends r)(w)(H:St w w [] R):Ret Tryz.prog 87 #[I x,Pq aa] w fun v w'=>∃ y0,y0=r/\v=B y0/\St w w' [] R:=by
 refine ret_of_W Tryz.func87 rfl rfl rfl ?_;refine kg 8 ?_;obtain ⟨r2,ag,hM⟩:=M.e_bind hM;refine t_callM H ae rfl rfl x Reads.none (Arg.mkI (fun _=>none) _) ag ?_;intro ai H;refine kg 3 ?_;exact rt

def m_share_every_int (l:List Int) (so:Int->M Bool):M Bool :=
  M.bind (zam l (fun aa=>m_share_every_int__1 aa so)) fun r2 =>
  M.pure (!r2)
theorem share_every_int_ok {R ae aa ag}(l so)(ai:Reads R ae)(aj:Sl ae aa l)(ak:FnM Tryz.prog R ag so){r}(hM:(m_share_every_int l so).Ends r)(w)(H:St w w [] R):Ret Tryz.prog 49 #[aa,ag] w fun v w'=>∃ y0,y0=r/\v=B y0/\St w w' [] R:=by
 refine ret_of_W Tryz.func49 rfl rfl rfl ?_;refine kB 2 ?_;intro ab az H;refine kg 5 ?_;refine s_val (x_mf (fs:=[]) (cs:=[Pq ab]) rfl rfl) ?_;obtain ⟨aA,al,hM⟩:=M.e_bind hM;refine s_call cq [aa,.func (.func 87) #[] #[Pq ab]] rfl (zcA l (fun ac=>m_share_every_int__1 ac so) (ai.app _) aj ⟨87,[Pq ab],rfl,cq,fun ah aB aC ao ac aD ap aE aq au=>by obtain rfl:=Arg.int aq; exact (share_every_int__1_ok ac so (FnM.app (ak.app _) _) (Has.app (Has.here (k:=0) rfl) _) au ah (St.refl ap)).mono fun ao ah ⟨aF,av,aw,ax⟩=>by subst av; exact ⟨aw,ax⟩⟩ al _ (H.gt 1)) ?_;rintro _ aG ⟨r2,rfl,rfl,ay⟩;replace H:=H.bk ay;refine kg 3 ?_;exact rt

def m_share_Payback_b0 (p_Least p_Part:Int) (p_Can:List Int):(Int × Nat × (List Int))->M ((Int × Nat × (List Int)) ⊕ (Int × (List Int) × (List Int))):=fun (debt2,s,l) =>
  bif decide ((s:Int)<(p_Can.length:Int)) then (
  M.grd (decide ((s:Int)<(p_Can.length:Int))) <|
  bif debt2==0 then (
  M.pure (.inr (debt2,l,l)))
  else (
  M.gi (debt2+p_Part) <|
  M.gi ((debt2+p_Part)-1) <|
  M.grd (decide (0<=((debt2+p_Part)-1))&&decide (((debt2+p_Part)-1)<=(9223372036854775807:Int))&&decide ((0:Int)<p_Part)) <|
  M.grd (decide ((l.length+([(min (min debt2 (p_Can.getD s 0)) (max p_Least (((debt2+p_Part)-1) / p_Part)):Int)]).length)*8<=140737488355328)) <|
  M.gi (debt2-(min (min debt2 (p_Can.getD s 0)) (max p_Least (((debt2+p_Part)-1) / p_Part)))) <|
  M.pure (.inl (debt2-(min (min debt2 (p_Can.getD s 0)) (max p_Least (((debt2+p_Part)-1) / p_Part))),s+1,l++([(min (min debt2 (p_Can.getD s 0)) (max p_Least (((debt2+p_Part)-1) / p_Part)):Int)])))))
  else (
  M.pure (.inr (debt2,l,l)))
def m_share_Payback (debt p_Least p_Part:Int) (p_Can:List Int):M ((List Int) × Int) :=
  M.bind (m_share_water debt) fun r2 =>
  bif !r2 then (
  M.pure (([]),4))
  else (
  bif decide (40<(p_Can.length:Int)) then (
  M.pure (([]),3))
  else (
  M.bind (m_share_in p_Least 1 1000000000) fun r3 =>
  M.bind (M.opt (!(!r3)) (m_share_in p_Part 1 100) false) fun r4 =>
  M.bind (M.opt (!((!r3)||(!r4))) (m_share_every_int p_Can (fun aa=>m_share_water aa)) false) fun r5 =>
  bif (((!r3)||(!r4))||(!r5)) then (
  M.pure (([]),100))
  else (
  M.bind (M.iter (m_share_Payback_b0 p_Least p_Part p_Can) (debt,0,[])) fun (debt3,l2,l3) =>
  bif decide (0<debt3) then (
  M.pure (([]),5))
  else (
  M.pure (l3,0)))))
theorem share_Payback_ok {R ai ab}(debt p_Least p_Part p_Can)(aq:Reads R ai)(ac:Sl ai ab p_Can){r}(hM:(m_share_Payback debt p_Least p_Part p_Can).Ends r)(w)(H:St w w [] R):Ret Tryz.prog 17 #[I debt,.agg #[I p_Least,I p_Part,ab]] w fun v w'=>∃ y0 y1 u0,(y0,y1)=r/\v = .tuple #[u0,I y1]/\St w w' [cOwn (α:=Int) 3 u0 y0] R:=by
 refine ret_of_W Tryz.func17 rfl rfl rfl ?_;refine kB 2 ?_;intro aj aM H;refine kC 8 @share_water_ok ?_;intro aN r2 hM H;refine kI 3 ?_ ?_
 ·intro au hM;refine kg 5 ?_;refine W.ret ?_;have aa:=M.e_pure hM;replace H:=H.nilOwn (α:=Int) 3;exact ⟨_,resE_tmp2 rfl,⟨([]),4,(.slice none 0 0),aa,rfl,(H.pk [0])⟩⟩
 intro au hM;have aO:=(ac).len_le;refine kI 8 ?_ ?_
 ·intro av hM;refine kg 5 ?_;refine W.ret ?_;have aa:=M.e_pure hM;replace H:=H.nilOwn (α:=Int) 3;exact ⟨_,resE_tmp2 rfl,⟨([]),3,(.slice none 0 0),aa,rfl,(H.pk [0])⟩⟩
 intro av hM;refine kC 4 @share_in_ok ?_;intro aP r3 hM H;refine kg 4 ?_;obtain ⟨r4,aw,hM⟩:=M.e_bind hM;refine t_gcall (!(!r3)) (gy_f rfl) cq (B r4) (fun _=>[I p_Part,I 1,I 100]) (fun hg=>lst3 (gd_of hg (I p_Part)) rfl rfl) H (fun hg=>(share_in_ok p_Part 1 100 (M.e_opt aw hg) _ (H.give (A:=[]) rfl)).mono fun v_ w_ ⟨y_,aa,ae,H_⟩=>by subst aa; exact ⟨ae,H.via H_⟩) ?_;intro aQ H;refine kg 5 ?_;obtain ⟨r5,ax,hM⟩:=M.e_bind hM;refine t_gcall (!((!r3)||(!r4))) (gy_f rfl) cq (B r5) (fun _=>[ab,.func (.func 40) #[] #[]]) (fun hg=>lst2 (gd_of hg (ab)) rfl) H (fun hg=>(share_every_int_ok p_Can (fun ag=>m_share_water ag) (aq.app _) ac ⟨40,[],rfl,cq,fun ak aR aS ay ag aT az aU aA aB=>by obtain rfl:=Arg.int aA; exact (share_water_ok ag aB ak (St.refl az)).mono fun ay ak ⟨aV,aC,aD,aE⟩=>by subst aC; exact ⟨aD,aE⟩⟩ (M.e_opt ax hg) _ (H.give (A:=[]) rfl)).mono fun v_ w_ ⟨y_,aa,ae,H_⟩=>by subst aa; exact ⟨ae,H.via H_⟩) ?_;intro aW H;refine kI 4 ?_ ?_
 ·intro aF hM;refine kg 5 ?_;refine W.ret ?_;have aa:=M.e_pure hM;replace H:=H.nilOwn (α:=Int) 3;exact ⟨_,resE_tmp2 rfl,⟨([]),100,(.slice none 0 0),aa,rfl,(H.pk [0])⟩⟩
 intro aF hM;have aX:=(ac).len_le;refine kg 14 ?_;replace H:=H.nilOwn (α:=Int) 3;obtain ⟨aG,al,ao⟩:=M.e_bind hM;obtain ⟨aY,al⟩:=M.e_iter al;refine W.loop (fun m σ W=>∃ (debt2:Int) (s:Nat) (l:List Int) (ah:Value) (ρ:Env),σ=upds ρ [(0,I debt2),(3,Pq aj),(6,ah),(37,ab),(38,I (p_Can.length:Int)),(39,I (s:Int))]/\M.iterN (m_share_Payback_b0 p_Least p_Part p_Can) m (debt2,s,l)=some aG/\St w W [cOwn (α:=Int) 3 ah l,cBlk aj [I p_Least,I p_Part,ab] 69] R) ?_ ?_
 ·exact kY
 rintro aZ σ a7 ⟨debt2,s,l,ah,ρ,rfl,aH,H⟩;obtain ⟨a8,bc,bf,hM,ap⟩:=M.e_iterN aH;refine kI 5 ?_ ?_
 ·intro aI hM;obtain ⟨bh,hM⟩:=M.e_gq hM;refine kI 15 ?_ ?_
  ·intro aJ hM;refine W.exit ?_;obtain rfl:=M.e_inr hM ap;replace hM:=ao;refine kI 6 ?_ ?_
   ·intro aK hM;refine kg 5 ?_;replace H:=H.pk [];refine W.ret ?_;have aa:=M.e_pure hM;replace H:=H.nilOwn (α:=Int) 3;exact ⟨_,resE_tmp2 rfl,⟨([]),5,(.slice none 0 0),aa,rfl,H⟩⟩
   intro aK hM;exact kR 7 [0]
  intro aJ hM;refine kD 2 [0,1] [] ?_;intro bi H;obtain ⟨bj,hM⟩:=M.e_gq hM;obtain ⟨bm,hM⟩:=M.e_gq hM;obtain ⟨bn,hM⟩:=M.e_gq hM;refine kg 13 ?_;refine d_q rfl (fun w' H=>x_min3 (a:=debt2) (b:=p_Can.getD s 0) (c:=max p_Least (((debt2+p_Part)-1) / p_Part)) rfl rfl rfl) ?_;refine kL 6 (α:=Int) [min (min debt2 (p_Can.getD s 0)) (max p_Least (((debt2+p_Part)-1) / p_Part))] ?_;intro bo bp H;obtain ⟨br,hM⟩:=M.e_gq hM;refine kP 0 ?_;intro bt bu H;obtain ⟨bv,hM⟩:=M.e_gq hM;exact kXp 12 [1,2]
 intro aI hM;refine W.exit ?_;obtain rfl:=M.e_inr hM ap;replace hM:=ao;refine kI 6 ?_ ?_
 ·intro aL hM;refine kg 5 ?_;replace H:=H.pk [];refine W.ret ?_;have aa:=M.e_pure hM;replace H:=H.nilOwn (α:=Int) 3;exact ⟨_,resE_tmp2 rfl,⟨([]),5,(.slice none 0 0),aa,rfl,H⟩⟩
 intro aL hM;exact kR 7 [0]

end Go.Proofs.YtlfkkkbhejeplaaGreat
end
namespace Go.Nm
structure SOk (c u x:Int):Prop where
  u0:0<=u
  u1:u<=c
  x0:0<=x
  x1:x<251
theorem SOk.mono {c d u x:Int} (h:SOk c u x) (hd:c<=d):SOk d u x:=⟨h.u0,Int.le_trans h.u1 hd,h.x0,h.x1⟩
theorem SOk.zero:SOk 0 0 0:=⟨Int.le_refl _,Int.le_refl _,Int.le_refl _,by decide⟩
structure Nx (c n:Int) (y:Int × Int × Int):Prop where
  ok:SOk c y.2.1 y.2.2
  lt:1<=n->0<=y.1/\y.1<n
  no:n<1->y.1=0
end Go.Nm
namespace Go.Proofs.YtlfkkkbhejeplaaGreat
open Go Go.Nm
theorem next_out {b:List UInt8} {c u x n:Int} (h:SOk c u x) (hc:c<=1000000000000) (hn:n<=1000000):(zac b u x n).Out (Nx (c+1) n):=by
  obtain ⟨u0,u1,x0,x1⟩:=h;unfold zac;refine M.o_if (fun hb=>?_) (fun hb=>?_)
  · simp only [Bool.or_eq_true,decide_eq_true_eq,beq_iff_eq] at hb;refine M.o_pure ⟨⟨u0,by dsimp only; omega,x0,x1⟩,fun h1=>⟨Int.le_refl _,?_⟩,fun _=>rfl⟩;dsimp only;omega
  · simp only [Bool.or_eq_false_iff,decide_eq_false_iff_not,beq_eq_false_iff_ne,ne_eq] at hb;have hl:(0:Int)<(b.length:Int):=by omega
    have m0:=Int.emod_nonneg u (show (b.length:Int) ≠ 0 by omega);have m1:=Int.emod_lt_of_pos u hl;have d0:=Int.ediv_nonneg u0 (show (0:Int)<=(b.length:Int) by omega);have d1:u / (b.length:Int)<=u:=Int.ediv_le_self _ u0;have y1:((b.getD (Int.toNat (u % (b.length:Int))) 0).toNat:Int)<256:=by
      have:=UInt8.toNat_lt (b.getD (Int.toNat (u % (b.length:Int))) 0);omega
    have y0:(0:Int)<=((b.getD (Int.toNat (u % (b.length:Int))) 0).toNat:Int):=Int.natCast_nonneg _;generalize ((b.getD (Int.toNat (u % (b.length:Int))) 0).toNat:Int)=y at *;generalize u % (b.length:Int)=m at *;generalize u / (b.length:Int)=d at *;have hn0:0<n:=by omega
    have fin:∀ z:Int,0<=z->0<=z % n/\z % n<n:=fun z hz=>⟨Int.emod_nonneg _ (by omega),Int.emod_lt_of_pos _ hn0⟩
    have pr:∀ z w:Int,0<=z->Nx (c+1) n (z % n,u+1,w % 251):=fun z w hz=>⟨⟨by dsimp only; omega,by dsimp only; omega,by dsimp only; omega,by dsimp only; omega⟩,fun _=>fin z hz,fun h=>by omega⟩
    refine M.o_grd (by simp only [Bool.and_eq_true,decide_eq_true_eq]; omega) (M.o_grd (by simp only [Bool.and_eq_true,decide_eq_true_eq]; omega) (M.o_grd (by simp only [Bool.and_eq_true,decide_eq_true_eq]; omega) ?_));refine M.o_if (fun h1=>?_) (fun h1=>?_)
    · refine M.o_grd (by simp only [Bool.and_eq_true,decide_eq_true_eq]; omega) (M.o_grd (by simp only [Bool.and_eq_true,decide_eq_true_eq]; omega) (M.o_grd (by simp only [Bool.and_eq_true,decide_eq_true_eq]; omega) (M.o_grd (by simp only [Bool.and_eq_true,decide_eq_true_eq]; omega) (M.o_grd (by simp only [Bool.and_eq_true,decide_eq_true_eq]; omega) ?_))));refine M.o_grd (by simp only [Bool.and_eq_true,decide_eq_true_eq]; omega) (M.o_grd (by simp only [Bool.and_eq_true,decide_eq_true_eq]; omega) (M.o_grd (by simp only [Bool.and_eq_true,decide_eq_true_eq]; omega) (M.o_grd (by simp only [Bool.and_eq_true,decide_eq_true_eq]; omega) ?_)));refine M.o_if (fun h2=>?_) (fun h2=>?_)
      · refine M.o_grd (by simp only [Bool.and_eq_true,decide_eq_true_eq]; omega) (M.o_grd (by simp only [Bool.and_eq_true,decide_eq_true_eq]; omega) (M.o_grd (by simp only [Bool.and_eq_true,decide_eq_true_eq]; omega) (M.o_pure (pr _ _ (by omega)))))
      · refine M.o_grd (by simp only [Bool.and_eq_true,decide_eq_true_eq]; omega) (M.o_pure (pr _ _ (by omega)))
    · refine M.o_grd (by simp only [Bool.and_eq_true,decide_eq_true_eq]; omega) (M.o_grd (by simp only [Bool.and_eq_true,decide_eq_true_eq]; omega) (M.o_grd (by simp only [Bool.and_eq_true,decide_eq_true_eq]; omega) (M.o_grd (by simp only [Bool.and_eq_true,decide_eq_true_eq]; omega) (M.o_grd (by simp only [Bool.and_eq_true,decide_eq_true_eq]; omega) ?_))));refine M.o_if (fun h2=>?_) (fun h2=>?_)
      · refine M.o_grd (by simp only [Bool.and_eq_true,decide_eq_true_eq]; omega) (M.o_grd (by simp only [Bool.and_eq_true,decide_eq_true_eq]; omega) (M.o_grd (by simp only [Bool.and_eq_true,decide_eq_true_eq]; omega) (M.o_pure (pr _ _ (by omega)))))
      · refine M.o_grd (by simp only [Bool.and_eq_true,decide_eq_true_eq]; omega) (M.o_pure (pr _ _ (by omega)))
theorem within_out {b:List UInt8} {c u x lo hi:Int} (h:SOk c u x) (hc:c<=1000000000000) (h0:-1000<=lo) (h1:lo<=hi) (h2:hi<=10000):(zae b u x lo hi).Out (fun y=>SOk (c+1) y.2.1 y.2.2/\lo<=y.1/\y.1<=hi):=by
  unfold zae;refine M.o_grd (gA2 (by omega) (by omega)) (M.o_grd (gA2 (by omega) (by omega)) (M.o_bind (next_out h hc (by omega)) ?_));rintro ⟨r,u',x'⟩ ⟨k,hl,_⟩;have:=hl (by omega);dsimp only at this k ⊢;exact M.o_grd (gA2 (by omega) (by omega)) (M.o_pure ⟨k,by dsimp only; omega,by dsimp only; omega⟩)
theorem pick_num {v n:Int} (h:1<=n/\n<=1000000):(zaA v n).Out (fun r=>0<=r/\r<n):=by
  unfold zaA;have h1:Int.tmod v n<n:=Int.tmod_lt_of_pos v (by omega);have h2:-n<Int.tmod v n:=by
    have:=Int.tmod_lt_of_pos (-v) (show 0<n by omega);rw [Int.neg_tmod] at this;omega
  refine M.o_f (decide_eq_false (by omega)) (M.o_grdD (by omega) (M.o_if (fun hb=>?_) (fun hb=>?_)))
  · have:=of_decide_eq_true hb;exact M.o_grd (gA2 (by omega) (by omega)) (M.o_pure (by omega))
  · have:=of_decide_eq_false hb;exact M.o_pure (by omega)
end Go.Proofs.YtlfkkkbhejeplaaGreat
namespace Go.Nm
namespace Bl
/-- A sum over the first ones. -/
def Zs (f:Nat->Int):Nat->Int
  | 0=>0
  | m+1=>Zs f m+f m
theorem Zs.ext {f g:Nat->Int}:∀ {n:Nat},(∀ k,k<n->f k=g k)->Zs f n=Zs g n
  | 0,_=>rfl
  | n+1,h=>by
    have ih:=Zs.ext (f:=f) (g:=g) (n:=n) fun k hk=>h k (by omega);simp only [Zs,ih,h n (by omega)]
theorem Zs.le {f g:Nat->Int}:∀ {n:Nat},(∀ k,k<n->f k<=g k)->Zs f n<=Zs g n
  | 0,_=>Int.le_refl _
  | n+1,h=>by
    have ih:=Zs.le (f:=f) (g:=g) (n:=n) fun k hk=>h k (by omega);have:=h n (by omega);simp only [Zs];omega
theorem Zs.add {f g:Nat->Int}:∀ n:Nat,Zs (fun k=>f k+g k) n=Zs f n+Zs g n
  | 0=>rfl
  | n+1=>by
    have ih:=Zs.add (f:=f) (g:=g) n;simp only [Zs,ih];omega
theorem Zs.sub {f g:Nat->Int}:∀ n:Nat,Zs (fun k=>f k-g k) n=Zs f n-Zs g n
  | 0=>rfl
  | n+1=>by
    have ih:=Zs.sub (f:=f) (g:=g) n;simp only [Zs,ih];omega
theorem Zs.nn {f:Nat->Int} {n:Nat} (h:∀ k,k<n->0<=f k):0<=Zs f n:=by
  have:=Zs.le (f:=fun _=>0) (g:=f) h;have e:∀ m,Zs (fun _=>(0:Int)) m=0:=fun m=>by
    induction m with
    | zero=>rfl
    | succ m ih=>simp [Zs,ih]
  rw [e] at this;exact this
theorem Zs.one {f:Nat->Int} {n:Nat} (h:∀ k,k<n->0<=f k) {k:Nat} (hk:k<n):f k<=Zs f n:=by
  induction n with
  | zero=>omega
  | succ n ih =>
    have a:=Zs.nn (f:=f) (n:=n) fun j hj=>h j (by omega);have b:=h n (by omega);rcases Nat.lt_or_eq_of_le (Nat.le_of_lt_succ hk) with g | rfl
    · have:=ih (fun j hj=>h j (by omega)) g;simp only [Zs];omega
    · simp only [Zs];omega
/-- One of the terms is another one. -/
theorem Zs.upd {f g:Nat->Int} {n k:Nat} (hk:k<n) (h:∀ j,j<n->j ≠ k->g j=f j):Zs g n=Zs f n+(g k-f k):=by
  induction n with
  | zero=>omega
  | succ n ih =>
    rcases Nat.lt_or_eq_of_le (Nat.le_of_lt_succ hk) with e | rfl
    · have:=ih e fun j hj hne=>h j (by omega) hne;have h2:=h n (by omega) (by omega);simp only [Zs];omega
    · have:=Zs.ext (f:=g) (g:=f) (n:=k) fun j hj=>h j (by omega) (by omega);simp only [Zs];omega
/-- All but one of the terms are no less than nothing, and all together are nothing. -/
theorem Zs.but {f:Nat->Int} {n k:Nat} (hk:k<n) (h:∀ j,j<n->j ≠ k->0<=f j) (h0:Zs f n=0):f k<=0:=by
  have:=Zs.upd (f:=f) (g:=fun j=>if j=k then 0 else f j) hk fun j _ hj=>by simp [hj]
  simp only [if_true] at this;have h2:=Zs.nn (f:=fun j=>if j=k then 0 else f j) (n:=n) fun j hj=>by
    by_cases e:j=k
    · simp [e]
    · simp only [e,if_false]; exact h j hj e
  omega
/-! ### Ways -/
def offW (w:BWay):Int:=max (max 0 (w.lo-w.now)) (w.now-w.hi)
/-- What one unit more costs on a way, or back on it, and how many units cost the same. -/
def prc (w:BWay) (b:Bool):Int:=match b with
  | false=>if w.now<w.lo then -1 else if w.now<w.hi then 0 else 1
  | true=>if w.hi<w.now then -1 else if w.lo<w.now then 0 else 1
def rm (w:BWay) (b:Bool):Int:=match b with
  | false=>if w.now<w.lo then w.lo-w.now else if w.now<w.hi then w.hi-w.now else 10000000000
  | true=>if w.hi<w.now then w.now-w.hi else if w.lo<w.now then w.now-w.lo else 10000000000
theorem prc_bd (w:BWay) (b:Bool):-1<=prc w b/\prc w b<=1:=by
  cases b <;> simp only [prc] <;> (split <;> (try split) <;> omega)
theorem rm_pos (w:BWay) (b:Bool):1<=rm w b:=by
  cases b <;> simp only [rm] <;> (split <;> (try split) <;> omega)
/-- The price is a slope. -/
theorem off_slope (w:BWay) (hs:w.lo<=w.hi) (t g:Int) (h1:g<=prc w false) (h2:-g<=prc w true):offW w+g*(t-w.now)<=offW { w with now:=t }:=by
  have b1:=prc_bd w false;have b2:=prc_bd w true;have hg:g = -1∨g=0∨g=1:=by omega
  simp only [prc] at h1 h2;simp only [offW];rcases hg with rfl | rfl | rfl
  · have e:(-1:Int)*(t-w.now)=w.now-t:=by omega
    rw [e];split at h1 <;> (try split at h1) <;> (split at h2 <;> (try split at h2)) <;> omega
  · rw [Int.zero_mul];split at h1 <;> (try split at h1) <;> (split at h2 <;> (try split at h2)) <;> omega
  · rw [Int.one_mul];split at h1 <;> (try split at h1) <;> (split at h2 <;> (try split at h2)) <;> omega
/-- Slopes stay, when no more is moved on a way than costs the same. -/
theorem slope_fwd (w:BWay) (hs:w.lo<=w.hi) {n g:Int} (h0:0<=n) (h1:n<=rm w false) (e:g=prc w false):g<=prc { w with now:=w.now+n } false/\-g<=prc { w with now:=w.now+n } true∨n=0:=by
  by_cases hn:n=0
  · exact .inr hn
  · refine .inl ?_;subst e;simp only [prc,rm] at h1 ⊢;constructor <;> (split at h1 <;> (try split at h1) <;> (repeat' split) <;> omega)
theorem slope_back (w:BWay) (hs:w.lo<=w.hi) {n g:Int} (h0:0<=n) (h1:n<=rm w true) (e:-g=prc w true):g<=prc { w with now:=w.now-n } false/\-g<=prc { w with now:=w.now-n } true∨n=0:=by
  by_cases hn:n=0
  · exact .inr hn
  · refine .inl ?_;obtain rfl:g = -prc w true:=by omega
    simp only [prc,rm] at h1 ⊢;constructor <;> (split at h1 <;> (try split at h1) <;> (repeat' split) <;> omega)
/-! ### Nets -/
/-- What comes together with potentials: nothing if all is balanced. -/
def ex (L:List BWay) (p:Int->Int):Int:=Zs (fun k=>(L.getD k default).now*(p (L.getD k default).dst-p (L.getD k default).src)) L.length
def Bal (L:List BWay):Prop:=∀ p,ex L p=0
def NoNeg (L:List BWay) (p:Int->Int):Prop:=∀ k,k<L.length->p (L.getD k default).dst-p (L.getD k default).src<=prc (L.getD k default) false/\-(p (L.getD k default).dst-p (L.getD k default).src)<=prc (L.getD k default) true
/-- The same net, with other flows. -/
structure Sm (L T:List BWay):Prop where
  len:T.length=L.length
  eq:∀ k,k<L.length->T.getD k default={ L.getD k default with now:=(T.getD k default).now }
def Right (L:List BWay):Prop:=∀ k,k<L.length->(L.getD k default).lo<=(L.getD k default).hi
def Fits (L:List BWay):Prop:=∀ k,k<L.length->(L.getD k default).lo<=(L.getD k default).now/\(L.getD k default).now<=(L.getD k default).hi
theorem ex_sm {L T:List BWay} (h:Sm L T) (p:Int->Int):ex T p=Zs (fun k=>(T.getD k default).now*(p (L.getD k default).dst-p (L.getD k default).src)) L.length:=by
  unfold ex;rw [h.len];exact Zs.ext fun k hk=>by rw [h.eq k hk]
/-- With no way that is cheaper than nothing all fits, if it can. -/
theorem fits_of {L T:List BWay} {p:Int->Int} (hr:Right L) (hn:NoNeg L p) (hL:Bal L) (hT:Bal T) (hs:Sm L T) (hf:Fits T):Fits L:=by
  have key:Zs (fun k=>offW (L.getD k default)+(p (L.getD k default).dst-p (L.getD k default).src)*((T.getD k default).now-(L.getD k default).now)) L.length<=Zs (fun k=>offW (T.getD k default)) L.length:=Zs.le fun k hk=>by
    have:=off_slope (L.getD k default) (hr k hk) (T.getD k default).now _ (hn k hk).1 (hn k hk).2;rw [← hs.eq k hk] at this;exact this
  rw [Zs.add] at key;have e:Zs (fun k=>(p (L.getD k default).dst-p (L.getD k default).src)*((T.getD k default).now-(L.getD k default).now)) L.length=ex T p-ex L p:=by
    rw [ex_sm hs];unfold ex;rw [← Zs.sub];exact Zs.ext fun k _=>by rw [Int.mul_sub,Int.mul_comm,Int.mul_comm (_-_) (L.getD k default).now]
  rw [e,hL p,hT p] at key;have z:Zs (fun k=>offW (T.getD k default)) L.length<=Zs (fun _=>0) L.length:=Zs.le fun k hk=>by
    have:=hf k (by rw [hs.len]; exact hk);unfold offW;omega
  have z0:∀ m,Zs (fun _=>(0:Int)) m=0:=fun m=>by
    induction m with
    | zero=>rfl
    | succ m ih=>simp [Zs,ih]
  rw [z0] at z;intro k hk;have o:=Zs.one (f:=fun k=>offW (L.getD k default)) (n:=L.length) (fun j _=>by unfold offW; omega) hk;have:offW (L.getD k default)<=0:=by omega
  unfold offW at this;omega
/-- A cut: no more can pass on a way than passes. -/
theorem cut_up {L T:List BWay} (hL:Bal L) (hT:Bal T) (hs:Sm L T) (hf:Fits T) {a:Nat} (ha:a<L.length) (S:Int->Bool) (h1:S (L.getD a default).dst=true) (h2:S (L.getD a default).src=false)
    (ho:∀ k,k<L.length->k ≠ a->S (L.getD k default).src=true->S (L.getD k default).dst=false->(L.getD k default).hi<=(L.getD k default).now)
    (hi:∀ k,k<L.length->k ≠ a->S (L.getD k default).src=false->S (L.getD k default).dst=true->(L.getD k default).now<=(L.getD k default).lo):(T.getD a default).now<=(L.getD a default).now:=by
  have e:=ex_sm hs fun x=>if S x then 1 else 0
  rw [hT] at e;have e2:ex L (fun x=>if S x then 1 else 0)=0:=hL _;unfold ex at e2;have e3:Zs (fun k=>(T.getD k default).now*((if S (L.getD k default).dst then 1 else 0)-(if S (L.getD k default).src then 1 else 0))-(L.getD k default).now*((if S (L.getD k default).dst then 1 else 0)-(if S (L.getD k default).src then 1 else 0))) L.length=0:=by
    rw [Zs.sub,← e,e2];rfl
  have:=Zs.but ha (fun k hk hne=>?_) e3
  · rw [h1,h2] at this;simp only [if_true,Bool.false_eq_true,if_false] at this;omega
  · have f:=hf k (by rw [hs.len]; exact hk);have q:=hs.eq k hk;have q1:(T.getD k default).lo=(L.getD k default).lo:=by rw [q]
    have q2:(T.getD k default).hi=(L.getD k default).hi:=by rw [q]
    rw [q1,q2] at f;have o:=ho k hk hne;have i:=hi k hk hne;cases s1:S (L.getD k default).src <;> cases s2:S (L.getD k default).dst <;> simp only [if_true,Bool.false_eq_true,if_false]
    · omega
    · have:=i s1 s2; omega
    · have:=o s1 s2; omega
    · omega
theorem cut_down {L T:List BWay} (hL:Bal L) (hT:Bal T) (hs:Sm L T) (hf:Fits T) {a:Nat} (ha:a<L.length) (S:Int->Bool) (h1:S (L.getD a default).src=true) (h2:S (L.getD a default).dst=false)
    (ho:∀ k,k<L.length->k ≠ a->S (L.getD k default).src=true->S (L.getD k default).dst=false->(L.getD k default).hi<=(L.getD k default).now)
    (hi:∀ k,k<L.length->k ≠ a->S (L.getD k default).src=false->S (L.getD k default).dst=true->(L.getD k default).now<=(L.getD k default).lo):(L.getD a default).now<=(T.getD a default).now:=by
  have e:=ex_sm hs fun x=>if S x then 1 else 0
  rw [hT] at e;have e2:ex L (fun x=>if S x then 1 else 0)=0:=hL _;unfold ex at e2;have e3:Zs (fun k=>(T.getD k default).now*((if S (L.getD k default).dst then 1 else 0)-(if S (L.getD k default).src then 1 else 0))-(L.getD k default).now*((if S (L.getD k default).dst then 1 else 0)-(if S (L.getD k default).src then 1 else 0))) L.length=0:=by
    rw [Zs.sub,← e,e2];rfl
  have:=Zs.but ha (fun k hk hne=>?_) e3
  · rw [h1,h2] at this;simp only [if_true,Bool.false_eq_true,if_false] at this;omega
  · have f:=hf k (by rw [hs.len]; exact hk);have q:=hs.eq k hk;have q1:(T.getD k default).lo=(L.getD k default).lo:=by rw [q]
    have q2:(T.getD k default).hi=(L.getD k default).hi:=by rw [q]
    rw [q1,q2] at f;have o:=ho k hk hne;have i:=hi k hk hne;cases s1:S (L.getD k default).src <;> cases s2:S (L.getD k default).dst <;> simp only [if_true,Bool.false_eq_true,if_false]
    · omega
    · have:=i s1 s2; omega
    · have:=o s1 s2; omega
    · omega
end Bl
end Go.Nm
namespace Go.Nm
namespace Dy
/-- A record with its truth. -/
structure DOk (rise fall:Int) (d:List DVal) (x:List Int):Prop where
  n1:1<=d.length
  n2:d.length<=60
  len:x.length=d.length
  r:0<=rise/\rise<=1000
  f:0<=fall/\fall<=1000
  v:∀ i,i<d.length->(d.getD i default).known=true->(0<=(d.getD i default).lo/\(d.getD i default).lo<=x.getD i 0)/\x.getD i 0<=(d.getD i default).hi/\(d.getD i default).hi<=1000000
  t:∀ i,i<d.length->0<=x.getD i 0/\x.getD i 0<=1000000
  up:∀ i,i+1<d.length->x.getD (i+1) 0<=x.getD i 0+rise
  dn:∀ i,i+1<d.length->x.getD i 0-fall<=x.getD (i+1) 0
/-- Spans that hold the truth. -/
structure SpO (n:Nat) (x:List Int) (l:List Span):Prop where
  len:l.length=n
  ok:∀ i,i<n->(0<=(l.getD i default).lo/\(l.getD i default).lo<=x.getD i 0)/\x.getD i 0<=(l.getD i default).hi/\(l.getD i default).hi<=1000000000
theorem getD_setS {l:List Span} {x:Span} {i k:Nat} (hi:i<l.length):(l.set i x).getD k default=if k=i then x else l.getD k default:=by
  simp only [List.getD_eq_getElem?_getD,List.getElem?_set];by_cases e:i=k
  · subst e; simp [hi]
  · rw [if_neg e,if_neg (fun h=>e h.symm)]
end Dy
end Go.Nm
namespace Go.Proofs.YtlfkkkbhejeplaaGreat
open Go Go.Nm
variable {rise fall:Int} {d:List DVal} {x:List Int} {l:List Span}
theorem snocG {α:Type} {l:List α} {x d:α} {k:Nat} (h:k<=l.length):(l++[x]).getD k d=if k<l.length then l.getD k d else x:=by
  simp only [List.getD_eq_getElem?_getD,List.getElem?_append];by_cases e:k<l.length
  · simp [e]
  · have:k=l.length:=by omega
    subst this;simp
theorem elG {α:Type} (l:List α) {i:Nat} (h:i<l.length) (d:α):l.getD i d=l[i]:=by
  rw [List.getD_eq_getElem?_getD,List.getElem?_eq_getElem h,Option.getD_some]
theorem contains_dv (l:List DVal) (f:DVal->M Bool) (p:DVal->Bool) (h:∀ t∈l,(f t).Ends (p t)):(zaB l f).Ends (l.any p):=by
  obtain ⟨r,hr,rfl⟩:(zaB l f).Out (fun r=>r=l.any p):=by
    unfold zaB zbd;have key:(M.iter (zaE l f) 0).Out (fun x=>match x with | .inl k=>0<=k/\l.any p=true | .inr (_:Unit)=>l.any p=false):=by
      refine M.o_for l.length (fun i (s:Nat)=>s=i/\∀ j,j<i->p (l.getD j default)=false) ?_ ?_ ⟨rfl,fun j hj=>by omega⟩
      · rintro _ s hs ⟨rfl,hj⟩;simp only [zaE];have hm:l.getD s default∈l:=by rw [elG l hs]; exact List.getElem_mem hs
        refine M.o_t (decide_eq_true (by omega)) (M.o_grdD (by omega) (M.o_bindE (h _ hm) (M.o_if (fun hb=>M.o_pure ⟨by omega,List.any_eq_true.2 ⟨_,hm,hb⟩⟩) (fun hb=>M.o_pure ⟨rfl,fun j hj'=>?_⟩))));rcases Nat.lt_or_ge j s with g | g
        · exact hj j g
        · obtain rfl:j=s:=by omega
          exact hb
      · rintro _ ⟨rfl,hj⟩;simp only [zaE];refine M.o_f (decide_eq_false (by omega)) (M.o_pure (List.any_eq_false.2 fun x hx=>?_));obtain ⟨k,hk,rfl⟩:=List.getElem_of_mem hx;have:=hj k hk;rw [elG l hk] at this;simp [this]
    refine M.o_bind (P:=fun r=>decide (0<=r)=l.any p) (M.o_bind key ?_) (fun r hr=>M.o_pure hr);rintro (k | u) hk
    · exact M.o_pure (by rw [hk.2]; exact decide_eq_true hk.1)
    · exact M.o_pure (by rw [show l.any p=false from hk]; rfl)
  exact hr
theorem contains_sp (l:List Span) (f:Span->M Bool) (p:Span->Bool) (h:∀ t∈l,(f t).Ends (p t)):(zas l f).Ends (l.any p):=by
  obtain ⟨r,hr,rfl⟩:(zas l f).Out (fun r=>r=l.any p):=by
    unfold zas zbp;have key:(M.iter (zaL l f) 0).Out (fun x=>match x with | .inl k=>0<=k/\l.any p=true | .inr (_:Unit)=>l.any p=false):=by
      refine M.o_for l.length (fun i (s:Nat)=>s=i/\∀ j,j<i->p (l.getD j default)=false) ?_ ?_ ⟨rfl,fun j hj=>by omega⟩
      · rintro _ s hs ⟨rfl,hj⟩;simp only [zaL];have hm:l.getD s default∈l:=by rw [elG l hs]; exact List.getElem_mem hs
        refine M.o_t (decide_eq_true (by omega)) (M.o_grdD (by omega) (M.o_bindE (h _ hm) (M.o_if (fun hb=>M.o_pure ⟨by omega,List.any_eq_true.2 ⟨_,hm,hb⟩⟩) (fun hb=>M.o_pure ⟨rfl,fun j hj'=>?_⟩))));rcases Nat.lt_or_ge j s with g | g
        · exact hj j g
        · obtain rfl:j=s:=by omega
          exact hb
      · rintro _ ⟨rfl,hj⟩;simp only [zaL];refine M.o_f (decide_eq_false (by omega)) (M.o_pure (List.any_eq_false.2 fun x hx=>?_));obtain ⟨k,hk,rfl⟩:=List.getElem_of_mem hx;have:=hj k hk;rw [elG l hk] at this;simp [this]
    refine M.o_bind (P:=fun r=>decide (0<=r)=l.any p) (M.o_bind key ?_) (fun r hr=>M.o_pure hr);rintro (k | u) hk
    · exact M.o_pure (by rw [hk.2]; exact decide_eq_true hk.1)
    · exact M.o_pure (by rw [show l.any p=false from hk]; rfl)
  exact hr
theorem din_t {n a b:Int} (h1:a<=n) (h2:n<=b):(m_daily_in n a b).Ends true:=by
  unfold m_daily_in;rw [show (decide (a<=n)&&decide (n<=b))=true by rw [decide_eq_true h1,decide_eq_true h2]; rfl];exact M.i_pure
theorem dflow_t {n:Int} (h1:0<=n) (h2:n<=1000000000):(m_daily_flow n).Ends true:=M.i_bind (din_t h1 h2) M.i_pure
theorem dcheck (h:Dy.DOk rise fall d x):(m_daily_Check rise fall d).Ends 0:=by
  have n1:=h.n1;have n2:=h.n2;have hr:=h.r;have hf:=h.f;unfold m_daily_Check;refine M.i_bind (din_t (by omega) (by omega)) (M.i_f rfl (M.i_bind (dflow_t (by omega) (by omega)) (M.i_bind (M.i_opt (fun _=>dflow_t (by omega) (by omega)) (fun h=>by cases h)) (M.i_bind (M.i_opt (r:=true) (fun _=>?_) (fun h=>by cases h)) (M.i_f rfl M.i_pure)))));unfold m_daily_every_daily_Value;refine M.i_bind (a:=false) ?_ M.i_pure;have:=contains_dv d (fun x=>m_daily_every_daily_Value__1 x fun xqz=>m_daily_Check_1 xqz) (fun _=>false) fun t ht=>?_
  · rwa [show d.any (fun _=>false)=false by simp] at this
  · obtain ⟨i,hi,rfl⟩:=List.getElem_of_mem ht;refine M.i_bind (a:=true) ?_ M.i_pure;unfold m_daily_Check_1;dsimp only;have hv:=h.v i hi;rw [elG d hi] at hv;cases hk:d[i].known with
    | false=>exact M.i_bind (M.i_opt (r:=false) (fun h=>by cases h) (fun _=>rfl)) M.i_pure
    | true =>
      have hv:=hv hk;refine M.i_bind (M.i_opt (r:=true) (fun _=>?_) (fun h=>by cases h)) M.i_pure;exact M.i_bind (din_t hv.1.1 (by dsimp only; omega)) (M.i_bind (M.i_opt (fun _=>dflow_t (by dsimp only; omega) (by dsimp only; omega)) (fun h=>by cases h)) M.i_pure)
/-- Days and those beside them, one behind the other. -/
theorem pairs_out {S:Type} {bd:S->(Int × Int)->M (S ⊕ Unit)} {a b:Int} (back:Bool) (J:Nat->S->Prop) {s0:S} (h0:J 0 s0) (hn:1<=d.length/\d.length<=60)
    (hb:∀ k s,k+1<d.length->J k s->(bd s (if back then (((d.length-1-k:Nat):Int),((d.length-2-k:Nat):Int)) else ((k:Int),((k+1:Nat):Int)))).Out (fun x=>∃ s',x = .inl s'/\J (k+1) s')) :
    (m_daily_work_pairs_1 (M.yl bd) (.inl s0) a b d back).Out (fun x=>∃ s',x = .inl s'/\J (d.length-1) s'):=by
  unfold m_daily_work_pairs_1;refine M.o_bind (M.o_for (Q:=fun x=>match x with | .inl _=>False | .inr t=>∃ s',t = .inl s'/\J (d.length-1) s') (d.length-1) (fun i (t:Nat × (S ⊕ Unit))=>t.1=i/\∃ s',t.2 = .inl s'/\J i s') ?_ ?_ ⟨rfl,s0,rfl,h0⟩) ?_
  · rintro _ ⟨k,t⟩ hk ⟨rfl,s,e,hJ⟩;dsimp only at hk e hJ;subst e;simp only [m_daily_work_pairs_1_b0];have hbk:=hb k s (by omega) hJ;refine M.o_t (decide_eq_true (by omega)) (M.o_grd (gA2 (by omega) (by omega)) ?_);cases back with
    | true =>
      simp only [if_true] at hbk;refine M.o_t rfl (M.o_grd (gA2 (by omega) (by omega)) (M.o_grd (gA2 (by omega) (by omega)) ?_));rw [show (d.length:Int)-1-(k:Int)=((d.length-1-k:Nat):Int) by omega,show (d.length:Int)-2-(k:Int)=((d.length-2-k:Nat):Int) by omega];refine M.o_bind (P:=fun y=>∃ s',y=(true,.inl s')/\J (k+1) s') (M.o_bind hbk ?_) ?_
      · rintro _ ⟨s',rfl,h'⟩; exact M.o_pure ⟨s',rfl,h'⟩
      · rintro _ ⟨s',rfl,h'⟩; exact M.o_f rfl (M.o_pure ⟨rfl,s',rfl,h'⟩)
    | false =>
      simp only [Bool.false_eq_true,if_false] at hbk;refine M.o_f rfl ?_;rw [show (k:Int)+1=((k+1:Nat):Int) by omega];refine M.o_bind (P:=fun y=>∃ s',y=(true,.inl s')/\J (k+1) s') (M.o_bind hbk ?_) ?_
      · rintro _ ⟨s',rfl,h'⟩; exact M.o_pure ⟨s',rfl,h'⟩
      · rintro _ ⟨s',rfl,h'⟩; exact M.o_f rfl (M.o_pure ⟨rfl,s',rfl,h'⟩)
  · rintro ⟨k,t⟩ ⟨e,s,e2,hJ⟩;dsimp only at e e2 hJ;subst e e2;simp only [m_daily_work_pairs_1_b0];exact M.o_f (decide_eq_false (by omega)) (M.o_pure ⟨s,rfl,hJ⟩)
  · rintro (t | t) ht
    · exact ht.elim
    · exact M.o_pure ht
/-- A span is made narrower. -/
theorem narrow_out {a b:Int} {ds:List DVal} (hl:Dy.SpO d.length x l) {i:Nat} (hi:i<d.length) {lo hi':Int} (h1:lo<=x.getD i 0) (h2:x.getD i 0<=hi'):(m_daily_opened_1 (i:Int) lo hi' a b ds l).Out (Dy.SpO d.length x):=by
  have ll:=hl.len;have ok:=hl.ok i hi;unfold m_daily_opened_1;rw [Int.toNat_natCast];refine M.o_grd (gA2 (by omega) (by omega)) (M.o_pure ⟨by simp [ll],fun k hk=>?_⟩);rw [Dy.getD_setS (by rw [List.length_set]; omega),Dy.getD_setS (by omega),Dy.getD_setS (by omega),if_pos rfl];by_cases c:k=i
  · subst c;rw [if_pos rfl];dsimp only;omega
  · rw [if_neg c,if_neg c];exact hl.ok k hk
theorem agreed_out (h:Dy.DOk rise fall d x):(m_daily_agreed rise fall d).Out (fun y=>∃ l,y = .inr (rise,fall,l,0)/\Dy.SpO d.length x l):=by
  have n1:=h.n1;have n2:=h.n2;have hr:=h.r;have hf:=h.f;unfold m_daily_agreed;refine M.o_bind (P:=fun y=>∃ l,y = .inr (rise,fall,l,true,0)/\Dy.SpO d.length x l) ?_ ?_
  · unfold m_daily_opened;refine M.o_bindE (dcheck h) (M.o_f rfl (M.o_bind (M.o_for (Q:=fun y=>Dy.SpO d.length x y.2) d.length (fun i (s:Nat × List Span)=>s.1=i/\s.2.length=i/\∀ k,k<i->(0<=(s.2.getD k default).lo/\(s.2.getD k default).lo<=x.getD k 0)/\x.getD k 0<=(s.2.getD k default).hi/\(s.2.getD k default).hi<=1000000000) ?_ ?_ ⟨rfl,rfl,fun k hk=>by omega⟩) ?_))
    · rintro _ ⟨i,o⟩ hi ⟨rfl,ho,hk⟩;dsimp only at hi ho hk;simp only [m_daily_opened_b0];have hv:=h.v i hi;have ht:=h.t i hi;refine M.o_t (decide_eq_true (by omega)) (M.o_grdD (by omega) (M.o_bind (P:=fun y=>(0<=y.1/\y.1<=x.getD i 0)/\x.getD i 0<=y.2/\y.2<=1000000000) ?_ ?_))
      · unfold m_daily_Value_span;refine M.o_if (fun hb=>M.o_pure ?_) (fun hb=>M.o_pure ⟨⟨by dsimp only; omega,ht.1⟩,by dsimp only; omega,by dsimp only; omega⟩);have:=hv hb;exact ⟨this.1,this.2.1,by dsimp only; omega⟩
      · rintro ⟨a,b⟩ hy;dsimp only at hy;refine M.o_grdD (by simp; omega) (M.o_pure ⟨rfl,by simp [ho],fun k hk'=>?_⟩);dsimp only;rw [snocG (by omega)];split
        · exact hk k (by omega)
        · obtain rfl:k=i:=by omega
          exact hy
    · rintro ⟨i,o⟩ ⟨e,ho,hk⟩;dsimp only at e ho hk;subst e;simp only [m_daily_opened_b0];exact M.o_f (decide_eq_false (by omega)) (M.o_pure ⟨ho,hk⟩)
    · rintro ⟨l2,l3⟩ h3;dsimp only at h3 ⊢;refine M.o_bindE (a:=false) M.i_pure (M.o_bind (pairs_out false (fun _ s=>Dy.SpO d.length x s) h3 ⟨n1,n2⟩ fun k s hk hs=>?_) ?_)
      · have ok:=hs.ok k (by omega);have t:=h.t k (by omega);have ll:=hs.len;simp only [Bool.false_eq_true,if_false,m_daily_opened_b1];rw [Int.toNat_natCast];refine M.o_grd (gA2 (by omega) (by omega)) (M.o_grd (gA2 (by omega) (by omega)) (M.o_grd (gA2 (by omega) (by omega)) (M.o_bind (narrow_out hs hk ?_ ?_) fun s' h'=>M.o_pure ⟨s',rfl,h'⟩)))
        · have:=h.dn k hk; omega
        · have:=h.up k hk; omega
      · rintro _ ⟨l4,rfl,h4⟩;dsimp only;refine M.o_bindE (a:=true) M.i_pure (M.o_bind (pairs_out true (fun _ s=>Dy.SpO d.length x s) h4 ⟨n1,n2⟩ fun k s hk hs=>?_) ?_)
        · have ok:=hs.ok (d.length-1-k) (by omega);have t:=h.t (d.length-1-k) (by omega);have ll:=hs.len;have e:d.length-2-k+1=d.length-1-k:=by omega
          simp only [if_true,m_daily_opened_b2];rw [Int.toNat_natCast];refine M.o_grd (gA2 (by omega) (by omega)) (M.o_grd (gA2 (by omega) (by omega)) (M.o_grd (gA2 (by omega) (by omega)) (M.o_bind (narrow_out hs (i:=d.length-2-k) (by omega) ?_ ?_) fun s' h'=>M.o_pure ⟨s',rfl,h'⟩)))
          · have:=h.up (d.length-2-k) (by omega); rw [e] at this; omega
          · have:=h.dn (d.length-2-k) (by omega); rw [e] at this; omega
        · rintro _ ⟨l5,rfl,h5⟩;dsimp only;refine M.o_bindE (a:=true) ?_ (M.o_pure ⟨l5,rfl,h5⟩);unfold m_daily_every_api_Span;refine M.i_bind (a:=false) ?_ M.i_pure;have:=contains_sp l5 (fun x=>m_daily_every_api_Span__1 x fun xqz=>m_daily_opened_2 xqz) (fun _=>false) fun t ht=>?_
          · rwa [show l5.any (fun _=>false)=false by simp] at this
          · obtain ⟨i,hi,rfl⟩:=List.getElem_of_mem ht;have ok:=h5.ok i (by rw [← h5.len]; exact hi);rw [elG l5 hi] at ok;refine M.i_bind (a:=true) ?_ M.i_pure;unfold m_daily_opened_2;dsimp only;rw [decide_eq_true (show l5[i].lo<=l5[i].hi by omega)];exact M.i_pure
  · rintro _ ⟨l,rfl,hl⟩;exact M.o_f rfl (M.o_pure ⟨l,rfl,hl⟩)
theorem dsum_ends {l:List Int} (h:∀ k,k<l.length->0<=l.getD k 0/\l.getD k 0<=1000000000) (hn:l.length<=100):(m_daily_sum l).Ends (Bl.Zs (fun k=>l.getD k 0) l.length):=by
  unfold m_daily_sum;have hb:∀ n,n<=l.length->0<=Bl.Zs (fun k=>l.getD k 0) n/\Bl.Zs (fun k=>l.getD k 0) n<=1000000000*n:=fun n=>by
    induction n with
    | zero=>intro _; simp [Bl.Zs]
    | succ n ih =>
      intro hn;have:=ih (by omega);have:=h n (by omega);simp only [Bl.Zs];omega
  refine M.i_bind (M.i_for (fun i=>(Bl.Zs (fun k=>l.getD k 0) i,i)) l.length (fun i hi=>?_) ?_) M.i_pure
  · simp only [m_daily_sum_b0];have a:=hb i (by omega);have b:=h i hi;exact M.i_t (decide_eq_true (by omega)) (M.i_grd (decide_eq_true (by omega)) (M.i_grd (gA2 (by omega) (by omega)) M.i_pure))
  · simp only [m_daily_sum_b0];exact M.i_f (decide_eq_false (by omega)) M.i_pure
theorem takeG {α:Type} {l:List α} {n k:Nat} (h:k<n) (d:α):(l.take n).getD k d=l.getD k d:=by
  simp only [List.getD_eq_getElem?_getD,List.getElem?_take,if_pos h]
theorem ends_lo (hn:l.length<=100):(m_daily_ends_57 l).Out (fun r=>r.length=l.length/\∀ k,k<l.length->r.getD k 0=(l.getD k default).lo):=by
  unfold m_daily_ends_57;refine M.o_bind (M.o_for (Q:=fun y=>y.2.length=l.length/\∀ k,k<l.length->y.2.getD k 0=(l.getD k default).lo) l.length (fun i (s:Nat × List Int)=>s.1=i/\s.2.length=i/\∀ k,k<i->s.2.getD k 0=(l.getD k default).lo) ?_ ?_ ⟨rfl,rfl,fun k hk=>by omega⟩) fun y hy=>M.o_pure hy
  · rintro _ ⟨i,o⟩ hi ⟨rfl,ho,hk⟩;dsimp only at hi ho hk;simp only [m_daily_ends_57_b0];refine M.o_t (decide_eq_true (by omega)) (M.o_grdD (by omega) (M.o_bindE (a:=(l.getD i default).lo) M.i_pure (M.o_grdD (by simp; omega) (M.o_pure ⟨rfl,by simp [ho],fun k hk'=>?_⟩))));dsimp only;rw [snocG (by omega)];split
    · exact hk k (by omega)
    · obtain rfl:k=i:=by omega
      rfl
  · rintro ⟨i,o⟩ ⟨e,ho,hk⟩;dsimp only at e ho hk;subst e;simp only [m_daily_ends_57_b0];exact M.o_f (decide_eq_false (by omega)) (M.o_pure ⟨ho,hk⟩)
theorem ends_hi (hn:l.length<=100):(m_daily_ends_58 l).Out (fun r=>r.length=l.length/\∀ k,k<l.length->r.getD k 0=(l.getD k default).hi):=by
  unfold m_daily_ends_58;refine M.o_bind (M.o_for (Q:=fun y=>y.2.length=l.length/\∀ k,k<l.length->y.2.getD k 0=(l.getD k default).hi) l.length (fun i (s:Nat × List Int)=>s.1=i/\s.2.length=i/\∀ k,k<i->s.2.getD k 0=(l.getD k default).hi) ?_ ?_ ⟨rfl,rfl,fun k hk=>by omega⟩) fun y hy=>M.o_pure hy
  · rintro _ ⟨i,o⟩ hi ⟨rfl,ho,hk⟩;dsimp only at hi ho hk;simp only [m_daily_ends_58_b0];refine M.o_t (decide_eq_true (by omega)) (M.o_grdD (by omega) (M.o_bindE (a:=(l.getD i default).hi) M.i_pure (M.o_grdD (by simp; omega) (M.o_pure ⟨rfl,by simp [ho],fun k hk'=>?_⟩))));dsimp only;rw [snocG (by omega)];split
    · exact hk k (by omega)
    · obtain rfl:k=i:=by omega
      rfl
  · rintro ⟨i,o⟩ ⟨e,ho,hk⟩;dsimp only at e ho hk;subst e;simp only [m_daily_ends_58_b0];exact M.o_f (decide_eq_false (by omega)) (M.o_pure ⟨ho,hk⟩)
/-- A volume holds what really flowed. -/
theorem volume_out (h:Dy.DOk rise fall d x) {n:Nat} (h1:1<=n) (hn:n<=d.length):(m_daily_Volume rise fall d 0 ((n:Int)-1)).Out (fun y=>y.2.2=0/\0<=y.1/\y.1<=Bl.Zs (fun k=>x.getD k 0) n/\Bl.Zs (fun k=>x.getD k 0) n<=y.2.1/\y.2.1<=1000000000*n):=by
  have n2:=h.n2;unfold m_daily_Volume;refine M.o_bindE (dcheck h) (M.o_f rfl (M.o_bindE (din_t (by omega) (by omega)) (M.o_f (by rw [decide_eq_false (by omega)]; rfl) (M.o_bind (agreed_out h) ?_))));rintro _ ⟨l,rfl,hl⟩;have ll:=hl.len;dsimp only;refine M.o_f rfl (M.o_grd (gA2 (by omega) (by omega)) (M.o_grd (by rw [decide_eq_true (by omega),decide_eq_true (by omega),decide_eq_true (by omega)]; rfl) (M.o_bindE (a:=()) M.i_pure ?_)));rw [show Int.toNat ((n:Int)-1+1)=n by omega,show Int.toNat 0=0 from rfl,List.drop_zero];have tl:(l.take n).length=n:=by rw [List.length_take]; omega
  refine M.o_bind (ends_lo (by omega)) ?_;rintro lo ⟨lo1,lo2⟩;have elo:∀ k,k<n->lo.getD k 0=(l.getD k default).lo:=fun k hk=>by rw [lo2 k (by omega),takeG hk]
  refine M.o_bindE (dsum_ends (fun k hk=>?_) (by omega)) (M.o_bind (ends_hi (by omega)) ?_)
  · have:=hl.ok k (by omega);have:=h.t k (by omega);rw [elo k (by omega)];omega
  rintro hi ⟨hi1,hi2⟩;have ehi:∀ k,k<n->hi.getD k 0=(l.getD k default).hi:=fun k hk=>by rw [hi2 k (by omega),takeG hk]
  refine M.o_bindE (dsum_ends (fun k hk=>?_) (by omega)) (M.o_pure ?_)
  · have:=hl.ok k (by omega);have:=h.t k (by omega);rw [ehi k (by omega)];omega
  dsimp only;rw [lo1,hi1,tl];refine ⟨rfl,Bl.Zs.nn fun k hk=>?_,Bl.Zs.le fun k hk=>?_,Bl.Zs.le fun k hk=>?_,?_⟩
  · rw [elo k hk]; exact (hl.ok k (by omega)).1.1
  · rw [elo k hk]; exact (hl.ok k (by omega)).1.2
  · rw [ehi k hk]; exact (hl.ok k (by omega)).2.1
  · have:=Bl.Zs.le (f:=fun k=>hi.getD k 0) (g:=fun _=>1000000000) (n:=n) fun k hk=>by
      rw [ehi k hk]; exact (hl.ok k (by omega)).2.2
    have e:∀ m:Nat,Bl.Zs (fun _=>(1000000000:Int)) m=1000000000*m:=fun m=>by
      induction m with
      | zero=>rfl
      | succ m ih=>simp only [Bl.Zs,ih]; omega
    rw [e] at this;exact this
end Go.Proofs.YtlfkkkbhejeplaaGreat
