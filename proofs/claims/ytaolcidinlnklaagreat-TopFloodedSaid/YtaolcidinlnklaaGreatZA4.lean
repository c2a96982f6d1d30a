/- Part 4 of the texts on which the proof rests. Conditions: none. -/
import Derived.Test.YtaolcidinlnklaaGreatProg
import Derived.Ground.NamesProg
import Derived.Shelf.Bits.Mul64
import Derived.Test.YtaolcidinlnklaaGreatZA3
set_option linter.unusedVariables false
set_option linter.unusedSimpArgs false
set_option linter.unusedSectionVars false
section
set_option maxRecDepth 100000
set_option maxHeartbeats 16000000
namespace Go.Proofs.YtaolcidinlnklaaGreat
open Go Go.Nm
attribute [local irreducible] gd execOp SL SLD SLT WR
def zdn (s_bytes:List UInt8) (r3:Int):(Int × Int × Int × Nat × (List Int) × (List Int) × (List Int))->M ((Int × Int × Int × Nat × (List Int) × (List Int) × (List Int)) ⊕ (Int × Int × (List Int) × (List Int) × (List Int) × Int × (List Int) × (List Int) × (List Int))):=fun (s2,s3,s4,s5,l,l2,l3) =>
  bif decide ((s5:Int)<r3) then (
  M.bind (zag s_bytes s2 s3 1 90) fun (r4,aa,ac) =>
  M.gi (s4+r4) <|
  M.grd (decide ((l.length+([(s4+r4:Int)]).length)*8<=140737488355328)) <|
  M.bind (zab s_bytes aa ac 300) fun (r5,ae,ag) =>
  M.grd (decide ((l2.length+([(r5:Int)]).length)*8<=140737488355328)) <|
  M.bind (zag s_bytes ae ag (-40) 400) fun (r6,ah,ai) =>
  M.grd (decide ((l3.length+([(r6:Int)]).length)*8<=140737488355328)) <|
  M.gi ((s5:Int)+1) <|
  M.pure (.inl (ah,ai,s4+r4,s5+1,l++([(s4+r4:Int)]),l2++([(r5:Int)]),l3++([(r6:Int)]))))
  else (
  M.pure (.inr (s2,s3,l,l2,l3,s4,l3,l2,l)))
def zc4 (s_bytes:List UInt8) (s_used s_mix most:Int):M (Int × Int × (List Int) × (List Int) × (List Int) × Int × Int) :=
  M.bind (zab s_bytes s_used s_mix 50) fun (r2,q1,q2) =>
  M.bind (zag s_bytes q1 q2 1 most) fun (r3,aa,ac) =>
  M.bind (M.iter (zdn s_bytes r3) (aa,ac,r2,0,[],[],[])) fun (s6,s7,l4,l5,l6,s8,l7,l8,l9) =>
  M.bind (zag s_bytes s6 s7 1 90) fun (r7,ae,ag) =>
  M.gi (s8+r7) <|
  M.pure (r2,(s8+r7),l9,l8,l7,ae,ag)
theorem zg2 {R aa am ah}(s_bytes s_used s_mix most)(ae:Reads R am)(ag:Sl am ah s_bytes){r}(hM:(zc4 s_bytes s_used s_mix most).Ends r)(w)(H:St w w [cBlk aa [ah,I s_used,I s_mix] 100] R):Ret Tryz.prog 40 #[Pq aa,I most] w fun v w'=>∃ y0 y1 y2 y3 y4 y5 y6 u0 u1 u2,(y0,y1,y2,y3,y4,y5,y6)=r/\v = .agg #[I y0,I y1,u0,u1,u2]/\St w w' [cOwn (α:=Int) 3 u0 y2,cOwn (α:=Int) 3 u1 y3,cOwn (α:=Int) 3 u2 y4,cBlk aa [ah,I y5,I y6] 100] R:=by
 refine ret_of_W Tryz.func40 rfl rfl rfl ?_;refine kA 2 ?_;intro ao aK H;refine kg 4 ?_;obtain ⟨aL,au,hM⟩:=M.e_bind hM;refine s_call cq [Pq aa,I 50] rfl (zad s_bytes s_used s_mix 50 (ae.app _) ag au _ ((H.pk [1,0]).gt 1)) ?_;rintro _ aM ⟨r2,q1,q2,rfl,rfl,ac⟩;replace H:=H.pk [1,0] |>.bk ac
 refine kA 1 ?_;intro ap aN H;refine ksw ?_;intro aO H;refine kg 12 ?_;obtain ⟨aP,av,hM⟩:=M.e_bind hM;refine s_call cq [Pq aa,I 1,I most] rfl (zaf s_bytes q1 q2 1 most (ae.app _) ag av _ ((H.pk [1,0,2]).gt 2)) ?_;rintro _ aQ ⟨r3,aR,aS,rfl,rfl,ac⟩;replace H:=H.pk [1,0,2] |>.bk ac
 refine kg 3 ?_;replace H:=H.nilOwn (α:=Int) 3;replace H:=H.nilOwn (α:=Int) 3;replace H:=H.nilOwn (α:=Int) 3;obtain ⟨aw,aq,ax⟩:=M.e_bind hM;obtain ⟨aT,aq⟩:=M.e_iter aq;refine W.loop (fun m σ W=>∃ (s2:Int) (s3:Int) (s4:Int) (s5:Nat) (l:List Int) (l2:List Int) (l3:List Int) (ai:Value) (aj:Value) (al:Value) (ρ:Env),σ=upds ρ [(0,Pq aa),(4,Pq ao),(5,Pq ap),(6,I s4),(14,I r3),(15,I (s5:Int))]/\M.iterN (zdn s_bytes r3) m (s2,s3,s4,s5,l,l2,l3)=some aw/\St w W [cOwn (α:=Int) 3 al l3,cOwn (α:=Int) 3 aj l2,cOwn (α:=Int) 3 ai l,cBlk aa [ah,I s2,I s3] 100,cBlk ap [I r2,I 0,ai,aj,al] 142,cBlk ao [I 0,I 0,.slice none 0 0,.slice none 0 0,.slice none 0 0] 142] R) ?_ ?_
 ·exact kY
 rintro aU σ aV ⟨s2,s3,s4,s5,l,l2,l3,ai,aj,al,ρ,rfl,ay,H⟩;obtain ⟨aW,aX,aY,hM,aA⟩:=M.e_iterN ay;refine kI 5 ?_ ?_
 ·intro aB hM;refine kg 7 ?_;obtain ⟨aZ,aC,hM⟩:=M.e_bind hM;refine s_call cq [Pq aa,I 1,I 90] rfl (zaf s_bytes s2 s3 1 90 (ae.app _) ag aC _ ((H.pk [3,0,1,2,4,5]).gt 5)) ?_;rintro _ a7 ⟨r4,aD,aE,rfl,rfl,ac⟩;replace H:=H.pk [3,0,1,2,4,5] |>.bk ac
  obtain ⟨a8,hM⟩:=M.e_gq hM;refine kDS 3 [4,5] (.q 0 (.q 1 (.q 2 (.q 5 (.q 6 (.q 7 (.q 11 (.q 12 (.q 13 (.l 3 (.l 4 (.q 17 (.l 8 (.l 9 (.l 10 (.l 14 (.l 15 (.l 16 .nil)))))))))))))))))) 18 [18,19,20,21,22] ?_;intro ba H;refine kL 10 (α:=Int) [s4+r4] ?_;intro bc bg H;refine kN ?_;refine ts_l rfl ?_;obtain ⟨bi,hM⟩:=M.e_gq hM;refine kP 0 ?_;intro bj bm H;refine kN ?_;refine kG 2 ?_;obtain ⟨bn,aF,hM⟩:=M.e_bind hM;refine s_call cq [Pq aa,I 300] rfl (zad s_bytes aD aE 300 (ae.app _) ag aF _ ((H.pk [1,0,2,3,4,5,6]).gt 6)) ?_;rintro _ bp ⟨r5,aG,aH,rfl,rfl,ac⟩;replace H:=H.pk [1,0,2,3,4,5,6] |>.bk ac
  refine kN ?_;refine kL 1 (α:=Int) [r5] ?_;intro br bt H;refine kN ?_;refine ts_l rfl ?_;obtain ⟨bu,hM⟩:=M.e_gq hM;refine kP 0 ?_;intro bv bw H;refine kN ?_;refine ts_l rfl ?_;obtain ⟨bx,aI,hM⟩:=M.e_bind hM;refine s_call cq [Pq aa,I (-40),I 400] rfl (zaf s_bytes aG aH (-40) 400 (ae.app _) ag aI _ ((H.pk [1,0,2,3,4,5,6,7]).gt 7)) ?_;rintro _ bz ⟨r6,bA,bB,rfl,rfl,ac⟩;replace H:=H.pk [1,0,2,3,4,5,6,7] |>.bk ac
  refine kN ?_;refine kL 1 (α:=Int) [r6] ?_;intro bC bD H;refine kN ?_;refine ts_l rfl ?_;obtain ⟨bE,hM⟩:=M.e_gq hM;refine kP 0 ?_;intro bF bG H;refine kN ?_;refine kS 2 ?_;intro bH H;refine s_nil ⟨trivial,?_⟩;refine kG 2 ?_;refine s_nil ⟨trivial,?_⟩;refine kS 1 ?_;intro bI H;refine s_nil ⟨trivial,?_⟩;refine kG 2 ?_;refine s_nil ⟨trivial,?_⟩;refine kS 1 ?_;intro bJ H;refine s_nil ⟨trivial,?_⟩;refine sr_nil ?_;replace H:=H.pk [1,4,5,6,7,8];obtain ⟨bK,hM⟩:=M.e_gq hM;exact kXp 4 [1,2,3,0,4,5]
 intro aB hM;refine W.exit ?_;obtain rfl:=M.e_inr hM aA;replace hM:=ax;refine kg 4 ?_;obtain ⟨bL,aJ,hM⟩:=M.e_bind hM;refine s_call cq [Pq aa,I 1,I 90] rfl (zaf s_bytes s2 s3 1 90 (ae.app _) ag aJ _ ((H.pk [3,0,1,2,4,5]).gt 5)) ?_;rintro _ bN ⟨r7,bO,bP,rfl,rfl,ac⟩;replace H:=H.pk [3,0,1,2,4,5] |>.bk ac
 obtain ⟨bQ,hM⟩:=M.e_gq hM;refine kS 2 ?_;intro bR H;refine kS 4 ?_;intro bS H;exact kR 1 [3,2,1,0]

def zbr (s_bytes:List UInt8) (s_used s_mix n aa greatest error:Int):M (Int × Int × Int × Int) :=
  M.gi (error+1) <|
  M.bind (zab s_bytes s_used s_mix (error+1)) fun (r2,q1,q2) =>
  M.gi (n-r2) <|
  M.bind (zab s_bytes q1 q2 (error+1)) fun (r3,ac,ae) =>
  M.gi (n+r3) <|
  M.pure ((max aa (n-r2)),(min greatest (n+r3)),ac,ae)
theorem zbk {R aa ae ac}(s_bytes s_used s_mix n ag greatest error)(ah:Reads R ae)(ai:Sl ae ac s_bytes){r}(hM:(zbr s_bytes s_used s_mix n ag greatest error).Ends r)(w)(H:St w w [cBlk aa [ac,I s_used,I s_mix] 100] R):Ret Tryz.prog 82 #[Pq aa,I n,I ag,I greatest,I error] w fun v w'=>∃ y0 y1 y2 y3,(y0,y1,y2,y3)=r/\v = .agg #[I y0,I y1]/\St w w' [cBlk aa [ac,I y2,I y3] 100] R:=by
 refine ret_of_W Tryz.func82 rfl rfl rfl ?_;refine kA 2 ?_;intro am ao H;obtain ⟨ap,hM⟩:=M.e_gq hM;refine kg 8 ?_;obtain ⟨aq,aj,hM⟩:=M.e_bind hM;refine s_call cq [Pq aa,I (error+1)] rfl (zad s_bytes s_used s_mix (error+1) (ah.app _) ai aj _ ((H.pk [1,0]).gt 1)) ?_;rintro _ au ⟨r2,q1,q2,rfl,rfl,al⟩;replace H:=H.pk [1,0] |>.bk al
 obtain ⟨av,hM⟩:=M.e_gq hM;refine kC 7 @zad ?_;intro aw r3 ax ay hM H;obtain ⟨aA,hM⟩:=M.e_gq hM;refine kS 3 ?_;intro aB H;exact kR 1 [0]

def zcs (s_bytes:List UInt8) (aa ac ae:List Int):(Int × Int × Nat × (List Vrt))->M ((Int × Int × Nat × (List Vrt)) ⊕ ((List Vrt) × (List Vrt) × Int × Int)):=fun (s2,s3,s4,l) =>
  bif decide ((s4:Int)<(aa.length:Int)) then (
  M.grd (decide ((s4:Int)<(aa.length:Int))) <|
  M.grd (decide ((s4:Int)<(ac.length:Int))) <|
  M.grd (decide ((s4:Int)<(ae.length:Int))) <|
  M.bind (zbr s_bytes s2 s3 (ac.getD s4 0) 0 2000 9) fun (r0,r1,q1,q2) =>
  M.bind (zbr s_bytes q1 q2 (ae.getD s4 0) (-5000) 5000 20) fun (ag,ah,ai,aj) =>
  M.grd (decide ((l.length+([(⟨(aa.getD s4 0:Int),(r0:Int),(r1:Int),(ag:Int),(ah:Int)⟩:Vrt)]).length)*40<=140737488355328)) <|
  M.pure (.inl (ai,aj,s4+1,l++([(⟨(aa.getD s4 0:Int),(r0:Int),(r1:Int),(ag:Int),(ah:Int)⟩:Vrt)]))))
  else (
  M.pure (.inr (l,l,s2,s3)))
def zcn (s_bytes:List UInt8) (s_used s_mix aa ac:Int) (ae ag ah:List Int):M (Int × Int × (List Vrt) × Int × Int) :=
  M.bind (M.iter (zcs s_bytes ae ag ah) (s_used,s_mix,0,[])) fun (l2,l3,s5,s6) =>
  M.pure (aa,ac,l3,s5,s6)
theorem zgP {R ac aw ai ax aj ay ao aA ap}(s_bytes s_used s_mix al am aa ae aq)(aB:Reads R aw)(aC:Sl aw ai s_bytes)(aR:Reads R ax)(aJ:Sl ax aj aa)(aS:Reads R ay)(aT:Sl ay ao ae)(aU:Reads R aA)(aV:Sl aA ap aq){r}(hM:(zcn s_bytes s_used s_mix al am aa ae aq).Ends r)(w)(H:St w w [cBlk ac [ai,I s_used,I s_mix] 100] R):Ret Tryz.prog 41 #[Pq ac,.agg #[I al,I am,aj,ao,ap]] w fun v w'=>∃ y0 y1 y2 y3 y4 u0,(y0,y1,y2,y3,y4)=r/\v = .agg #[I y0,I y1,u0]/\St w w' [cOwn (α:=Vrt) 218 u0 y2,cBlk ac [ai,I y3,I y4] 100] R:=by
 refine ret_of_W Tryz.func41 rfl rfl rfl ?_;refine kB 2 ?_;intro aD aW H;refine kal ?_;intro aE aX H;refine kA 8 ?_;intro aF aY H;refine ksw ?_;intro aZ H;have a7:=(aJ).len_le;refine kg 10 ?_;replace H:=H.nilOwn (α:=Vrt) 218;obtain ⟨aK,aG,aL⟩:=M.e_bind hM;obtain ⟨a8,aG⟩:=M.e_iter aG;refine W.loop (fun m σ W=>∃ (s2:Int) (s3:Int) (s4:Nat) (l:List Vrt) (au:Value) (ρ:Env),σ=upds ρ [(0,Pq ac),(3,Pq aD),(4,Pq aE),(5,Pq aF),(14,aj),(15,I (aa.length:Int)),(16,I (s4:Int))]/\M.iterN (zcs s_bytes aa ae aq) m (s2,s3,s4,l)=some aK/\St w W [cOwn (α:=Vrt) 218 au l,cBlk aF [I al,I am,au] 146,cBlk aE [I 0,I 0,.slice none 0 0] 146,cBlk aD [I al,I am,aj,ao,ap] 142,cBlk ac [ai,I s2,I s3] 100] R) ?_ ?_
 ·exact kY
 rintro ba σ bc ⟨s2,s3,s4,l,au,ρ,rfl,aM,H⟩;obtain ⟨bg,bi,bj,hM,aN⟩:=M.e_iterN aM;refine kI 5 ?_ ?_
 ·intro aO hM;obtain ⟨bm,hM⟩:=M.e_gq hM;refine kDT 11 [2,3] (.q 0 (.q 2 (.q 3 (.q 4 (.q 5 (.q 6 (.q 7 (.q 8 (.q 10 (.q 11 (.q 12 (.q 13 (.q 14 (.q 15 (.l2 1 (.l 9 (.l 16 (.q 17 (.l 18 (.l 19 (.q 20 (.l 21 .nil))))))) 9 (.l2 1 (.l 16 (.q 17 (.l 18 (.l 19 (.q 20 (.l 21 .nil)))))) 16 (.q 17 (.l2 1 (.l 18 (.l 19 (.q 20 (.l 21 .nil)))) 18 (.l 1 (.l 19 (.q 20 (.l 21 .nil)))))))))))))))))))))) ?_;intro bn H;obtain ⟨bp,hM⟩:=M.e_gq hM;obtain ⟨br,hM⟩:=M.e_gq hM;refine kg 14 ?_;refine t_l2 rfl rfl ?_ ?_
  ·refine kG 1 ?_;refine kN ?_;refine t_l rfl ?_;obtain ⟨bt,aP,hM⟩:=M.e_bind hM;refine s_call cq [Pq ac,I (ae.getD s4 0),I 0,I 2000,I 9] rfl (zbk s_bytes s2 s3 (ae.getD s4 0) 0 2000 9 (aB.app _) aC aP _ ((H.pk [4,0,1,2,3]).gt 4)) ?_;rintro _ bu ⟨r0,r1,q1,q2,rfl,rfl,av⟩;replace H:=H.pk [4,0,1,2,3] |>.bk av
   refine kN ?_;refine kC 1 @zbk ?_;intro bv ag ah aH aI hM H;refine kN ?_;refine kL 2 (α:=Vrt) [⟨aa.getD s4 0,r0,r1,ag,ah⟩] ?_;intro bw bx H;refine kN ?_;refine t_l rfl ?_;obtain ⟨bz,hM⟩:=M.e_gq hM;refine kP 0 ?_;intro bA bB H;refine kN ?_;refine kS 2 ?_;intro bC H;refine kN ?_;exact kXp 5 [2,3,4,5,1]
  obtain ⟨bD,aQ,hM⟩:=M.e_bind hM;refine s_call cq [Pq ac,I (ae.getD s4 0),I 0,I 2000,I 9] rfl (zbk s_bytes s2 s3 (ae.getD s4 0) 0 2000 9 (aB.app _) aC aQ _ ((H.pk [4,0,1,2,3]).gt 4)) ?_;rintro _ bE ⟨r0,r1,q1,q2,rfl,rfl,av⟩;replace H:=H.pk [4,0,1,2,3] |>.bk av
  refine kN ?_;refine t_l2 rfl rfl ?_ ?_
  ·refine kG 1 ?_;refine kN ?_;refine kC 1 @zbk ?_;intro bF ag ah aH aI hM H;refine kN ?_;refine kL 2 (α:=Vrt) [⟨aa.getD s4 0,r0,r1,ag,ah⟩] ?_;intro bG bH H;refine kN ?_;refine t_l rfl ?_;obtain ⟨bI,hM⟩:=M.e_gq hM;refine kP 0 ?_;intro bJ bK H;refine kN ?_;refine kS 2 ?_;intro bL H;refine kN ?_;exact kXp 5 [2,3,4,5,1]
  refine kC 0 @zbk ?_;intro bN ag ah aH aI hM H;refine kN ?_;refine kG 1 ?_;obtain ⟨bO,hM⟩:=M.e_gq hM;refine t_l2 rfl rfl ?_ ?_
  ·refine kG 1 ?_;refine kN ?_;refine kL 1 (α:=Vrt) [⟨aa.getD s4 0,r0,r1,ag,ah⟩] ?_;intro bP bQ H;refine kN ?_;refine kP 1 ?_;intro bR bS H;refine kN ?_;refine kS 2 ?_;intro bT H;refine kN ?_;exact kXp 5 [2,3,4,5,1]
  refine kL 0 (α:=Vrt) [⟨aa.getD s4 0,r0,r1,ag,ah⟩] ?_;intro bU bV H;refine kN ?_;refine kG 2 ?_;refine kN ?_;refine kP 1 ?_;intro bW bX H;refine kN ?_;refine kS 2 ?_;intro bY H;refine kN ?_;exact kXp 5 [2,3,4,5,1]
 intro aO hM;refine W.exit ?_;obtain rfl:=M.e_inr hM aN;replace hM:=aL;refine kS 3 ?_;intro bZ H;refine s_nil ?_;replace H:=H.pk [0,2,4];exact kR 0 [0,2]

def m_gauge_in (n aa greatest:Int):M Bool :=
  M.pure ((decide (aa<=n))&&(decide (n<=greatest)))
theorem gauge_in_ok {R}(n aa greatest){r}(hM:(m_gauge_in n aa greatest).Ends r)(w)(H:St w w [] R):Ret Tryz.prog 85 #[I n,I aa,I greatest] w fun v w'=>∃ y0,y0=r/\v=B y0/\St w w' [] R:=by
 refine ret_of_W Tryz.func85 rfl rfl rfl ?_;refine kg 16 ?_;exact rt

def m_gauge_shore (aa right:Int):M Bool :=
  M.bind (m_gauge_in right 1 10000) fun r2 =>
  M.grd ((!r2||(decide ((-9223372036854775808:Int)<=(right-1))&&decide ((right-1)<=(9223372036854775807:Int))))) <|
  M.bind (M.opt r2 (m_gauge_in aa 0 (right-1)) false) fun r3 =>
  M.pure (r2&&r3)
theorem gauge_shore_ok {R}(aa right){r}(hM:(m_gauge_shore aa right).Ends r)(w)(H:St w w [] R):Ret Tryz.prog 150 #[I aa,I right] w fun v w'=>∃ y0,y0=r/\v=B y0/\St w w' [] R:=by
 refine ret_of_W Tryz.func150 rfl rfl rfl ?_;refine kC 7 @gauge_in_ok ?_;intro ai r2 hM H;obtain ⟨ac,hM⟩:=M.e_grd hM;replace ac:=M.imp_of ac;simp only [Bool.and_eq_true,decide_eq_true_eq] at ac;refine kg 4 ?_;obtain ⟨r3,ae,hM⟩:=M.e_bind hM;refine t_gcall r2 (gy_t rfl) cq (B r3) (fun _=>[I aa,I 0,I (right-1)]) (fun hg=>lst3 (gd_of hg (I aa)) rfl (gd_of hg (I (right-1)))) H (fun hg=>(gauge_in_ok aa 0 (right-1) (M.e_opt ae hg) _ (H.give (A:=[]) rfl)).mono fun v_ w_ ⟨y_,ag,ah,H_⟩=>by subst ag; exact ⟨ah,H.via H_⟩) ?_;intro aj H;refine kg 3 ?_;exact rt

def zcl (s:List Vrt) (f:Vrt->M Bool):Nat->M (Nat ⊕ (Int ⊕ Unit)):=fun s2 =>
  bif decide ((s2:Int)<(s.length:Int)) then (
  M.grd (decide ((s2:Int)<(s.length:Int))) <|
  M.bind (f (s.getD s2 default)) fun r2 =>
  bif r2 then (
  M.pure (.inr (.inl (s2:Int))))
  else (
  M.pure (.inl (s2+1))))
  else (
  M.pure (.inr (.inr ())))
def zdO (s:List Vrt) (f:Vrt->M Bool):M Int :=
  M.bind (M.iter (zcl s f) 0) fun x_=>match x_ with
  | (.inl s3)=>(
  M.pure s3)
  | (.inr (_:Unit))=>(
  M.pure (-1))
theorem zgH {R ae aa ac}(s f)(av:Reads R ae)(aj:Sl ae aa s)(al:FnM Tryz.prog R ac f){r}(hM:(zdO s f).Ends r)(w)(H:St w w [] R):Ret Tryz.prog 238 #[aa,ac] w fun v w'=>∃ y0,y0=r/\v=I y0/\St w w' [] R:=by
 refine ret_of_W Tryz.func238 rfl rfl rfl ?_;have aw:=(aj).len_le;refine kg 12 ?_;obtain ⟨am,ag,ah⟩:=M.e_bind hM;obtain ⟨ax,ag⟩:=M.e_iter ag;refine W.loop (fun m σ W=>∃ (s2:Nat) (ρ:Env),σ=upds ρ [(0,aa),(1,ac),(7,I (s.length:Int)),(8,I (s2:Int))]/\M.iterN (zcl s f) m s2=some am/\St w W [] R) ?_ ?_
 ·exact kY
 rintro ay σ aA ⟨s2,ρ,rfl,ao,H⟩;obtain ⟨aB,aC,aD,hM,ai⟩:=M.e_iterN ao;refine kI 5 ?_ ?_
 ·intro ap hM;obtain ⟨aE,hM⟩:=M.e_gq hM;refine kg 15 ?_;obtain ⟨r2,aq,hM⟩:=M.e_bind hM;refine t_callM H al rfl rfl (s.getD s2 default) Reads.none ⟨_,rfl,rfl⟩ aq ?_;intro aF H;refine kI 1 ?_ ?_
  ·intro au hM;refine kg 5 ?_;obtain rfl:=M.e_inr hM ai;replace hM:=ah;exact rt
  intro au hM;exact kX 5
 intro ap hM;refine W.exit ?_;obtain rfl:=M.e_inr hM ai;replace hM:=ah;refine kg 4 ?_;exact rt

def zcg (s:List Vrt) (f:Vrt->M Bool):M Bool :=
  M.bind (zdO s f) fun r2 =>
  M.pure (decide (0<=r2))
theorem zgf {R aa ac ae}(s f)(ag:Reads R aa)(ah:Sl aa ac s)(ai:FnM Tryz.prog R ae f){r}(hM:(zcg s f).Ends r)(w)(H:St w w [] R):Ret Tryz.prog 207 #[ac,ae] w fun v w'=>∃ y0,y0=r/\v=B y0/\St w w' [] R:=by
 refine ret_of_W Tryz.func207 rfl rfl rfl ?_;refine kC 8 @zgH ?_;intro aj r2 hM H;refine kg 3 ?_;exact rt

def m_gauge_every_gauge_Vertical__1 (x:Vrt) (aa:Vrt->M Bool):M Bool :=
  M.bind (aa x) fun r2 =>
  M.pure (!r2)
theorem gauge_every_gauge_Vertical__1_ok {R aa ac}(x ae)(ag:FnM Tryz.prog R ac ae)(ai:Has R (cBlk aa [ac] 287)){r}(hM:(m_gauge_every_gauge_Vertical__1 x ae).Ends r)(w)(H:St w w [] R):Ret Tryz.prog 208 #[.agg #[I x.at_,I x.dlo,I x.dhi,I x.slo,I x.shi],Pq aa] w fun v w'=>∃ y0,y0=r/\v=B y0/\St w w' [] R:=by
 refine ret_of_W Tryz.func208 rfl rfl rfl ?_;refine kB 2 ?_;intro aj al H;refine kg 6 ?_;obtain ⟨r2,ah,hM⟩:=M.e_bind hM;refine t_callM H ag rfl rfl x Reads.none ⟨_,rfl,rfl⟩ ah ?_;intro am H;refine kg 3 ?_;exact rt

def m_gauge_every_gauge_Vertical (l:List Vrt) (so:Vrt->M Bool):M Bool :=
  M.bind (zcg l (fun aa=>m_gauge_every_gauge_Vertical__1 aa so)) fun r2 =>
  M.pure (!r2)
theorem gauge_every_gauge_Vertical_ok {R ag aa ah}(l so)(aj:Reads R ag)(al:Sl ag aa l)(am:FnM Tryz.prog R ah so){r}(hM:(m_gauge_every_gauge_Vertical l so).Ends r)(w)(H:St w w [] R):Ret Tryz.prog 151 #[aa,ah] w fun v w'=>∃ y0,y0=r/\v=B y0/\St w w' [] R:=by
 refine ret_of_W Tryz.func151 rfl rfl rfl ?_;refine kB 2 ?_;intro ac aB H;refine kg 5 ?_;refine s_val (x_mf (fs:=[]) (cs:=[Pq ac]) rfl rfl) ?_;obtain ⟨aC,ao,hM⟩:=M.e_bind hM;refine s_call cq [aa,.func (.func 208) #[] #[Pq ac]] rfl (zgf l (fun ae=>m_gauge_every_gauge_Vertical__1 ae so) (aj.app _) al ⟨208,[Pq ac],rfl,cq,fun ai aD aE ap ae aF aq aG au av=>by obtain rfl:=Vrt_arg au; exact (gauge_every_gauge_Vertical__1_ok ae so (FnM.app (am.app _) _) (Has.app (Has.here (k:=0) rfl) _) av ai (St.refl aq)).mono fun ap ai ⟨aH,aw,ax,ay⟩=>by subst aw; exact ⟨ax,ay⟩⟩ ao _ (H.gt 1)) ?_;rintro _ aI ⟨r2,rfl,rfl,aA⟩;replace H:=H.bk aA;refine kg 3 ?_;exact rt

def m_gauge_right (s:Span) (aa greatest:Int):M Bool :=
  M.bind (m_gauge_in s.lo aa s.hi) fun r2 =>
  M.pure (r2&&(decide (s.hi<=greatest)))
theorem gauge_right_ok {R}(s aa greatest){r}(hM:(m_gauge_right s aa greatest).Ends r)(w)(H:St w w [] R):Ret Tryz.prog 153 #[.agg #[I s.lo,I s.hi],I aa,I greatest] w fun v w'=>∃ y0,y0=r/\v=B y0/\St w w' [] R:=by
 refine ret_of_W Tryz.func153 rfl rfl rfl ?_;refine kB 2 ?_;intro ac ae H;refine kC 9 @gauge_in_ok ?_;intro ag r2 hM H;refine kg 8 ?_;exact rt

def m_gauge_Check_1 (v:Vrt) (aa ac:Int) (ae:List Vrt):M Bool :=
  M.gi (aa+1) <|
  M.gi (ac-1) <|
  M.bind (m_gauge_in v.at_ (aa+1) (ac-1)) fun r2 =>
  M.bind (M.opt r2 (m_gauge_right (⟨(v.dlo:Int),(v.dhi:Int)⟩:Span) 0 2000) false) fun r3 =>
  M.bind (M.opt (r2&&r3) (m_gauge_right (⟨(v.slo:Int),(v.shi:Int)⟩:Span) (-5000) 5000) false) fun r4 =>
  M.pure ((r2&&r3)&&r4)
theorem gauge_Check_1_ok {R ae ag ah}(v ai aj al)(ap:Reads R ag)(aq:Sl ag ah al)(au:Has R (cBlk ae [I ai,I aj,ah] 146)){r}(hM:(m_gauge_Check_1 v ai aj al).Ends r)(w)(H:St w w [] R):Ret Tryz.prog 152 #[.agg #[I v.at_,I v.dlo,I v.dhi,I v.slo,I v.shi],Pq ae] w fun v w'=>∃ y0,y0=r/\v=B y0/\St w w' [] R:=by
 refine ret_of_W Tryz.func152 rfl rfl rfl ?_;refine kB 2 ?_;intro av aw H;obtain ⟨ax,hM⟩:=M.e_gq hM;obtain ⟨ay,hM⟩:=M.e_gq hM;refine kC 12 @gauge_in_ok ?_;intro aA r2 hM H;refine kg 3 ?_;obtain ⟨r3,am,hM⟩:=M.e_bind hM;refine t_gcall r2 (gy_t rfl) cq (B r3) (fun _=>[.agg #[I v.dlo,I v.dhi],I 0,I 2000]) (fun hg=>lst3 (gd_of hg (.agg #[I v.dlo,I v.dhi])) rfl rfl) H (fun hg=>(gauge_right_ok (⟨(v.dlo:Int),(v.dhi:Int)⟩:Span) 0 2000 (M.e_opt am hg) _ (H.give (A:=[]) rfl)).mono fun v_ w_ ⟨y_,aa,ac,H_⟩=>by subst aa; exact ⟨ac,H.via H_⟩) ?_;intro aB H;refine kg 4 ?_;obtain ⟨r4,ao,hM⟩:=M.e_bind hM;refine t_gcall (r2&&r3) (gy_t rfl) cq (B r4) (fun _=>[.agg #[I v.slo,I v.shi],I (-5000),I 5000]) (fun hg=>lst3 (gd_of hg (.agg #[I v.slo,I v.shi])) rfl rfl) H (fun hg=>(gauge_right_ok (⟨(v.slo:Int),(v.shi:Int)⟩:Span) (-5000) 5000 (M.e_opt ao hg) _ (H.give (A:=[]) rfl)).mono fun v_ w_ ⟨y_,aa,ac,H_⟩=>by subst aa; exact ⟨ac,H.via H_⟩) ?_;intro aC H;refine kg 3 ?_;exact rt

def m_gauge_Check_2 (i ac ae:Int) (aa:List Vrt):M Int :=
  M.grd (decide ((0:Int)<=i)&&decide (i<(aa.length:Int))) <|
  M.pure ((aa.getD (Int.toNat i) default).at_)
theorem gauge_Check_2_ok {R aa ac ae}(i ag ah ai)(aj:Reads R ac)(al:Sl ac ae ai)(am:Has R (cBlk aa [I ag,I ah,ae] 146)){r}(hM:(m_gauge_Check_2 i ag ah ai).Ends r)(w)(H:St w w [] R):Ret Tryz.prog 155 #[I i,Pq aa] w fun v w'=>∃ y0,y0=r/\v=I y0/\St w w' [] R:=by
 refine ret_of_W Tryz.func155 rfl rfl rfl ?_;obtain ⟨ao,hM⟩:=M.e_gq hM;refine kg 14 ?_;exact rt

def m_gauge_rising_155_b0 (many aa ac:Int) (ae:List Vrt):Nat->M (Nat ⊕ (Unit ⊕ Unit)):=fun i =>
  bif decide ((i:Int)<many) then (
  M.bind (m_gauge_Check_2 (i:Int) aa ac ae) fun r2 =>
  M.gi ((i:Int)-1) <|
  M.bind (m_gauge_Check_2 ((i:Int)-1) aa ac ae) fun r3 =>
  bif decide (r2<=r3) then (
  M.pure (.inr (.inl ())))
  else (
  M.gi ((i:Int)+1) <|
  M.pure (.inl (i+1))))
  else (
  M.pure (.inr (.inr ())))
def m_gauge_rising_155 (many aa ac:Int) (ae:List Vrt):M Bool :=
  M.bind (M.iter (m_gauge_rising_155_b0 many aa ac ae) 1) fun x_=>match x_ with
  | (.inl (_:Unit))=>(
  M.pure false)
  | (.inr (_:Unit))=>(
  M.pure true)
theorem gauge_rising_155_ok {R ag ai aj}(many aa ac ae)(al:Reads R ai)(am:Sl ai aj ae)(ao:Has R (cBlk ag [I aa,I ac,aj] 146)){r}(hM:(m_gauge_rising_155 many aa ac ae).Ends r)(w)(H:St w w [] R):Ret Tryz.prog 154 #[I many,.func (.func 155) #[] #[Pq ag]] w fun v w'=>∃ y0,y0=r/\v=B y0/\St w w' [] R:=by
 refine ret_of_W Tryz.func154 rfl rfl rfl ?_;refine kg 10 ?_;obtain ⟨av,ap,aq⟩:=M.e_bind hM;obtain ⟨aC,ap⟩:=M.e_iter ap;refine W.loop (fun m σ W=>∃ (i:Nat) (ρ:Env),σ=upds ρ [(0,I many),(1,.func (.func 155) #[] #[Pq ag]),(5,I (i:Int))]/\M.iterN (m_gauge_rising_155_b0 many aa ac ae) m i=some av/\St w W [] R) ?_ ?_
 ·exact kY
 rintro aD σ aE ⟨i,ρ,rfl,aw,H⟩;obtain ⟨aF,aG,aH,hM,au⟩:=M.e_iterN aw;refine kI 7 ?_ ?_
 ·intro ax hM;refine kg 7 ?_;obtain ⟨aI,ay,hM⟩:=M.e_bind hM;refine s_callv (f:=155) rfl cq [I (i:Int)] rfl (gauge_Check_2_ok (i:Int) aa ac ae (al.app _) am (ao.app _) ay _ (H.gt 0)) ?_;rintro _ aJ ⟨r2,rfl,rfl,ah⟩;replace H:=H.bk ah;obtain ⟨aK,hM⟩:=M.e_gq hM;refine kg 3 ?_;obtain ⟨aL,aA,hM⟩:=M.e_bind hM;refine s_callv (f:=155) rfl cq [I ((i:Int)-1)] rfl (gauge_Check_2_ok ((i:Int)-1) aa ac ae (al.app _) am (ao.app _) aA _ (H.gt 0)) ?_;rintro _ aM ⟨r3,rfl,rfl,ah⟩;replace H:=H.bk ah;refine kI 2 ?_ ?_
  ·intro aB hM;refine kg 4 ?_;obtain rfl:=M.e_inr hM au;replace hM:=aq;exact rt
  intro aB hM;obtain ⟨aN,hM⟩:=M.e_gq hM;exact kX 6
 intro ax hM;refine W.exit ?_;obtain rfl:=M.e_inr hM au;replace hM:=aq;refine kg 4 ?_;exact rt

def m_gauge_Check (g_Left g_Right:Int) (g_Verticals:List Vrt):M Int :=
  M.bind (m_gauge_in (g_Verticals.length:Int) 1 30) fun r2 =>
  bif !r2 then (
  M.pure 3)
  else (
  M.bind (m_gauge_shore g_Left g_Right) fun r3 =>
  M.bind (M.opt (!(!r3)) (m_gauge_every_gauge_Vertical g_Verticals (fun aa=>m_gauge_Check_1 aa g_Left g_Right g_Verticals)) false) fun r4 =>
  bif ((!r3)||(!r4)) then (
  M.pure 40)
  else (
  M.bind (m_gauge_rising_155 (g_Verticals.length:Int) g_Left g_Right g_Verticals) fun r5 =>
  bif !r5 then (
  M.pure 9)
  else (
  M.pure 0)))
theorem gauge_Check_ok {R ah ac}(g_Left g_Right g_Verticals)(ai:Reads R ah)(ae:Sl ah ac g_Verticals){r}(hM:(m_gauge_Check g_Left g_Right g_Verticals).Ends r)(w)(H:St w w [] R):Ret Tryz.prog 83 #[.agg #[I g_Left,I g_Right,ac]] w fun v w'=>∃ y0,y0=r/\v=I y0/\St w w' [] R:=by
 refine ret_of_W Tryz.func83 rfl rfl rfl ?_;refine kB 2 ?_;intro aa aD H;have aE:=(ae).len_le;refine kC 9 @gauge_in_ok ?_;intro aF r2 hM H;refine kI 3 ?_ ?_
 ·intro al hM;refine kg 4 ?_;exact rt
 intro al hM;refine kC 6 @gauge_shore_ok ?_;intro aG r3 hM H;refine kg 4 ?_;refine g_val (!(!r3)) (gy_f rfl) (fun hg=>x_mf (fs:=[]) (cs:=[Pq aa]) rfl rfl) ?_;obtain ⟨r4,am,hM⟩:=M.e_bind hM;refine t_gcall (!(!r3)) (gy_f rfl) cq (B r4) (fun _=>[ac,.func (.func 152) #[] #[Pq aa]]) (fun hg=>lst2 (gd_of hg (ac)) (gd_of hg (.func (.func 152) #[] #[Pq aa]))) H (fun hg=>(gauge_every_gauge_Vertical_ok g_Verticals (fun ag=>m_gauge_Check_1 ag g_Left g_Right g_Verticals) (ai.app _) ae ⟨152,[Pq aa],rfl,cq,fun aj aH aI ao ag aJ ap aK aq au=>by obtain rfl:=Vrt_arg aq; exact (gauge_Check_1_ok ag g_Left g_Right g_Verticals (Reads.app (ai.app _) _) ae (Has.app (Has.here (k:=0) rfl) _) au aj (St.refl ap)).mono fun ao aj ⟨aL,av,aw,ax⟩=>by subst av; exact ⟨aw,ax⟩⟩ (M.e_opt am hg) _ (H.give (A:=[]) rfl)).mono fun v_ w_ ⟨y_,ay,aA,H_⟩=>by subst ay; exact ⟨aA,H.via H_⟩) ?_;intro aM H;refine kI 4 ?_ ?_
 ·intro aB hM;refine kg 4 ?_;exact rt
 intro aB hM;have aN:=(ae).len_le;refine kg 5 ?_;refine s_val (x_mf (fs:=[]) (cs:=[Pq aa]) rfl rfl) ?_;refine kC 0 @gauge_rising_155_ok ?_;intro aO r5 hM H;refine kI 3 ?_ ?_
 ·intro aC hM;refine kg 4 ?_;exact rt
 intro aC hM;refine kg 5 ?_;exact rt

def m_gauge_Gauging_widths (g_Left g_Right:Int) (g_Verticals:List Vrt):M (Int × Int) :=
  M.pure (g_Left,g_Right)
theorem gauge_Gauging_widths_ok {R ac aa}(g_Left g_Right g_Verticals)(ah:Reads R ac)(ai:Sl ac aa g_Verticals){r}(hM:(m_gauge_Gauging_widths g_Left g_Right g_Verticals).Ends r)(w)(H:St w w [] R):Ret Tryz.prog 84 #[.agg #[I g_Left,I g_Right,aa]] w fun v w'=>∃ y0 y1 ae,(y0,y1)=r/\v = .func (.func 156) #[] #[Pq ae]/\St w w' [cBlk ae [I y0,I y1,aa] 146] R:=by
 refine ret_of_W Tryz.func84 rfl rfl rfl ?_;refine kB 2 ?_;intro ag aj H;refine kg 4 ?_;refine s_val (x_mf (fs:=[]) (cs:=[Pq ag]) rfl rfl) ?_;refine kg 2 ?_;exact rt

def m_gauge_Gauging_widths_1_j1 {T_:Type} (ae:T_->(Vrt × Int)->M (Bool × T_)) (ac:Int) (aa:List Vrt) (s3:Nat) (t2:T_) (s:Int):M ((Nat × T_) ⊕ (T_ ⊕ T_)) :=
  bif decide (((s3:Int)+1)<(aa.length:Int)) then (
  M.grd (decide ((0:Int)<=((s3:Int)+1))&&decide (((s3:Int)+1)<(aa.length:Int))) <|
  M.gi (((aa.getD (Int.toNat ((s3:Int)+1)) default).at_)-s) <|
  M.bind (ae t2 ((aa.getD s3 default),((aa.getD (Int.toNat ((s3:Int)+1)) default).at_)-s)) fun (go,t) =>
  bif !go then (
  M.pure (.inr (.inl t)))
  else (
  M.pure (.inl (s3+1,t))))
  else (
  M.gi (ac-s) <|
  M.bind (ae t2 ((aa.getD s3 default),ac-s)) fun (go,t) =>
  bif !go then (
  M.pure (.inr (.inl t)))
  else (
  M.pure (.inl (s3+1,t))))
def m_gauge_Gauging_widths_1_b2 {T_:Type} (ac:T_->(Vrt × Int)->M (Bool × T_)) (ag ae:Int) (aa:List Vrt):(Nat × T_)->M ((Nat × T_) ⊕ (T_ ⊕ T_)):=fun (s3,t2) =>
  bif decide ((s3:Int)<(aa.length:Int)) then (
  M.grd (decide ((s3:Int)<(aa.length:Int))) <|
  bif decide (0<(s3:Int)) then (
  M.gi ((s3:Int)-1) <|
  M.grd (decide ((0:Int)<=((s3:Int)-1))&&decide (((s3:Int)-1)<(aa.length:Int))) <|
  m_gauge_Gauging_widths_1_j1 ac ae aa s3 t2 ((aa.getD (Int.toNat ((s3:Int)-1)) default).at_))
  else (
  m_gauge_Gauging_widths_1_j1 ac ae aa s3 t2 ag))
  else (
  M.pure (.inr (.inr t2)))
def m_gauge_Gauging_widths_1 {T_:Type} (aa:T_->(Vrt × Int)->M (Bool × T_)) (t_:T_) (ac ae:Int) (ag:List Vrt):M T_ :=
  M.bind (M.iter (m_gauge_Gauging_widths_1_b2 aa ac ae ag) (0,t_)) fun x_=>match x_ with
  | (.inl t3)=>(
  M.pure t3)
  | (.inr t4)=>(
  M.pure t4)
theorem gauge_Gauging_widths_1_ok {R:List Chunk} {T_:Type} {Y_:T_->List Chunk->Prop} {ah:Value} {ap:List Chunk} {ai:Nat} {av:Cells} {aj:Value} (al:T_->(Vrt × Int)->M (Bool × T_)) (t_:T_) (am:Int) (ac:Int) (aa:List Vrt) (aw:YieldC Tryz.prog R arVrtI Y_ ah al) (aF:Y_ t_ ap) (aQ:Reads R av) (ax:Sl av aj aa) (aR:Has R (cBlk ai [I am,I ac,aj] 146)) {r:T_} (hM:(m_gauge_Gauging_widths_1 al t_ am ac aa).Ends r) (w:World) (H:St w w [cAll ap] R):Ret Tryz.prog 156 #[ah,Pq ai] w fun v w'=>∃ (y0:T_) (Ls0:List Chunk),y0=r/\v = .tuple #[]/\St w w' [cAll Ls0] R/\Y_ y0 Ls0:=by
 refine ret_of_W Tryz.func156 rfl rfl rfl ?_;have aS:=(ax).len_le;refine kg 8 ?_;obtain ⟨aG,aq,au⟩:=M.e_bind hM;obtain ⟨aT,aq⟩:=M.e_iter aq;refine W.loop (fun m σ W=>∃ (s3:Nat) (t2:T_) (Ls_t2:List Chunk) (ρ:Env),σ=upds ρ [(0,ah),(1,Pq ai),(8,aj),(9,I (aa.length:Int)),(10,I (s3:Int))]/\M.iterN (m_gauge_Gauging_widths_1_b2 al am ac aa) m (s3,t2)=some aG/\St w W [cAll Ls_t2] R/\Y_ t2 Ls_t2) ?_ ?_
 ·exact ⟨_,0,t_,ap,_,jQ,aq,H,aF⟩
 rintro aU σ aV ⟨s3,t2,Ls_t2,ρ,rfl,aH,H,hY_t2⟩;obtain ⟨ay,aA,aI,hM,ae⟩:=M.e_iterN aH;refine kI 5 ?_ ?_
 ·intro aJ hM;obtain ⟨aW,hM⟩:=M.e_gq hM;refine kA 8 ?_;intro ao aX H;refine kS 1 ?_;intro aY H;refine kD 2 [0,1] [] ?_;intro aZ H;refine kg 7 ?_;refine W.seqJ (fun σ W=>∃ (s:Int) (ρ:Env),σ=upds ρ [(0,ah),(1,Pq ai),(3,I (s3:Int)),(4,Pq ao),(5,I s),(6,I ac),(8,aj),(9,I (aa.length:Int)),(10,I (s3:Int))]/\(m_gauge_Gauging_widths_1_j1 al ac aa s3 t2 s).Ends aI/\St w W [cBlk ao [I ((aa.getD s3 default).at_),I ((aa.getD s3 default).dlo),I ((aa.getD s3 default).dhi),I ((aa.getD s3 default).slo),I ((aa.getD s3 default).shi)] 218,cAll Ls_t2] R) ?_ ?_
  ·refine kI 5 ?_ ?_
   ·intro aK hM;obtain ⟨a7,hM⟩:=M.e_gq hM;obtain ⟨a8,hM⟩:=M.e_gq hM;refine kg 10 ?_;exact ⟨(aa.getD (Int.toNat ((s3:Int)-1)) default).at_,_,jQ,hM,H⟩
   intro aK hM;refine W.skip ?_;exact ⟨am,_,jQ,hM,H⟩
  rintro _ ba ⟨s,ρ,rfl,hM,H⟩;unfold m_gauge_Gauging_widths_1_j1 at hM;have bc:=(ax).len_le;refine kI 10 ?_ ?_
  ·intro aL hM;obtain ⟨bg,hM⟩:=M.e_gq hM;obtain ⟨bi,hM⟩:=M.e_gq hM;refine kg 17 ?_;obtain ⟨⟨go,t⟩,aM,hM⟩:=M.e_bind hM;refine t_yield (L:=[cBlk ao [I ((aa.getD s3 default).at_),I ((aa.getD s3 default).dlo),I ((aa.getD s3 default).dhi),I ((aa.getD s3 default).slo),I ((aa.getD s3 default).shi)] 218]) (H.pk [1,0]) aw hY_t2 rfl [.agg #[I ((aa.getD s3 default).at_),I ((aa.getD s3 default).dlo),I ((aa.getD s3 default).dhi),I ((aa.getD s3 default).slo),I ((aa.getD s3 default).shi)],I (((aa.getD (Int.toNat ((s3:Int)+1)) default).at_)-s)] rfl ((aa.getD s3 default),((aa.getD (Int.toNat ((s3:Int)+1)) default).at_)-s) Reads.none rfl aM ?_;intro aB bj aC H;replace H:=H.nf;refine kI 2 ?_ ?_
   ·intro aN hM;refine W.ret ?_;obtain rfl:=M.e_inr hM ae;replace hM:=au;have ag:=M.e_pure hM;exact ⟨_,resE_tmp0 rfl,⟨t,aB,ag,rfl,(H.pk [0]),aC⟩⟩
   intro aN hM;refine kg 5 ?_;exact ⟨ay,aA,s3+1,t,aB,_,jQ,M.e_inl hM ae,(H.pk [0]),aC⟩
  intro aL hM;obtain ⟨bm,hM⟩:=M.e_gq hM;refine kg 8 ?_;obtain ⟨⟨go,t⟩,aO,hM⟩:=M.e_bind hM;refine t_yield (L:=[cBlk ao [I ((aa.getD s3 default).at_),I ((aa.getD s3 default).dlo),I ((aa.getD s3 default).dhi),I ((aa.getD s3 default).slo),I ((aa.getD s3 default).shi)] 218]) (H.pk [1,0]) aw hY_t2 rfl [.agg #[I ((aa.getD s3 default).at_),I ((aa.getD s3 default).dlo),I ((aa.getD s3 default).dhi),I ((aa.getD s3 default).slo),I ((aa.getD s3 default).shi)],I (ac-s)] rfl ((aa.getD s3 default),ac-s) Reads.none rfl aO ?_;intro aD bn aE H;replace H:=H.nf;refine kI 2 ?_ ?_
  ·intro aP hM;refine W.ret ?_;obtain rfl:=M.e_inr hM ae;replace hM:=au;have ag:=M.e_pure hM;exact ⟨_,resE_tmp0 rfl,⟨t,aD,ag,rfl,(H.pk [0]),aE⟩⟩
  intro aP hM;refine kg 5 ?_;exact ⟨ay,aA,s3+1,t,aD,_,jQ,M.e_inl hM ae,(H.pk [0]),aE⟩
 intro aJ hM;refine W.exit ?_;obtain rfl:=M.e_inr hM ae;replace hM:=au;have ag:=M.e_pure hM;exact ⟨_,resE_tmp0 rfl,⟨t2,Ls_t2,ag,rfl,H,hY_t2⟩⟩
def m_gauge_Real_b0 (depths speeds:List Int):(Int × Int)->(Vrt × Int)->M ((Int × Int) ⊕ (Int × Int)):=fun (s,s2) (x,x2) =>
  M.grd (decide ((0:Int)<=s)&&decide (s<(depths.length:Int))) <|
  M.bind (m_gauge_in (depths.getD (Int.toNat s) 0) x.dlo x.dhi) fun r3 =>
  M.grd ((!(!(!r3))||(decide ((0:Int)<=s)&&decide (s<(speeds.length:Int))))) <|
  M.bind (M.opt (!(!r3)) (m_gauge_in (speeds.getD (Int.toNat s) 0) x.slo x.shi) false) fun r4 =>
  bif ((!r3)||(!r4)) then (
  M.pure (.inr (s,s2)))
  else (
  M.gi (x2*(depths.getD (Int.toNat s) 0)) <|
  M.grd (decide ((0:Int)<=s)&&decide (s<(speeds.length:Int))) <|
  M.gi ((x2*(depths.getD (Int.toNat s) 0))*(speeds.getD (Int.toNat s) 0)) <|
  M.gi (s2+((x2*(depths.getD (Int.toNat s) 0))*(speeds.getD (Int.toNat s) 0))) <|
  M.pure (.inl (s+1,s2+((x2*(depths.getD (Int.toNat s) 0))*(speeds.getD (Int.toNat s) 0)))))
def m_gauge_Real (g_Left g_Right:Int) (g_Verticals:List Vrt) (depths speeds:List Int):M (Int × Int) :=
  M.bind (m_gauge_Check g_Left g_Right g_Verticals) fun r2 =>
  bif r2 != 0 then (
  M.pure (0,r2))
  else (
  bif (((depths.length:Int) != (g_Verticals.length:Int))||((speeds.length:Int) != (g_Verticals.length:Int))) then (
  M.pure (0,2))
  else (
  M.bind (m_gauge_Gauging_widths g_Left g_Right g_Verticals) fun (aa,ac) =>
  M.bind (m_gauge_Gauging_widths_1 (M.yl (m_gauge_Real_b0 depths speeds)) (.inl (0,0)) aa ac g_Verticals) fun x_=>match x_ with
  | .inl (s,s2)=>(
  M.pure (s2,0))
  | .inr (s3,s4)=>(
  M.pure (0,7))))
theorem gauge_Real_ok {R aI aa aJ aj aK al}(g_Left g_Right g_Verticals depths speeds)(aC:Reads R aI)(aA:Sl aI aa g_Verticals)(aL:Reads R aJ)(aM:Sl aJ aj depths)(aN:Reads R aK)(aO:Sl aK al speeds){r}(hM:(m_gauge_Real g_Left g_Right g_Verticals depths speeds).Ends r)(w)(H:St w w [] R):Ret Tryz.prog 42 #[.agg #[I g_Left,I g_Right,aa],aj,al] w fun v w'=>∃ y0 y1,(y0,y1)=r/\v = .tuple #[I y0,I y1]/\St w w' [] R:=by
 refine ret_of_WD Tryz.func42 rfl rfl rfl ?_;replace H:St w w [cMk ([])] R:=H.mk0;have bp:=aA.len_le;have br:=aM.len_le;have bt:=aO.len_le;unfold m_gauge_Real at hM;refine WD.seq<|WD.of ?_;refine kB 1 ?_;intro av bu H;refine kB 0 ?_;intro aw bv H;refine kB 0 ?_;intro ax bw H;refine kal ?_;intro ac bx H;refine kal ?_;intro ae bz H;refine s_nil<|WD.seq<|WD.of ?_;refine kC 2 @gauge_Check_ok ?_;intro bA r2 hM H;refine kg 2 ?_;refine WD.seq<|WD.block<|WD.seq<|WD.of ?_;refine kg 5 ?_
 refine WD.cond (r2 != 0) rfl (fun ao=>?_) (fun ao=>?_)
 ·replace hM:=M.e_t hM ao;replace ao:=dI ao;refine WD.seq<|WD.of ?_;refine kS 2 ?_;intro bB H;refine ksw ?_;intro bC H;refine s_nil ?_;replace H:=H.pk [0,1,5];refine WD.of ?_;refine W.ret ?_;refine bodyD_r (H.pk [2,0,1]) ?_;intro bD H;replace H:=H.nf
  have aR:=(H.bl 1)
  have aS:=(H.bl 0)
  have ai:=M.e_pure hM;exact ⟨_,(resE_ofn (vs:=[I 0,I r2]) rfl rfl (.cell (v:=I 0) rfl (run_loadVar_sc Sc3.h aR rfl)<|.cell (v:=I r2) rfl (run_loadVar_sc Sc43.h aS rfl)<|.nil)),⟨0,r2,ai,rfl,(H.pk [])⟩⟩
 replace hM:=M.e_f hM ao;replace ao:=dI ao;refine WD.seq<|WD.of ?_
 have bE:=(aM).len_le;have bF:=(aA).len_le;have bG:=(aO).len_le;have bH:=(aA).len_le;refine kg 17 ?_;refine WD.cond (((depths.length:Int) != (g_Verticals.length:Int))||((speeds.length:Int) != (g_Verticals.length:Int))) rfl (fun aD=>?_) (fun aD=>?_)
 ·replace hM:=M.e_t hM aD;refine WD.seq<|WD.of ?_;refine kS 1 ?_;intro bI H;refine ksw ?_;intro bJ H;refine s_nil ?_;replace H:=H.pk [0,1,5];refine WD.of ?_;refine W.ret ?_;refine bodyD_r (H.pk [2,0,1]) ?_;intro bK H;replace H:=H.nf
  have aT:=(H.bl 1)
  have aU:=(H.bl 0)
  have ai:=M.e_pure hM;exact ⟨_,(resE_ofn (vs:=[I 0,I 2]) rfl rfl (.cell (v:=I 0) rfl (run_loadVar_sc Sc3.h aT rfl)<|.cell (v:=I 2) rfl (run_loadVar_sc Sc43.h aU rfl)<|.nil)),⟨0,2,ai,rfl,(H.pk [])⟩⟩
 replace hM:=M.e_f hM aD;refine WD.of<|W.skip<|WD.seq<|WD.of ?_;refine kA 1 ?_;intro ag bL H;refine kal ?_;intro ah bN H;refine ksw ?_;intro bO H;refine ksw ?_;intro bP H;refine s_nil<|WD.seq<|WD.seq<|WD.of ?_;refine kC 2 @gauge_Gauging_widths_ok ?_;intro bQ ap aq au hM H;refine s_nil<|WD.block ?_;obtain ⟨bR,aV,hM⟩:=M.e_bind hM;refine WD.range (L:=[cBlk ah [I 0] 3,cBlk ag [I 0] 3,cBlk ae [I 0] 43,cBlk ac [I 0] 3,cBlk au [I ap,I aq,aa] 146,cBlk ax [al] 26,cBlk aw [aj] 26,cBlk av [I g_Left,I g_Right,aa] 146]) [Pq au] (H.pk [8,1,2,3,4,0,5,6,7]) rfl cq ?_;intro aB aE aF aW aG H
 have hYC:YieldC Tryz.prog ([cMk (aE :: ([])),cBlk au [I ap,I aq,aa] 146,cBlk ax [al] 26,cBlk aw [aj] 26,cBlk av [I g_Left,I g_Right,aa] 146]++R) arVrtI (yJ aB aF (fun (s,s2) am=>am=[cBlk ah [I s] 3,cBlk ag [I s2] 3,cBlk ae [I 0] 43,cBlk ac [I 0] 3]) (fun (s3,s4) am=>am=[cBlk ah [I s3] 3,cBlk ag [I s4] 3,cBlk ae [I 7] 43,cBlk ac [I 0] 3]) (fun _=>.ret)) (.func (.yield aB) #[] #[]) (M.yl (m_gauge_Real_b0 depths speeds)):=by
  refine YieldC.mk2 aG (fun (s,s2) am=>am=[cBlk ah [I s] 3,cBlk ag [I s2] 3,cBlk ae [I 0] 43,cBlk ac [I 0] 3]) (fun (s3,s4) am=>am=[cBlk ah [I s3] 3,cBlk ag [I s4] 3,cBlk ae [I 7] 43,cBlk ac [I 0] 3]) (fun _=>.ret) (m_gauge_Real_b0 depths speeds) (by rintro ⟨s,s2⟩ _ h_; obtain ⟨rfl⟩:=h_; rfl) (by rintro ⟨s3,s4⟩ _ h_; (obtain ⟨rfl⟩:=h_; rfl)) rfl (arVrtI_len rfl) ?_;intro C_ bS x_ aX;obtain ⟨x,x2⟩:=x_;obtain rfl:=aX;intro w R ay am s_ r aY hM H;obtain ⟨s,s2⟩:=s_;obtain ⟨rfl⟩:=aY;replace H:=H.nf;refine kA 2 ?_;intro aZ bT H;refine ksw ?_;intro bU H;refine kg 4 ?_;refine ⟨rfl,[cBlk aZ [I x.at_,I x.dlo,I x.dhi,I x.slo,I x.shi] 218],H.pick [0,1,2,3,4,5,6,7,8,9] (by decide) rfl,?_⟩;clear H ay;intro w R ay H;replace aC:=aC.sub ay;replace aL:=aL.sub ay;replace aN:=aN.sub ay;replace hM:(m_gauge_Real_b0 depths speeds (s,s2) (x,x2)).Ends r:=hM;simp only [m_gauge_Real_b0] at hM;replace H:=H.nf;refine kD 3 [0,1,2,3,4,5,6,7,8,9] [10,23] ?_;intro bV H;obtain ⟨bW,hM⟩:=M.e_gq hM;refine kC 11 @gauge_in_ok ?_;intro bX r3 hM H;refine kN ?_;obtain ⟨aH,hM⟩:=M.e_grd hM;replace aH:=M.imp_of aH;simp only [Bool.and_eq_true,decide_eq_true_eq] at aH;refine kG 13 ?_;obtain ⟨r4,a7,hM⟩:=M.e_bind hM;refine t_gcall (!(!r3)) (gy_f rfl) cq (B r4) (fun _=>[I (speeds.getD (Int.toNat s) 0),I x.slo,I x.shi]) (fun hg=>lst3 (gd_of hg (I (speeds.getD (Int.toNat s) 0))) (gd_of hg (I x.slo)) (gd_of hg (I x.shi))) H (fun hg=>(gauge_in_ok (speeds.getD (Int.toNat s) 0) x.slo x.shi (M.e_opt a7 hg) _ (H.give (A:=[]) rfl)).mono fun v_ w_ ⟨y_,ai,a8,H_⟩=>by subst ai; exact ⟨a8,H.via H_⟩) ?_;intro bY H;refine kN ?_;refine kI 3 ?_ ?_
  ·intro ba hM;refine kS 2 ?_;intro bZ H;refine ksw ?_;intro b7 H;refine s_nil ?_;refine W.ret ?_;exact ⟨(s,s2),[cBlk ah [I s] 3,cBlk ag [I s2] 3,cBlk ae [I 7] 43,cBlk ac [I 0] 3],(M.e_pure hM).symm,rfl,H.pick [1,2,3,4,5,6,7,8,9] (by decide) rfl,rfl⟩
  intro ba hM;refine kDo 2 [0,1,3,4,5,6,7,8,9] [(1,true),(2,true),(3,true),(4,true),(5,true),(6,true),(7,true),(8,true),(9,true),(10,true),(11,true),(0,false),(12,true),(13,false)] ?_;intro b8 H;obtain ⟨b9,hM⟩:=M.e_gq hM;obtain ⟨cb,hM⟩:=M.e_gq hM;obtain ⟨cc,hM⟩:=M.e_gq hM;refine kG 13 ?_;refine kN ?_;obtain ⟨ce,hM⟩:=M.e_gq hM;refine kS 2 ?_;intro cf H;refine kN ?_;refine kS 4 ?_;intro cg H;refine s_nil ?_;exact ⟨(s+1,s2+((x2*(depths.getD (Int.toNat s) 0))*(speeds.getD (Int.toNat s) 0))),[cBlk ah [I (s+1)] 3,cBlk ag [I (s2+((x2*(depths.getD (Int.toNat s) 0))*(speeds.getD (Int.toNat s) 0)))] 3,cBlk ae [I 0] 43,cBlk ac [I 0] 3],(M.e_pure hM).symm,rfl,H.pick [1,2,3,4,5,6,7,8,9] (by decide) rfl⟩
 replace H:St w aW (cAll (cObj aB (.loop aF) :: [cBlk ah [I 0] 3,cBlk ag [I 0] 3,cBlk ae [I 0] 43,cBlk ac [I 0] 3]) :: [cMk (aE :: ([])),cBlk au [I ap,I aq,aa] 146,cBlk ax [al] 26,cBlk aw [aj] 26,cBlk av [I g_Left,I g_Right,aa] 146]) R:=St.bundleB (A:=cObj aB (.loop aF) :: [cBlk ah [I 0] 3,cBlk ag [I 0] 3,cBlk ae [I 0] 43,cBlk ac [I 0] 3]) (T:=[cMk (aE :: ([])),cBlk au [I ap,I aq,aa] 146,cBlk ax [al] 26,cBlk aw [aj] 26,cBlk av [I g_Left,I g_Right,aa] 146]) rfl (H.pk [0,2,3,4,5,1,6,7,8,9]);refine (gauge_Gauging_widths_1_ok (M.yl (m_gauge_Real_b0 depths speeds)) (.inl (0,0)) ap aq g_Verticals hYC ⟨_,rfl,rfl⟩ (aC.app _) aA (Has.here (k:=1) rfl) aV _ (H.gt 5)).mono ?_;rintro vq ch ⟨bc,cj,rfl,hvq,aP,aQ⟩;replace H:=H.back aP rfl;clear aP hYC;rcases bc with ⟨s,s2⟩ | ⟨s3,s4⟩
 ·obtain ⟨_,rfl,rfl⟩:=aQ;refine ⟨_,[cBlk ah [I s] 3,cBlk ag [I s2] 3,cBlk ae [I 0] 43,cBlk ac [I 0] 3,cBlk au [I ap,I aq,aa] 146,cBlk ax [al] 26,cBlk aw [aj] 26,cBlk av [I g_Left,I g_Right,aa] 146],H.unbundle.pick [0,5,1,2,3,4,6,7,8,9] (by decide) rfl,aG.nb,?_⟩;intro bg H;rw [aG.pd];replace H:=H.nf
  try simp only []
  replace H:=H.pk [0,2,3,4];refine WD.seq<|WD.of ?_;refine kS 2 ?_;intro ck H;refine ksw ?_;intro cn H;refine s_nil<|WD.of ?_;refine W.ret ?_;refine bodyD_r (H.pk [0,1,2,3]) ?_;intro cp H;replace H:=H.nf
  have bi:=(H.bl 2)
  have bj:=(H.bl 1)
  have ai:=M.e_pure hM;exact ⟨_,(resE_ofn (vs:=[I s2,I 0]) rfl rfl (.cell (v:=I s2) rfl (run_loadVar_sc Sc3.h bi rfl)<|.cell (v:=I 0) rfl (run_loadVar_sc Sc43.h bj rfl)<|.nil)),⟨s2,0,ai,rfl,(H.pk [])⟩⟩
 obtain ⟨_,rfl,rfl⟩:=aQ;refine ⟨_,[cBlk ah [I s3] 3,cBlk ag [I s4] 3,cBlk ae [I 7] 43,cBlk ac [I 0] 3,cBlk au [I ap,I aq,aa] 146,cBlk ax [al] 26,cBlk aw [aj] 26,cBlk av [I g_Left,I g_Right,aa] 146],H.unbundle.pick [0,5,1,2,3,4,6,7,8,9] (by decide) rfl,nofun,?_⟩;intro bg H;show WD _ _ _ (.ret) _ _ _;refine WD.of ?_;refine W.ret ?_;replace H:=H.nf;refine bodyD_r (H.pk [0,1,2,3,4,5,6,7,8]) ?_;intro cr H;replace H:=H.nf;have bm:=(H.bl 3)
 have bn:=(H.bl 2)
 have ai:=M.e_pure hM;exact ⟨_,(resE_ofn (vs:=[I 0,I 7]) rfl rfl (.cell (v:=I 0) rfl (run_loadVar_sc Sc3.h bm rfl)<|.cell (v:=I 7) rfl (run_loadVar_sc Sc43.h bn rfl)<|.nil)),⟨0,7,ai,rfl,(H.pk [])⟩⟩

def m_gauge_just (n:Int):M (Int × Int) :=
  M.pure (n,n)
theorem gauge_just_ok {R}(n){r}(hM:(m_gauge_just n).Ends r)(w)(H:St w w [] R):Ret Tryz.prog 158 #[I n] w fun v w'=>∃ y0 y1,(y0,y1)=r/\v = .agg #[I y0,I y1]/\St w w' [] R:=by
 refine ret_of_W Tryz.func158 rfl rfl rfl ?_;refine kA 2 ?_;intro aa ac H;refine kS 6 ?_;intro ae H;exact kR 1 []

def m_gauge_times_b0 (l:List Span):(Int × Int × Nat)->M ((Int × Int × Nat) ⊕ (Int × Int)):=fun (s,s2,s3) =>
  bif decide ((s3:Int)<(l.length:Int)) then (
  M.grd (decide ((s3:Int)<(l.length:Int))) <|
  M.gi (s*((l.getD s3 default).lo)) <|
  M.gi (s*((l.getD s3 default).hi)) <|
  M.gi (s2*((l.getD s3 default).lo)) <|
  M.gi (s2*((l.getD s3 default).hi)) <|
  M.pure (.inl (min (min (min (s*((l.getD s3 default).lo)) (s*((l.getD s3 default).hi))) (s2*((l.getD s3 default).lo))) (s2*((l.getD s3 default).hi)),max (max (max (s*((l.getD s3 default).lo)) (s*((l.getD s3 default).hi))) (s2*((l.getD s3 default).lo))) (s2*((l.getD s3 default).hi)),s3+1)))
  else (
  M.pure (.inr (s,s2)))
def m_gauge_times (l:List Span):M (Int × Int) :=
  M.bind (M.iter (m_gauge_times_b0 l) (1,1,0)) fun (s4,s5) =>
  M.pure (s4,s5)
theorem gauge_times_ok {R ac aa}(l)(aq:Reads R ac)(ai:Sl ac aa l){r}(hM:(m_gauge_times l).Ends r)(w)(H:St w w [] R):Ret Tryz.prog 157 #[aa] w fun v w'=>∃ y0 y1,(y0,y1)=r/\v = .agg #[I y0,I y1]/\St w w' [] R:=by
 refine ret_of_W Tryz.func157 rfl rfl rfl ?_;refine kA 2 ?_;intro ae au H;refine kA 4 ?_;intro ag av H;refine ksw ?_;intro aw H;have ax:=(ai).len_le;refine kg 9 ?_;obtain ⟨aj,ah,al⟩:=M.e_bind hM;obtain ⟨ay,ah⟩:=M.e_iter ah;refine W.loop (fun m σ W=>∃ (s:Int) (s2:Int) (s3:Nat) (ρ:Env),σ=upds ρ [(2,Pq ae),(3,Pq ag),(11,aa),(12,I (l.length:Int)),(13,I (s3:Int))]/\M.iterN (m_gauge_times_b0 l) m (s,s2,s3)=some aj/\St w W [cBlk ag [I s,I s2] 42,cBlk ae [I 0,I 0] 42] R) ?_ ?_
 ·exact kY
 rintro aA σ aB ⟨s,s2,s3,ρ,rfl,am,H⟩;obtain ⟨aC,aD,aE,hM,ao⟩:=M.e_iterN am;refine kI 5 ?_ ?_
 ·intro ap hM;obtain ⟨aF,hM⟩:=M.e_gq hM;refine kA 7 ?_;intro aG aH H;refine ksw ?_;intro aI H;refine kD 2 [0,1,2] [] ?_;intro aJ H;obtain ⟨aK,hM⟩:=M.e_gq hM;obtain ⟨aL,hM⟩:=M.e_gq hM;obtain ⟨aM,hM⟩:=M.e_gq hM;obtain ⟨aN,hM⟩:=M.e_gq hM;refine kg 30 ?_;refine s_val (x_min4 (a:=s*((l.getD s3 default).lo)) (b:=s*((l.getD s3 default).hi)) (c:=s2*((l.getD s3 default).lo)) (e:=s2*((l.getD s3 default).hi)) rfl rfl rfl rfl) ?_;refine kg 4 ?_;refine s_val (x_max4 (a:=s*((l.getD s3 default).lo)) (b:=s*((l.getD s3 default).hi)) (c:=s2*((l.getD s3 default).lo)) (e:=s2*((l.getD s3 default).hi)) rfl rfl rfl rfl) ?_;refine kS 1 ?_;intro aO H;exact kXp 5 [1,2]
 intro ap hM;refine W.exit ?_;obtain rfl:=M.e_inr hM ao;replace hM:=al;refine kS 3 ?_;intro aP H;exact kR 1 []

end Go.Proofs.YtaolcidinlnklaaGreat
end
section
set_option maxRecDepth 100000
set_option maxHeartbeats 16000000
namespace Go.Proofs.YtaolcidinlnklaaGreat
open Go Go.Nm
attribute [local irreducible] gd execOp SL SLD SLT WR
def m_gauge_Panels_b0  : (List Span)->(Vrt × Int)->M ((List Span) ⊕ Unit):=fun l (x,x2) =>
  M.bind (m_gauge_just x2) fun (r0,r1) =>
  M.bind (m_gauge_times ([(⟨(r0:Int),(r1:Int)⟩:Span),(⟨(x.dlo:Int),(x.dhi:Int)⟩:Span),(⟨(x.slo:Int),(x.shi:Int)⟩:Span)])) fun (aa,ac) =>
  M.grd (decide ((l.length+([(⟨(aa:Int),(ac:Int)⟩:Span)]).length)*16<=140737488355328)) <|
  M.pure (.inl (l++([(⟨(aa:Int),(ac:Int)⟩:Span)])))
def m_gauge_Panels (g_Left g_Right:Int) (g_Verticals:List Vrt):M ((List Span) × Int) :=
  M.bind (m_gauge_Check g_Left g_Right g_Verticals) fun r2 =>
  bif r2 != 0 then (
  M.pure (([]),r2))
  else (
  M.bind (m_gauge_Gauging_widths g_Left g_Right g_Verticals) fun (aa,ac) =>
  M.bind (m_gauge_Gauging_widths_1 (M.yl m_gauge_Panels_b0) (.inl ([])) aa ac g_Verticals) fun x_=>match x_ with
  | .inl l=>(
  M.pure (l,0))
  | .inr _=>M.fail)
theorem gauge_Panels_ok {R aG ae}(g_Left g_Right g_Verticals)(au:Reads R aG)(aH:Sl aG ae g_Verticals){r}(hM:(m_gauge_Panels g_Left g_Right g_Verticals).Ends r)(w)(H:St w w [] R):Ret Tryz.prog 86 #[.agg #[I g_Left,I g_Right,ae]] w fun v w'=>∃ y0 y1 u0,(y0,y1)=r/\v = .tuple #[u0,I y1]/\St w w' [cOwn (α:=Span) 42 u0 y0] R:=by
 refine ret_of_WD Tryz.func86 rfl rfl rfl ?_;replace H:St w w [cMk ([])] R:=H.mk0;have aR:=aH.len_le;unfold m_gauge_Panels at hM;refine WD.seq<|WD.of ?_;refine kB 1 ?_;intro ao aS H;refine kg 3 ?_;refine WD.seq<|WD.seq<|WD.of ?_;refine kC 2 @gauge_Check_ok ?_;intro aT r2 hM H;refine kg 2 ?_;refine WD.seq<|WD.of ?_;refine kg 4 ?_
 refine WD.cond (r2 != 0) rfl (fun ai=>?_) (fun ai=>?_)
 ·replace hM:=M.e_t hM ai;replace ai:=dI ai;refine WD.seq<|WD.of ?_;refine kg 5 ?_;refine WD.of ?_;refine W.ret ?_;refine bodyD_r (H.pk [1,0]) ?_;intro aU H;replace H:=H.nf
  have av:=M.e_pure hM;replace H:=H.nilOwn (α:=Span) 42;exact ⟨_,resE_tmp2 rfl,⟨([]),r2,(.slice none 0 0),av,rfl,(H.pk [0])⟩⟩
 replace hM:=M.e_f hM ai;replace ai:=dI ai;refine WD.of<|W.skip<|WD.seq<|WD.of ?_;refine kA 1 ?_;intro ag aV H;refine s_nil<|WD.seq<|WD.seq<|WD.of ?_;refine kC 2 @gauge_Gauging_widths_ok ?_;intro aW aj al am hM H;refine s_nil<|WD.block ?_
 replace H:=H.nilOwn (α:=Span) 42;obtain ⟨aX,aK,hM⟩:=M.e_bind hM;refine WD.range (L:=[cOwn (α:=Span) 42 (.slice none 0 0) ([]),cBlk ag [(.slice none 0 0)] 88,cBlk am [I aj,I al,ae] 146,cBlk ao [I g_Left,I g_Right,ae] 146]) [Pq am] (H.pk [4,0,2,1,3]) rfl cq ?_;intro ap aw ax aL ay H;have hYC:YieldC Tryz.prog ([cMk (aw :: ([])),cBlk am [I aj,I al,ae] 146,cBlk ao [I g_Left,I g_Right,ae] 146]++R) arVrtI (yJ ap ax (fun l aq=>∃ (ah:Value),aq=[cOwn (α:=Span) 42 ah l,cBlk ag [ah] 88]) (fun (_:Unit) _=>False) (fun _=>.ret)) (.func (.yield ap) #[] #[]) (M.yl m_gauge_Panels_b0):=by
  refine YieldC.mk2 ay (fun l aq=>∃ (ah:Value),aq=[cOwn (α:=Span) 42 ah l,cBlk ag [ah] 88]) (fun (_:Unit) _=>False) (fun _=>.ret) m_gauge_Panels_b0 (by rintro l _ h_; obtain ⟨_,rfl⟩:=h_; rfl) (fun _ _ h_=>h_.elim) rfl (arVrtI_len rfl) ?_;intro C_ aY x_ aM;obtain ⟨x,x2⟩:=x_;obtain rfl:=aM;intro w R aA aq s_ r aN hM H
  skip
  obtain ⟨l,aO⟩:∃ y_,y_=s_:=⟨_,rfl⟩
  subst aO;obtain ⟨ah,rfl⟩:=aN;replace H:=H.nf;refine kA 2 ?_;intro aP aZ H;refine ksw ?_;intro a7 H;refine kg 4 ?_;refine ⟨rfl,[cBlk aP [I x.at_,I x.dlo,I x.dhi,I x.slo,I x.shi] 218],H.pick [0,1,2,3,4,5] (by decide) rfl,?_⟩;clear H aA;intro w R aA H;replace au:=au.sub aA;replace hM:(m_gauge_Panels_b0 l (x,x2)).Ends r:=hM;simp only [m_gauge_Panels_b0] at hM;replace H:=H.nf;refine kDT 1 [0,3,4,5] (.q 1 (.q 3 (.q 4 (.q 5 (.q 6 (.l2 0 (.l 2 (.l 7 (.l 8 (.l 9 (.l 10 (.l 11 .nil)))))) 2 (.l2 0 (.l 7 (.l 8 (.l 9 (.l 10 (.l 11 .nil))))) 7 (.l2 0 (.l 8 (.l 9 (.l 10 (.l 11 .nil)))) 8 (.l2 0 (.l 9 (.l 10 (.l 11 .nil))) 9 (.l 0 (.l 10 (.l 11 .nil)))))))))))) ?_;intro a8 H;refine kg 5 ?_;refine t_l2 rfl rfl ?_ ?_
  ·refine kG 1 ?_;refine kN ?_;refine kC 1 @gauge_just_ok ?_;intro ba r0 r1 hM H;refine kN ?_;refine kL 1 (α:=Span) [⟨r0,r1⟩,⟨x.dlo,x.dhi⟩,⟨x.slo,x.shi⟩] ?_;intro bc bg H;refine kN ?_;refine kC 1 @gauge_times_ok ?_;intro bi aa ac hM H;refine kN ?_;refine kL 1 (α:=Span) [⟨aa,ac⟩] ?_;intro bj bm H;refine kN ?_;refine t_l rfl ?_;obtain ⟨bn,hM⟩:=M.e_gq hM;refine kP 0 ?_;intro aB bp H;refine kN ?_;refine kS 1 ?_;intro br H;refine kN ?_;refine t_nil ?_;exact ⟨l++([(⟨(aa:Int),(ac:Int)⟩:Span)]),[cOwn (α:=Span) 42 aB (l++([(⟨(aa:Int),(ac:Int)⟩:Span)])),cBlk ag [aB] 88],(M.e_pure hM).symm,⟨aB,rfl⟩,H.pick [3,4,5,6,7] (by decide) rfl⟩
  refine kC 0 @gauge_just_ok ?_;intro bt r0 r1 hM H;refine kN ?_;refine t_l2 rfl rfl ?_ ?_
  ·refine kG 1 ?_;refine kN ?_;refine kL 1 (α:=Span) [⟨r0,r1⟩,⟨x.dlo,x.dhi⟩,⟨x.slo,x.shi⟩] ?_;intro bu bv H;refine kN ?_;refine kC 1 @gauge_times_ok ?_;intro bw aa ac hM H;refine kN ?_;refine kL 1 (α:=Span) [⟨aa,ac⟩] ?_;intro bx bz H;refine kN ?_;refine t_l rfl ?_;obtain ⟨bA,hM⟩:=M.e_gq hM;refine kP 0 ?_;intro aC bB H;refine kN ?_;refine kS 1 ?_;intro bC H;refine kN ?_;refine t_nil ?_;exact ⟨l++([(⟨(aa:Int),(ac:Int)⟩:Span)]),[cOwn (α:=Span) 42 aC (l++([(⟨(aa:Int),(ac:Int)⟩:Span)])),cBlk ag [aC] 88],(M.e_pure hM).symm,⟨aC,rfl⟩,H.pick [3,4,5,6,7] (by decide) rfl⟩
  refine kL 0 (α:=Span) [⟨r0,r1⟩,⟨x.dlo,x.dhi⟩,⟨x.slo,x.shi⟩] ?_;intro bD bE H;refine kN ?_;refine t_l2 rfl rfl ?_ ?_
  ·refine kG 1 ?_;refine kN ?_;refine kC 1 @gauge_times_ok ?_;intro bF aa ac hM H;refine kN ?_;refine kL 1 (α:=Span) [⟨aa,ac⟩] ?_;intro bG bH H;refine kN ?_;refine t_l rfl ?_;obtain ⟨bI,hM⟩:=M.e_gq hM;refine kP 0 ?_;intro aD bJ H;refine kN ?_;refine kS 1 ?_;intro bK H;refine kN ?_;refine t_nil ?_;exact ⟨l++([(⟨(aa:Int),(ac:Int)⟩:Span)]),[cOwn (α:=Span) 42 aD (l++([(⟨(aa:Int),(ac:Int)⟩:Span)])),cBlk ag [aD] 88],(M.e_pure hM).symm,⟨aD,rfl⟩,H.pick [3,4,5,6,7] (by decide) rfl⟩
  refine kC 0 @gauge_times_ok ?_;intro bL aa ac hM H;refine kN ?_;obtain ⟨bN,hM⟩:=M.e_gq hM;refine t_l2 rfl rfl ?_ ?_
  ·refine kG 1 ?_;refine kN ?_;refine kL 1 (α:=Span) [⟨aa,ac⟩] ?_;intro bO bP H;refine kN ?_;refine kP 1 ?_;intro aE bQ H;refine kN ?_;refine kS 1 ?_;intro bR H;refine kN ?_;refine t_nil ?_;exact ⟨l++([(⟨(aa:Int),(ac:Int)⟩:Span)]),[cOwn (α:=Span) 42 aE (l++([(⟨(aa:Int),(ac:Int)⟩:Span)])),cBlk ag [aE] 88],(M.e_pure hM).symm,⟨aE,rfl⟩,H.pick [3,4,5,6,7] (by decide) rfl⟩
  refine kL 0 (α:=Span) [⟨aa,ac⟩] ?_;intro bS bT H;refine kN ?_;refine kG 2 ?_;refine kN ?_;refine kP 1 ?_;intro aF bU H;refine kN ?_;refine kS 1 ?_;intro bV H;refine kN ?_;refine t_nil ?_;exact ⟨l++([(⟨(aa:Int),(ac:Int)⟩:Span)]),[cOwn (α:=Span) 42 aF (l++([(⟨(aa:Int),(ac:Int)⟩:Span)])),cBlk ag [aF] 88],(M.e_pure hM).symm,⟨aF,rfl⟩,H.pick [3,4,5,6,7] (by decide) rfl⟩
 replace H:St w aL (cAll (cObj ap (.loop ax) :: [cOwn (α:=Span) 42 (.slice none 0 0) ([]),cBlk ag [(.slice none 0 0)] 88]) :: [cMk (aw :: ([])),cBlk am [I aj,I al,ae] 146,cBlk ao [I g_Left,I g_Right,ae] 146]) R:=St.bundleB (A:=cObj ap (.loop ax) :: [cOwn (α:=Span) 42 (.slice none 0 0) ([]),cBlk ag [(.slice none 0 0)] 88]) (T:=[cMk (aw :: ([])),cBlk am [I aj,I al,ae] 146,cBlk ao [I g_Left,I g_Right,ae] 146]) rfl (H.pk [0,2,3,1,4,5]);refine (gauge_Gauging_widths_1_ok (M.yl m_gauge_Panels_b0) (.inl ([])) aj al g_Verticals hYC ⟨_,rfl,⟨(.slice none 0 0),rfl⟩⟩ (au.app _) aH (Has.here (k:=1) rfl) aK _ (H.gt 3)).mono ?_;rintro vq bW ⟨aQ,bX,rfl,hvq,aI,aJ⟩;replace H:=H.back aI rfl;clear aI hYC;rcases aQ with l | _
 ·obtain ⟨_,rfl,ah,rfl⟩:=aJ;refine ⟨_,[cOwn (α:=Span) 42 ah l,cBlk ag [ah] 88,cBlk am [I aj,I al,ae] 146,cBlk ao [I g_Left,I g_Right,ae] 146],H.unbundle.pick [0,3,1,2,4,5] (by decide) rfl,ay.nb,?_⟩;intro bY H;rw [ay.pd];replace H:=H.nf
  try simp only []
  replace H:=H.pk [0,1,2];refine WD.seq<|WD.of ?_;refine kg 5 ?_;refine WD.of ?_;refine W.ret ?_;refine bodyD_r (H.pk [0,1,2]) ?_;intro bZ H;replace H:=H.nf
  have av:=M.e_pure hM;exact ⟨_,resE_tmp2 rfl,⟨l,0,ah,av,rfl,(H.pk [0])⟩⟩
 obtain ⟨_,_,h_⟩:=aJ; exact h_.elim

def m_gauge_plus (a b:Span):M (Int × Int) :=
  M.gi (a.lo+b.lo) <|
  M.gi (a.hi+b.hi) <|
  M.pure ((a.lo+b.lo),(a.hi+b.hi))
theorem gauge_plus_ok {R}(a b){r}(hM:(m_gauge_plus a b).Ends r)(w)(H:St w w [] R):Ret Tryz.prog 87 #[.agg #[I a.lo,I a.hi],.agg #[I b.lo,I b.hi]] w fun v w'=>∃ y0 y1,(y0,y1)=r/\v = .agg #[I y0,I y1]/\St w w' [] R:=by
 refine ret_of_W Tryz.func87 rfl rfl rfl ?_;refine kB 2 ?_;intro aa ac H;refine kbx ?_;intro ae ag H;refine kal ?_;intro ah ai H;obtain ⟨aj,hM⟩:=M.e_gq hM;obtain ⟨al,hM⟩:=M.e_gq hM;refine kS 14 ?_;intro am H;refine s_nil ?_;replace H:=H.pk [0];exact kR 0 []

def m_gauge_Flow_b0 (r0:List Span):(Int × Int × Nat)->M ((Int × Int × Nat) ⊕ (Int × Int)):=fun (s,s2,s3) =>
  bif decide ((s3:Int)<(r0.length:Int)) then (
  M.grd (decide ((s3:Int)<(r0.length:Int))) <|
  M.bind (m_gauge_plus (⟨(s:Int),(s2:Int)⟩:Span) (r0.getD s3 default)) fun (aa,ac) =>
  M.pure (.inl (aa,ac,s3+1)))
  else (
  M.pure (.inr (s,s2)))
def m_gauge_Flow (g_Left g_Right:Int) (g_Verticals:List Vrt):M (Int × Int × Int) :=
  M.bind (m_gauge_Panels g_Left g_Right g_Verticals) fun (r0,r1) =>
  M.bind (M.iter (m_gauge_Flow_b0 r0) (0,0,0)) fun (s4,s5) =>
  M.pure (s4,s5,r1)
theorem gauge_Flow_ok {R ac aa}(g_Left g_Right g_Verticals)(au:Reads R ac)(av:Sl ac aa g_Verticals){r}(hM:(m_gauge_Flow g_Left g_Right g_Verticals).Ends r)(w)(H:St w w [] R):Ret Tryz.prog 43 #[.agg #[I g_Left,I g_Right,aa]] w fun v w'=>∃ y0 y1 y2,(y0,y1,y2)=r/\v = .tuple #[.agg #[I y0,I y1],I y2]/\St w w' [] R:=by
 refine ret_of_W Tryz.func43 rfl rfl rfl ?_;refine kB 2 ?_;intro aj aw H;refine kal ?_;intro ae ax H;refine kC 5 @gauge_Panels_ok ?_;intro ay r0 r1 ag hM H;refine kA 8 ?_;intro ah aA H;have aB:=((H.os 1)).len_le;refine kg 9 ?_;obtain ⟨al,ai,am⟩:=M.e_bind hM;obtain ⟨aC,ai⟩:=M.e_iter ai;refine W.loop (fun m σ W=>∃ (s:Int) (s2:Int) (s3:Nat) (ρ:Env),σ=upds ρ [(2,Pq ae),(5,I r1),(6,Pq ah),(14,ag),(15,I (r0.length:Int)),(16,I (s3:Int))]/\M.iterN (m_gauge_Flow_b0 r0) m (s,s2,s3)=some al/\St w W [cBlk ah [I s,I s2] 42,cOwn (α:=Span) 42 ag r0,cBlk ae [I 0,I 0] 42,cBlk aj [I g_Left,I g_Right,aa] 146] R) ?_ ?_
 ·exact kY
 rintro aD σ aE ⟨s,s2,s3,ρ,rfl,ao,H⟩;obtain ⟨aF,aG,aH,hM,ap⟩:=M.e_iterN ao;refine kI 5 ?_ ?_
 ·intro aq hM;obtain ⟨aI,hM⟩:=M.e_gq hM;refine kA 7 ?_;intro aJ aK H;refine ksw ?_;intro aL H;refine kC 4 @gauge_plus_ok ?_;intro aM aN aO hM H;refine ksw ?_;intro aP H;exact kXp 5 [1,2,3,4]
 intro aq hM;refine W.exit ?_;obtain rfl:=M.e_inr hM ap;replace hM:=am;replace H:=H.pk [0,2];refine kS 4 ?_;intro aQ H;exact kR 2 []

def zdm (bytes:List UInt8):M (Int × Int × Int × Bool × Int) :=
  M.bind (zaI bytes) fun (r1,r2) =>
  M.bind (zc4 bytes r1 r2 6) fun (r0,aj,al,r3,r4,q1,q2) =>
  M.bind (zcn bytes q1 q2 r0 aj al r3 r4) fun (ag,ah,ai,ap,aq) =>
  M.bind (m_gauge_Real ag ah ai r3 r4) fun (ae,am) =>
  M.bind (m_gauge_Flow ag ah ai) fun (ac,aa,ao) =>
  bif ((((am != 0)||(ao != 0))||(decide (ae<ac)))||(decide (aa<ae))) then (
  M.pure (0,ac,aa,false,7))
  else (
  M.grd ((!(!(decide (ac<0)))||(decide (0<=aa)&&decide (aa<=(9223372036854775807:Int))&&decide ((0:Int)<1000)))) <|
  M.grd ((!(!(decide (ac<0)))||(decide ((-9223372036854775808:Int)<=((aa / 1000)+1))&&decide (((aa / 1000)+1)<=(9223372036854775807:Int))))) <|
  bif ((decide (ac<0))||(decide (200000<((aa / 1000)+1)))) then (
  M.pure (0,ac,aa,false,0))
  else (
  M.grd (decide (0<=ae)&&decide (ae<=(9223372036854775807:Int))&&decide ((0:Int)<1000)) <|
  M.grd (decide (0<=ac)&&decide (ac<=(9223372036854775807:Int))&&decide ((0:Int)<1000)) <|
  M.grd (decide (0<=aa)&&decide (aa<=(9223372036854775807:Int))&&decide ((0:Int)<1000)) <|
  M.gi ((aa / 1000)+1) <|
  M.pure ((ae / 1000),(ac / 1000),((aa / 1000)+1),true,0)))
theorem zha {R ae ag}(bytes)(ai:Reads R ae)(aj:Sl ae ag bytes){r}(hM:(zdm bytes).Ends r)(w)(H:St w w [] R):Ret Tryz.prog 13 #[ag] w fun v w'=>∃ y0 y1 y2 y3 y4,(y0,y1,y2,y3,y4)=r/\v = .tuple #[I y0,.agg #[I y1,I y2],B y3,I y4]/\St w w' [] R:=by
 refine ret_of_W Tryz.func13 rfl rfl rfl ?_;refine kA 3 ?_;intro ay aA H;refine kC 6 @zdX ?_;intro aB r1 r2 al hM H;refine kC 5 @zg2 ?_;intro aC r0 ah am r3 r4 q1 q2 ao ap aq hM H;refine kal ?_;intro aD aE H;refine kS 0 ?_;intro aF H;refine kg 5 ?_;obtain ⟨aG,au,hM⟩:=M.e_bind hM;refine s_call cq [Pq al,.agg #[I r0,I ah,ao,ap,aq]] rfl (zgP bytes q1 q2 r0 ah am r3 r4 (ai.app _) aj (rdo 1) (H.os 1) (rdo 2) (H.os 2) (rdo 3) (H.os 3) au _ ((H.pk [4,0,1,2,3,5]).gt 5)) ?_;rintro _ aH ⟨aI,aJ,aK,aL,aM,aN,rfl,rfl,av⟩;replace H:=H.pk [4,0,1,2,3,5] |>.bk av
 refine kal ?_;intro aO aP H;refine kS 0 ?_;intro aQ H;refine kC 8 @gauge_Real_ok ?_;intro aR aS aT hM H;refine kg 6 ?_;replace H:=H.pk [0,1,7];refine kC 3 @gauge_Flow_ok ?_;intro aU aV aW aX hM H;refine kA 3 ?_;intro aY aZ H;refine ksw ?_;intro a7 H;refine kg 2 ?_;replace H:=H.pk [0,3];refine kI 22 ?_ ?_
 ·intro aw hM;refine kD 1 [0] [2] ?_;intro a8 H;refine kS 3 ?_;intro ba H;refine kN ?_;exact kR 3 []
 intro aw hM;obtain ⟨aa,hM⟩:=M.e_grd hM;replace aa:=M.imp_of aa;simp only [Bool.and_eq_true,decide_eq_true_eq] at aa;obtain ⟨ac,hM⟩:=M.e_grd hM;replace ac:=M.imp_of ac;simp only [Bool.and_eq_true,decide_eq_true_eq] at ac;refine kI 15 ?_ ?_
 ·intro ax hM;refine kD 1 [0] [2] ?_;intro bc H;refine kS 3 ?_;intro bg H;refine kN ?_;exact kR 3 []
 intro ax hM;refine kD 2 [0] [11] ?_;intro bi H;obtain ⟨bj,hM⟩:=M.e_gq hM;obtain ⟨bm,hM⟩:=M.e_gq hM;obtain ⟨bn,hM⟩:=M.e_gq hM;obtain ⟨bp,hM⟩:=M.e_gq hM;refine kS 12 ?_;intro br H;refine kN ?_;exact kR 3 []

end Go.Proofs.YtaolcidinlnklaaGreat
end
section
set_option maxRecDepth 100000
set_option maxHeartbeats 16000000
namespace Go.Proofs.YtaolcidinlnklaaGreat
open Go Go.Nm
attribute [local irreducible] gd execOp SL SLD SLT WR
def zaj (n aa greatest:Int):M Bool :=
  M.pure ((decide (aa<=n))&&(decide (n<=greatest)))
theorem zao {R}(n aa greatest){r}(hM:(zaj n aa greatest).Ends r)(w)(H:St w w [] R):Ret Tryz.prog 50 #[I n,I aa,I greatest] w fun v w'=>∃ y0,y0=r/\v=B y0/\St w w' [] R:=by
 refine ret_of_W Tryz.func50 rfl rfl rfl ?_;refine kg 16 ?_;exact rt

def zdd (s:List Gg) (f:Gg->M Bool):Nat->M (Nat ⊕ (Int ⊕ Unit)):=fun s2 =>
  bif decide ((s2:Int)<(s.length:Int)) then (
  M.grd (decide ((s2:Int)<(s.length:Int))) <|
  M.bind (f (s.getD s2 default)) fun r2 =>
  bif r2 then (
  M.pure (.inr (.inl (s2:Int))))
  else (
  M.pure (.inl (s2+1))))
  else (
  M.pure (.inr (.inr ())))
def zc5 (s:List Gg) (f:Gg->M Bool):M Int :=
  M.bind (M.iter (zdd s f) 0) fun x_=>match x_ with
  | (.inl s3)=>(
  M.pure s3)
  | (.inr (_:Unit))=>(
  M.pure (-1))
theorem zhU {R ae aa ac}(s f)(av:Reads R ae)(aj:Sl ae aa s)(al:FnM Tryz.prog R ac f){r}(hM:(zc5 s f).Ends r)(w)(H:St w w [] R):Ret Tryz.prog 209 #[aa,ac] w fun v w'=>∃ y0,y0=r/\v=I y0/\St w w' [] R:=by
 refine ret_of_W Tryz.func209 rfl rfl rfl ?_;have aw:=(aj).len_le;refine kg 12 ?_;obtain ⟨am,ag,ah⟩:=M.e_bind hM;obtain ⟨ax,ag⟩:=M.e_iter ag;refine W.loop (fun m σ W=>∃ (s2:Nat) (ρ:Env),σ=upds ρ [(0,aa),(1,ac),(7,I (s.length:Int)),(8,I (s2:Int))]/\M.iterN (zdd s f) m s2=some am/\St w W [] R) ?_ ?_
 ·exact kY
 rintro ay σ aA ⟨s2,ρ,rfl,ao,H⟩;obtain ⟨aB,aC,aD,hM,ai⟩:=M.e_iterN ao;refine kI 5 ?_ ?_
 ·intro ap hM;obtain ⟨aE,hM⟩:=M.e_gq hM;refine kg 15 ?_;obtain ⟨r2,aq,hM⟩:=M.e_bind hM;refine t_callM H al rfl rfl (s.getD s2 default) Reads.none ⟨_,rfl,rfl⟩ aq ?_;intro aF H;refine kI 1 ?_ ?_
  ·intro au hM;refine kg 5 ?_;obtain rfl:=M.e_inr hM ai;replace hM:=ah;exact rt
  intro au hM;exact kX 5
 intro ap hM;refine W.exit ?_;obtain rfl:=M.e_inr hM ai;replace hM:=ah;refine kg 4 ?_;exact rt

def zbq (s:List Gg) (f:Gg->M Bool):M Bool :=
  M.bind (zc5 s f) fun r2 =>
  M.pure (decide (0<=r2))
theorem zfi {R aa ac ae}(s f)(ag:Reads R aa)(ah:Sl aa ac s)(ai:FnM Tryz.prog R ae f){r}(hM:(zbq s f).Ends r)(w)(H:St w w [] R):Ret Tryz.prog 159 #[ac,ae] w fun v w'=>∃ y0,y0=r/\v=B y0/\St w w' [] R:=by
 refine ret_of_W Tryz.func159 rfl rfl rfl ?_;refine kC 8 @zhU ?_;intro aj r2 hM H;refine kg 3 ?_;exact rt

def zdG (g:Gg):M Bool :=
  M.bind (zaj g.stage 0 2000) fun r2 =>
  M.bind (M.opt r2 (zaj g.lo 0 g.hi) false) fun r3 =>
  M.bind (M.opt (r2&&r3) (zaj g.hi 0 200000) false) fun r4 =>
  M.pure ((r2&&r3)&&r4)
theorem zgX {R}(g){r}(hM:(zdG g).Ends r)(w)(H:St w w [] R):Ret Tryz.prog 89 #[.agg #[I g.stage,I g.lo,I g.hi]] w fun v w'=>∃ y0,y0=r/\v=B y0/\St w w' [] R:=by
 refine ret_of_W Tryz.func89 rfl rfl rfl ?_;refine kB 2 ?_;intro ah ai H;refine kC 6 @zao ?_;intro aj r2 hM H;refine kg 7 ?_;obtain ⟨r3,ae,hM⟩:=M.e_bind hM;refine t_gcall r2 (gy_t rfl) cq (B r3) (fun _=>[I g.lo,I 0,I g.hi]) (fun hg=>lst3 (gd_of hg (I g.lo)) rfl (gd_of hg (I g.hi))) H (fun hg=>(zao g.lo 0 g.hi (M.e_opt ae hg) _ (H.give (A:=[]) rfl)).mono fun v_ w_ ⟨y_,aa,ac,H_⟩=>by subst aa; exact ⟨ac,H.via H_⟩) ?_;intro al H;refine kg 5 ?_;obtain ⟨r4,ag,hM⟩:=M.e_bind hM;refine t_gcall (r2&&r3) (gy_t rfl) cq (B r4) (fun _=>[I g.hi,I 0,I 200000]) (fun hg=>lst3 (gd_of hg (I g.hi)) rfl rfl) H (fun hg=>(zao g.hi 0 200000 (M.e_opt ag hg) _ (H.give (A:=[]) rfl)).mono fun v_ w_ ⟨y_,aa,ac,H_⟩=>by subst aa; exact ⟨ac,H.via H_⟩) ?_;intro am H;refine kg 3 ?_;exact rt

def zbP (x:Gg):M Bool :=
  M.bind (zdG x) fun r2 =>
  M.pure (!r2)
theorem zgO {R aa}(x)(ag:Has R (cBlk aa [.func (.func 89) #[] #[]] 153)){r}(hM:(zbP x).Ends r)(w)(H:St w w [] R):Ret Tryz.prog 160 #[.agg #[I x.stage,I x.lo,I x.hi],Pq aa] w fun v w'=>∃ y0,y0=r/\v=B y0/\St w w' [] R:=by
 refine ret_of_W Tryz.func160 rfl rfl rfl ?_;refine kB 2 ?_;intro ah ai H;refine kg 6 ?_;obtain ⟨aj,ac,hM⟩:=M.e_bind hM;refine s_callv (f:=89) rfl cq [.agg #[I x.stage,I x.lo,I x.hi]] rfl (zgX x ac _ (H.gt 1)) ?_;rintro _ al ⟨r2,rfl,rfl,ae⟩;replace H:=H.bk ae;refine kg 3 ?_;exact rt

def zel (l:List Gg):M Bool :=
  M.bind (zbq l (fun aa=>zbP aa)) fun r2 =>
  M.pure (!r2)
theorem zhz {R ag aa}(l)(ai:Reads R ag)(aj:Sl ag aa l){r}(hM:(zel l).Ends r)(w)(H:St w w [] R):Ret Tryz.prog 88 #[aa,.func (.func 89) #[] #[]] w fun v w'=>∃ y0,y0=r/\v=B y0/\St w w' [] R:=by
 refine ret_of_W Tryz.func88 rfl rfl rfl ?_;refine kB 2 ?_;intro ac ay H;refine kg 5 ?_;refine s_val (x_mf (fs:=[]) (cs:=[Pq ac]) rfl rfl) ?_;obtain ⟨aA,al,hM⟩:=M.e_bind hM;refine s_call cq [aa,.func (.func 160) #[] #[Pq ac]] rfl (zfi l (fun ae=>zbP ae) (ai.app _) aj ⟨160,[Pq ac],rfl,cq,fun ah aB aC am ae aD ao aE ap aq=>by obtain rfl:=Gg_arg ap; exact (zgO ae (Has.app (Has.here (k:=0) rfl) _) aq ah (St.refl ao)).mono fun am ah ⟨aF,au,av,aw⟩=>by subst au; exact ⟨av,aw⟩⟩ al _ (H.gt 1)) ?_;rintro _ aG ⟨r2,rfl,rfl,ax⟩;replace H:=H.bk ax;refine kg 3 ?_;exact rt

def zbf (l:List Gg):M Int :=
  M.bind (zaj (l.length:Int) 1 24) fun r2 =>
  bif !r2 then (
  M.pure 3)
  else (
  M.bind (zel l) fun r3 =>
  bif !r3 then (
  M.pure 50)
  else (
  M.pure 0))
theorem zff {R aa ac}(l)(ai:Reads R aa)(ae:Sl aa ac l){r}(hM:(zbf l).Ends r)(w)(H:St w w [] R):Ret Tryz.prog 44 #[ac] w fun v w'=>∃ y0,y0=r/\v=I y0/\St w w' [] R:=by
 refine ret_of_W Tryz.func44 rfl rfl rfl ?_;have aj:=(ae).len_le;refine kC 10 @zao ?_;intro al r2 hM H;refine kI 3 ?_ ?_
 ·intro ag hM;refine kg 4 ?_;exact rt
 intro ag hM;refine kC 3 @zhz ?_;intro am r3 hM H;refine kI 3 ?_ ?_
 ·intro ah hM;refine kg 4 ?_;exact rt
 intro ah hM;refine kg 5 ?_;exact rt

def zdB (breaks:List Int):(Int × Nat)->M ((Int × Nat) ⊕ (Unit ⊕ Unit)):=fun (last,s) =>
  bif decide ((s:Int)<(breaks.length:Int)) then (
  M.grd (decide ((s:Int)<(breaks.length:Int))) <|
  M.gi (last+1) <|
  M.bind (zaj (breaks.getD s 0) (last+1) 2000) fun r2 =>
  bif !r2 then (
  M.pure (.inr (.inl ())))
  else (
  M.pure (.inl (breaks.getD s 0,s+1))))
  else (
  M.pure (.inr (.inr ())))
def zbA (breaks:List Int):M Int :=
  bif decide (24<(breaks.length:Int)) then (
  M.pure 3)
  else (
  M.bind (M.iter (zdB breaks) (0,0)) fun x_=>match x_ with
  | (.inl (_:Unit))=>(
  M.pure 2)
  | (.inr (_:Unit))=>(
  M.pure 0))
theorem zfg {R ac aa}(breaks)(aq:Reads R ac)(ae:Sl ac aa breaks){r}(hM:(zbA breaks).Ends r)(w)(H:St w w [] R):Ret Tryz.prog 90 #[aa] w fun v w'=>∃ y0,y0=r/\v=I y0/\St w w' [] R:=by
 refine ret_of_W Tryz.func90 rfl rfl rfl ?_;have au:=(ae).len_le;refine kI 11 ?_ ?_
 ·intro aj hM;refine kg 4 ?_;exact rt
 intro aj hM;have av:=(ae).len_le;refine kg 13 ?_;obtain ⟨al,ag,ah⟩:=M.e_bind hM;obtain ⟨aw,ag⟩:=M.e_iter ag;refine W.loop (fun m σ W=>∃ (last:Int) (s:Nat) (ρ:Env),σ=upds ρ [(3,I last),(9,aa),(10,I (breaks.length:Int)),(11,I (s:Int))]/\M.iterN (zdB breaks) m (last,s)=some al/\St w W [] R) ?_ ?_
 ·exact kY
 rintro ax σ ay ⟨last,s,ρ,rfl,am,H⟩;obtain ⟨aA,aB,aC,hM,ai⟩:=M.e_iterN am;refine kI 5 ?_ ?_
 ·intro ao hM;obtain ⟨aD,hM⟩:=M.e_gq hM;obtain ⟨aE,hM⟩:=M.e_gq hM;refine kC 15 @zao ?_;intro aF r2 hM H;refine kI 2 ?_ ?_
  ·intro ap hM;refine kg 4 ?_;obtain rfl:=M.e_inr hM ai;replace hM:=ah;exact rt
  intro ap hM;exact kX 9
 intro ao hM;refine W.exit ?_;obtain rfl:=M.e_inr hM ai;replace hM:=ah;refine kg 4 ?_;exact rt

def zct (s:List RLn) (f:RLn->M Bool):Nat->M (Nat ⊕ (Int ⊕ Unit)):=fun s2 =>
  bif decide ((s2:Int)<(s.length:Int)) then (
  M.grd (decide ((s2:Int)<(s.length:Int))) <|
  M.bind (f (s.getD s2 default)) fun r2 =>
  bif r2 then (
  M.pure (.inr (.inl (s2:Int))))
  else (
  M.pure (.inl (s2+1))))
  else (
  M.pure (.inr (.inr ())))
def zdC (s:List RLn) (f:RLn->M Bool):M Int :=
  M.bind (M.iter (zct s f) 0) fun x_=>match x_ with
  | (.inl s3)=>(
  M.pure s3)
  | (.inr (_:Unit))=>(
  M.pure (-1))
theorem zhX {R ae aa ac}(s f)(av:Reads R ae)(aj:Sl ae aa s)(al:FnM Tryz.prog R ac f){r}(hM:(zdC s f).Ends r)(w)(H:St w w [] R):Ret Tryz.prog 210 #[aa,ac] w fun v w'=>∃ y0,y0=r/\v=I y0/\St w w' [] R:=by
 refine ret_of_W Tryz.func210 rfl rfl rfl ?_;have aw:=(aj).len_le;refine kg 12 ?_;obtain ⟨am,ag,ah⟩:=M.e_bind hM;obtain ⟨ax,ag⟩:=M.e_iter ag;refine W.loop (fun m σ W=>∃ (s2:Nat) (ρ:Env),σ=upds ρ [(0,aa),(1,ac),(7,I (s.length:Int)),(8,I (s2:Int))]/\M.iterN (zct s f) m s2=some am/\St w W [] R) ?_ ?_
 ·exact kY
 rintro ay σ aA ⟨s2,ρ,rfl,ao,H⟩;obtain ⟨aB,aC,aD,hM,ai⟩:=M.e_iterN ao;refine kI 5 ?_ ?_
 ·intro ap hM;obtain ⟨aE,hM⟩:=M.e_gq hM;refine kg 15 ?_;obtain ⟨r2,aq,hM⟩:=M.e_bind hM;refine t_callM H al rfl rfl (s.getD s2 default) Reads.none ⟨_,rfl,rfl⟩ aq ?_;intro aF H;refine kI 1 ?_ ?_
  ·intro au hM;refine kg 5 ?_;obtain rfl:=M.e_inr hM ai;replace hM:=ah;exact rt
  intro au hM;exact kX 5
 intro ap hM;refine W.exit ?_;obtain rfl:=M.e_inr hM ai;replace hM:=ah;refine kg 4 ?_;exact rt

def zdL (s:List RLn) (f:RLn->M Bool):M Bool :=
  M.bind (zdC s f) fun r2 =>
  M.pure (decide (0<=r2))
theorem zhV {R aa ac ae}(s f)(ag:Reads R aa)(ah:Sl aa ac s)(ai:FnM Tryz.prog R ae f){r}(hM:(zdL s f).Ends r)(w)(H:St w w [] R):Ret Tryz.prog 161 #[ac,ae] w fun v w'=>∃ y0,y0=r/\v=B y0/\St w w' [] R:=by
 refine ret_of_W Tryz.func161 rfl rfl rfl ?_;refine kC 8 @zhX ?_;intro aj r2 hM H;refine kg 3 ?_;exact rt

def zbK (x:RLn) (aa:RLn->M Bool):M Bool :=
  M.bind (aa x) fun r2 =>
  M.pure (!r2)
theorem zgS {R aa ac}(x ae)(ag:FnM Tryz.prog R ac ae)(ai:Has R (cBlk aa [ac] 228)){r}(hM:(zbK x ae).Ends r)(w)(H:St w w [] R):Ret Tryz.prog 162 #[.agg #[I x.ast,I x.afl,I x.bst,I x.bfl],Pq aa] w fun v w'=>∃ y0,y0=r/\v=B y0/\St w w' [] R:=by
 refine ret_of_W Tryz.func162 rfl rfl rfl ?_;refine kB 2 ?_;intro aj al H;refine kg 6 ?_;obtain ⟨r2,ah,hM⟩:=M.e_bind hM;refine t_callM H ag rfl rfl x Reads.none ⟨_,rfl,rfl⟩ ah ?_;intro am H;refine kg 3 ?_;exact rt

def zdM (l:List RLn) (so:RLn->M Bool):M Bool :=
  M.bind (zdL l (fun aa=>zbK aa so)) fun r2 =>
  M.pure (!r2)
theorem zgG {R ag aa ah}(l so)(aj:Reads R ag)(al:Sl ag aa l)(am:FnM Tryz.prog R ah so){r}(hM:(zdM l so).Ends r)(w)(H:St w w [] R):Ret Tryz.prog 91 #[aa,ah] w fun v w'=>∃ y0,y0=r/\v=B y0/\St w w' [] R:=by
 refine ret_of_W Tryz.func91 rfl rfl rfl ?_;refine kB 2 ?_;intro ac aB H;refine kg 5 ?_;refine s_val (x_mf (fs:=[]) (cs:=[Pq ac]) rfl rfl) ?_;obtain ⟨aC,ao,hM⟩:=M.e_bind hM;refine s_call cq [aa,.func (.func 162) #[] #[Pq ac]] rfl (zhV l (fun ae=>zbK ae so) (aj.app _) al ⟨162,[Pq ac],rfl,cq,fun ai aD aE ap ae aF aq aG au av=>by obtain rfl:=RLn_arg au; exact (zgS ae so (FnM.app (am.app _) _) (Has.app (Has.here (k:=0) rfl) _) av ai (St.refl aq)).mono fun ap ai ⟨aH,aw,ax,ay⟩=>by subst aw; exact ⟨ax,ay⟩⟩ ao _ (H.gt 1)) ?_;rintro _ aI ⟨r2,rfl,rfl,aA⟩;replace H:=H.bk aA;refine kg 3 ?_;exact rt

def zbn (p:Pt):M Bool :=
  M.bind (zaj p.stage 0 2000) fun r2 =>
  M.bind (M.opt r2 (zaj p.flow 0 200000) false) fun r3 =>
  M.pure (r2&&r3)
theorem zfx {R}(p){r}(hM:(zbn p).Ends r)(w)(H:St w w [] R):Ret Tryz.prog 163 #[.agg #[I p.stage,I p.flow]] w fun v w'=>∃ y0,y0=r/\v=B y0/\St w w' [] R:=by
 refine ret_of_W Tryz.func163 rfl rfl rfl ?_;refine kB 2 ?_;intro ag ah H;refine kC 6 @zao ?_;intro ai r2 hM H;refine kg 3 ?_;obtain ⟨r3,aa,hM⟩:=M.e_bind hM;refine t_gcall r2 (gy_t rfl) cq (B r3) (fun _=>[I p.flow,I 0,I 200000]) (fun hg=>lst3 (gd_of hg (I p.flow)) rfl rfl) H (fun hg=>(zao p.flow 0 200000 (M.e_opt aa hg) _ (H.give (A:=[]) rfl)).mono fun v_ w_ ⟨y_,ac,ae,H_⟩=>by subst ac; exact ⟨ae,H.via H_⟩) ?_;intro aj H;refine kg 3 ?_;exact rt

def zaw (x:RLn):M Bool :=
  M.bind (zbn (⟨(x.ast:Int),(x.afl:Int)⟩:Pt)) fun r2 =>
  M.bind (M.opt r2 (zbn (⟨(x.bst:Int),(x.bfl:Int)⟩:Pt)) false) fun r3 =>
  M.pure (((r2&&r3)&&(decide (x.ast<x.bst)))&&(decide (x.afl<=x.bfl)))
theorem zdt {R}(x){r}(hM:(zaw x).Ends r)(w)(H:St w w [] R):Ret Tryz.prog 92 #[.agg #[I x.ast,I x.afl,I x.bst,I x.bfl]] w fun v w'=>∃ y0,y0=r/\v=B y0/\St w w' [] R:=by
 refine ret_of_W Tryz.func92 rfl rfl rfl ?_;refine kB 2 ?_;intro ag ah H;refine kC 6 @zfx ?_;intro ai r2 hM H;refine kg 3 ?_;obtain ⟨r3,aa,hM⟩:=M.e_bind hM;refine t_gcall r2 (gy_t rfl) cq (B r3) (fun _=>[.agg #[I x.bst,I x.bfl]]) (fun hg=>lst1 (gd_of hg (.agg #[I x.bst,I x.bfl]))) H (fun hg=>(zfx (⟨(x.bst:Int),(x.bfl:Int)⟩:Pt) (M.e_opt aa hg) _ (H.give (A:=[]) rfl)).mono fun v_ w_ ⟨y_,ac,ae,H_⟩=>by subst ac; exact ⟨ae,H.via H_⟩) ?_;intro aj H;refine kg 21 ?_;exact rt

def za6 (aa:List Int) (ac:List RLn):M Int :=
  M.bind (zbA aa) fun r2 =>
  bif r2 != 0 then (
  M.pure r2)
  else (
  M.gi ((aa.length:Int)+1) <|
  bif (ac.length:Int) != ((aa.length:Int)+1) then (
  M.pure 2)
  else (
  M.bind (zdM ac (fun ae=>zaw ae)) fun r3 =>
  bif !r3 then (
  M.pure 50)
  else (
  M.pure 0)))
theorem zfM {R ag ah ai aa}(aj ac)(aG:Reads R ag)(ao:Sl ag ah aj)(ap:Reads R ai)(al:Sl ai aa ac){r}(hM:(za6 aj ac).Ends r)(w)(H:St w w [] R):Ret Tryz.prog 45 #[.agg #[ah,aa]] w fun v w'=>∃ y0,y0=r/\v=I y0/\St w w' [] R:=by
 refine ret_of_W Tryz.func45 rfl rfl rfl ?_;refine kB 2 ?_;intro aH aI H;refine kC 6 @zfg ?_;intro aJ r2 hM H;refine kI 10 ?_ ?_
 ·intro aq hM;refine kg 5 ?_;exact rt
 intro aq hM;have aK:=(al).len_le;have aL:=(ao).len_le;obtain ⟨aM,hM⟩:=M.e_gq hM;refine kI 12 ?_ ?_
 ·intro au hM;refine kg 4 ?_;exact rt
 intro au hM;refine kg 4 ?_;obtain ⟨aN,av,hM⟩:=M.e_bind hM;refine s_call cq [aa,.func (.func 92) #[] #[]] rfl (zgG ac (fun ae=>zaw ae) (ap.app _) al ⟨92,[],rfl,cq,fun am aO aP aw ae aQ ax aR ay aA=>by obtain rfl:=RLn_arg ay; exact (zdt ae aA am (St.refl ax)).mono fun aw am ⟨aS,aB,aC,aD⟩=>by subst aB; exact ⟨aC,aD⟩⟩ av _ (H.gt 1)) ?_;rintro _ aT ⟨r3,rfl,rfl,aE⟩;replace H:=H.bk aE;refine kI 3 ?_ ?_
 ·intro aF hM;refine kg 4 ?_;exact rt
 intro aF hM;refine kg 5 ?_;exact rt

def m_cmp_Less_int (x y:Int):M Bool :=
  M.bind (m_cmp_isNaN_int x) fun r2 =>
  M.bind (M.opt r2 (m_cmp_isNaN_int y) false) fun r3 =>
  M.pure ((r2&&(!r3))||(decide (x<y)))
theorem cmp_Less_int_ok {R}(x y){r}(hM:(m_cmp_Less_int x y).Ends r)(w)(H:St w w [] R):Ret Tryz.prog 135 #[I x,I y] w fun v w'=>∃ y0,y0=r/\v=B y0/\St w w' [] R:=by
 refine ret_of_W Tryz.func135 rfl rfl rfl ?_;refine kC 7 @cmp_isNaN_int_ok ?_;intro ag r2 hM H;refine kg 2 ?_;obtain ⟨r3,aa,hM⟩:=M.e_bind hM;refine t_gcall r2 (gy_t rfl) cq (B r3) (fun _=>[I y]) (fun hg=>lst1 (gd_of hg (I y))) H (fun hg=>(cmp_isNaN_int_ok y (M.e_opt aa hg) _ (H.give (A:=[]) rfl)).mono fun v_ w_ ⟨y_,ac,ae,H_⟩=>by subst ac; exact ⟨ae,H.via H_⟩) ?_;intro ah H;refine kg 9 ?_;exact rt

def zdV (x:Int):M Bool :=
  M.pure (x != x)
theorem ze9 {R}(x){r}(hM:(zdV x).Ends r)(w)(H:St w w [] R):Ret Tryz.prog 164 #[I x] w fun v w'=>∃ y0,y0=r/\v=B y0/\St w w' [] R:=by
 refine ret_of_W Tryz.func164 rfl rfl rfl ?_;refine kg 11 ?_;exact rt

def zem (x:List Int) (target:Int):(Int × Int)->M ((Int × Int) ⊕ Int):=fun (i,j) =>
  bif decide (i<j) then (
  M.gi (i+j) <|
  M.grd (decide ((0:Int)<=(i+j))&&decide ((i+j)<=(9223372036854775807:Int))) <|
  M.grd (decide ((0:Int)<=((i+j) / 2))&&decide (((i+j) / 2)<=(9223372036854775807:Int))) <|
  M.grd (decide ((0:Int)<=((i+j) / 2))&&decide (((i+j) / 2)<(x.length:Int))) <|
  M.bind (m_cmp_Less_int (x.getD (Int.toNat ((i+j) / 2)) 0) target) fun r2 =>
  bif r2 then (
  M.pure (.inl (((i+j) / 2)+1,j)))
  else (
  M.pure (.inl (i,(i+j) / 2))))
  else (
  M.pure (.inr i))
def zex (x:List Int) (target:Int):M (Int × Bool) :=
  M.bind (M.iter (zem x target) (0,(x.length:Int))) fun i2 =>
  M.grd ((!(decide (i2<(x.length:Int)))||(decide ((0:Int)<=i2)&&decide (i2<(x.length:Int))))) <|
  M.grd ((!((decide (i2<(x.length:Int)))&&!((x.getD (Int.toNat i2) 0)==target))||(decide ((0:Int)<=i2)&&decide (i2<(x.length:Int))))) <|
  M.bind (M.opt ((decide (i2<(x.length:Int)))&&!((x.getD (Int.toNat i2) 0)==target)) (zdV (x.getD (Int.toNat i2) 0)) false) fun r3 =>
  M.bind (M.opt (((decide (i2<(x.length:Int)))&&!((x.getD (Int.toNat i2) 0)==target))&&r3) (zdV target) false) fun r4 =>
  M.pure (i2,((decide (i2<(x.length:Int)))&&(((x.getD (Int.toNat i2) 0)==target)||(r3&&r4))))
theorem zhv {R ao ai}(x target)(aq:Reads R ao)(aj:Sl ao ai x){r}(hM:(zex x target).Ends r)(w)(H:St w w [] R):Ret Tryz.prog 93 #[ai,I target] w fun v w'=>∃ y0 y1,(y0,y1)=r/\v = .tuple #[I y0,B y1]/\St w w' [] R:=by
 refine ret_of_W Tryz.func93 rfl rfl rfl ?_;have aD:=(aj).len_le;refine kg 19 ?_;obtain ⟨au,ap,av⟩:=M.e_bind hM;obtain ⟨aE,ap⟩:=M.e_iter ap;refine W.loop (fun m σ W=>∃ (i:Int) (j:Int) (ρ:Env),σ=upds ρ [(0,ai),(1,I target),(6,I (x.length:Int)),(7,I i),(8,I j)]/\M.iterN (zem x target) m (i,j)=some au/\St w W [] R) ?_ ?_
 ·exact kY
 rintro aF σ aG ⟨i,j,ρ,rfl,aw,H⟩;obtain ⟨aH,aI,aJ,hM,ax⟩:=M.e_iterN aw;refine kI 7 ?_ ?_
 ·intro ay hM;obtain ⟨aK,hM⟩:=M.e_gq hM;obtain ⟨aL,hM⟩:=M.e_gq hM;refine kg 7 ?_;refine s_val (x_convU (kd:=.i64) (a:=i+j) Tryz.underlying3 Tryz.underlying204 rfl (by omega))<|s_val (x_ushr1 (a:=i+j) rfl rfl) ?_;obtain ⟨aM,hM⟩:=M.e_gq hM;refine s_val (x_conv64 (kd:=.u64) (a:=(i+j) / 2) Tryz.underlying204 Tryz.underlying3 rfl (by omega)) ?_;obtain ⟨aN,hM⟩:=M.e_gq hM;refine kC 9 @cmp_Less_int_ok ?_;intro aO r2 hM H;refine kI 1 ?_ ?_
  ·intro aA hM;exact kX 5
  intro aA hM;exact kX 4
 intro ay hM;refine W.exit ?_;obtain rfl:=M.e_inr hM ax;replace hM:=av;obtain ⟨ae,hM⟩:=M.e_grd hM;replace ae:=M.imp_of ae;simp only [Bool.and_eq_true,decide_eq_true_eq] at ae;obtain ⟨ag,hM⟩:=M.e_grd hM;replace ag:=M.imp_of ag;simp only [Bool.and_eq_true,decide_eq_true_eq] at ag;refine kg 16 ?_;refine g_val ((decide (i<(x.length:Int)))&&!((x.getD (Int.toNat i) 0)==target)) (gy_gf rfl rfl) (fun hg=>x_ix (v:=vat ai 1 (Int.toNat i)) (gd_of hg (ai)) (gd_of hg (I i)) (Sl.ix (α:=Int) T26.h.und T26.h.size aj (by have aa:=ag.resolve_left (by rw [hg]; decide); have ac:=ae.resolve_left (by rw [(Eq.mp (Bool.and_eq_true _ _) hg).1]; decide); first | exact aa | exact aa.1 | exact aa.2 | exact ac | exact ac.1 | exact ac.2 | omega | (have ah:=hg; simp at ah; omega)) (by have aa:=ag.resolve_left (by rw [hg]; decide); have ac:=ae.resolve_left (by rw [(Eq.mp (Bool.and_eq_true _ _) hg).1]; decide); first | exact aa | exact aa.1 | exact aa.2 | exact ac | exact ac.1 | exact ac.2 | omega | (have ah:=hg; simp at ah; omega))))<|g_val ((decide (i<(x.length:Int)))&&!((x.getD (Int.toNat i) 0)==target)) (gy_gf rfl rfl) (fun hg=>x_ld (v:=I (x.getD (Int.toNat i) 0)) (gd_of hg (vat ai 1 (Int.toNat i))) (ld_sc Sc3.h (At.mono (Int_at aj (i:=i) (by have aa:=ag.resolve_left (by rw [hg]; decide); have ac:=ae.resolve_left (by rw [(Eq.mp (Bool.and_eq_true _ _) hg).1]; decide); first | exact aa | exact aa.1 | exact aa.2 | exact ac | exact ac.1 | exact ac.2 | omega | (have ah:=hg; simp at ah; omega)) (by have aa:=ag.resolve_left (by rw [hg]; decide); have ac:=ae.resolve_left (by rw [(Eq.mp (Bool.and_eq_true _ _) hg).1]; decide); first | exact aa | exact aa.1 | exact aa.2 | exact ac | exact ac.1 | exact ac.2 | omega | (have ah:=hg; simp at ah; omega))) (aq.at H)))) ?_;obtain ⟨r3,aB,hM⟩:=M.e_bind hM;refine t_gcall ((decide (i<(x.length:Int)))&&!((x.getD (Int.toNat i) 0)==target)) (gy_gf rfl rfl) cq (B r3) (fun _=>[I (x.getD (Int.toNat i) 0)]) (fun hg=>lst1 (gd_of hg (I (x.getD (Int.toNat i) 0)))) H (fun hg=>(ze9 (x.getD (Int.toNat i) 0) (M.e_opt aB hg) _ (H.give (A:=[]) rfl)).mono fun v_ w_ ⟨y_,al,am,H_⟩=>by subst al; exact ⟨am,H.via H_⟩) ?_;intro aP H;refine kg 2 ?_;obtain ⟨r4,aC,hM⟩:=M.e_bind hM;refine t_gcall (((decide (i<(x.length:Int)))&&!((x.getD (Int.toNat i) 0)==target))&&r3) (gy_gt rfl rfl) cq (B r4) (fun _=>[I target]) (fun hg=>lst1 (gd_of hg (I target))) H (fun hg=>(ze9 target (M.e_opt aC hg) _ (H.give (A:=[]) rfl)).mono fun v_ w_ ⟨y_,al,am,H_⟩=>by subst al; exact ⟨am,H.via H_⟩) ?_;intro aQ H;refine kg 6 ?_
 exact rt

def zav (breaks:List Int) (stage:Int):M Int :=
  M.bind (zex breaks stage) fun (r0,r1) =>
  bif r1 then (
  M.gi (r0+1) <|
  M.pure (r0+1))
  else (
  M.pure r0)
theorem zaV {R aa ac}(breaks stage)(ag:Reads R aa)(ah:Sl aa ac breaks){r}(hM:(zav breaks stage).Ends r)(w)(H:St w w [] R):Ret Tryz.prog 46 #[ac,I stage] w fun v w'=>∃ y0,y0=r/\v=I y0/\St w w' [] R:=by
 refine ret_of_W Tryz.func46 rfl rfl rfl ?_;refine kC 8 @zhv ?_;intro ai r0 r1 hM H;refine kI 11 ?_ ?_
 ·intro ae hM;obtain ⟨aj,hM⟩:=M.e_gq hM;refine kg 10 ?_;exact rt
 intro ae hM;refine kg 6 ?_;exact rt

def zc8 (l:List Int):(Int × Nat)->M ((Int × Nat) ⊕ Int):=fun (first2,s) =>
  bif decide ((s:Int)<(l.length:Int)) then (
  M.grd (decide ((s:Int)<(l.length:Int))) <|
  M.pure (.inl (max first2 (l.getD s 0),s+1)))
  else (
  M.pure (.inr first2))
def zbR (first:Int) (l:List Int):M Int :=
  M.bind (M.iter (zc8 l) (first,0)) fun first3 =>
  M.pure first3
theorem zf3 {R ac aa}(first l)(ao:Reads R ac)(ag:Sl ac aa l){r}(hM:(zbR first l).Ends r)(w)(H:St w w [] R):Ret Tryz.prog 211 #[I first,aa] w fun v w'=>∃ y0,y0=r/\v=I y0/\St w w' [] R:=by
 refine ret_of_W Tryz.func211 rfl rfl rfl ?_;have ap:=(ag).len_le;refine kg 12 ?_;obtain ⟨ah,ae,ai⟩:=M.e_bind hM;obtain ⟨aq,ae⟩:=M.e_iter ae;refine W.loop (fun m σ W=>∃ (first2:Int) (s:Nat) (ρ:Env),σ=upds ρ [(0,I first2),(7,aa),(8,I (l.length:Int)),(9,I (s:Int))]/\M.iterN (zc8 l) m (first2,s)=some ah/\St w W [] R) ?_ ?_
 ·exact kY
 rintro au σ av ⟨first2,s,ρ,rfl,aj,H⟩;obtain ⟨aw,ax,ay,hM,al⟩:=M.e_iterN aj;refine kI 5 ?_ ?_
 ·intro am hM;obtain ⟨aA,hM⟩:=M.e_gq hM;exact kX 19
 intro am hM;refine W.exit ?_;obtain rfl:=M.e_inr hM al;replace hM:=ai;refine kg 5 ?_;exact rt

def zbm  : (Int × Int)->M ((Int × Int) ⊕ Int):=fun (a,b) =>
  bif b != 0 then (
  M.grd (decide ((0:Int)<=a)&&decide ((0:Int)<b)) <|
  M.pure (.inl (b,a % b)))
  else (
  M.pure (.inr a))
def zb1 (n d:Int):M (Int × Int) :=
  M.grd (decide (-9223372036854775807<=n)&&decide (n<=9223372036854775807)) <|
  M.bind (zbR n ([(-n:Int)])) fun r2 =>
  M.bind (M.iter (zbm) (r2,d)) fun a2 =>
  M.grd (decide ((-9223372036854775808:Int)<=n)&&decide (n<=(9223372036854775807:Int))&&decide ((0:Int)<a2)&&decide (n % a2=0)) <|
  M.grd (decide ((-9223372036854775808:Int)<=d)&&decide (d<=(9223372036854775807:Int))&&decide ((0:Int)<a2)&&decide (d % a2=0)) <|
  M.pure ((n / a2),(d / a2))
theorem zht {R}(n d){r}(hM:(zb1 n d).Ends r)(w)(H:St w w [] R):Ret Tryz.prog 165 #[I n,I d] w fun v w'=>∃ y0 y1,(y0,y1)=r/\v = .agg #[I y0,I y1]/\St w w' [] R:=by
 refine ret_of_W Tryz.func165 rfl rfl rfl ?_;refine kA 2 ?_;intro aa am H;obtain ⟨ao,hM⟩:=M.e_gq hM;refine kg 5 ?_;refine s_val (x_neg (a:=n) rfl (by omega)) ?_;refine kL 0 (α:=Int) [-n] ?_;intro ae ap H;refine kC 0 @zf3 ?_;intro aq r2 hM H;refine kg 6 ?_;obtain ⟨ag,ac,ah⟩:=M.e_bind hM;obtain ⟨au,ac⟩:=M.e_iter ac;refine W.loop (fun m σ W=>∃ (a:Int) (b:Int) (ρ:Env),σ=upds ρ [(0,I n),(1,I d),(4,Pq aa),(5,I a),(6,I b)]/\M.iterN (zbm) m (a,b)=some ag/\St w W [cOwn (α:=Int) 3 ae ([(-n:Int)]),cBlk aa [I 0,I 0] 73] R) ?_ ?_
 ·exact kY
 rintro av σ aw ⟨a,b,ρ,rfl,ai,H⟩;obtain ⟨ax,ay,aA,hM,aj⟩:=M.e_iterN ai;refine kI 6 ?_ ?_
 ·intro al hM;refine kD 2 [0,1] [] ?_;intro aB H;obtain ⟨aC,hM⟩:=M.e_gq hM;refine kg 3 ?_;refine d_q rfl (fun w' H=>x_rem' (a:=a) (b:=b) rfl rfl (by omega)) ?_;exact kX 3
 intro al hM;refine W.exit ?_;obtain rfl:=M.e_inr hM aj;replace hM:=ah;refine kD 1 [0] [7] ?_;intro aD H;obtain ⟨aE,hM⟩:=M.e_gq hM;refine kg 2 ?_;refine d_q rfl (fun w' H=>x_quoD (a:=n) (b:=a) rfl rfl (by omega)) ?_;obtain ⟨aF,hM⟩:=M.e_gq hM;refine kg 2 ?_;refine d_q rfl (fun w' H=>x_quoD (a:=d) (b:=a) rfl rfl (by omega)) ?_;refine kS 2 ?_;intro aG H;refine kN ?_;exact kR 1 []

def zbB (x:RLn) (stage:Int):M (Int × Int) :=
  M.gi (x.bst-x.ast) <|
  M.gi (x.afl*(x.bst-x.ast)) <|
  M.gi (x.bfl-x.afl) <|
  M.gi (stage-x.ast) <|
  M.gi ((x.bfl-x.afl)*(stage-x.ast)) <|
  M.gi ((x.afl*(x.bst-x.ast))+((x.bfl-x.afl)*(stage-x.ast))) <|
  M.bind (zb1 ((x.afl*(x.bst-x.ast))+((x.bfl-x.afl)*(stage-x.ast))) (x.bst-x.ast)) fun (r0,r1) =>
  M.pure (r0,r1)
theorem zfu {R}(x stage){r}(hM:(zbB x stage).Ends r)(w)(H:St w w [] R):Ret Tryz.prog 94 #[.agg #[I x.ast,I x.afl,I x.bst,I x.bfl],I stage] w fun v w'=>∃ y0 y1,(y0,y1)=r/\v = .agg #[I y0,I y1]/\St w w' [] R:=by
 refine ret_of_W Tryz.func94 rfl rfl rfl ?_;refine kB 2 ?_;intro aa ac H;refine kal ?_;intro ae ag H;obtain ⟨ah,hM⟩:=M.e_gq hM;obtain ⟨ai,hM⟩:=M.e_gq hM;obtain ⟨aj,hM⟩:=M.e_gq hM;obtain ⟨al,hM⟩:=M.e_gq hM;obtain ⟨am,hM⟩:=M.e_gq hM;obtain ⟨ao,hM⟩:=M.e_gq hM;refine kC 34 @zht ?_;intro ap r0 r1 hM H;refine ksw ?_;intro aq H;exact kR 1 []

def zaY (x:RLn) (g:Gg):M Bool :=
  M.bind (zbB x g.stage) fun (r0,r1) =>
  M.gi (g.lo*r1) <|
  M.grd ((!(decide ((g.lo*r1)<=r0))||(decide ((-9223372036854775808:Int)<=(g.hi*r1))&&decide ((g.hi*r1)<=(9223372036854775807:Int))))) <|
  M.pure ((decide ((g.lo*r1)<=r0))&&(decide (r0<=(g.hi*r1))))
theorem zfJ {R}(x g){r}(hM:(zaY x g).Ends r)(w)(H:St w w [] R):Ret Tryz.prog 47 #[.agg #[I x.ast,I x.afl,I x.bst,I x.bfl],.agg #[I g.stage,I g.lo,I g.hi]] w fun v w'=>∃ y0,y0=r/\v=B y0/\St w w' [] R:=by
 refine ret_of_W Tryz.func47 rfl rfl rfl ?_;refine kB 2 ?_;intro ac ae H;refine kbx ?_;intro ag ah H;refine kC 7 @zfu ?_;intro ai r0 r1 hM H;refine kal ?_;intro aj al H;refine ksw ?_;intro am H;obtain ⟨ao,hM⟩:=M.e_gq hM;obtain ⟨aa,hM⟩:=M.e_grd hM;replace aa:=M.imp_of aa;simp only [Bool.and_eq_true,decide_eq_true_eq] at aa;refine kg 25 ?_;replace H:=H.pk [];exact rt

def zds (l:List Gg) (ac:List Int) (aa:List RLn):(Nat × (List Int))->M ((Nat × (List Int)) ⊕ ((List Int) × (List Int))):=fun (s,l2) =>
  bif decide ((s:Int)<(l.length:Int)) then (
  M.grd (decide ((s:Int)<(l.length:Int))) <|
  M.bind (zav ac ((l.getD s default).stage)) fun r4 =>
  M.grd (decide ((0:Int)<=r4)&&decide (r4<(aa.length:Int))) <|
  M.bind (zaY (aa.getD (Int.toNat r4) default) (l.getD s default)) fun r5 =>
  bif !r5 then (
  M.grd (decide ((l2.length+([(s:Int)]).length)*8<=140737488355328)) <|
  M.pure (.inl (s+1,l2++([(s:Int)]))))
  else (
  M.pure (.inl (s+1,l2))))
  else (
  M.pure (.inr (l2,l2)))
def zby (l:List Gg) (aa:List Int) (ac:List RLn) (e:Int):M ((List Int) × Int) :=
  bif e != 0 then (
  M.pure (([]),e))
  else (
  M.bind (M.iter (zds l aa ac) (0,[])) fun (l3,l4) =>
  M.pure (l4,0))
def zcO (l:List Gg) (aa:List Int) (ac:List RLn):M ((List Int) × Int) :=
  M.bind (zbf l) fun r2 =>
  bif r2==0 then (
  M.bind (za6 aa ac) fun r3 =>
  zby l aa ac r3)
  else (
  zby l aa ac r2)
theorem zhQ {R al aa am ac ao ae}(l ag ah)(aE:Reads R al)(aq:Sl al aa l)(aF:Reads R am)(aG:Sl am ac ag)(aH:Reads R ao)(aI:Sl ao ae ah){r}(hM:(zcO l ag ah).Ends r)(w)(H:St w w [] R):Ret Tryz.prog 14 #[aa,.agg #[ac,ae]] w fun v w'=>∃ y0 y1 u0,(y0,y1)=r/\v = .tuple #[u0,I y1]/\St w w' [cOwn (α:=Int) 3 u0 y0] R:=by
 refine ret_of_W Tryz.func14 rfl rfl rfl ?_;refine kB 2 ?_;intro ai aJ H;refine kC 6 @zff ?_;intro aK r2 hM H;refine kg 2 ?_;refine W.seqJ (fun σ W=>∃ (e:Int) (ρ:Env),σ=upds ρ [(0,aa),(3,Pq ai),(6,I e)]/\(zby l ag ah e).Ends r/\St w W [cBlk ai [ac,ae] 70] R) ?_ ?_
 ·refine kI 5 ?_ ?_
  ·intro au hM;refine kC 2 @zfM ?_;intro aL r3 hM H;refine kg 2 ?_;exact ⟨r3,_,jQ,hM,H⟩
  intro au hM;refine W.skip ?_;exact ⟨r2,_,jQ,hM,H⟩
 rintro _ aM ⟨e,ρ,rfl,hM,H⟩;unfold zby at hM;refine kI 6 ?_ ?_
 ·intro av hM;refine kg 6 ?_;refine W.ret ?_;have aw:=M.e_pure hM;replace H:=H.nilOwn (α:=Int) 3;exact ⟨_,resE_tmp2 rfl,⟨([]),e,(.slice none 0 0),aw,rfl,(H.pk [0])⟩⟩
 intro av hM;have aN:=(aq).len_le;refine kg 13 ?_;replace H:=H.nilOwn (α:=Int) 3;obtain ⟨ax,ap,ay⟩:=M.e_bind hM;obtain ⟨aO,ap⟩:=M.e_iter ap;refine W.loop (fun m σ W=>∃ (s:Nat) (l2:List Int) (aj:Value) (ρ:Env),σ=upds ρ [(3,Pq ai),(7,aj),(19,aa),(20,I (l.length:Int)),(21,I (s:Int))]/\M.iterN (zds l ag ah) m (s,l2)=some ax/\St w W [cOwn (α:=Int) 3 aj l2,cBlk ai [ac,ae] 70] R) ?_ ?_
 ·exact kY
 rintro aP σ aQ ⟨s,l2,aj,ρ,rfl,aA,H⟩;obtain ⟨aR,aS,aT,hM,aB⟩:=M.e_iterN aA;refine kI 5 ?_ ?_
 ·intro aC hM;obtain ⟨aU,hM⟩:=M.e_gq hM;refine kA 8 ?_;intro aV aW H;refine kS 1 ?_;intro aX H;refine kDo 2 [0,1,2] [(0,true),(1,true),(2,true),(3,true),(4,true),(5,true),(9,true),(6,false),(7,true),(8,true),(10,false),(11,true)] ?_;intro aY H;refine kC 8 @zaV ?_;intro aZ r4 hM H;refine kN ?_;obtain ⟨a7,hM⟩:=M.e_gq hM;refine kC 3 @zfJ ?_;intro a8 r5 hM H;refine kN ?_;refine kI 2 ?_ ?_
  ·intro aD hM;refine kL 3 (α:=Int) [s] ?_;intro ba bc H;obtain ⟨bg,hM⟩:=M.e_gq hM;refine kP 0 ?_;intro bi bj H;refine kg 2 ?_;replace H:=H.pk [2,3];exact kX 4
  intro aD hM;exact kXp 5 [1,2]
 intro aC hM;refine W.exit ?_;obtain rfl:=M.e_inr hM aB;replace hM:=ay;exact kR 6 [0]

def zfN  : M Unit :=
  M.pure ()
theorem zf8 {R r}(hM:(zfN).Ends r)(w)(H:St w w [] R):Ret Tryz.prog 97 #[] w fun v w'=>()=r/\v = .agg #[.func (.func 167) #[] #[]]/\St w w' [] R:=by
 refine ret_of_W Tryz.func97 rfl rfl rfl ?_;refine kA 2 ?_;intro aa ac H;refine kS 4 ?_;intro ae H;exact kR 1 []

def zdb (aa:List Gg) (ac:List Int) (at_:Int):((List Bool) × Nat)->M (((List Bool) × Nat) ⊕ (List Bool)):=fun (ar,s) =>
  bif decide ((s:Int)<(aa.length:Int)) then (
  M.grd (decide ((s:Int)<(aa.length:Int))) <|
  M.bind (zav ac ((aa.getD s default).stage)) fun r2 =>
  M.grd (decide ((0:Int)<=(s:Int))&&decide ((s:Int)<(24:Int))) <|
  M.pure (.inl (ar.set s (r2==at_),s+1)))
  else (
  M.pure (.inr ar))
def zcw (aa:List Gg) (ac:List Bool):(Nat × (List Gg))->M ((Nat × (List Gg)) ⊕ ((List Gg) × (List Gg))):=fun (s2,l) =>
  bif decide ((s2:Int)<(aa.length:Int)) then (
  M.grd (decide ((s2:Int)<(aa.length:Int))) <|
  M.grd (decide ((0:Int)<=(s2:Int))&&decide ((s2:Int)<(24:Int))) <|
  bif ac.getD s2 false then (
  M.grd (decide ((l.length+([(aa.getD s2 default)]).length)*24<=140737488355328)) <|
  M.pure (.inl (s2+1,l++([(aa.getD s2 default)]))))
  else (
  M.pure (.inl (s2+1,l))))
  else (
  M.pure (.inr (l,l)))
def zbi (aa:List Gg) (ac:List Int) (at_:Int):M (List Gg) :=
  M.bind (M.iter (zdb aa ac at_) (List.replicate 24 false,0)) fun ae =>
  M.bind (M.iter (zcw aa ae) (0,[])) fun (l2,l3) =>
  M.pure l3
theorem zfv {R ag am ae ao ap aw}(aa ah at_)(aP:Reads R am)(aq:Sl am ae aa)(aQ:Reads R ao)(aR:Sl ao ap ah)(aS:Has R (cBlk ag [ae,ap,.map (some aw)] 298)){r}(hM:(zbi aa ah at_).Ends r)(w)(H:St w w [] R):Ret Tryz.prog 212 #[Pq ag,I at_] w fun v w'=>∃ y0 u0,y0=r/\v=u0/\St w w' [cOwn (α:=Gg) 62 u0 y0] R:=by
 refine ret_of_W Tryz.func212 rfl rfl rfl ?_;refine kA 6 ?_;intro ac aT H;have ax:(List.replicate 24 false).length=24:=by simp
 have aU:=(aq).len_le;refine kg 13 ?_;obtain ⟨ay,ai,aA⟩:=M.e_bind hM;obtain ⟨aB,ai⟩:=M.e_iter ai;refine W.loop (fun m σ W=>∃ (ar:List Bool) (s:Nat) (ρ:Env),σ=upds ρ [(0,Pq ag),(1,I at_),(5,Pq ac),(15,ae),(16,I (aa.length:Int)),(17,I (s:Int))]/\M.iterN (zdb aa ah at_) m (ar,s)=some ay/\St w W [cBlk ac (encB ar) 356] R/\ar.length=24) ?_ ?_
 ·exact ⟨_,List.replicate 24 false,0,_,jQ,ai,H,ax⟩
 rintro aV σ aW ⟨ar,s,ρ,rfl,aC,H,aj⟩;obtain ⟨aD,aE,aX,hM,au⟩:=M.e_iterN aC;refine kI 5 ?_ ?_
 ·intro aF hM;obtain ⟨aY,hM⟩:=M.e_gq hM;refine kA 8 ?_;intro aG aZ H;refine kS 1 ?_;intro a7 H;refine kDo 1 [0] [(0,true),(1,true),(2,true),(3,true),(4,true),(5,true),(6,true),(7,true),(9,true),(8,false),(10,true),(11,true),(12,false)] ?_;intro a8 H;refine kC 10 @zaV ?_;intro ba r2 hM H;refine kN ?_;obtain ⟨bc,hM⟩:=M.e_gq hM;refine kg 1 ?_;refine d_q rfl (fun w' H=>x_ix (v:=.pointer (some ⟨ac,0+Int.toNat (s:Int),none⟩)) rfl rfl (run_indexArr Tryz.underlying356 Sz4.h (by omega) (by omega)))<|d_l rfl ?_;refine t_stArr (k:=1) (b:=ac) (l:=ar) (l':=ar.set s (r2==at_)) (i:=(s:Int)) (v:=r2==at_) (L':=[cBlk aG [I ((aa.getD s default).stage),I ((aa.getD s default).lo),I ((aa.getD s default).hi)] 62,cBlk ac (encB (ar.set s (r2==at_))) 356]) H rfl rfl rfl Sz4.h (by omega) (by have aH:=aj; omega) rfl rfl ?_;intro bg H
  have aI:(ar.set s (r2==at_)).length=24:=List.length_set.trans aj;refine kN ?_;refine kg 5 ?_;exact ⟨aD,aE,ar.set s (r2==at_),s+1,_,jQ,M.e_inl hM au,(H.pk [1]),aI⟩
 intro aF hM;refine W.exit ?_;obtain rfl:=M.e_inr hM au;replace hM:=aA;have bi:=(aq).len_le;refine kg 16 ?_;replace H:=H.nilOwn (α:=Gg) 62;obtain ⟨aJ,av,aK⟩:=M.e_bind hM;obtain ⟨aB,av⟩:=M.e_iter av;refine W.loop (fun m σ W=>∃ (s2:Nat) (l:List Gg) (al:Value) (ρ:Env),σ=upds ρ [(5,Pq ac),(8,al),(39,ae),(40,I (aa.length:Int)),(41,I (s2:Int))]/\M.iterN (zcw aa ar) m (s2,l)=some aJ/\St w W [cOwn (α:=Gg) 62 al l,cBlk ac (encB ar) 356] R) ?_ ?_
 ·exact kY
 rintro bj σ bm ⟨s2,l,al,ρ,rfl,aL,H⟩;obtain ⟨bn,bp,br,hM,aM⟩:=M.e_iterN aL;refine kI 5 ?_ ?_
 ·intro aN hM;obtain ⟨bt,hM⟩:=M.e_gq hM;refine kA 8 ?_;intro bu bv H;refine kS 1 ?_;intro bw H;obtain ⟨bx,hM⟩:=M.e_gq hM;refine kg 4 ?_;refine s_val (x_ix (v:=.pointer (some ⟨ac,0+Int.toNat (s2:Int),none⟩)) rfl rfl (run_indexArr Tryz.underlying356 Sz4.h (by omega) (by omega)))<|s_val (x_ld (v:=B (ar.getD s2 false)) rfl (ldArr Sc4.h (H.bl 2) (by omega) (by have aH:=aj; omega))) ?_;refine kI 1 ?_ ?_
  ·intro aO hM;refine kL 3 (α:=Gg) [(aa.getD s2 default)] ?_;intro bz bA H;obtain ⟨bB,hM⟩:=M.e_gq hM;refine kP 0 ?_;intro bC bD H;refine kg 2 ?_;replace H:=H.pk [2,3];exact kX 4
  intro aO hM;exact kXp 5 [1,2]
 intro aN hM;refine W.exit ?_;obtain rfl:=M.e_inr hM aM;replace hM:=aK;exact kR 5 [0]

def zb9 (s:List Gg):M Unit :=
  M.pure ()
theorem zgW {R ac aa}(s)(ah:Reads R ac)(ai:Sl ac aa s){r}(hM:(zb9 s).Ends r)(w)(H:St w w [] R):Ret Tryz.prog 213 #[aa] w fun v w'=>∃ ae,()=r/\v = .func (.func 239) #[] #[Pq ae]/\St w w' [cBlk ae [aa] 293] R:=by
 refine ret_of_W Tryz.func213 rfl rfl rfl ?_;refine kB 2 ?_;intro ag aj H;refine kg 4 ?_;refine s_val (x_mf (fs:=[]) (cs:=[Pq ag]) rfl rfl) ?_;refine kg 2 ?_;exact rt

def zcK (s:List Pt) (v:Pt):Nat->M (Nat ⊕ (Int ⊕ Unit)):=fun s2 =>
  bif decide ((s2:Int)<(s.length:Int)) then (
  M.grd (decide ((s2:Int)<(s.length:Int))) <|
  bif decide (v=(s.getD s2 default)) then (
  M.pure (.inr (.inl (s2:Int))))
  else (
  M.pure (.inl (s2+1))))
  else (
  M.pure (.inr (.inr ())))
def zdY (s:List Pt) (v:Pt):M Int :=
  M.bind (M.iter (zcK s v) 0) fun x_=>match x_ with
  | (.inl s3)=>(
  M.pure s3)
  | (.inr (_:Unit))=>(
  M.pure (-1))
theorem zg8 {R ac aa}(s v)(aq:Reads R ac)(aj:Sl ac aa s){r}(hM:(zdY s v).Ends r)(w)(H:St w w [] R):Ret Tryz.prog 254 #[aa,.agg #[I v.stage,I v.flow]] w fun v w'=>∃ y0,y0=r/\v=I y0/\St w w' [] R:=by
 refine ret_of_W Tryz.func254 rfl rfl rfl ?_;refine kB 2 ?_;intro ae au H;have av:=(aj).len_le;refine kg 10 ?_;obtain ⟨al,ag,ah⟩:=M.e_bind hM;obtain ⟨aw,ag⟩:=M.e_iter ag;refine W.loop (fun m σ W=>∃ (s2:Nat) (ρ:Env),σ=upds ρ [(0,aa),(3,Pq ae),(7,I (s.length:Int)),(8,I (s2:Int))]/\M.iterN (zcK s v) m s2=some al/\St w W [cBlk ae [I v.stage,I v.flow] 65] R) ?_ ?_
 ·exact kY
 rintro ax σ ay ⟨s2,ρ,rfl,am,H⟩;obtain ⟨aA,aB,aC,hM,ai⟩:=M.e_iterN am;refine kI 5 ?_ ?_
 ·intro ao hM;refine kD 9 [0] [] ?_;intro aD H;obtain ⟨aE,hM⟩:=M.e_gq hM;refine kg 5 ?_;refine d_q rfl (fun w' H=>x_eqS (eqT65 v (s.getD s2 default) _) gdT65 rfl rfl) ?_;refine kI 1 ?_ ?_
  ·intro ap hM;refine kg 5 ?_;obtain rfl:=M.e_inr hM ai;replace hM:=ah;exact rt
  intro ap hM;exact kX 5
 intro ao hM;refine W.exit ?_;obtain rfl:=M.e_inr hM ai;replace hM:=ah;refine kg 4 ?_;exact rt

def zdr (s:List Pt) (v:Pt):M Bool :=
  M.bind (zdY s v) fun r2 =>
  M.pure (decide (0<=r2))
theorem zhB {R aa ac}(s v)(ae:Reads R aa)(ag:Sl aa ac s){r}(hM:(zdr s v).Ends r)(w)(H:St w w [] R):Ret Tryz.prog 240 #[ac,.agg #[I v.stage,I v.flow]] w fun v w'=>∃ y0,y0=r/\v=B y0/\St w w' [] R:=by
 refine ret_of_W Tryz.func240 rfl rfl rfl ?_;refine kB 2 ?_;intro ah ai H;refine kC 6 @zg8 ?_;intro aj r2 hM H;refine kg 3 ?_;exact rt

def zaZ (s:List Gg) (s3:Nat):(Nat × (List Pt))->M ((Nat × (List Pt)) ⊕ ((List Pt) × (List Pt))):=fun (s2,l4) =>
  bif decide ((s2:Int)<(([((s.getD s3 default).lo:Int),((s.getD s3 default).hi:Int)]).length:Int)) then (
  M.grd (decide ((s2:Int)<(([((s.getD s3 default).lo:Int),((s.getD s3 default).hi:Int)]).length:Int))) <|
  M.bind (zdr l4 (⟨((s.getD s3 default).stage:Int),(([((s.getD s3 default).lo:Int),((s.getD s3 default).hi:Int)]).getD s2 0:Int)⟩:Pt)) fun r2 =>
  bif !r2 then (
  M.grd (decide ((l4.length+([(⟨((s.getD s3 default).stage:Int),(([((s.getD s3 default).lo:Int),((s.getD s3 default).hi:Int)]).getD s2 0:Int)⟩:Pt)]).length)*16<=140737488355328)) <|
  M.pure (.inl (s2+1,l4++([(⟨((s.getD s3 default).stage:Int),(([((s.getD s3 default).lo:Int),((s.getD s3 default).hi:Int)]).getD s2 0:Int)⟩:Pt)]))))
  else (
  M.pure (.inl (s2+1,l4))))
  else (
  M.pure (.inr (l4,l4)))
def zbW (s:List Gg):(Nat × (List Pt))->M ((Nat × (List Pt)) ⊕ ((List Pt) × (List Pt))):=fun (s3,l6) =>
  bif decide ((s3:Int)<(s.length:Int)) then (
  M.grd (decide ((s3:Int)<(s.length:Int))) <|
  M.bind (M.iter (zaZ s s3) (0,l6)) fun (l2,l5) =>
  M.pure (.inl (s3+1,l5)))
  else (
  M.pure (.inr (l6,l6)))
def za3 (s:List Gg):M (List Pt) :=
  M.bind (M.iter (zbW s) (0,[])) fun (l7,l8) =>
  M.pure l8
theorem zep {R ag aa}(s)(aE:Reads R ag)(am:Sl ag aa s){r}(hM:(za3 s).Ends r)(w)(H:St w w [] R):Ret Tryz.prog 216 #[aa] w fun v w'=>∃ y0 u0,y0=r/\v=u0/\St w w' [cOwn (α:=Pt) 65 u0 y0] R:=by
 refine ret_of_W Tryz.func216 rfl rfl rfl ?_;have aF:=(am).len_le;refine kg 16 ?_;replace H:=H.nilOwn (α:=Pt) 65;obtain ⟨ao,ah,ap⟩:=M.e_bind hM;obtain ⟨aq,ah⟩:=M.e_iter ah;refine W.loop (fun m σ W=>∃ (s3:Nat) (l6:List Pt) (ac:Value) (ρ:Env),σ=upds ρ [(3,ac),(9,aa),(10,I (s.length:Int)),(11,I (s3:Int))]/\M.iterN (zbW s) m (s3,l6)=some ao/\St w W [cOwn (α:=Pt) 65 ac l6] R) ?_ ?_
 ·exact kY
 rintro aG σ aH ⟨s3,l6,ac,ρ,rfl,au,H⟩;obtain ⟨aI,aJ,aK,hM,av⟩:=M.e_iterN au;refine kI 5 ?_ ?_
 ·intro aw hM;obtain ⟨aL,hM⟩:=M.e_gq hM;refine kA 7 ?_;intro ai aM H;refine ksw ?_;intro aN H;refine kL 9 (α:=Int) [(s.getD s3 default).lo,(s.getD s3 default).hi] ?_;intro aj aO H;have aP:=((H.os 0)).len_le;refine kg 4 ?_;obtain ⟨ax,al,ay⟩:=M.e_bind hM;obtain ⟨aq,al⟩:=M.e_iter al;refine W.loop (fun m σ W=>∃ (s2:Nat) (l4:List Pt) (ae:Value) (ρ:Env),σ=upds ρ [(3,ae),(5,Pq ai),(9,aa),(10,I (s.length:Int)),(11,I (s3:Int)),(21,aj),(22,I (([((s.getD s3 default).lo:Int),((s.getD s3 default).hi:Int)]).length:Int)),(23,I (s2:Int))]/\M.iterN (zaZ s s3) m (s2,l4)=some ax/\St w W [cOwn (α:=Int) 3 aj ([((s.getD s3 default).lo:Int),((s.getD s3 default).hi:Int)]),cBlk ai [I ((s.getD s3 default).stage),I ((s.getD s3 default).lo),I ((s.getD s3 default).hi)] 62,cOwn (α:=Pt) 65 ae l4] R) ?_ ?_
  ·exact kY
  rintro aQ σ aR ⟨s2,l4,ae,ρ,rfl,aA,H⟩;obtain ⟨aS,aT,aU,hM,aB⟩:=M.e_iterN aA;refine kI 5 ?_ ?_
  ·intro aC hM;obtain ⟨aV,hM⟩:=M.e_gq hM;refine kA 15 ?_;intro aW aX H;refine ksw ?_;intro aY H;refine kC 5 @zhB ?_;intro aZ r2 hM H;refine kI 2 ?_ ?_
   ·intro aD hM;refine kL 3 (α:=Pt) [⟨(s.getD s3 default).stage,([((s.getD s3 default).lo:Int),((s.getD s3 default).hi:Int)]).getD s2 0⟩] ?_;intro a7 a8 H;obtain ⟨ba,hM⟩:=M.e_gq hM;refine kP 0 ?_;intro bc bg H;refine kg 2 ?_;replace H:=H.pk [2,3,4];exact kX 4
   intro aD hM;exact kXp 5 [1,2,3]
  intro aC hM;refine W.exit ?_;obtain rfl:=M.e_inr hM aB;replace hM:=ay;replace H:=H.pk [2];exact kX 4
 intro aw hM;refine W.exit ?_;obtain rfl:=M.e_inr hM av;replace hM:=ap;refine kg 5 ?_;exact rt

def zaT (p:Pt):M (Int × Int × Int × Int) :=
  bif p.stage==2000 then (
  M.gi (p.stage-1) <|
  M.pure ((p.stage-1),p.flow,p.stage,p.flow))
  else (
  M.gi (p.stage+1) <|
  M.pure (p.stage,p.flow,(p.stage+1),p.flow))
theorem zaU {R}(p){r}(hM:(zaT p).Ends r)(w)(H:St w w [] R):Ret Tryz.prog 215 #[.agg #[I p.stage,I p.flow]] w fun v w'=>∃ y0 y1 y2 y3,(y0,y1,y2,y3)=r/\v = .agg #[I y0,I y1,I y2,I y3]/\St w w' [] R:=by
 refine ret_of_W Tryz.func215 rfl rfl rfl ?_;refine kB 2 ?_;intro ac ae H;refine kal ?_;intro ag ah H;refine kI 8 ?_ ?_
 ·intro aa hM;obtain ⟨ai,hM⟩:=M.e_gq hM;refine kS 10 ?_;intro aj H;exact kR 1 []
 intro aa hM;obtain ⟨al,hM⟩:=M.e_gq hM;refine kS 11 ?_;intro am H;exact kR 1 []

end Go.Proofs.YtaolcidinlnklaaGreat
end
section
set_option maxRecDepth 100000
set_option maxHeartbeats 16000000
namespace Go.Proofs.YtaolcidinlnklaaGreat
open Go Go.Nm
attribute [local irreducible] gd execOp SL SLD SLT WR
def zcf {T_:Type} (aa:T_->RLn->M (Bool × T_)) (r2:List Pt) (s2:Nat):(Nat × T_)->M ((Nat × T_) ⊕ (T_ ⊕ T_)):=fun (s,t3) =>
  bif decide ((s:Int)<(r2.length:Int)) then (
  M.grd (decide ((s:Int)<(r2.length:Int))) <|
  M.bind (zaw (⟨((r2.getD s2 default).stage:Int),((r2.getD s2 default).flow:Int),((r2.getD s default).stage:Int),((r2.getD s default).flow:Int)⟩:RLn)) fun r4 =>
  M.bind (M.opt r4 (aa t3 (⟨((r2.getD s2 default).stage:Int),((r2.getD s2 default).flow:Int),((r2.getD s default).stage:Int),((r2.getD s default).flow:Int)⟩:RLn)) (false,t3)) fun (go2,t2) =>
  bif (r4&&(!go2)) then (
  M.pure (.inr (.inl t2)))
  else (
  M.pure (.inl (s+1,t2))))
  else (
  M.pure (.inr (.inr t3)))
def zcI {T_:Type} (aa:T_->RLn->M (Bool × T_)) (r2:List Pt):(Nat × T_)->M ((Nat × T_) ⊕ (T_ ⊕ T_)):=fun (s2,t6) =>
  bif decide ((s2:Int)<(r2.length:Int)) then (
  M.grd (decide ((s2:Int)<(r2.length:Int))) <|
  M.bind (zaT (r2.getD s2 default)) fun (r0,r1,ac,r3) =>
  M.bind (aa t6 (⟨(r0:Int),(r1:Int),(ac:Int),(r3:Int)⟩:RLn)) fun (go,t) =>
  bif !go then (
  M.pure (.inr (.inl t)))
  else (
  M.bind (M.iter (zcf aa r2 s2) (0,t)) fun x_=>match x_ with
  | (.inl t4)=>(
  M.pure (.inr (.inl t4)))
  | (.inr t5)=>(
  M.pure (.inl (s2+1,t5)))))
  else (
  M.pure (.inr (.inr t6)))
def zba {T_:Type} (aa:T_->RLn->M (Bool × T_)) (t_:T_) (ac:List Gg):M T_ :=
  M.bind (za3 ac) fun r2 =>
  M.bind (M.iter (zcI aa r2) (0,t_)) fun x_=>match x_ with
  | (.inl t7)=>(
  M.pure t7)
  | (.inr t8)=>(
  M.pure t8)
theorem zgM {R:List Chunk} {T_:Type} {Y_:T_->List Chunk->Prop} {ac:Value} {aj:List Chunk} {aq:Nat} {au:Cells} {av:Value} (ag:T_->RLn->M (Bool × T_)) (t_:T_) (aw:List Gg) (ax:YieldC Tryz.prog R arRLn Y_ ac ag) (aF:Y_ t_ aj) (aX:Reads R au) (aY:Sl au av aw) (aZ:Has R (cBlk aq [av] 293)) {r:T_} (hM:(zba ag t_ aw).Ends r) (w:World) (H:St w w [cAll aj] R):Ret Tryz.prog 239 #[ac,Pq aq] w fun v w'=>∃ (y0:T_) (Ls0:List Chunk),y0=r/\v = .tuple #[]/\St w w' [cAll Ls0] R/\Y_ y0 Ls0:=by
 refine ret_of_W Tryz.func239 rfl rfl rfl ?_;refine kC 3 @zep ?_;intro a7 r2 aa hM H;have a8:=((H.os 0)).len_le;refine kg 9 ?_;obtain ⟨aG,al,am⟩:=M.e_bind hM;obtain ⟨aH,al⟩:=M.e_iter al;refine W.loop (fun m σ W=>∃ (s2:Nat) (t6:T_) (Ls_t6:List Chunk) (ρ:Env),σ=upds ρ [(0,ac),(3,aa),(11,aa),(12,I (r2.length:Int)),(13,I (s2:Int))]/\M.iterN (zcI ag r2) m (s2,t6)=some aG/\St w W [cOwn (α:=Pt) 65 aa r2,cAll Ls_t6] R/\Y_ t6 Ls_t6) ?_ ?_
 ·exact ⟨_,0,t_,aj,_,jQ,al,H,aF⟩
 rintro ba σ bc ⟨s2,t6,Ls_t6,ρ,rfl,aI,H,hY_t6⟩;obtain ⟨aJ,aK,bg,hM,ah⟩:=M.e_iterN aI;refine kI 5 ?_ ?_
 ·intro aL hM;obtain ⟨bi,hM⟩:=M.e_gq hM;refine kA 7 ?_;intro ai bj H;refine ksw ?_;intro bm H;refine kC 6 @zaU ?_;intro bn r0 r1 ay r3 hM H;obtain ⟨⟨go,t⟩,aM,hM⟩:=M.e_bind hM;refine t_yield (L:=[cBlk ai [I ((r2.getD s2 default).stage),I ((r2.getD s2 default).flow)] 65,cOwn (α:=Pt) 65 aa r2]) (H.pk [2,0,1]) ax hY_t6 rfl [.agg #[I r0,I r1,I ay,I r3]] rfl (⟨(r0:Int),(r1:Int),(ay:Int),(r3:Int)⟩:RLn) Reads.none rfl aM ?_;intro aA bp aB H;replace H:=H.nf;refine kI 2 ?_ ?_
  ·intro aN hM;refine W.ret ?_;obtain rfl:=M.e_inr hM ah;replace hM:=am;have ae:=M.e_pure hM;exact ⟨_,resE_tmp0 rfl,⟨t,aA,ae,rfl,(H.pk [0]),aB⟩⟩
  intro aN hM;have br:=((H.os 2)).len_le;refine kg 8 ?_;obtain ⟨aO,ao,aC⟩:=M.e_bind hM;obtain ⟨aH,ao⟩:=M.e_iter ao;refine W.loop (fun m σ W=>∃ (s:Nat) (t3:T_) (Ls_t3:List Chunk) (ρ:Env),σ=upds ρ [(0,ac),(3,aa),(5,Pq ai),(11,aa),(12,I (r2.length:Int)),(13,I (s2:Int)),(22,aa),(23,I (r2.length:Int)),(24,I (s:Int))]/\M.iterN (zcf ag r2 s2) m (s,t3)=some aO/\St w W [cAll Ls_t3,cBlk ai [I ((r2.getD s2 default).stage),I ((r2.getD s2 default).flow)] 65,cOwn (α:=Pt) 65 aa r2] R/\Y_ t3 Ls_t3) ?_ ?_
  ·exact ⟨_,0,t,aA,_,jQ,ao,H,aB⟩
  rintro bt σ bu ⟨s,t3,Ls_t3,ρ,rfl,aP,H,hY_t3⟩;obtain ⟨aQ,aR,bv,hM,ap⟩:=M.e_iterN aP;refine kI 5 ?_ ?_
  ·intro aS hM;obtain ⟨bw,hM⟩:=M.e_gq hM;refine kA 7 ?_;intro aT bx H;refine ksw ?_;intro bz H;refine kA 6 ?_;intro aU bA H;refine ksw ?_;intro bB H;refine kC 4 @zdt ?_;intro bC r4 hM H;refine kg 3 ?_;obtain ⟨⟨go2,t2⟩,aV,hM⟩:=M.e_bind hM;refine t_gyield (L:=[cBlk aU [I ((r2.getD s2 default).stage),I ((r2.getD s2 default).flow),I ((r2.getD s default).stage),I ((r2.getD s default).flow)] 67,cBlk aT [I ((r2.getD s default).stage),I ((r2.getD s default).flow)] 65,cBlk ai [I ((r2.getD s2 default).stage),I ((r2.getD s2 default).flow)] 65,cOwn (α:=Pt) 65 aa r2]) r4 (gy_t rfl) (H.pk [2,0,1,3,4]) ax hY_t3 (fun hg=>(gd_of hg (ac))) [.agg #[I ((r2.getD s2 default).stage),I ((r2.getD s2 default).flow),I ((r2.getD s default).stage),I ((r2.getD s default).flow)]] (fun hg=>lst1 (gd_of hg (.agg #[I ((r2.getD s2 default).stage),I ((r2.getD s2 default).flow),I ((r2.getD s default).stage),I ((r2.getD s default).flow)]))) (⟨((r2.getD s2 default).stage:Int),((r2.getD s2 default).flow:Int),((r2.getD s default).stage:Int),((r2.getD s default).flow:Int)⟩:RLn) Reads.none rfl aV ?_;intro aD bD aE H;replace H:=H.nf;refine kg 3 ?_;replace H:=H.pk [0,3,4];refine kI 0 ?_ ?_
   ·intro aW hM;refine W.ret ?_;obtain rfl:=M.e_inr hM ap;replace hM:=aC;obtain rfl:=M.e_inr hM ah;replace hM:=am;have ae:=M.e_pure hM;exact ⟨_,resE_tmp0 rfl,⟨t2,aD,ae,rfl,(H.pk [0]),aE⟩⟩
   intro aW hM;refine kg 5 ?_;exact ⟨aQ,aR,s+1,t2,aD,_,jQ,M.e_inl hM ap,H,aE⟩
  intro aS hM;refine W.exit ?_;obtain rfl:=M.e_inr hM ap;replace hM:=aC;refine kg 4 ?_;exact ⟨aJ,aK,s2+1,t3,Ls_t3,_,jQ,M.e_inl hM ah,(H.pk [2,0]),hY_t3⟩
 intro aL hM;refine W.exit ?_;obtain rfl:=M.e_inr hM ah;replace hM:=am;have ae:=M.e_pure hM;exact ⟨_,resE_tmp0 rfl,⟨t6,Ls_t6,ae,rfl,(H.pk [1]),hY_t6⟩⟩
def zdl (x:Gg) (aa:RLn):M Bool :=
  M.bind (zaY aa x) fun r2 =>
  M.pure (!r2)
theorem zgD {R ac}(x aa)(ah:Has R (cBlk ac [.func (.func 47) #[.agg #[I aa.ast,I aa.afl,I aa.bst,I aa.bfl]] #[]] 153)){r}(hM:(zdl x aa).Ends r)(w)(H:St w w [] R):Ret Tryz.prog 160 #[.agg #[I x.stage,I x.lo,I x.hi],Pq ac] w fun v w'=>∃ y0,y0=r/\v=B y0/\St w w' [] R:=by
 refine ret_of_W Tryz.func160 rfl rfl rfl ?_;refine kB 2 ?_;intro ai aj H;refine kg 6 ?_;obtain ⟨al,ae,hM⟩:=M.e_bind hM;refine s_callm (f:=47) (fs:=[.agg #[I aa.ast,I aa.afl,I aa.bst,I aa.bfl]]) rfl cq [.agg #[I x.stage,I x.lo,I x.hi]] rfl (zfJ aa x ae _ (H.gt 1)) ?_;rintro _ am ⟨r2,rfl,rfl,ag⟩;replace H:=H.bk ag;refine kg 3 ?_;exact rt

def zdH (l:List Gg) (aa:RLn):M Bool :=
  M.bind (zbq l (fun ac=>zdl ac aa)) fun r2 =>
  M.pure (!r2)
theorem zhH {R ah ac}(l aa)(aj:Reads R ah)(al:Sl ah ac l){r}(hM:(zdH l aa).Ends r)(w)(H:St w w [] R):Ret Tryz.prog 88 #[ac,.func (.func 47) #[.agg #[I aa.ast,I aa.afl,I aa.bst,I aa.bfl]] #[]] w fun v w'=>∃ y0,y0=r/\v=B y0/\St w w' [] R:=by
 refine ret_of_W Tryz.func88 rfl rfl rfl ?_;refine kB 2 ?_;intro ae aA H;refine kg 5 ?_;refine s_val (x_mf (fs:=[]) (cs:=[Pq ae]) rfl rfl) ?_;obtain ⟨aB,am,hM⟩:=M.e_bind hM;refine s_call cq [ac,.func (.func 160) #[] #[Pq ae]] rfl (zfi l (fun ag=>zdl ag aa) (aj.app _) al ⟨160,[Pq ae],rfl,cq,fun ai aC aD ao ag aE ap aF aq au=>by obtain rfl:=Gg_arg aq; exact (zgD ag aa (Has.app (Has.here (k:=0) rfl) _) au ai (St.refl ap)).mono fun ao ai ⟨aG,av,aw,ax⟩=>by subst av; exact ⟨aw,ax⟩⟩ am _ (H.gt 1)) ?_;rintro _ aH ⟨r2,rfl,rfl,ay⟩;replace H:=H.bk ay;refine kg 3 ?_;exact rt

def zbG (s:List Gg) (x:RLn):M Bool :=
  M.bind (zdH s x) fun r2 =>
  M.pure r2
theorem zdU {R aa ac}(s x)(ae:Reads R aa)(ag:Sl aa ac s){r}(hM:(zbG s x).Ends r)(w)(H:St w w [] R):Ret Tryz.prog 214 #[ac,.agg #[I x.ast,I x.afl,I x.bst,I x.bfl]] w fun v w'=>∃ y0,y0=r/\v=B y0/\St w w' [] R:=by
 refine ret_of_W Tryz.func214 rfl rfl rfl ?_;refine kB 2 ?_;intro ah ai H;refine kg 6 ?_;refine s_val (x_mf (fs:=[.agg #[I x.ast,I x.afl,I x.bst,I x.bfl]]) (cs:=[]) rfl rfl) ?_;refine kC 0 @zhH ?_;intro aj r2 hM H;refine kg 2 ?_;exact rt

def zej (s:List RLn):M (List RLn) :=
  M.grd (decide (0<s.length)) <|
  M.grd (decide ((([]:List RLn).length+s.length)*32<=140737488355328)) <|
  M.pure s
theorem zfR {R aa ac}(s)(ah:Reads R aa)(ag:Sl aa ac s){r}(hM:(zej s).Ends r)(w)(H:St w w [] R):Ret Tryz.prog 217 #[ac] w fun v w'=>∃ y0 u0,y0=r/\v=u0/\St w w' [cOwn (α:=RLn) 67 u0 y0] R:=by
 refine ret_of_W Tryz.func217 rfl rfl rfl ?_;obtain ⟨ai,hM⟩:=M.e_gq hM;refine kg 8 ?_;refine s_val (x_eqnilp (α:=RLn) T68.h.und rfl rfl ag (by omega))<|s_nil ?_
 refine W.cond false rfl (fun ae=>?_) (fun ae=>?_)
 ·exact absurd ae (by decide)
 refine kg 3 ?_;refine t_bs0 (α:=RLn) T68.h H ?_;intro aj al H;obtain ⟨am,hM⟩:=M.e_gq hM;refine kP 1 ?_;intro ao ap H;refine kg 2 ?_;exact rt

def zan (r2:List Gg):(List RLn)->RLn->M ((List RLn) ⊕ Unit):=fun l x =>
  M.bind (zbG r2 x) fun r3 =>
  bif r3 then (
  M.grd (decide ((l.length+([x]).length)*32<=140737488355328)) <|
  M.pure (.inl (l++([x]))))
  else (
  M.pure (.inl l))
/-- The lines of a part that are kept: what the rounds of `lines` find. -/
def zah (g_:List Gg) (b_:List Int) (at_:Int):M (List RLn) :=
  M.bind (zbi g_ b_ at_) fun r2 =>
  M.bind (zb9 r2) fun (_:Unit) =>
  M.bind (zba (M.yl (zan r2)) (.inl ([])) r2) fun x_=>match x_ with
  | .inl l=>M.pure l
  | .inr _=>M.fail
def zbv (stage:Int) (r4:List Pt):((List RLn) × Nat)->M (((List RLn) × Nat) ⊕ ((List RLn) × (List RLn))):=fun (l2,s) =>
  bif decide ((s:Int)<(r4.length:Int)) then (
  M.grd (decide ((s:Int)<(r4.length:Int))) <|
  M.grd (decide ((l2.length+([(⟨(stage:Int),(0:Int),((r4.getD s default).stage:Int),((r4.getD s default).flow:Int)⟩:RLn),(⟨((r4.getD s default).stage:Int),((r4.getD s default).flow:Int),(stage:Int),(200000:Int)⟩:RLn)]).length)*32<=140737488355328)) <|
  M.pure (.inl (l2++([(⟨(stage:Int),(0:Int),((r4.getD s default).stage:Int),((r4.getD s default).flow:Int)⟩:RLn),(⟨((r4.getD s default).stage:Int),((r4.getD s default).flow:Int),(stage:Int),(200000:Int)⟩:RLn)]),s+1)))
  else (
  M.pure (.inr (l2,l2)))
def zbI (r2:List Gg) (l4:List RLn):((List RLn) × Nat)->M (((List RLn) × Nat) ⊕ ((List RLn) × (List RLn))):=fun (l5,s2) =>
  bif decide ((s2:Int)<(l4.length:Int)) then (
  M.grd (decide ((s2:Int)<(l4.length:Int))) <|
  M.bind (zaw (l4.getD s2 default)) fun r6 =>
  M.bind (M.opt r6 (zbG r2 (l4.getD s2 default)) false) fun r7 =>
  bif (r6&&r7) then (
  M.grd (decide ((l5.length+([(l4.getD s2 default)]).length)*32<=140737488355328)) <|
  M.pure (.inl (l5++([(l4.getD s2 default)]),s2+1)))
  else (
  M.pure (.inl (l5,s2+1))))
  else (
  M.pure (.inr (l5,l5)))
def zaN (aa:List Gg) (ac:List Int) (at_ stage:Int):M (List RLn) :=
  M.bind (zbi aa ac at_) fun r2 =>
  M.bind (zb9 r2) fun (_:Unit) =>
  M.bind (zba (M.yl (zan r2)) (.inl ([])) r2) fun x_=>match x_ with
  | .inl l=>(
  bif ((decide (0<(r2.length:Int)))&&((l.length:Int)==0)) then (
  M.pure ([]))
  else (
  M.bind (zaT (⟨(stage:Int),(0:Int)⟩:Pt)) fun (r0,r1,ae,ag) =>
  M.bind (zaT (⟨(stage:Int),(200000:Int)⟩:Pt)) fun (ah,ai,aj,al) =>
  M.bind (za3 r2) fun r4 =>
  M.bind (M.iter (zbv stage r4) ([(⟨(r0:Int),(r1:Int),(ae:Int),(ag:Int)⟩:RLn),(⟨(ah:Int),(ai:Int),(aj:Int),(al:Int)⟩:RLn)],0)) fun (l3,l4) =>
  M.bind (zej l) fun r5 =>
  M.bind (M.iter (zbI r2 l4) (r5,0)) fun (l6,l7) =>
  M.pure l7))
  | .inr _=>M.fail
theorem zeW {R aH bn bp br bt ah ai}(al am at_ stage)(aI:Reads R bn)(aP:Sl bn bp al)(aJ:Reads R br)(aQ:Sl br bt am)(aK:Has R (cBlk aH [bp,bt,.map (some ah)] 298)){r}(hM:(zaN al am at_ stage).Ends r)(w)(H:St w w [cMem I ah ai (zah al am)] R):Ret Tryz.prog 166 #[Pq aH,I at_,I stage] w fun v w'=>∃ y0 u0 bO,y0=r/\v=u0/\St w w' [cOwn (α:=RLn) 67 u0 y0,cMem I ah bO (zah al am)] R:=by
 refine ret_of_WD Tryz.func166 rfl rfl rfl ?_;replace H:St w w [cMk ([]),cMem I ah ai (zah al am)] R:=H.mk0;have cI:=aP.len_le;have cJ:=aQ.len_le;unfold zaN at hM;have hM0:=hM;obtain ⟨aq,H,aR⟩:=St.memOpen H (i:=1) rfl;replace H:=H.nf;cases aS:aq at_ with
 | none =>
  refine WD.seq<|WD.of ?_;refine kg 3 ?_;refine WD.seq<|WD.of ?_;refine kg 3 ?_;obtain ⟨cK,bu,hM⟩:=M.e_bind hM;refine s_call cq [Pq aH,I at_] rfl (zfv al am at_ (aI.app _) aP (aJ.app _) aQ (aK.app _) bu _ (H.gt 3)) ?_
  rintro vq cL ⟨r2,aa,rfl,hvq,aj⟩;subst vq;replace H:=H.bk aj;refine kal ?_;intro ag cM H;refine kS 0 ?_;intro cN H;refine s_nil<|WD.seq<|WD.of ?_;refine kg 6 ?_;refine s_val (q_look (kenc:=I) (venc:=id) (f:=aq) (k:=(at_:Int)) (z:=.slice none 0 0) (v:=.tuple #[.slice none 0 0,B false]) keyIntV Tryz.underlying296 (by kernel_rfl) rfl rfl (H.get (k:=2) rfl) true (by simp [aS])) ?_;refine kA 3 ?_;intro ae cO H;refine ksw ?_;intro cQ H;refine kg 2 ?_;refine WD.seq<|WD.seq<|WD.of ?_;refine kg 4 ?_
  refine WD.cond (!false) rfl (fun bv=>?_) (fun bv=>?_)
  ·refine WD.seq<|WD.seq<|WD.of ?_;refine kg 2 ?_;obtain ⟨cS,bw,hM⟩:=M.e_bind hM;refine s_call cq [aa] rfl (zgW r2 (rdo 2) (H.os 2) bw _ (H.gt 6)) ?_
   rintro _ cT ⟨aw,rfl,rfl,aj⟩;replace H:=H.bk aj;refine s_nil<|WD.block ?_
   replace H:=H.nilOwn (α:=RLn) 67;obtain ⟨cU,bx,hM⟩:=M.e_bind hM;refine WD.range (L:=[cOwn (α:=RLn) 67 (.slice none 0 0) ([]),cBlk ae [(.slice none 0 0)] 68,cBlk aw [aa] 293,cBlk ag [aa] 293,cOwn (α:=Gg) 62 aa r2,cMap I id ah aq,cRx ai]) [Pq aw] (H.pk [7,0,2,1,3,4,5,6]) rfl cq ?_;intro aL aM aT bP aU H;have hYC:YieldC Tryz.prog ([cMk (aM :: ([])),cBlk aw [aa] 293,cBlk ag [aa] 293,cOwn (α:=Gg) 62 aa r2,cMap I id ah aq,cRx ai]++R) arRLn (yJ aL aT (fun l aN=>∃ (ac:Value),aN=[cOwn (α:=RLn) 67 ac l,cBlk ae [ac] 68]) (fun (_:Unit) _=>False) (fun _=>.ret)) (.func (.yield aL) #[] #[]) (M.yl (zan r2)):=by
    refine YieldC.mk2 aU (fun l aN=>∃ (ac:Value),aN=[cOwn (α:=RLn) 67 ac l,cBlk ae [ac] 68]) (fun (_:Unit) _=>False) (fun _=>.ret) (zan r2) (by rintro l _ h_; obtain ⟨_,rfl⟩:=h_; rfl) (fun _ _ h_=>h_.elim) rfl (arRLn_len rfl) ?_;intro C_ cV x bQ;obtain rfl:=bQ;intro w R aC aN s_ r bR hM H
    skip
    obtain ⟨l,bS⟩:∃ y_,y_=s_:=⟨_,rfl⟩
    subst bS;obtain ⟨ac,rfl⟩:=bR;replace H:=H.nf;refine kA 1 ?_;intro bT cW H;refine ksw ?_;intro cX H;refine s_nil ?_;refine ⟨rfl,[cBlk bT [I x.ast,I x.afl,I x.bst,I x.bfl] 67],H.pick [0,1,2,3,4,5,6,7,8] (by decide) rfl,?_⟩;clear H aC;intro w R aC H;replace aI:=aI.sub aC;replace aJ:=aJ.sub aC;replace aK:=aK.sub aC;replace hM:(zan r2 l x).Ends r:=hM;simp only [zan] at hM;replace H:=H.nf;refine kC 5 @zdU ?_;intro cY r3 hM H;refine kI 1 ?_ ?_
    ·intro bU hM;refine kL 3 (α:=RLn) [x] ?_;intro cZ c8 H;obtain ⟨c9,hM⟩:=M.e_gq hM;refine kP 0 ?_;intro aV da H;refine kS 0 ?_;intro db H;refine s_nil ?_;exact ⟨l++([x]),[cOwn (α:=RLn) 67 aV (l++([x])),cBlk ae [aV] 68],(M.e_pure hM).symm,⟨aV,rfl⟩,H.pick [2,3,4,5,6,7,8,9] (by decide) rfl⟩
    intro bU hM;refine W.skip ?_;exact ⟨l,[cOwn (α:=RLn) 67 ac l,cBlk ae [ac] 68],(M.e_pure hM).symm,⟨ac,rfl⟩,H.pick [1,2,3,4,5,6,7,8] (by decide) rfl⟩
   replace H:St w bP (cAll (cObj aL (.loop aT) :: [cOwn (α:=RLn) 67 (.slice none 0 0) ([]),cBlk ae [(.slice none 0 0)] 68]) :: [cMk (aM :: ([])),cBlk aw [aa] 293,cBlk ag [aa] 293,cOwn (α:=Gg) 62 aa r2,cMap I id ah aq,cRx ai]) R:=St.bundleB (A:=cObj aL (.loop aT) :: [cOwn (α:=RLn) 67 (.slice none 0 0) ([]),cBlk ae [(.slice none 0 0)] 68]) (T:=[cMk (aM :: ([])),cBlk aw [aa] 293,cBlk ag [aa] 293,cOwn (α:=Gg) 62 aa r2,cMap I id ah aq,cRx ai]) rfl (H.pk [0,2,3,1,4,5,6,7,8]);refine (zgM (M.yl (zan r2)) (.inl ([])) r2 hYC ⟨_,rfl,⟨(.slice none 0 0),rfl⟩⟩ (rdo 3) (H.os 4) (Has.here (k:=1) rfl) bx _ (H.gt 6)).mono ?_;rintro vq dc ⟨bV,dg,rfl,hvq,aj,bz⟩;replace H:=H.back aj rfl;clear aj hYC;rcases bV with l | _
   ·obtain ⟨_,rfl,ac,rfl⟩:=bz;refine ⟨_,[cOwn (α:=RLn) 67 ac l,cBlk ae [ac] 68,cBlk aw [aa] 293,cBlk ag [aa] 293,cOwn (α:=Gg) 62 aa r2,cMap I id ah aq,cRx ai],H.unbundle.pick [0,3,1,2,4,5,6,7,8] (by decide) rfl,aU.nb,?_⟩;intro dh H;rw [aU.pd];replace H:=H.nf
    try simp only []
    refine WD.of ?_;refine kD 0 [0,1,2,3,4,5,7] [6] ?_;intro di H;refine kG 7 ?_;refine t_mapu (i:=6) (kenc:=I) (venc:=id) (f:=aq) (k:=(at_:Int)) (v:=ac) (L':=[cMk (aM :: ([])),cOwn (α:=RLn) 67 ac l,cBlk ae [ac] 68,cBlk aw [aa] 293,cBlk ag [aa] 293,cOwn (α:=Gg) 62 aa r2,cMap I id ah (updF aq (at_:Int) ac),cRx ai]) keyIntV Tryz.underlying296 H rfl rfl rfl rfl rfl ?_;intro dj H;refine kN ?_;refine d_nil ?_;obtain ⟨aO,dk,bW,H⟩:=St.memShut1 (H.pk [6,7,1,0,2,3,4,5]) aR (M.i_bind bu (M.i_bind bw (M.i_bind bx M.i_pure)));replace H:=H.nf;refine WD.seq<|WD.seq<|WD.of ?_
    have dm:=((H.os 5)).len_le;refine kg 10 ?_;refine WD.cond ((decide (0<(r2.length:Int)))&&((l.length:Int)==0)) rfl (fun aW=>?_) (fun aW=>?_)
    ·replace hM:=M.e_t hM aW;refine WD.seq<|WD.of ?_;refine kg 3 ?_;replace H:=H.pk [0,1];refine WD.of ?_;refine W.ret ?_;refine bodyD_r (H.pk [1,0]) ?_;intro dq H;replace H:=H.nf
     have ao:=M.e_pure hM;replace H:=H.nilOwn (α:=RLn) 67;exact ⟨_,resE_tmp rfl,⟨([]),(.slice none 0 0),aO,ao,rfl,H⟩⟩
    replace hM:=M.e_f hM aW;refine WD.of<|W.skip<|WD.seq<|WD.of ?_;refine kA 5 ?_;intro aD dr H;refine kal ?_;intro aE dt H;refine ksw ?_;intro dv H;refine ksw ?_;intro dw H;refine s_nil<|WD.seq<|WD.of ?_;refine kDo 0 [0,1,2,3,4,5,6,7] [(0,true),(2,true),(1,false),(3,false),(4,false),(5,true)] ?_;intro dx H;refine kC 3 @zaU ?_;intro dy r0 r1 aX aY hM H;refine kN ?_;refine kC 1 @zaU ?_;intro dz aZ a7 a8 ba hM H;refine kN ?_;refine kL 1 (α:=RLn) [⟨r0,r1,aX,aY⟩,⟨aZ,a7,a8,ba⟩] ?_;intro dA dB H;refine kN ?_;refine kg 2 ?_;refine WD.seq<|WD.seq<|WD.of ?_;refine kC 2 @zep ?_;intro dC r4 aF hM H
    have dD:=((H.os 0)).len_le;refine kg 3 ?_;refine WD.block ?_;obtain ⟨bX,bA,bY⟩:=M.e_bind hM;obtain ⟨bc,bA⟩:=M.e_iter bA;refine WD.loop (fun m bB σ W=>∃ (l2:List RLn) (s:Nat) (ap:Value) (ρ:Env),σ=upds ρ [(7,Pq ag),(8,Pq ae),(11,Pq aD),(12,Pq aE),(13,ap),(67,aF),(68,I (r4.length:Int)),(69,I (s:Int))]/\M.iterN (zbv stage r4) m (l2,s)=some bX/\St w W [cOwn (α:=Pt) 65 aF r4,cOwn (α:=RLn) 67 ap l2,cBlk aE [I stage,I 200000] 65,cBlk aD [I stage,I 0] 65,cMem I ah aO (zah al am),cMk bB,cBlk ae [ac] 68,cBlk aw [aa] 293,cBlk ag [aa] 293,cOwn (α:=Gg) 62 aa r2] R) ?_ ?_
    ·exact kY
    rintro dE bB σ dF ⟨l2,s,ap,ρ,rfl,bZ,H⟩;obtain ⟨dG,dH,dJ,hM,b7⟩:=M.e_iterN bZ;refine WD.seq<|WD.of ?_;refine kg 3 ?_;refine WD.seq ?_
    refine WD.cond (decide ((s:Int)<(r4.length:Int))) rfl (fun ax=>?_) (fun ax=>?_)
    ·replace hM:=M.e_t hM ax;replace ax:=dI ax;refine WD.of<|W.skip<|WD.seq<|WD.block<|WD.seq<|WD.of ?_;obtain ⟨dK,hM⟩:=M.e_gq hM;refine kA 3 ?_;intro b8 dL H;refine ksw ?_;intro dM H;refine s_nil<|WD.of ?_;refine kL 8 (α:=RLn) [⟨stage,0,(r4.getD s default).stage,(r4.getD s default).flow⟩,⟨(r4.getD s default).stage,(r4.getD s default).flow,stage,200000⟩] ?_;intro dN dO H;obtain ⟨dP,hM⟩:=M.e_gq hM;refine kP 0 ?_;intro dQ dR H;refine kg 2 ?_;replace H:=H.pk [2,3,4,5,6,7,8,9,10,11];refine WD.of ?_
     exact kX 4
    replace hM:=M.e_f hM ax;replace ax:=dI ax;refine WD.of ?_;refine W.exit ?_;obtain rfl:=M.e_inr hM b7;replace hM:=bY;replace H:=H.pk [1,4,5,6,8,9];refine WD.seq<|WD.of ?_;refine kg 2 ?_;obtain ⟨dS,b9,hM⟩:=M.e_bind hM;refine s_call cq [ac] rfl (zfR l (Reads.of (k:=1) rfl memLe) bW b9 _ (H.gt 6)) ?_
    rintro vq dU ⟨r5,cb,rfl,hvq,aj⟩;subst vq;replace H:=H.bk aj;refine kg 2 ?_;refine WD.seq<|WD.seq<|WD.of ?_
    have dV:=((H.os 1)).len_le;refine kg 5 ?_;refine WD.block ?_;obtain ⟨cc,bC,ce⟩:=M.e_bind hM;obtain ⟨bc,bC⟩:=M.e_iter bC;refine WD.loop (fun m bD σ W=>∃ (l5:List RLn) (s2:Nat) (av:Value) (ρ:Env),σ=upds ρ [(7,Pq ag),(16,av),(85,ap),(86,I (l2.length:Int)),(87,I (s2:Int))]/\M.iterN (zbI r2 l2) m (l5,s2)=some cc/\St w W [cOwn (α:=RLn) 67 av l5,cOwn (α:=RLn) 67 ap l2,cMem I ah aO (zah al am),cMk bD,cBlk ae [ac] 68,cBlk ag [aa] 293,cOwn (α:=Gg) 62 aa r2] R) ?_ ?_
    ·exact kY
    rintro dW bD σ dX ⟨l5,s2,av,ρ,rfl,cf,H⟩;obtain ⟨dY,dZ,d6,hM,cg⟩:=M.e_iterN cf;refine WD.seq<|WD.of ?_;refine kg 3 ?_;refine WD.seq ?_
    refine WD.cond (decide ((s2:Int)<(l2.length:Int))) rfl (fun ay=>?_) (fun ay=>?_)
    ·replace hM:=M.e_t hM ay;replace ay:=dI ay;refine WD.of<|W.skip<|WD.seq<|WD.block<|WD.seq<|WD.of ?_;obtain ⟨d7,hM⟩:=M.e_gq hM;refine kA 3 ?_;intro ch d8 H;refine ksw ?_;intro d9 H;refine s_nil<|WD.seq<|WD.of ?_;refine kC 2 @zdt ?_;intro ee r6 hM H;refine kg 3 ?_;obtain ⟨r7,cj,hM⟩:=M.e_bind hM;refine t_gcall r6 (gy_t rfl) cq (B r7) (fun _=>[aa,.agg #[I ((l2.getD s2 default).ast),I ((l2.getD s2 default).afl),I ((l2.getD s2 default).bst),I ((l2.getD s2 default).bfl)]]) (fun hg=>lst2 (gd_of hg (aa)) (gd_of hg (.agg #[I ((l2.getD s2 default).ast),I ((l2.getD s2 default).afl),I ((l2.getD s2 default).bst),I ((l2.getD s2 default).bfl)]))) H (fun hg=>(zdU r2 (l2.getD s2 default) (rdo 7) (H.os 7) (M.e_opt cj hg) _ (H.give (A:=[]) rfl)).mono fun v_ w_ ⟨y_,ao,bg,H_⟩=>by subst ao; exact ⟨bg,H.via H_⟩) ?_;intro ef H;refine kg 2 ?_
     refine WD.cond (r6&&r7) rfl (fun bi=>?_) (fun bi=>?_)
     ·replace hM:=M.e_t hM bi;refine WD.of ?_;refine kL 3 (α:=RLn) [(l2.getD s2 default)] ?_;intro eg ei H;obtain ⟨ej,hM⟩:=M.e_gq hM;refine kP 0 ?_;intro eo ep H;refine kg 2 ?_;replace H:=H.pk [2,3,4,5,6,7,8];refine WD.of ?_;exact kX 4
     replace hM:=M.e_f hM bi;refine WD.of<|W.skip<|WD.of ?_
     exact kXp 4 [1,2,3,4,5,6,7]
    replace hM:=M.e_f hM ay;replace ay:=dI ay;refine WD.of ?_;refine W.exit ?_;obtain rfl:=M.e_inr hM cg;replace hM:=ce;replace H:=H.pk [0,2,3];refine WD.seq<|WD.of ?_;refine kg 4 ?_;refine WD.of ?_;refine W.ret ?_;refine bodyD_r (H.pk [2,0,1]) ?_;intro er H;replace H:=H.nf
    have ao:=M.e_pure hM;exact ⟨_,resE_tmp rfl,⟨l5,av,aO,ao,rfl,H⟩⟩
   obtain ⟨_,_,h_⟩:=bz; exact h_.elim
  exact absurd bv (by decide)
 | some aG =>
  obtain ⟨bE,au,ck⟩:=aR at_ aG aS;refine WD.seq<|WD.of ?_;refine kg 3 ?_;refine WD.seq<|WD.of ?_;refine kg 3 ?_;obtain ⟨eu,bF,hM⟩:=M.e_bind hM;refine s_call cq [Pq aH,I at_] rfl (zfv al am at_ (aI.app _) aP (aJ.app _) aQ (aK.app _) bF _ (H.gt 3)) ?_
  rintro vq ew ⟨r2,aa,rfl,hvq,aj⟩;subst vq;replace H:=H.bk aj;refine kal ?_;intro ag ey H;refine kS 0 ?_;intro eA H;refine s_nil<|WD.seq<|WD.of ?_;refine kg 6 ?_;refine s_val (q_look (kenc:=I) (venc:=id) (f:=aq) (k:=(at_:Int)) (z:=.slice none 0 0) (v:=.tuple #[aG,B true]) keyIntV Tryz.underlying296 (by kernel_rfl) rfl rfl (H.get (k:=2) rfl) true (by simp [aS])) ?_
  replace H:=St.memShut (H.pk [2,3,0,1,4]) aR;replace H:=H.nf;obtain ⟨eB,bG,au⟩:=M.e_bind au;rw [M.Ends.det bG bF] at au;obtain ⟨_,cn,au⟩:=M.e_bind au;obtain ⟨_,cp,hM⟩:=M.e_bind hM;obtain ⟨eC,cr,au⟩:=M.e_bind au;obtain ⟨ct,bH,hM⟩:=M.e_bind hM;rw [M.Ends.det cr bH] at au;obtain l_ | _:=ct
  rotate_left
  ·exact (M.e_fail au).elim
  rw [M.e_pure au] at hM;clear bG cn cp bH;refine kA 3 ?_;intro ae eD H;refine kS 0 ?_;intro eE H;refine kg 2 ?_;refine WD.seq<|WD.seq<|WD.of ?_;refine kg 4 ?_
  refine WD.cond (!true) rfl (fun bI=>?_) (fun bI=>?_)
  ·exact absurd bI (by decide)
  refine WD.of<|W.skip<|WD.seq<|WD.seq<|WD.of ?_
  have eF:=((H.os 3)).len_le;refine kg 10 ?_;refine WD.cond ((decide (0<(r2.length:Int)))&&((bE.length:Int)==0)) rfl (fun bj=>?_) (fun bj=>?_)
  ·replace hM:=M.e_t hM bj;refine WD.seq<|WD.of ?_;refine kg 3 ?_;replace H:=H.pk [1,4];refine WD.of ?_;refine W.ret ?_;refine bodyD_r (H.pk [1,0]) ?_;intro eG H;replace H:=H.nf
   have ao:=M.e_pure hM;replace H:=H.nilOwn (α:=RLn) 67;exact ⟨_,resE_tmp rfl,⟨([]),(.slice none 0 0),ai,ao,rfl,H⟩⟩
  replace hM:=M.e_f hM bj;refine WD.of<|W.skip<|WD.seq<|WD.of ?_;refine kA 5 ?_;intro aD eH H;refine kal ?_;intro aE eI H;refine ksw ?_;intro eJ H;refine ksw ?_;intro eK H;refine s_nil<|WD.seq<|WD.of ?_;refine kDo 0 [0,1,2,3,4,5,6] [(0,true),(2,true),(1,false),(3,false),(4,false),(5,true)] ?_;intro eL H;refine kC 3 @zaU ?_;intro eM r0 r1 aX aY hM H;refine kN ?_;refine kC 1 @zaU ?_;intro eN aZ a7 a8 ba hM H;refine kN ?_;refine kL 1 (α:=RLn) [⟨r0,r1,aX,aY⟩,⟨aZ,a7,a8,ba⟩] ?_;intro eO eP H;refine kN ?_;refine kg 2 ?_;refine WD.seq<|WD.seq<|WD.of ?_;refine kC 2 @zep ?_;intro eQ r4 aF hM H
  have eR:=((H.os 0)).len_le;refine kg 3 ?_;refine WD.block ?_;obtain ⟨cv,bJ,cw⟩:=M.e_bind hM;obtain ⟨bc,bJ⟩:=M.e_iter bJ;refine WD.loop (fun m bK σ W=>∃ (l2:List RLn) (s:Nat) (ap:Value) (ρ:Env),σ=upds ρ [(7,Pq ag),(8,Pq ae),(11,Pq aD),(12,Pq aE),(13,ap),(67,aF),(68,I (r4.length:Int)),(69,I (s:Int))]/\M.iterN (zbv stage r4) m (l2,s)=some cv/\St w W [cOwn (α:=Pt) 65 aF r4,cOwn (α:=RLn) 67 ap l2,cBlk aE [I stage,I 200000] 65,cBlk aD [I stage,I 0] 65,cBlk ae [aG] 68,cMem I ah ai (zah al am),cBlk ag [aa] 293,cOwn (α:=Gg) 62 aa r2,cMk bK] R) ?_ ?_
  ·exact kY
  rintro eS bK σ eT ⟨l2,s,ap,ρ,rfl,cA,H⟩;obtain ⟨eU,eV,eW,hM,cB⟩:=M.e_iterN cA;refine WD.seq<|WD.of ?_;refine kg 3 ?_;refine WD.seq ?_
  refine WD.cond (decide ((s:Int)<(r4.length:Int))) rfl (fun aA=>?_) (fun aA=>?_)
  ·replace hM:=M.e_t hM aA;replace aA:=dI aA;refine WD.of<|W.skip<|WD.seq<|WD.block<|WD.seq<|WD.of ?_;obtain ⟨eX,hM⟩:=M.e_gq hM;refine kA 3 ?_;intro b8 eY H;refine ksw ?_;intro eZ H;refine s_nil<|WD.of ?_;refine kL 8 (α:=RLn) [⟨stage,0,(r4.getD s default).stage,(r4.getD s default).flow⟩,⟨(r4.getD s default).stage,(r4.getD s default).flow,stage,200000⟩] ?_;intro e7 e8 H;obtain ⟨e9,hM⟩:=M.e_gq hM;refine kP 0 ?_;intro fd fg H;refine kg 2 ?_;replace H:=H.pk [2,3,4,5,6,7,8,9,10];refine WD.of ?_
   exact kX 4
  replace hM:=M.e_f hM aA;replace aA:=dI aA;refine WD.of ?_;refine W.exit ?_;obtain rfl:=M.e_inr hM cB;replace hM:=cw;replace H:=H.pk [1,4,5,6,7,8];refine WD.seq<|WD.of ?_;refine kg 2 ?_;obtain ⟨fh,cC,hM⟩:=M.e_bind hM;refine s_call cq [aG] rfl (zfR bE (Reads.of (k:=2) rfl memLe) ck cC _ (H.gt 6)) ?_
  rintro vq fi ⟨r5,cb,rfl,hvq,aj⟩;subst vq;replace H:=H.bk aj;refine kg 2 ?_;refine WD.seq<|WD.seq<|WD.of ?_
  have fj:=((H.os 1)).len_le;refine kg 5 ?_;refine WD.block ?_;obtain ⟨cD,bL,cE⟩:=M.e_bind hM;obtain ⟨bc,bL⟩:=M.e_iter bL;refine WD.loop (fun m bN σ W=>∃ (l5:List RLn) (s2:Nat) (av:Value) (ρ:Env),σ=upds ρ [(7,Pq ag),(16,av),(85,ap),(86,I (l2.length:Int)),(87,I (s2:Int))]/\M.iterN (zbI r2 l2) m (l5,s2)=some cD/\St w W [cOwn (α:=RLn) 67 av l5,cOwn (α:=RLn) 67 ap l2,cBlk ae [aG] 68,cMem I ah ai (zah al am),cBlk ag [aa] 293,cOwn (α:=Gg) 62 aa r2,cMk bN] R) ?_ ?_
  ·exact kY
  rintro fk bN σ fm ⟨l5,s2,av,ρ,rfl,cF,H⟩;obtain ⟨fo,fp,fq,hM,cG⟩:=M.e_iterN cF;refine WD.seq<|WD.of ?_;refine kg 3 ?_;refine WD.seq ?_
  refine WD.cond (decide ((s2:Int)<(l2.length:Int))) rfl (fun aB=>?_) (fun aB=>?_)
  ·replace hM:=M.e_t hM aB;replace aB:=dI aB;refine WD.of<|W.skip<|WD.seq<|WD.block<|WD.seq<|WD.of ?_;obtain ⟨fu,hM⟩:=M.e_gq hM;refine kA 3 ?_;intro ch fv H;refine ksw ?_;intro fw H;refine s_nil<|WD.seq<|WD.of ?_;refine kC 2 @zdt ?_;intro fy r6 hM H;refine kg 3 ?_;obtain ⟨r7,cH,hM⟩:=M.e_bind hM;refine t_gcall r6 (gy_t rfl) cq (B r7) (fun _=>[aa,.agg #[I ((l2.getD s2 default).ast),I ((l2.getD s2 default).afl),I ((l2.getD s2 default).bst),I ((l2.getD s2 default).bfl)]]) (fun hg=>lst2 (gd_of hg (aa)) (gd_of hg (.agg #[I ((l2.getD s2 default).ast),I ((l2.getD s2 default).afl),I ((l2.getD s2 default).bst),I ((l2.getD s2 default).bfl)]))) H (fun hg=>(zdU r2 (l2.getD s2 default) (rdo 6) (H.os 6) (M.e_opt cH hg) _ (H.give (A:=[]) rfl)).mono fun v_ w_ ⟨y_,ao,bg,H_⟩=>by subst ao; exact ⟨bg,H.via H_⟩) ?_;intro fA H;refine kg 2 ?_
   refine WD.cond (r6&&r7) rfl (fun bm=>?_) (fun bm=>?_)
   ·replace hM:=M.e_t hM bm;refine WD.of ?_;refine kL 3 (α:=RLn) [(l2.getD s2 default)] ?_;intro fB fC H;obtain ⟨fD,hM⟩:=M.e_gq hM;refine kP 0 ?_;intro fE fG H;refine kg 2 ?_;replace H:=H.pk [2,3,4,5,6,7,8];refine WD.of ?_;exact kX 4
   replace hM:=M.e_f hM bm;refine WD.of<|W.skip<|WD.of ?_
   exact kXp 4 [1,2,3,4,5,6,7]
  replace hM:=M.e_f hM aB;replace aB:=dI aB;refine WD.of ?_;refine W.exit ?_;obtain rfl:=M.e_inr hM cG;replace hM:=cE;replace H:=H.pk [0,3,6];refine WD.seq<|WD.of ?_;refine kg 4 ?_;refine WD.of ?_;refine W.ret ?_;refine bodyD_r (H.pk [2,0,1]) ?_;intro fH H;replace H:=H.nf
  have ao:=M.e_pure hM;exact ⟨_,resE_tmp rfl,⟨l5,av,ai,ao,rfl,H⟩⟩

def zd3 (l:List Gg) (breaks:List Int):M (Int ⊕ Int) :=
  M.bind (zbf l) fun r2 =>
  bif r2==0 then (
  M.bind (zbA breaks) fun r3 =>
  bif r3 != 0 then (
  M.pure (.inl r3))
  else (
  M.pure (.inr 0)))
  else (
  bif r2 != 0 then (
  M.pure (.inl r2))
  else (
  M.fail))
theorem zgK {R ag ac ah ae}(l breaks)(aw:Reads R ag)(ax:Sl ag ac l)(ay:Reads R ah)(aA:Sl ah ae breaks){r}(hM:(zd3 l breaks).Ends r)(w)(H:St w w [] R):Ret Tryz.prog 95 #[ac,ae] w fun v w'=>(∃ (y0:Int),(.inl y0)=r/\v = .tuple #[.pointer none,I y0]/\St w w' [] R)∨(∃ (y0:Int) (ai:Nat) (aj:Nat) (al:Base),(.inr y0)=r/\v = .tuple #[Pq ai,I y0]/\St w w' [cBlk ai [ac,ae,.map (some aj)] 298,cMem I aj al (zah l breaks)] R):=by
 refine ret_of_W Tryz.func95 rfl rfl rfl ?_;refine kC 8 @zff ?_;intro aB r2 hM H;refine kI 8 ?_ ?_
 ·intro am hM;refine kC 2 @zfg ?_;intro aC r3 hM H;refine kI 8 ?_ ?_
  ·intro ao hM;refine kg 6 ?_;refine W.ret ?_;have aa:=M.e_pure hM;exact ⟨_,resE_tmp2 rfl,.inl (⟨r3,aa,rfl,H⟩)⟩
  intro ao hM;refine kG 6 ?_;refine t_mkmem I (zah l breaks) H ?_;intro ap aq aD H;refine kB 1 ?_;intro au aE H;refine kg 3 ?_;refine W.ret ?_;have aa:=M.e_pure hM;exact ⟨_,resE_tmp2 rfl,.inr (⟨0,au,ap,aq,aa,rfl,H⟩)⟩
 intro am hM;refine kI 7 ?_ ?_
 ·intro av hM;refine kg 6 ?_;refine W.ret ?_;have aa:=M.e_pure hM;exact ⟨_,resE_tmp2 rfl,.inl (⟨r2,aa,rfl,H⟩)⟩
 intro av hM;exact (M.e_fail hM).elim

def zeo (l:List Gg) (breaks:List Int) (stage:Int):M (Int ⊕ Int) :=
  M.bind (zd3 l breaks) fun x_=>match x_ with
  | (.inl r1)=>(
  M.bind (M.opt (r1==0) (zaj stage 0 2000) false) fun r2 =>
  bif ((r1==0)&&(!r2)) then (
  M.pure (.inl 4))
  else (
  M.pure (.inl r1)))
  | (.inr aa)=>(
  M.bind (M.opt (aa==0) (zaj stage 0 2000) false) fun r2 =>
  bif ((aa==0)&&(!r2)) then (
  M.pure (.inr 4))
  else (
  M.pure (.inr aa)))
theorem zhn {R ai ac aj ae}(l breaks stage)(av:Reads R ai)(aw:Sl ai ac l)(ax:Reads R aj)(ay:Sl aj ae breaks){r}(hM:(zeo l breaks stage).Ends r)(w)(H:St w w [] R):Ret Tryz.prog 48 #[ac,ae,I stage] w fun v w'=>(∃ (y0:Int),(.inl y0)=r/\v = .tuple #[.pointer none,I y0]/\St w w' [] R)∨(∃ (y0:Int) (al:Nat) (am:Nat) (aA:Base),(.inr y0)=r/\v = .tuple #[Pq al,I y0]/\St w w' [cBlk al [ac,ae,.map (some am)] 298,cMem I am aA (zah l breaks)] R):=by
 refine ret_of_W Tryz.func48 rfl rfl rfl ?_;refine kg 9 ?_;obtain ⟨aI,aB,hM⟩:=M.e_bind hM;refine s_call cq [ac,ae] rfl (zgK l breaks (av.app _) aw (ax.app _) ay aB _ (H.gt 0)) ?_;rintro vq aJ (⟨r1,aC,hvq,ag⟩ | ⟨ao,ap,aq,au,aD,hvq,ag⟩)
 ·subst aC;subst vq;replace H:=H.bk ag;refine kg 13 ?_;obtain ⟨r2,aE,hM⟩:=M.e_bind hM;refine t_gcall (r1==0) (gy_t rfl) cq (B r2) (fun _=>[I stage,I 0,I 2000]) (fun hg=>lst3 (gd_of hg (I stage)) rfl rfl) H (fun hg=>(zao stage 0 2000 (M.e_opt aE hg) _ (H.give (A:=[]) rfl)).mono fun v_ w_ ⟨y_,aa,ah,H_⟩=>by subst aa; exact ⟨ah,H.via H_⟩) ?_;intro aK H;refine kI 3 ?_ ?_
  ·intro aF hM;refine kg 10 ?_;refine W.ret ?_;have aa:=M.e_pure hM;exact ⟨_,resE_tmp2 rfl,.inl (⟨4,aa,rfl,H⟩)⟩
  intro aF hM;refine kg 8 ?_;refine W.ret ?_;have aa:=M.e_pure hM;exact ⟨_,resE_tmp2 rfl,.inl (⟨r1,aa,rfl,H⟩)⟩
 subst aD;subst vq;replace H:=H.bk ag;refine kg 13 ?_;obtain ⟨r2,aG,hM⟩:=M.e_bind hM;refine t_gcall (ao==0) (gy_t rfl) cq (B r2) (fun _=>[I stage,I 0,I 2000]) (fun hg=>lst3 (gd_of hg (I stage)) rfl rfl) H (fun hg=>(zao stage 0 2000 (M.e_opt aG hg) _ (H.give (A:=[]) rfl)).mono fun v_ w_ ⟨y_,aa,ah,H_⟩=>by subst aa; exact ⟨ah,H.via H_⟩) ?_;intro aL H;refine kI 3 ?_ ?_
 ·intro aH hM;refine kg 10 ?_;refine W.ret ?_;have aa:=M.e_pure hM;exact ⟨_,resE_tmp2 rfl,.inr (⟨4,ap,aq,au,aa,rfl,H⟩)⟩
 intro aH hM;refine kg 8 ?_;refine W.ret ?_;have aa:=M.e_pure hM;exact ⟨_,resE_tmp2 rfl,.inr (⟨ao,ap,aq,au,aa,rfl,H⟩)⟩

def zcr (r_:Rto):M (Int × Int) :=
  bif decide (r_.num<0) then (
  M.pure (0,1))
  else (
  M.gi (200000*r_.den) <|
  bif decide ((200000*r_.den)<r_.num) then (
  M.pure (200000,1))
  else (
  M.pure (r_.num,r_.den)))
theorem zhL {R}(r_){r}(hM:(zcr r_).Ends r)(w)(H:St w w [] R):Ret Tryz.prog 275 #[.agg #[I r_.num,I r_.den]] w fun v w'=>∃ y0 y1,(y0,y1)=r/\v = .agg #[I y0,I y1]/\St w w' [] R:=by
 refine ret_of_W Tryz.func275 rfl rfl rfl ?_;refine kB 2 ?_;intro ae ag H;refine kal ?_;intro ah ai H;refine kI 10 ?_ ?_
 ·intro aa hM;refine kS 3 ?_;intro aj H;exact kR 1 []
 intro aa hM;obtain ⟨al,hM⟩:=M.e_gq hM;refine kI 10 ?_ ?_
 ·intro ac hM;refine kS 3 ?_;intro am H;exact kR 1 []
 intro ac hM;refine kS 4 ?_;intro ao H;exact kR 1 []

def zbl (x:RLn) (stage:Int):M (Int × Int) :=
  M.bind (zbB x stage) fun (r0,r1) =>
  M.bind (zcr (⟨(r0:Int),(r1:Int)⟩:Rto)) fun (aa,ac) =>
  M.pure (aa,ac)
theorem zfD {R}(x stage){r}(hM:(zbl x stage).Ends r)(w)(H:St w w [] R):Ret Tryz.prog 274 #[.agg #[I x.ast,I x.afl,I x.bst,I x.bfl],I stage] w fun v w'=>∃ y0 y1,(y0,y1)=r/\v = .agg #[I y0,I y1]/\St w w' [] R:=by
 refine ret_of_W Tryz.func274 rfl rfl rfl ?_;refine kB 2 ?_;intro aa ac H;refine kal ?_;intro ae ag H;refine kC 5 @zfu ?_;intro ah r0 r1 hM H;refine kC 0 @zhL ?_;intro ai aj al hM H;refine ksw ?_;intro am H;exact kR 1 []

def zas (x2:RLn) (stage:Int):M (Int × Int) :=
  M.bind (zbl x2 stage) fun (r0,r1) =>
  M.pure (r0,r1)
theorem zaH {R}(x2 stage){r}(hM:(zas x2 stage).Ends r)(w)(H:St w w [] R):Ret Tryz.prog 51 #[.iface 67 (.agg #[I x2.ast,I x2.afl,I x2.bst,I x2.bfl]),I stage] w fun v w'=>∃ y0 y1,(y0,y1)=r/\v = .agg #[I y0,I y1]/\St w w' [] R:=by
 refine ret_of_W Tryz.func51 rfl rfl rfl ?_;refine kA 2 ?_;intro ae ag H;refine kg 5 ?_;obtain ⟨ah,aa,hM⟩:=M.e_bind hM;refine s_calli (t:=67) (v:=.agg #[I x2.ast,I x2.afl,I x2.bst,I x2.bfl]) (f:=274) rfl Mi67_flow cq [I stage] rfl (zfD x2 stage aa _ (H.gt 1)) ?_;rintro _ ai ⟨r0,r1,rfl,rfl,ac⟩;replace H:=H.bk ac;refine ksw ?_;intro aj H;exact kR 1 []

def zbD (a b:Rto):M Int :=
  M.gi (a.num*b.den) <|
  M.gi (b.num*a.den) <|
  M.bind (m_cmp_Compare_int (a.num*b.den) (b.num*a.den)) fun r2 =>
  M.pure r2
theorem zfB {R}(a b){r}(hM:(zbD a b).Ends r)(w)(H:St w w [] R):Ret Tryz.prog 168 #[.agg #[I a.num,I a.den],.agg #[I b.num,I b.den]] w fun v w'=>∃ y0,y0=r/\v=I y0/\St w w' [] R:=by
 refine ret_of_W Tryz.func168 rfl rfl rfl ?_;refine kB 2 ?_;intro aa ac H;refine kbx ?_;intro ae ag H;obtain ⟨ah,hM⟩:=M.e_gq hM;obtain ⟨ai,hM⟩:=M.e_gq hM;refine kC 14 @cmp_Compare_int_ok ?_;intro aj r2 hM H;refine kg 2 ?_;replace H:=H.pk [];exact rt

def zcb (a b:Rto):M Bool :=
  M.bind (zbD a b) fun r2 =>
  M.pure (decide (r2<0))
theorem zgx {R}(a b){r}(hM:(zcb a b).Ends r)(w)(H:St w w [] R):Ret Tryz.prog 167 #[.agg #[I a.num,I a.den],.agg #[I b.num,I b.den]] w fun v w'=>∃ y0,y0=r/\v=B y0/\St w w' [] R:=by
 refine ret_of_W Tryz.func167 rfl rfl rfl ?_;refine kB 2 ?_;intro aa ac H;refine kbx ?_;intro ae ag H;refine kC 6 @zfB ?_;intro ah r2 hM H;refine kg 3 ?_;replace H:=H.pk [];exact rt

def zcd (stage:Int) (r3:List RLn):(Nat × Int × Int × Int × Int)->M ((Nat × Int × Int × Int × Int) ⊕ (Int × Int × Int × Int)):=fun (s,s2,s3,s4,s5) =>
  bif decide ((s:Int)<(r3.length:Int)) then (
  M.grd (decide ((s:Int)<(r3.length:Int))) <|
  M.bind (zas (r3.getD s default) stage) fun (r0,r1) =>
  M.bind (zas (⟨(s2:Int),(s3:Int),(s4:Int),(s5:Int)⟩:RLn) stage) fun (aa,ac) =>
  M.bind (zcb (⟨(r0:Int),(r1:Int)⟩:Rto) (⟨(aa:Int),(ac:Int)⟩:Rto)) fun r4 =>
  bif r4 then (
  M.pure (.inl (s+1,(r3.getD s default).ast,(r3.getD s default).afl,(r3.getD s default).bst,(r3.getD s default).bfl)))
  else (
  M.pure (.inl (s+1,s2,s3,s4,s5))))
  else (
  M.pure (.inr (s2,s3,s4,s5)))
def zcq (ac:List Gg) (aa:List Int) (stage:Int):M (Int × Int × Int × Int × Bool) :=
  M.bind (zav aa stage) fun r2 =>
  M.bind (zaN ac aa r2 stage) fun r3 =>
  bif (r3.length:Int)==0 then (
  M.pure (0,0,0,0,false))
  else (
  M.grd (decide (0<(r3.length:Int))) <|
  M.bind (M.iter (zcd stage r3) (0,(r3.getD 0 default).ast,(r3.getD 0 default).afl,(r3.getD 0 default).bst,(r3.getD 0 default).bfl)) fun (s6,s7,s8,s9) =>
  M.pure (s6,s7,s8,s9,true))
theorem zgN {R ag ai aj al am ae ay}(aa ac stage)(aA:Reads R ai)(aB:Sl ai aj aa)(aC:Reads R al)(aD:Sl al am ac)(aE:Has R (cBlk ag [aj,am,.map (some ae)] 298)){r}(hM:(zcq aa ac stage).Ends r)(w)(H:St w w [cMem I ae ay (zah aa ac)] R):Ret Tryz.prog 96 #[Pq ag,I stage,.agg #[.func (.func 167) #[] #[]]] w fun v w'=>∃ y0 y1 y2 y3 y4 aF,(y0,y1,y2,y3,y4)=r/\v = .tuple #[.agg #[I y0,I y1,I y2,I y3],B y4]/\St w w' [cMem I ae aF (zah aa ac)] R:=by
 refine ret_of_W Tryz.func96 rfl rfl rfl ?_;refine kB 2 ?_;intro ao aQ H;refine kal ?_;intro ap aR H;refine kC 11 @zaV ?_;intro aS r2 hM H;refine kg 1 ?_;obtain ⟨aT,aG,hM⟩:=M.e_bind hM;refine s_call cq [Pq ag,I r2,I stage] rfl (zeW aa ac r2 stage (aA.app _) aB (aC.app _) aD (aE.app _) aG _ ((H.pk [2,0,1]).gt 2)) ?_;rintro vq aU ⟨r3,aq,aH,rfl,hvq,ah⟩;subst vq;replace H:=H.pk [2,0,1] |>.bk ah
 have aV:=((H.os 0)).len_le;refine kI 9 ?_ ?_
 ·intro aI hM;refine kS 3 ?_;intro aW H;refine kg 2 ?_;replace H:=H.pk [1,2];exact kR 0 [0]
 intro aI hM;obtain ⟨aX,hM⟩:=M.e_gq hM;refine kA 6 ?_;intro au aY H;refine ksw ?_;intro aZ H;have a7:=((H.os 1)).len_le;refine kg 9 ?_;obtain ⟨aJ,av,aK⟩:=M.e_bind hM;obtain ⟨a8,av⟩:=M.e_iter av;refine W.loop (fun m σ W=>∃ (s:Nat) (s2:Int) (s3:Int) (s4:Int) (s5:Int) (ρ:Env),σ=upds ρ [(1,I stage),(5,Pq ao),(6,Pq ap),(9,Pq au),(29,aq),(30,I (r3.length:Int)),(31,I (s:Int))]/\M.iterN (zcd stage r3) m (s,s2,s3,s4,s5)=some aJ/\St w W [cBlk au [I s2,I s3,I s4,I s5] 67,cOwn (α:=RLn) 67 aq r3,cMem I ae aH (zah aa ac),cBlk ap [I 0,I 0,I 0,I 0] 67,cBlk ao [.func (.func 167) #[] #[]] 237] R) ?_ ?_
 ·exact kY
 rintro ba σ bc ⟨s,s2,s3,s4,s5,ρ,rfl,aL,H⟩;obtain ⟨bg,bi,bj,hM,aM⟩:=M.e_iterN aL;refine kI 5 ?_ ?_
 ·intro aN hM;obtain ⟨bm,hM⟩:=M.e_gq hM;refine kA 7 ?_;intro bn bp H;refine ksw ?_;intro br H;refine kDo 2 [0,1,2,3,4,5] [(0,true),(1,true),(2,true),(3,true),(4,true),(6,true),(7,true),(8,true),(5,false),(9,false),(10,false)] ?_;intro bt H;refine kg 3 ?_;refine d_q rfl (fun w' H=>x_mi (v:=.agg #[I ((r3.getD s default).ast),I ((r3.getD s default).afl),I ((r3.getD s default).bst),I ((r3.getD s default).bfl)]) Tryz.underlying67 (by intro m h_; cases h_) rfl) ?_;refine kg 2 ?_;refine d_q rfl (fun w' H=>x_mi (v:=.agg #[I s2,I s3,I s4,I s5]) Tryz.underlying67 (by intro m h_; cases h_) rfl) ?_;refine kC 2 @zaH ?_;intro bu r0 r1 hM H;refine kN ?_;refine kC 1 @zaH ?_;intro bv aw ax hM H;refine kN ?_;refine d_l rfl ?_;obtain ⟨bw,aO,hM⟩:=M.e_bind hM;refine s_callv (f:=167) rfl cq [.agg #[I r0,I r1],.agg #[I aw,I ax]] rfl (zgx (⟨(r0:Int),(r1:Int)⟩:Rto) (⟨(aw:Int),(ax:Int)⟩:Rto) aO _ (H.gt 6)) ?_;rintro _ bx ⟨r4,rfl,rfl,ah⟩;replace H:=H.bk ah;refine kN ?_;refine kI 1 ?_ ?_
  ·intro aP hM;refine kS 2 ?_;intro bz H;exact kXp 5 [1,2,3,4,5]
  intro aP hM;exact kXp 5 [1,2,3,4,5]
 intro aN hM;refine W.exit ?_;obtain rfl:=M.e_inr hM aM;replace hM:=aK;replace H:=H.pk [0,2,3];refine kS 3 ?_;intro bA H;exact kR 2 [1]

def zfz  : M Unit :=
  M.pure ()
theorem zhE {R r}(hM:(zfz).Ends r)(w)(H:St w w [] R):Ret Tryz.prog 98 #[] w fun v w'=>()=r/\v = .agg #[.func (.func 169) #[] #[]]/\St w w' [] R:=by
 refine ret_of_W Tryz.func98 rfl rfl rfl ?_;refine kA 2 ?_;intro aa ac H;refine kS 4 ?_;intro ae H;exact kR 1 []

def zce (a b:Rto):M Bool :=
  M.bind (zbD a b) fun r2 =>
  M.pure (decide (0<r2))
theorem zhk {R}(a b){r}(hM:(zce a b).Ends r)(w)(H:St w w [] R):Ret Tryz.prog 169 #[.agg #[I a.num,I a.den],.agg #[I b.num,I b.den]] w fun v w'=>∃ y0,y0=r/\v=B y0/\St w w' [] R:=by
 refine ret_of_W Tryz.func169 rfl rfl rfl ?_;refine kB 2 ?_;intro aa ac H;refine kbx ?_;intro ae ag H;refine kC 6 @zfB ?_;intro ah r2 hM H;refine kg 3 ?_;replace H:=H.pk [];exact rt

end Go.Proofs.YtaolcidinlnklaaGreat
end
section
set_option maxRecDepth 100000
set_option maxHeartbeats 16000000
namespace Go.Proofs.YtaolcidinlnklaaGreat
open Go Go.Nm
attribute [local irreducible] gd execOp SL SLD SLT WR
def zcc (stage:Int) (r3:List RLn):(Nat × Int × Int × Int × Int)->M ((Nat × Int × Int × Int × Int) ⊕ (Int × Int × Int × Int)):=fun (s,s2,s3,s4,s5) =>
  bif decide ((s:Int)<(r3.length:Int)) then (
  M.grd (decide ((s:Int)<(r3.length:Int))) <|
  M.bind (zas (r3.getD s default) stage) fun (r0,r1) =>
  M.bind (zas (⟨(s2:Int),(s3:Int),(s4:Int),(s5:Int)⟩:RLn) stage) fun (aa,ac) =>
  M.bind (zce (⟨(r0:Int),(r1:Int)⟩:Rto) (⟨(aa:Int),(ac:Int)⟩:Rto)) fun r4 =>
  bif r4 then (
  M.pure (.inl (s+1,(r3.getD s default).ast,(r3.getD s default).afl,(r3.getD s default).bst,(r3.getD s default).bfl)))
  else (
  M.pure (.inl (s+1,s2,s3,s4,s5))))
  else (
  M.pure (.inr (s2,s3,s4,s5)))
def zcN (ac:List Gg) (aa:List Int) (stage:Int):M (Int × Int × Int × Int × Bool) :=
  M.bind (zav aa stage) fun r2 =>
  M.bind (zaN ac aa r2 stage) fun r3 =>
  bif (r3.length:Int)==0 then (
  M.pure (0,0,0,0,false))
  else (
  M.grd (decide (0<(r3.length:Int))) <|
  M.bind (M.iter (zcc stage r3) (0,(r3.getD 0 default).ast,(r3.getD 0 default).afl,(r3.getD 0 default).bst,(r3.getD 0 default).bfl)) fun (s6,s7,s8,s9) =>
  M.pure (s6,s7,s8,s9,true))
theorem zga {R ag ai aj al am ae ay}(aa ac stage)(aA:Reads R ai)(aB:Sl ai aj aa)(aC:Reads R al)(aD:Sl al am ac)(aE:Has R (cBlk ag [aj,am,.map (some ae)] 298)){r}(hM:(zcN aa ac stage).Ends r)(w)(H:St w w [cMem I ae ay (zah aa ac)] R):Ret Tryz.prog 96 #[Pq ag,I stage,.agg #[.func (.func 169) #[] #[]]] w fun v w'=>∃ y0 y1 y2 y3 y4 aF,(y0,y1,y2,y3,y4)=r/\v = .tuple #[.agg #[I y0,I y1,I y2,I y3],B y4]/\St w w' [cMem I ae aF (zah aa ac)] R:=by
 refine ret_of_W Tryz.func96 rfl rfl rfl ?_;refine kB 2 ?_;intro ao aQ H;refine kal ?_;intro ap aR H;refine kC 11 @zaV ?_;intro aS r2 hM H;refine kg 1 ?_;obtain ⟨aT,aG,hM⟩:=M.e_bind hM;refine s_call cq [Pq ag,I r2,I stage] rfl (zeW aa ac r2 stage (aA.app _) aB (aC.app _) aD (aE.app _) aG _ ((H.pk [2,0,1]).gt 2)) ?_;rintro vq aU ⟨r3,aq,aH,rfl,hvq,ah⟩;subst vq;replace H:=H.pk [2,0,1] |>.bk ah
 have aV:=((H.os 0)).len_le;refine kI 9 ?_ ?_
 ·intro aI hM;refine kS 3 ?_;intro aW H;refine kg 2 ?_;replace H:=H.pk [1,2];exact kR 0 [0]
 intro aI hM;obtain ⟨aX,hM⟩:=M.e_gq hM;refine kA 6 ?_;intro au aY H;refine ksw ?_;intro aZ H;have a7:=((H.os 1)).len_le;refine kg 9 ?_;obtain ⟨aJ,av,aK⟩:=M.e_bind hM;obtain ⟨a8,av⟩:=M.e_iter av;refine W.loop (fun m σ W=>∃ (s:Nat) (s2:Int) (s3:Int) (s4:Int) (s5:Int) (ρ:Env),σ=upds ρ [(1,I stage),(5,Pq ao),(6,Pq ap),(9,Pq au),(29,aq),(30,I (r3.length:Int)),(31,I (s:Int))]/\M.iterN (zcc stage r3) m (s,s2,s3,s4,s5)=some aJ/\St w W [cBlk au [I s2,I s3,I s4,I s5] 67,cOwn (α:=RLn) 67 aq r3,cMem I ae aH (zah aa ac),cBlk ap [I 0,I 0,I 0,I 0] 67,cBlk ao [.func (.func 169) #[] #[]] 237] R) ?_ ?_
 ·exact kY
 rintro ba σ bc ⟨s,s2,s3,s4,s5,ρ,rfl,aL,H⟩;obtain ⟨bg,bi,bj,hM,aM⟩:=M.e_iterN aL;refine kI 5 ?_ ?_
 ·intro aN hM;obtain ⟨bm,hM⟩:=M.e_gq hM;refine kA 7 ?_;intro bn bp H;refine ksw ?_;intro br H;refine kDo 2 [0,1,2,3,4,5] [(0,true),(1,true),(2,true),(3,true),(4,true),(6,true),(7,true),(8,true),(5,false),(9,false),(10,false)] ?_;intro bt H;refine kg 3 ?_;refine d_q rfl (fun w' H=>x_mi (v:=.agg #[I ((r3.getD s default).ast),I ((r3.getD s default).afl),I ((r3.getD s default).bst),I ((r3.getD s default).bfl)]) Tryz.underlying67 (by intro m h_; cases h_) rfl) ?_;refine kg 2 ?_;refine d_q rfl (fun w' H=>x_mi (v:=.agg #[I s2,I s3,I s4,I s5]) Tryz.underlying67 (by intro m h_; cases h_) rfl) ?_;refine kC 2 @zaH ?_;intro bu r0 r1 hM H;refine kN ?_;refine kC 1 @zaH ?_;intro bv aw ax hM H;refine kN ?_;refine d_l rfl ?_;obtain ⟨bw,aO,hM⟩:=M.e_bind hM;refine s_callv (f:=169) rfl cq [.agg #[I r0,I r1],.agg #[I aw,I ax]] rfl (zhk (⟨(r0:Int),(r1:Int)⟩:Rto) (⟨(aw:Int),(ax:Int)⟩:Rto) aO _ (H.gt 6)) ?_;rintro _ bx ⟨r4,rfl,rfl,ah⟩;replace H:=H.bk ah;refine kN ?_;refine kI 1 ?_ ?_
  ·intro aP hM;refine kS 2 ?_;intro bz H;exact kXp 5 [1,2,3,4,5]
  intro aP hM;exact kXp 5 [1,2,3,4,5]
 intro aN hM;refine W.exit ?_;obtain rfl:=M.e_inr hM aM;replace hM:=aK;replace H:=H.pk [0,2,3];refine kS 3 ?_;intro bA H;exact kR 2 [1]

def zd1 (aa:List Gg) (ac:List Int) (stage:Int):M (Int × Int × Int × Int × Bool) :=
  M.bind (zfN) fun (_:Unit) =>
  M.bind (zcq aa ac stage) fun (ae,ag,ah,ai,r1) =>
  M.bind (zfz) fun (_:Unit) =>
  M.bind (zcN aa ac stage) fun (aj,al,am,ao,av) =>
  bif !r1 then (
  M.pure (0,0,0,0,false))
  else (
  M.bind (zas (⟨(ae:Int),(ag:Int),(ah:Int),(ai:Int)⟩:RLn) stage) fun (r0,ap) =>
  M.bind (zas (⟨(aj:Int),(al:Int),(am:Int),(ao:Int)⟩:RLn) stage) fun (aq,au) =>
  M.pure (r0,ap,aq,au,true))
theorem zgs {R ae ai aj al am ag aw}(aa ac stage)(ao:Reads R ai)(ap:Sl ai aj aa)(aq:Reads R al)(au:Sl al am ac)(av:Has R (cBlk ae [aj,am,.map (some ag)] 298)){r}(hM:(zd1 aa ac stage).Ends r)(w)(H:St w w [cMem I ag aw (zah aa ac)] R):Ret Tryz.prog 49 #[Pq ae,I stage] w fun v w'=>∃ y0 y1 y2 y3 y4 ax,(y0,y1,y2,y3,y4)=r/\v = .tuple #[.agg #[I y0,I y1,I y2,I y3],B y4]/\St w w' [cMem I ag ax (zah aa ac)] R:=by
 refine ret_of_W Tryz.func49 rfl rfl rfl ?_;refine kA 2 ?_;intro aK aL H;refine kC 6 @zf8 ?_;intro aM hM H;obtain ⟨aN,ay,hM⟩:=M.e_bind hM;refine s_call cq [Pq ae,I stage,.agg #[.func (.func 167) #[] #[]]] rfl (zgN aa ac stage (ao.app _) ap (aq.app _) au (av.app _) ay _ ((H.pk [1,0]).gt 1)) ?_;rintro _ aO ⟨aA,aB,aC,aD,r1,aP,rfl,rfl,ah⟩;replace H:=H.pk [1,0] |>.bk ah
 refine kA 3 ?_;intro aQ aR H;refine ksw ?_;intro aS H;refine kC 6 @zhE ?_;intro aT hM H;obtain ⟨aU,aE,hM⟩:=M.e_bind hM;refine s_call cq [Pq ae,I stage,.agg #[.func (.func 169) #[] #[]]] rfl (zga aa ac stage (ao.app _) ap (aq.app _) au (av.app _) aE _ ((H.pk [1,0,2]).gt 2)) ?_;rintro _ aV ⟨aF,aG,aH,aI,aW,aX,rfl,rfl,ah⟩;replace H:=H.pk [1,0,2] |>.bk ah
 refine kA 3 ?_;intro aY aZ H;refine ksw ?_;intro a7 H;refine kI 8 ?_ ?_
 ·intro aJ hM;refine kS 3 ?_;intro a8 H;refine kg 2 ?_;replace H:=H.pk [1,3];exact kR 0 [0]
 intro aJ hM;refine kDo 2 [0,1,2] [(0,true),(1,true),(2,true),(4,true),(5,true),(6,true),(3,false),(7,false),(8,true),(9,false),(10,true)] ?_;intro ba H;refine kg 1 ?_;refine d_q rfl (fun w' H=>x_mi (v:=.agg #[I aA,I aB,I aC,I aD]) Tryz.underlying67 (by intro m h_; cases h_) rfl) ?_;refine kg 2 ?_;refine d_q rfl (fun w' H=>x_mi (v:=.agg #[I aF,I aG,I aH,I aI]) Tryz.underlying67 (by intro m h_; cases h_) rfl) ?_;refine kC 2 @zaH ?_;intro bc r0 bg hM H;refine kN ?_;refine kC 1 @zaH ?_;intro bi bj bm hM H;refine kN ?_;refine kS 2 ?_;intro bn H;refine kN ?_;refine kg 2 ?_;replace H:=H.pk [1,3];exact kR 0 [0]

def zbh (l:List Gg) (breaks:List Int) (stage:Int):M (Int × Int × Int × Int × Int) :=
  M.bind (zeo l breaks stage) fun x_=>match x_ with
  | (.inl r1)=>(
  bif r1 != 0 then (
  M.pure (0,0,0,0,r1))
  else (
  M.fail))
  | (.inr aa)=>(
  bif aa != 0 then (
  M.fail)
  else (
  M.bind (zd1 l breaks stage) fun (ac,ae,ag,ah,ai) =>
  bif !ai then (
  M.pure (0,0,0,0,6))
  else (
  M.pure (ac,ae,ag,ah,0))))
theorem zeQ {R ag ac ah ae}(l breaks stage)(ai:Reads R ag)(aj:Sl ag ac l)(al:Reads R ah)(am:Sl ah ae breaks){r}(hM:(zbh l breaks stage).Ends r)(w)(H:St w w [] R):Ret Tryz.prog 15 #[ac,ae,I stage] w fun v w'=>∃ y0 y1 y2 y3 y4,(y0,y1,y2,y3,y4)=r/\v = .tuple #[.agg #[I y0,I y1,I y2,I y3],I y4]/\St w w' [] R:=by
 refine ret_of_W Tryz.func15 rfl rfl rfl ?_;refine kA 2 ?_;intro aA aB H;refine kg 7 ?_;obtain ⟨aC,ao,hM⟩:=M.e_bind hM;refine s_call cq [ac,ae,I stage] rfl (zhn l breaks stage (ai.app _) aj (al.app _) am ao _ (H.gt 1)) ?_;rintro vq aD (⟨r1,ap,hvq,aa⟩ | ⟨aE,aq,aF,aG,au,hvq,aa⟩)
 ·subst ap;subst vq;replace H:=H.bk aa;refine kI 12 ?_ ?_
  ·intro av hM;refine kS 4 ?_;intro aH H;exact kR 2 []
  intro av hM;exact (M.e_fail hM).elim
 subst au;subst vq;replace H:=H.bk aa;refine kI 12 ?_ ?_
 ·intro aw hM;exact (M.e_fail hM).elim
 intro aw hM;refine kg 5 ?_;obtain ⟨aI,ax,hM⟩:=M.e_bind hM;refine s_call cq [Pq aq,I stage] rfl (zgs l breaks stage (ai.app _) aj (al.app _) am (Has.here (k:=0) rfl) ax _ ((H.pk [1,0,2]).gt 2)) ?_;rintro _ aJ ⟨aK,aL,aM,aN,aO,aP,rfl,rfl,aa⟩;replace H:=H.pk [1,0,2] |>.bk aa
 refine kA 3 ?_;intro aQ aR H;refine ksw ?_;intro aS H;refine kg 2 ?_;replace H:=H.pk [0,3];refine kI 6 ?_ ?_
 ·intro ay hM;refine kS 3 ?_;intro aT H;exact kR 2 []
 intro ay hM;refine kS 4 ?_;intro aU H;exact kR 2 []

def zdK (ac:List Int) (aa:List RLn) (stage:Int):M (Int × Int) :=
  M.bind (zav ac stage) fun r2 =>
  M.grd (decide ((0:Int)<=r2)&&decide (r2<(aa.length:Int))) <|
  M.bind (zbl (aa.getD (Int.toNat r2) default) stage) fun (r0,r1) =>
  M.pure (r0,r1)
theorem zhI {R aa ac ae ag}(ah ai stage)(aj:Reads R aa)(al:Sl aa ac ah)(am:Reads R ae)(ao:Sl ae ag ai){r}(hM:(zdK ah ai stage).Ends r)(w)(H:St w w [] R):Ret Tryz.prog 276 #[.agg #[ac,ag],I stage] w fun v w'=>∃ y0 y1,(y0,y1)=r/\v = .agg #[I y0,I y1]/\St w w' [] R:=by
 refine ret_of_W Tryz.func276 rfl rfl rfl ?_;refine kB 2 ?_;intro ap aq H;refine kal ?_;intro au av H;refine kDo 2 [1] [(0,true),(1,true),(2,true),(3,true),(4,true),(8,true),(5,false),(6,true),(7,true),(9,false),(10,false)] ?_;intro aw H;refine kC 7 @zaV ?_;intro ax r2 hM H;refine kN ?_;obtain ⟨ay,hM⟩:=M.e_gq hM;refine kC 3 @zfD ?_;intro aA r0 r1 hM H;refine kN ?_;refine kS 1 ?_;intro aB H;refine kN ?_;exact kR 1 []

def zec (x2_Breaks:List Int) (x2_Lines:List RLn) (stage:Int):M (Int × Int) :=
  M.bind (zdK x2_Breaks x2_Lines stage) fun (r0,r1) =>
  M.pure (r0,r1)
theorem zhq {R ae aa ag ac}(x2_Breaks x2_Lines stage)(ah:Reads R ae)(ai:Sl ae aa x2_Breaks)(aj:Reads R ag)(al:Sl ag ac x2_Lines){r}(hM:(zec x2_Breaks x2_Lines stage).Ends r)(w)(H:St w w [] R):Ret Tryz.prog 51 #[.iface 70 (.agg #[aa,ac]),I stage] w fun v w'=>∃ y0 y1,(y0,y1)=r/\v = .agg #[I y0,I y1]/\St w w' [] R:=by
 refine ret_of_W Tryz.func51 rfl rfl rfl ?_;refine kA 2 ?_;intro ap aq H;refine kg 5 ?_;obtain ⟨au,am,hM⟩:=M.e_bind hM;refine s_calli (t:=70) (v:=.agg #[aa,ac]) (f:=276) rfl Mi70_flow cq [I stage] rfl (zhI x2_Breaks x2_Lines stage (ah.app _) ai (aj.app _) al am _ (H.gt 1)) ?_;rintro _ av ⟨r0,r1,rfl,rfl,ao⟩;replace H:=H.bk ao;refine ksw ?_;intro aw H;exact kR 1 []

def zcX (aa:List Int) (ac:List RLn) (stage:Int):M (Int × Int × Int) :=
  M.bind (za6 aa ac) fun r2 =>
  bif r2 != 0 then (
  M.pure (0,0,r2))
  else (
  M.bind (zaj stage 0 2000) fun r3 =>
  bif !r3 then (
  M.pure (0,0,4))
  else (
  M.bind (zec aa ac stage) fun (r0,r1) =>
  M.pure (r0,r1,0)))
theorem zhG {R ae aa ag ac}(ah ai stage)(am:Reads R ae)(ao:Sl ae aa ah)(ap:Reads R ag)(aq:Sl ag ac ai){r}(hM:(zcX ah ai stage).Ends r)(w)(H:St w w [] R):Ret Tryz.prog 16 #[.agg #[aa,ac],I stage] w fun v w'=>∃ y0 y1 y2,(y0,y1,y2)=r/\v = .tuple #[.agg #[I y0,I y1],I y2]/\St w w' [] R:=by
 refine ret_of_W Tryz.func16 rfl rfl rfl ?_;refine kB 2 ?_;intro au av H;refine kal ?_;intro aw ax H;refine kC 6 @zfM ?_;intro ay r2 hM H;refine kI 7 ?_ ?_
 ·intro aj hM;refine kS 4 ?_;intro aA H;exact kR 2 []
 intro aj hM;refine kC 5 @zao ?_;intro aB r3 hM H;refine kI 2 ?_ ?_
 ·intro al hM;refine kS 3 ?_;intro aC H;exact kR 2 []
 intro al hM;refine kg 4 ?_;refine s_val (x_mi (v:=.agg #[aa,ac]) Tryz.underlying70 (by intro m h_; cases h_) rfl) ?_;refine kC 1 @zhq ?_;intro aD r0 r1 hM H;refine ksw ?_;intro aE H;exact kR 2 []

def zbV (q:Rto) (ae aa ag ac:Int):M Bool :=
  M.grd ((!(((decide (0<q.den))&&(decide (0<aa)))&&(decide (0<ac)))||(decide ((-9223372036854775808:Int)<=(ae*q.den))&&decide ((ae*q.den)<=(9223372036854775807:Int))))) <|
  M.grd ((!(((decide (0<q.den))&&(decide (0<aa)))&&(decide (0<ac)))||(decide ((-9223372036854775808:Int)<=(q.num*aa))&&decide ((q.num*aa)<=(9223372036854775807:Int))))) <|
  M.grd ((!((((decide (0<q.den))&&(decide (0<aa)))&&(decide (0<ac)))&&(decide ((ae*q.den)<=(q.num*aa))))||(decide ((-9223372036854775808:Int)<=(q.num*ac))&&decide ((q.num*ac)<=(9223372036854775807:Int))))) <|
  M.grd ((!((((decide (0<q.den))&&(decide (0<aa)))&&(decide (0<ac)))&&(decide ((ae*q.den)<=(q.num*aa))))||(decide ((-9223372036854775808:Int)<=(ag*q.den))&&decide ((ag*q.den)<=(9223372036854775807:Int))))) <|
  M.pure (((((decide (0<q.den))&&(decide (0<aa)))&&(decide (0<ac)))&&(decide ((ae*q.den)<=(q.num*aa))))&&(decide ((q.num*ac)<=(ag*q.den))))
theorem zgv {R}(q ah ai aj al){r}(hM:(zbV q ah ai aj al).Ends r)(w)(H:St w w [] R):Ret Tryz.prog 17 #[.agg #[I q.num,I q.den],.agg #[I ah,I ai,I aj,I al]] w fun v w'=>∃ y0,y0=r/\v=B y0/\St w w' [] R:=by
 refine ret_of_W Tryz.func17 rfl rfl rfl ?_;refine kB 2 ?_;intro am ao H;refine kbx ?_;intro ap aq H;obtain ⟨aa,hM⟩:=M.e_grd hM;replace aa:=M.imp_of aa;simp only [Bool.and_eq_true,decide_eq_true_eq] at aa;obtain ⟨ac,hM⟩:=M.e_grd hM;replace ac:=M.imp_of ac;simp only [Bool.and_eq_true,decide_eq_true_eq] at ac;obtain ⟨ae,hM⟩:=M.e_grd hM;replace ae:=M.imp_of ae;simp only [Bool.and_eq_true,decide_eq_true_eq] at ae;obtain ⟨ag,hM⟩:=M.e_grd hM;replace ag:=M.imp_of ag;simp only [Bool.and_eq_true,decide_eq_true_eq] at ag;refine kg 51 ?_;replace H:=H.pk [];exact rt

end Go.Proofs.YtaolcidinlnklaaGreat
end
section
set_option maxRecDepth 100000
set_option maxHeartbeats 16000000
namespace Go.Proofs.YtaolcidinlnklaaGreat
open Go Go.Nm
attribute [local irreducible] gd execOp SL SLD SLT WR
def ze0 (l:List Span):(Int × Int × Nat)->M ((Int × Int × Nat) ⊕ (Int × Int)):=fun (s,s2,s3) =>
  bif decide ((s3:Int)<(l.length:Int)) then (
  M.grd (decide ((s3:Int)<(l.length:Int))) <|
  M.pure (.inl (max s ((l.getD s3 default).lo),min s2 ((l.getD s3 default).hi),s3+1)))
  else (
  M.pure (.inr (s,s2)))
def zdP (first:Span) (l:List Span):M (Int × Int) :=
  M.bind (M.iter (ze0 l) (first.lo,first.hi,0)) fun (s4,s5) =>
  M.pure (s4,s5)
theorem zcP {R ac aa}(first l)(aq:Reads R ac)(ai:Sl ac aa l){r}(hM:(zdP first l).Ends r)(w)(H:St w w [] R):Ret Tryz.prog 117 #[.agg #[I first.lo,I first.hi],aa] w fun v w'=>∃ y0 y1,(y0,y1)=r/\v = .agg #[I y0,I y1]/\St w w' [] R:=by
 refine ret_of_W Tryz.func117 rfl rfl rfl ?_;refine kB 2 ?_;intro ae au H;refine kal ?_;intro ag av H;have aw:=(ai).len_le;refine kg 9 ?_;obtain ⟨aj,ah,al⟩:=M.e_bind hM;obtain ⟨ax,ah⟩:=M.e_iter ah;refine W.loop (fun m σ W=>∃ (s:Int) (s2:Int) (s3:Nat) (ρ:Env),σ=upds ρ [(2,Pq ae),(4,Pq ag),(7,aa),(8,I (l.length:Int)),(9,I (s3:Int))]/\M.iterN (ze0 l) m (s,s2,s3)=some aj/\St w W [cBlk ag [I 0,I 0] 42,cBlk ae [I s,I s2] 42] R) ?_ ?_
 ·exact kY
 rintro ay σ aA ⟨s,s2,s3,ρ,rfl,am,H⟩;obtain ⟨aB,aC,aD,hM,ao⟩:=M.e_iterN am;refine kI 5 ?_ ?_
 ·intro ap hM;obtain ⟨aE,hM⟩:=M.e_gq hM;refine kA 7 ?_;intro aF aG H;refine ksw ?_;intro aH H;refine kS 13 ?_;intro aI H;exact kXp 5 [1,2]
 intro ap hM;refine W.exit ?_;obtain rfl:=M.e_inr hM ao;replace hM:=al;refine kS 3 ?_;intro aJ H;exact kR 1 []

def zfs (ai aj ae ac ag:Int) (aa:List CMk) (al:List CNt) (ah:List (Int × CNt)) (mark:Int):M (Int × Int) :=
  M.grd (decide ((0:Int)<=mark)&&decide (mark<(aa.length:Int))) <|
  M.gi (ac*((aa.getD (Int.toNat mark) default).height)) <|
  M.gi (ae+(ac*((aa.getD (Int.toNat mark) default).height))) <|
  M.gi ((ae+(ac*((aa.getD (Int.toNat mark) default).height)))-ag) <|
  M.gi ((ae+(ac*((aa.getD (Int.toNat mark) default).height)))+ag) <|
  bif (lookM ah (mark:Int)).isSome then (
  M.bind (zdP (⟨((ae+(ac*((aa.getD (Int.toNat mark) default).height)))-ag:Int),((ae+(ac*((aa.getD (Int.toNat mark) default).height)))+ag:Int)⟩:Span) ([(⟨(((lookM ah (mark:Int)).getD default).slo:Int),(((lookM ah (mark:Int)).getD default).shi:Int)⟩:Span)])) fun (r0,r1) =>
  M.pure (r0,r1))
  else (
  M.pure (((ae+(ac*((aa.getD (Int.toNat mark) default).height)))-ag),((ae+(ac*((aa.getD (Int.toNat mark) default).height)))+ag)))
theorem zfV {R ap aq ae au aj ag}(al am ah ai ac av aw aa mark)(aA:Reads R aq)(aB:Sl aq ae av)(aC:Reads R au)(aD:Sl au aj aw)(ax:Has R (cMl I encCN ag aa))(ao:Fld R ap [I al,I am,I ah,I ai,I ac,ae,aj,.map (some ag)]){r}(hM:(zfs al am ah ai ac av aw aa mark).Ends r)(w)(H:St w w [] R):Ret Tryz.prog 188 #[Pq ap,I mark] w fun v w'=>∃ y0 y1,(y0,y1)=r/\v = .agg #[I y0,I y1]/\St w w' [] R:=by
 refine ret_of_W Tryz.func188 rfl rfl rfl ?_;refine kA 2 ?_;intro aE aF H;refine kD 2 [0] [] ?_;intro aG H;refine kg 4 ?_;refine d_q rfl (fun w' H=>x_ld (v:=I ah) rfl (fld_sc (pre:=[I al,I am,I ah,I ai,I ac,ae,aj,.map (some ag)]) (i:=2) Sc3.h (ao.at H) rfl)) ?_;refine kg 4 ?_;refine d_q rfl (fun w' H=>x_ld (v:=I ai) rfl (fld_sc (pre:=[I al,I am,I ah,I ai,I ac,ae,aj,.map (some ag)]) (i:=3) Sc3.h (ao.at H) rfl)) ?_;refine kg 4 ?_;refine d_q rfl (fun w' H=>x_ld (v:=ae) rfl (fld_sc (pre:=[I al,I am,I ah,I ai,I ac,ae,aj,.map (some ag)]) (i:=5) Sc120.h (ao.at H) rfl)) ?_;obtain ⟨aH,hM⟩:=M.e_gq hM;obtain ⟨aI,hM⟩:=M.e_gq hM;obtain ⟨aJ,hM⟩:=M.e_gq hM;refine kD 9 [0] [15,16] ?_;intro aK H;refine kg 5 ?_;refine d_q rfl (fun w' H=>x_ld (v:=I ac) rfl (fld_sc (pre:=[I al,I am,I ah,I ai,I ac,ae,aj,.map (some ag)]) (i:=4) Sc3.h (ao.at H) rfl)) ?_;obtain ⟨aL,hM⟩:=M.e_gq hM;refine kg 6 ?_;refine d_q rfl (fun w' H=>x_ld (v:=I ac) rfl (fld_sc (pre:=[I al,I am,I ah,I ai,I ac,ae,aj,.map (some ag)]) (i:=4) Sc3.h (ao.at H) rfl)) ?_;obtain ⟨aM,hM⟩:=M.e_gq hM;refine kA 3 ?_;intro aN aO H;refine kN ?_;refine kS 1 ?_;intro aP H;refine kN ?_;refine kg 7 ?_;refine s_val (x_ld (v:=.map (some ag)) rfl (fld_sc (pre:=[I al,I am,I ah,I ai,I ac,ae,aj,.map (some ag)]) (i:=7) Sc254.h (ao.at H) rfl)) ?_;refine kg 1 ?_;refine s_val (q_look (kenc:=I) (venc:=encCN) (f:=lookM aa) (k:=(mark:Int)) (v:=.tuple #[.agg #[I (((lookM aa (mark:Int)).getD default).mark),I (((lookM aa (mark:Int)).getD default).tlo),I (((lookM aa (mark:Int)).getD default).thi),I (((lookM aa (mark:Int)).getD default).slo),I (((lookM aa (mark:Int)).getD default).shi)],B ((lookM aa (mark:Int)).isSome)]) keyIntCN Tryz.underlying254 Al191.h rfl rfl (mlMap (ax.at H)) true (by rw [if_pos rfl,cnt_val])) ?_;refine kA 3 ?_;intro aQ aR H;refine ksw ?_;intro aS H;refine kI 6 ?_ ?_
 ·intro ay hM;refine kL 4 (α:=Span) [⟨((lookM aa (mark:Int)).getD default).slo,((lookM aa (mark:Int)).getD default).shi⟩] ?_;intro aT aU H;refine kC 0 @zcP ?_;intro aV r0 r1 hM H;refine ksw ?_;intro aW H;refine s_nil ?_;replace H:=H.pk [2,3];refine kS 3 ?_;intro aX H;exact kR 1 []
 intro ay hM;refine kS 4 ?_;intro aY H;refine s_nil ?_;replace H:=H.pk [2];exact kR 0 []

def zfk (s:List Span) (f:Span->M Bool):Nat->M (Nat ⊕ (Int ⊕ Unit)):=fun s2 =>
  bif decide ((s2:Int)<(s.length:Int)) then (
  M.grd (decide ((s2:Int)<(s.length:Int))) <|
  M.bind (f (s.getD s2 default)) fun r2 =>
  bif r2 then (
  M.pure (.inr (.inl (s2:Int))))
  else (
  M.pure (.inl (s2+1))))
  else (
  M.pure (.inr (.inr ())))
def ze5 (s:List Span) (f:Span->M Bool):M Int :=
  M.bind (M.iter (zfk s f) 0) fun x_=>match x_ with
  | (.inl s3)=>(
  M.pure s3)
  | (.inr (_:Unit))=>(
  M.pure (-1))
theorem zgU {R ae aa ac}(s f)(av:Reads R ae)(aj:Sl ae aa s)(al:FnM Tryz.prog R ac f){r}(hM:(ze5 s f).Ends r)(w)(H:St w w [] R):Ret Tryz.prog 233 #[aa,ac] w fun v w'=>∃ y0,y0=r/\v=I y0/\St w w' [] R:=by
 refine ret_of_W Tryz.func233 rfl rfl rfl ?_;have aw:=(aj).len_le;refine kg 12 ?_;obtain ⟨am,ag,ah⟩:=M.e_bind hM;obtain ⟨ax,ag⟩:=M.e_iter ag;refine W.loop (fun m σ W=>∃ (s2:Nat) (ρ:Env),σ=upds ρ [(0,aa),(1,ac),(7,I (s.length:Int)),(8,I (s2:Int))]/\M.iterN (zfk s f) m s2=some am/\St w W [] R) ?_ ?_
 ·exact kY
 rintro ay σ aA ⟨s2,ρ,rfl,ao,H⟩;obtain ⟨aB,aC,aD,hM,ai⟩:=M.e_iterN ao;refine kI 5 ?_ ?_
 ·intro ap hM;obtain ⟨aE,hM⟩:=M.e_gq hM;refine kg 15 ?_;obtain ⟨r2,aq,hM⟩:=M.e_bind hM;refine t_callM H al rfl rfl (s.getD s2 default) Reads.none ⟨_,rfl,rfl⟩ aq ?_;intro aF H;refine kI 1 ?_ ?_
  ·intro au hM;refine kg 5 ?_;obtain rfl:=M.e_inr hM ai;replace hM:=ah;exact rt
  intro au hM;exact kX 5
 intro ap hM;refine W.exit ?_;obtain rfl:=M.e_inr hM ai;replace hM:=ah;refine kg 4 ?_;exact rt

def zfd (s:List Span) (f:Span->M Bool):M Bool :=
  M.bind (ze5 s f) fun r2 =>
  M.pure (decide (0<=r2))
theorem zgA {R aa ac ae}(s f)(ag:Reads R aa)(ah:Sl aa ac s)(ai:FnM Tryz.prog R ae f){r}(hM:(zfd s f).Ends r)(w)(H:St w w [] R):Ret Tryz.prog 190 #[ac,ae] w fun v w'=>∃ y0,y0=r/\v=B y0/\St w w' [] R:=by
 refine ret_of_W Tryz.func190 rfl rfl rfl ?_;refine kC 8 @zgU ?_;intro aj r2 hM H;refine kg 3 ?_;exact rt

def zeD (x:Span) (aa:Span->M Bool):M Bool :=
  M.bind (aa x) fun r2 =>
  M.pure (!r2)
theorem zhu {R aa ac}(x ae)(ag:FnM Tryz.prog R ac ae)(ai:Has R (cBlk aa [ac] 261)){r}(hM:(zeD x ae).Ends r)(w)(H:St w w [] R):Ret Tryz.prog 191 #[.agg #[I x.lo,I x.hi],Pq aa] w fun v w'=>∃ y0,y0=r/\v=B y0/\St w w' [] R:=by
 refine ret_of_W Tryz.func191 rfl rfl rfl ?_;refine kB 2 ?_;intro aj al H;refine kg 6 ?_;obtain ⟨r2,ah,hM⟩:=M.e_bind hM;refine t_callM H ag rfl rfl x Reads.none ⟨_,rfl,rfl⟩ ah ?_;intro am H;refine kg 3 ?_;exact rt

def zdN (l:List Span) (so:Span->M Bool):M Bool :=
  M.bind (zfd l (fun aa=>zeD aa so)) fun r2 =>
  M.pure (!r2)
theorem zfP {R ag aa ah}(l so)(aj:Reads R ag)(al:Sl ag aa l)(am:FnM Tryz.prog R ah so){r}(hM:(zdN l so).Ends r)(w)(H:St w w [] R):Ret Tryz.prog 118 #[aa,ah] w fun v w'=>∃ y0,y0=r/\v=B y0/\St w w' [] R:=by
 refine ret_of_W Tryz.func118 rfl rfl rfl ?_;refine kB 2 ?_;intro ac aB H;refine kg 5 ?_;refine s_val (x_mf (fs:=[]) (cs:=[Pq ac]) rfl rfl) ?_;obtain ⟨aC,ao,hM⟩:=M.e_bind hM;refine s_call cq [aa,.func (.func 191) #[] #[Pq ac]] rfl (zgA l (fun ae=>zeD ae so) (aj.app _) al ⟨191,[Pq ac],rfl,cq,fun ai aD aE ap ae aF aq aG au av=>by obtain rfl:=Span_arg au; exact (zhu ae so (FnM.app (am.app _) _) (Has.app (Has.here (k:=0) rfl) _) av ai (St.refl aq)).mono fun ap ai ⟨aH,aw,ax,ay⟩=>by subst aw; exact ⟨ax,ay⟩⟩ ao _ (H.gt 1)) ?_;rintro _ aI ⟨r2,rfl,rfl,aA⟩;replace H:=H.bk aA;refine kg 3 ?_;exact rt

def zef (s:Span):M Bool :=
  M.pure (decide (s.lo<=s.hi))
theorem zgl {R}(s){r}(hM:(zef s).Ends r)(w)(H:St w w [] R):Ret Tryz.prog 189 #[.agg #[I s.lo,I s.hi]] w fun v w'=>∃ y0,y0=r/\v=B y0/\St w w' [] R:=by
 refine ret_of_W Tryz.func189 rfl rfl rfl ?_;refine kB 2 ?_;intro aa ac H;refine kg 11 ?_;exact rt

def ze8 (ac ae ag ah ai:Int) (aa:List CMk) (aj:List CNt) (al:List (Int × CNt)):(Nat × (List Span))->M ((Nat × (List Span)) ⊕ ((List Span) × (List Span))):=fun (s,l) =>
  bif decide ((s:Int)<(aa.length:Int)) then (
  M.bind (zfs ac ae ag ah ai aa aj al (s:Int)) fun (r0,r1) =>
  M.grd (decide ((l.length+([(⟨(r0:Int),(r1:Int)⟩:Span)]).length)*16<=140737488355328)) <|
  M.pure (.inl (s+1,l++([(⟨(r0:Int),(r1:Int)⟩:Span)]))))
  else (
  M.pure (.inr (l,l)))
def zdv (aa ac ae ag ah:Int) (ai:List CMk) (aj:List CNt) (al:List (Int × CNt)):M ((List Span) × Bool) :=
  M.bind (M.iter (ze8 aa ac ae ag ah ai aj al) (0,[])) fun (l2,l3) =>
  M.bind (zdN l3 (fun am=>zef am)) fun r2 =>
  M.pure (l3,r2)
theorem zeS {R am aw aa ax ao ap}(ac ae ag ah ai aj aq au)(aR:Reads R aw)(aB:Sl aw aa aj)(aS:Reads R ax)(aT:Sl ax ao aq)(aU:Has R (cMl I encCN ap au))(aC:Fld R am [I ac,I ae,I ag,I ah,I ai,aa,ao,.map (some ap)]){r}(hM:(zdv ac ae ag ah ai aj aq au).Ends r)(w)(H:St w w [] R):Ret Tryz.prog 114 #[Pq am] w fun v w'=>∃ y0 y1 u0,(y0,y1)=r/\v = .tuple #[u0,B y1]/\St w w' [cOwn (α:=Span) 42 u0 y0] R:=by
 refine ret_of_W Tryz.func114 rfl rfl rfl ?_;refine kg 16 ?_;refine s_val (x_ld (v:=aa) rfl (fld_sc (pre:=[I ac,I ae,I ag,I ah,I ai,aa,ao,.map (some ap)]) (i:=5) Sc120.h (aC.at H) rfl)) ?_;have aV:=(aB).len_le;refine kg 4 ?_;replace H:=H.nilOwn (α:=Span) 42;obtain ⟨aD,ay,aE⟩:=M.e_bind hM;obtain ⟨aW,ay⟩:=M.e_iter ay;refine W.loop (fun m σ W=>∃ (s:Nat) (l:List Span) (al:Value) (ρ:Env),σ=upds ρ [(0,Pq am),(4,al),(11,I (aj.length:Int)),(12,I (s:Int))]/\M.iterN (ze8 ac ae ag ah ai aj aq au) m (s,l)=some aD/\St w W [cOwn (α:=Span) 42 al l] R) ?_ ?_
 ·exact kY
 rintro aX σ aY ⟨s,l,al,ρ,rfl,aF,H⟩;obtain ⟨aZ,a7,a8,hM,aG⟩:=M.e_iterN aF;refine kI 5 ?_ ?_
 ·intro aH hM;refine kC 12 @zfV ?_;intro ba r0 r1 hM H;refine kL 0 (α:=Span) [⟨r0,r1⟩] ?_;intro bc bg H;obtain ⟨bi,hM⟩:=M.e_gq hM;refine kP 0 ?_;intro bj bm H;exact kXp 6 [1]
 intro aH hM;refine W.exit ?_;obtain rfl:=M.e_inr hM aG;replace hM:=aE;refine kg 4 ?_;obtain ⟨bn,aI,hM⟩:=M.e_bind hM;refine s_call cq [al,.func (.func 189) #[] #[]] rfl (zfP l (fun av=>zef av) (rdo 0) (H.os 0) ⟨189,[],rfl,cq,fun aA bp br aJ av bt aK bu aL aM=>by obtain rfl:=Span_arg aL; exact (zgl av aM aA (St.refl aK)).mono fun aJ aA ⟨bv,aN,aO,aP⟩=>by subst aN; exact ⟨aO,aP⟩⟩ aI _ (H.gt 1)) ?_;rintro _ bw ⟨r2,rfl,rfl,aQ⟩;replace H:=H.bk aQ;refine kg 3 ?_;exact rt

def zbz (s:List Span):M (List Span) :=
  M.grd (decide (0<s.length)) <|
  M.grd (decide ((([]:List Span).length+s.length)*16<=140737488355328)) <|
  M.pure s
theorem zdz {R aa ac}(s)(ah:Reads R aa)(ag:Sl aa ac s){r}(hM:(zbz s).Ends r)(w)(H:St w w [] R):Ret Tryz.prog 102 #[ac] w fun v w'=>∃ y0 u0,y0=r/\v=u0/\St w w' [cOwn (α:=Span) 42 u0 y0] R:=by
 refine ret_of_W Tryz.func102 rfl rfl rfl ?_;obtain ⟨ai,hM⟩:=M.e_gq hM;refine kg 8 ?_;refine s_val (x_eqnilp (α:=Span) T88.h.und rfl rfl ag (by omega))<|s_nil ?_
 refine W.cond false rfl (fun ae=>?_) (fun ae=>?_)
 ·exact absurd ae (by decide)
 refine kg 3 ?_;refine t_bs0 (α:=Span) T88.h H ?_;intro aj al H;obtain ⟨am,hM⟩:=M.e_gq hM;refine kP 1 ?_;intro ao ap H;refine kg 2 ?_;exact rt

def m_shift_in (n aa greatest:Int):M Bool :=
  M.pure ((decide (aa<=n))&&(decide (n<=greatest)))
theorem shift_in_ok {R}(n aa greatest){r}(hM:(m_shift_in n aa greatest).Ends r)(w)(H:St w w [] R):Ret Tryz.prog 53 #[I n,I aa,I greatest] w fun v w'=>∃ y0,y0=r/\v=B y0/\St w w' [] R:=by
 refine ret_of_W Tryz.func53 rfl rfl rfl ?_;refine kg 16 ?_;exact rt

def zaM (s:List SMk) (f:SMk->M Bool):Nat->M (Nat ⊕ (Int ⊕ Unit)):=fun s2 =>
  bif decide ((s2:Int)<(s.length:Int)) then (
  M.grd (decide ((s2:Int)<(s.length:Int))) <|
  M.bind (f (s.getD s2 default)) fun r2 =>
  bif r2 then (
  M.pure (.inr (.inl (s2:Int))))
  else (
  M.pure (.inl (s2+1))))
  else (
  M.pure (.inr (.inr ())))
def zaF (s:List SMk) (f:SMk->M Bool):M Int :=
  M.bind (M.iter (zaM s f) 0) fun x_=>match x_ with
  | (.inl s3)=>(
  M.pure s3)
  | (.inr (_:Unit))=>(
  M.pure (-1))
theorem zfL {R ae aa ac}(s f)(av:Reads R ae)(aj:Sl ae aa s)(al:FnM Tryz.prog R ac f){r}(hM:(zaF s f).Ends r)(w)(H:St w w [] R):Ret Tryz.prog 224 #[aa,ac] w fun v w'=>∃ y0,y0=r/\v=I y0/\St w w' [] R:=by
 refine ret_of_W Tryz.func224 rfl rfl rfl ?_;have aw:=(aj).len_le;refine kg 12 ?_;obtain ⟨am,ag,ah⟩:=M.e_bind hM;obtain ⟨ax,ag⟩:=M.e_iter ag;refine W.loop (fun m σ W=>∃ (s2:Nat) (ρ:Env),σ=upds ρ [(0,aa),(1,ac),(7,I (s.length:Int)),(8,I (s2:Int))]/\M.iterN (zaM s f) m s2=some am/\St w W [] R) ?_ ?_
 ·exact kY
 rintro ay σ aA ⟨s2,ρ,rfl,ao,H⟩;obtain ⟨aB,aC,aD,hM,ai⟩:=M.e_iterN ao;refine kI 5 ?_ ?_
 ·intro ap hM;obtain ⟨aE,hM⟩:=M.e_gq hM;refine kg 15 ?_;obtain ⟨r2,aq,hM⟩:=M.e_bind hM;refine t_callM H al rfl rfl (s.getD s2 default) Reads.none ⟨_,rfl,rfl⟩ aq ?_;intro aF H;refine kI 1 ?_ ?_
  ·intro au hM;refine kg 5 ?_;obtain rfl:=M.e_inr hM ai;replace hM:=ah;exact rt
  intro au hM;exact kX 5
 intro ap hM;refine W.exit ?_;obtain rfl:=M.e_inr hM ai;replace hM:=ah;refine kg 4 ?_;exact rt

def zbS (s:List SMk) (f:SMk->M Bool):M Bool :=
  M.bind (zaF s f) fun r2 =>
  M.pure (decide (0<=r2))
theorem zhx {R aa ac ae}(s f)(ag:Reads R aa)(ah:Sl aa ac s)(ai:FnM Tryz.prog R ae f){r}(hM:(zbS s f).Ends r)(w)(H:St w w [] R):Ret Tryz.prog 241 #[ac,ae] w fun v w'=>∃ y0,y0=r/\v=B y0/\St w w' [] R:=by
 refine ret_of_W Tryz.func241 rfl rfl rfl ?_;refine kC 8 @zfL ?_;intro aj r2 hM H;refine kg 3 ?_;exact rt

def m_shift_every_shift_Mark__1 (x:SMk) (aa:SMk->M Bool):M Bool :=
  M.bind (aa x) fun r2 =>
  M.pure (!r2)
theorem shift_every_shift_Mark__1_ok {R aa ac}(x ae)(ag:FnM Tryz.prog R ac ae)(ai:Has R (cBlk aa [ac] 334)){r}(hM:(m_shift_every_shift_Mark__1 x ae).Ends r)(w)(H:St w w [] R):Ret Tryz.prog 242 #[.agg #[I x.stage,I x.flow],Pq aa] w fun v w'=>∃ y0,y0=r/\v=B y0/\St w w' [] R:=by
 refine ret_of_W Tryz.func242 rfl rfl rfl ?_;refine kB 2 ?_;intro aj al H;refine kg 6 ?_;obtain ⟨r2,ah,hM⟩:=M.e_bind hM;refine t_callM H ag rfl rfl x Reads.none ⟨_,rfl,rfl⟩ ah ?_;intro am H;refine kg 3 ?_;exact rt

def m_shift_every_shift_Mark (l:List SMk) (so:SMk->M Bool):M Bool :=
  M.bind (zbS l (fun aa=>m_shift_every_shift_Mark__1 aa so)) fun r2 =>
  M.pure (!r2)
theorem shift_every_shift_Mark_ok {R ag aa ah}(l so)(aj:Reads R ag)(al:Sl ag aa l)(am:FnM Tryz.prog R ah so){r}(hM:(m_shift_every_shift_Mark l so).Ends r)(w)(H:St w w [] R):Ret Tryz.prog 218 #[aa,ah] w fun v w'=>∃ y0,y0=r/\v=B y0/\St w w' [] R:=by
 refine ret_of_W Tryz.func218 rfl rfl rfl ?_;refine kB 2 ?_;intro ac aB H;refine kg 5 ?_;refine s_val (x_mf (fs:=[]) (cs:=[Pq ac]) rfl rfl) ?_;obtain ⟨aC,ao,hM⟩:=M.e_bind hM;refine s_call cq [aa,.func (.func 242) #[] #[Pq ac]] rfl (zhx l (fun ae=>m_shift_every_shift_Mark__1 ae so) (aj.app _) al ⟨242,[Pq ac],rfl,cq,fun ai aD aE ap ae aF aq aG au av=>by obtain rfl:=SMk_arg au; exact (shift_every_shift_Mark__1_ok ae so (FnM.app (am.app _) _) (Has.app (Has.here (k:=0) rfl) _) av ai (St.refl aq)).mono fun ap ai ⟨aH,aw,ax,ay⟩=>by subst aw; exact ⟨ax,ay⟩⟩ ao _ (H.gt 1)) ?_;rintro _ aI ⟨r2,rfl,rfl,aA⟩;replace H:=H.bk aA;refine kg 3 ?_;exact rt

def m_shift_stage (n:Int):M Bool :=
  M.bind (m_shift_in n (-2000) 2000) fun r2 =>
  M.pure r2
theorem shift_stage_ok {R}(n){r}(hM:(m_shift_stage n).Ends r)(w)(H:St w w [] R):Ret Tryz.prog 173 #[I n] w fun v w'=>∃ y0,y0=r/\v=B y0/\St w w' [] R:=by
 refine ret_of_W Tryz.func173 rfl rfl rfl ?_;refine kC 7 @shift_in_ok ?_;intro aa r2 hM H;refine kg 2 ?_;exact rt

def m_shift_flow (n:Int):M Bool :=
  M.bind (m_shift_in n 0 1000000000) fun r2 =>
  M.pure r2
theorem shift_flow_ok {R}(n){r}(hM:(m_shift_flow n).Ends r)(w)(H:St w w [] R):Ret Tryz.prog 174 #[I n] w fun v w'=>∃ y0,y0=r/\v=B y0/\St w w' [] R:=by
 refine ret_of_W Tryz.func174 rfl rfl rfl ?_;refine kC 7 @shift_in_ok ?_;intro aa r2 hM H;refine kg 2 ?_;exact rt

def m_shift_rated_1 (m_:SMk):M Bool :=
  M.bind (m_shift_stage m_.stage) fun r2 =>
  M.bind (M.opt r2 (m_shift_flow m_.flow) false) fun r3 =>
  M.pure (r2&&r3)
theorem shift_rated_1_ok {R}(m_){r}(hM:(m_shift_rated_1 m_).Ends r)(w)(H:St w w [] R):Ret Tryz.prog 219 #[.agg #[I m_.stage,I m_.flow]] w fun v w'=>∃ y0,y0=r/\v=B y0/\St w w' [] R:=by
 refine ret_of_W Tryz.func219 rfl rfl rfl ?_;refine kB 2 ?_;intro ag ah H;refine kC 6 @shift_stage_ok ?_;intro ai r2 hM H;refine kg 3 ?_;obtain ⟨r3,aa,hM⟩:=M.e_bind hM;refine t_gcall r2 (gy_t rfl) cq (B r3) (fun _=>[I m_.flow]) (fun hg=>lst1 (gd_of hg (I m_.flow))) H (fun hg=>(shift_flow_ok m_.flow (M.e_opt aa hg) _ (H.give (A:=[]) rfl)).mono fun v_ w_ ⟨y_,ac,ae,H_⟩=>by subst ac; exact ⟨ae,H.via H_⟩) ?_;intro aj H;refine kg 3 ?_;exact rt

def m_shift_rated (l:List SMk):M Int :=
  M.bind (m_shift_in (l.length:Int) 2 12) fun r2 =>
  bif !r2 then (
  M.pure 3)
  else (
  M.bind (m_shift_every_shift_Mark l (fun aa=>m_shift_rated_1 aa)) fun r3 =>
  bif !r3 then (
  M.pure 60)
  else (
  M.pure 0))
theorem shift_rated_ok {R ae aa}(l)(ai:Reads R ae)(ag:Sl ae aa l){r}(hM:(m_shift_rated l).Ends r)(w)(H:St w w [] R):Ret Tryz.prog 170 #[aa] w fun v w'=>∃ y0,y0=r/\v=I y0/\St w w' [] R:=by
 refine ret_of_W Tryz.func170 rfl rfl rfl ?_;have aA:=(ag).len_le;refine kC 10 @shift_in_ok ?_;intro aB r2 hM H;refine kI 3 ?_ ?_
 ·intro aj hM;refine kg 4 ?_;exact rt
 intro aj hM;refine kg 3 ?_;obtain ⟨aC,al,hM⟩:=M.e_bind hM;refine s_call cq [aa,.func (.func 219) #[] #[]] rfl (shift_every_shift_Mark_ok l (fun ac=>m_shift_rated_1 ac) (ai.app _) ag ⟨219,[],rfl,cq,fun ah aD aE am ac aF ao aG ap aq=>by obtain rfl:=SMk_arg ap; exact (shift_rated_1_ok ac aq ah (St.refl ao)).mono fun am ah ⟨aH,au,av,aw⟩=>by subst au; exact ⟨av,aw⟩⟩ al _ (H.gt 0)) ?_;rintro _ aI ⟨r3,rfl,rfl,ax⟩;replace H:=H.bk ax;refine kI 3 ?_ ?_
 ·intro ay hM;refine kg 4 ?_;exact rt
 intro ay hM;refine kg 5 ?_;exact rt

def zdf (s:List SGg) (f:SGg->M Bool):Nat->M (Nat ⊕ (Int ⊕ Unit)):=fun s2 =>
  bif decide ((s2:Int)<(s.length:Int)) then (
  M.grd (decide ((s2:Int)<(s.length:Int))) <|
  M.bind (f (s.getD s2 default)) fun r2 =>
  bif r2 then (
  M.pure (.inr (.inl (s2:Int))))
  else (
  M.pure (.inl (s2+1))))
  else (
  M.pure (.inr (.inr ())))
def zd2 (s:List SGg) (f:SGg->M Bool):M Int :=
  M.bind (M.iter (zdf s f) 0) fun x_=>match x_ with
  | (.inl s3)=>(
  M.pure s3)
  | (.inr (_:Unit))=>(
  M.pure (-1))
theorem zg9 {R ae aa ac}(s f)(av:Reads R ae)(aj:Sl ae aa s)(al:FnM Tryz.prog R ac f){r}(hM:(zd2 s f).Ends r)(w)(H:St w w [] R):Ret Tryz.prog 243 #[aa,ac] w fun v w'=>∃ y0,y0=r/\v=I y0/\St w w' [] R:=by
 refine ret_of_W Tryz.func243 rfl rfl rfl ?_;have aw:=(aj).len_le;refine kg 12 ?_;obtain ⟨am,ag,ah⟩:=M.e_bind hM;obtain ⟨ax,ag⟩:=M.e_iter ag;refine W.loop (fun m σ W=>∃ (s2:Nat) (ρ:Env),σ=upds ρ [(0,aa),(1,ac),(7,I (s.length:Int)),(8,I (s2:Int))]/\M.iterN (zdf s f) m s2=some am/\St w W [] R) ?_ ?_
 ·exact kY
 rintro ay σ aA ⟨s2,ρ,rfl,ao,H⟩;obtain ⟨aB,aC,aD,hM,ai⟩:=M.e_iterN ao;refine kI 5 ?_ ?_
 ·intro ap hM;obtain ⟨aE,hM⟩:=M.e_gq hM;refine kg 15 ?_;obtain ⟨r2,aq,hM⟩:=M.e_bind hM;refine t_callM H al rfl rfl (s.getD s2 default) Reads.none ⟨_,rfl,rfl⟩ aq ?_;intro aF H;refine kI 1 ?_ ?_
  ·intro au hM;refine kg 5 ?_;obtain rfl:=M.e_inr hM ai;replace hM:=ah;exact rt
  intro au hM;exact kX 5
 intro ap hM;refine W.exit ?_;obtain rfl:=M.e_inr hM ai;replace hM:=ah;refine kg 4 ?_;exact rt

def zck (s:List SGg) (f:SGg->M Bool):M Bool :=
  M.bind (zd2 s f) fun r2 =>
  M.pure (decide (0<=r2))
theorem zhC {R aa ac ae}(s f)(ag:Reads R aa)(ah:Sl aa ac s)(ai:FnM Tryz.prog R ae f){r}(hM:(zck s f).Ends r)(w)(H:St w w [] R):Ret Tryz.prog 220 #[ac,ae] w fun v w'=>∃ y0,y0=r/\v=B y0/\St w w' [] R:=by
 refine ret_of_W Tryz.func220 rfl rfl rfl ?_;refine kC 8 @zg9 ?_;intro aj r2 hM H;refine kg 3 ?_;exact rt

def m_shift_every_shift_Gauging__1 (x:SGg) (aa:SGg->M Bool):M Bool :=
  M.bind (aa x) fun r2 =>
  M.pure (!r2)
theorem shift_every_shift_Gauging__1_ok {R aa ac}(x ae)(ag:FnM Tryz.prog R ac ae)(ai:Has R (cBlk aa [ac] 303)){r}(hM:(m_shift_every_shift_Gauging__1 x ae).Ends r)(w)(H:St w w [] R):Ret Tryz.prog 221 #[.agg #[I x.day,I x.stage,I x.lo,I x.hi],Pq aa] w fun v w'=>∃ y0,y0=r/\v=B y0/\St w w' [] R:=by
 refine ret_of_W Tryz.func221 rfl rfl rfl ?_;refine kB 2 ?_;intro aj al H;refine kg 6 ?_;obtain ⟨r2,ah,hM⟩:=M.e_bind hM;refine t_callM H ag rfl rfl x Reads.none ⟨_,rfl,rfl⟩ ah ?_;intro am H;refine kg 3 ?_;exact rt

def m_shift_every_shift_Gauging (l:List SGg) (so:SGg->M Bool):M Bool :=
  M.bind (zck l (fun aa=>m_shift_every_shift_Gauging__1 aa so)) fun r2 =>
  M.pure (!r2)
theorem shift_every_shift_Gauging_ok {R ag aa ah}(l so)(aj:Reads R ag)(al:Sl ag aa l)(am:FnM Tryz.prog R ah so){r}(hM:(m_shift_every_shift_Gauging l so).Ends r)(w)(H:St w w [] R):Ret Tryz.prog 171 #[aa,ah] w fun v w'=>∃ y0,y0=r/\v=B y0/\St w w' [] R:=by
 refine ret_of_W Tryz.func171 rfl rfl rfl ?_;refine kB 2 ?_;intro ac aB H;refine kg 5 ?_;refine s_val (x_mf (fs:=[]) (cs:=[Pq ac]) rfl rfl) ?_;obtain ⟨aC,ao,hM⟩:=M.e_bind hM;refine s_call cq [aa,.func (.func 221) #[] #[Pq ac]] rfl (zhC l (fun ae=>m_shift_every_shift_Gauging__1 ae so) (aj.app _) al ⟨221,[Pq ac],rfl,cq,fun ai aD aE ap ae aF aq aG au av=>by obtain rfl:=SGg_arg au; exact (shift_every_shift_Gauging__1_ok ae so (FnM.app (am.app _) _) (Has.app (Has.here (k:=0) rfl) _) av ai (St.refl aq)).mono fun ap ai ⟨aH,aw,ax,ay⟩=>by subst aw; exact ⟨ax,ay⟩⟩ ao _ (H.gt 1)) ?_;rintro _ aI ⟨r2,rfl,rfl,aA⟩;replace H:=H.bk aA;refine kg 3 ?_;exact rt

def m_shift_Check_1 (g:SGg):M Bool :=
  M.bind (m_shift_in g.day 0 40000) fun r2 =>
  M.bind (M.opt r2 (m_shift_stage g.stage) false) fun r3 =>
  M.bind (M.opt (r2&&r3) (m_shift_in g.lo 0 g.hi) false) fun r4 =>
  M.bind (M.opt ((r2&&r3)&&r4) (m_shift_flow g.hi) false) fun r5 =>
  M.pure (((r2&&r3)&&r4)&&r5)
theorem shift_Check_1_ok {R}(g){r}(hM:(m_shift_Check_1 g).Ends r)(w)(H:St w w [] R):Ret Tryz.prog 172 #[.agg #[I g.day,I g.stage,I g.lo,I g.hi]] w fun v w'=>∃ y0,y0=r/\v=B y0/\St w w' [] R:=by
 refine ret_of_W Tryz.func172 rfl rfl rfl ?_;refine kB 2 ?_;intro ai aj H;refine kC 6 @shift_in_ok ?_;intro al r2 hM H;refine kg 3 ?_;obtain ⟨r3,ae,hM⟩:=M.e_bind hM;refine t_gcall r2 (gy_t rfl) cq (B r3) (fun _=>[I g.stage]) (fun hg=>lst1 (gd_of hg (I g.stage))) H (fun hg=>(shift_stage_ok g.stage (M.e_opt ae hg) _ (H.give (A:=[]) rfl)).mono fun v_ w_ ⟨y_,aa,ac,H_⟩=>by subst aa; exact ⟨ac,H.via H_⟩) ?_;intro am H;refine kg 8 ?_;obtain ⟨r4,ag,hM⟩:=M.e_bind hM;refine t_gcall (r2&&r3) (gy_t rfl) cq (B r4) (fun _=>[I g.lo,I 0,I g.hi]) (fun hg=>lst3 (gd_of hg (I g.lo)) rfl (gd_of hg (I g.hi))) H (fun hg=>(shift_in_ok g.lo 0 g.hi (M.e_opt ag hg) _ (H.give (A:=[]) rfl)).mono fun v_ w_ ⟨y_,aa,ac,H_⟩=>by subst aa; exact ⟨ac,H.via H_⟩) ?_;intro ao H;refine kg 5 ?_;obtain ⟨r5,ah,hM⟩:=M.e_bind hM;refine t_gcall ((r2&&r3)&&r4) (gy_t rfl) cq (B r5) (fun _=>[I g.hi]) (fun hg=>lst1 (gd_of hg (I g.hi))) H (fun hg=>(shift_flow_ok g.hi (M.e_opt ah hg) _ (H.give (A:=[]) rfl)).mono fun v_ w_ ⟨y_,aa,ac,H_⟩=>by subst aa; exact ⟨ac,H.via H_⟩) ?_;intro ap H;refine kg 3 ?_;exact rt

def m_shift_rises_b0 (l:List SMk):Nat->M (Nat ⊕ (Unit ⊕ Unit)):=fun s =>
  bif decide ((s:Int)<((l.drop 1).length:Int)) then (
  M.grd (decide ((0:Int)<=((s:Int)+1))&&decide (((s:Int)+1)<(l.length:Int))) <|
  M.grd (decide ((s:Int)<(l.length:Int))) <|
  bif ((decide (((l.getD (Int.toNat ((s:Int)+1)) default).stage)<=((l.getD s default).stage)))||(decide (((l.getD (Int.toNat ((s:Int)+1)) default).flow)<=((l.getD s default).flow)))) then (
  M.pure (.inr (.inl ())))
  else (
  M.pure (.inl (s+1))))
  else (
  M.pure (.inr (.inr ())))
def m_shift_rises (l:List SMk):M Bool :=
  M.grd (decide (1<=(l.length:Int))) <|
  M.bind (M.iter (m_shift_rises_b0 l) 0) fun x_=>match x_ with
  | (.inl (_:Unit))=>(
  M.pure false)
  | (.inr (_:Unit))=>(
  M.pure true)
theorem shift_rises_ok {R ae aa}(l)(av:Reads R ae)(al:Sl ae aa l){r}(hM:(m_shift_rises l).Ends r)(w)(H:St w w [] R):Ret Tryz.prog 175 #[aa] w fun v w'=>∃ y0,y0=r/\v=B y0/\St w w' [] R:=by
 refine ret_of_W Tryz.func175 rfl rfl rfl ?_;obtain ⟨aw,hM⟩:=M.e_gq hM;refine kg 8 ?_;obtain ⟨ag,am,ac⟩:=sl_lo T82.h.und T82.h.size al (i:=1) (by omega) (by omega);replace ac:Sl _ ag (l.drop 1):=ac;refine s_val (x_sl (v:=aa) (u:=ag) (lo':=some (I 1)) (hi':=none) (mx':=none) rfl rfl rfl rfl (am _)) ?_;have ax:=(ac).len_le;refine kg 4 ?_;obtain ⟨ao,ah,ai⟩:=M.e_bind hM;obtain ⟨ay,ah⟩:=M.e_iter ah;refine W.loop (fun m σ W=>∃ (s:Nat) (ρ:Env),σ=upds ρ [(0,aa),(6,I ((l.drop 1).length:Int)),(7,I (s:Int))]/\M.iterN (m_shift_rises_b0 l) m s=some ao/\St w W [] R) ?_ ?_
 ·exact kY
 rintro aA σ aB ⟨s,ρ,rfl,ap,H⟩;obtain ⟨aC,aD,aE,hM,aj⟩:=M.e_iterN ap;refine kI 5 ?_ ?_
 ·intro aq hM;refine kD 9 [] [] ?_;intro aF H;obtain ⟨aG,hM⟩:=M.e_gq hM;obtain ⟨aH,hM⟩:=M.e_gq hM;refine kI 27 ?_ ?_
  ·intro au hM;refine kg 4 ?_;obtain rfl:=M.e_inr hM aj;replace hM:=ai;exact rt
  intro au hM;exact kX 5
 intro aq hM;refine W.exit ?_;obtain rfl:=M.e_inr hM aj;replace hM:=ai;refine kg 4 ?_;exact rt

def m_shift_Check_b0 (aa:List SGg):Nat->M (Nat ⊕ (Unit ⊕ Unit)):=fun s =>
  bif decide ((s:Int)<(aa.length:Int)) then (
  M.grd (decide ((s:Int)<(aa.length:Int))) <|
  M.grd ((!(decide (0<(s:Int)))||(decide ((-9223372036854775808:Int)<=((s:Int)-1))&&decide (((s:Int)-1)<=(9223372036854775807:Int))))) <|
  M.grd ((!(decide (0<(s:Int)))||(decide ((0:Int)<=((s:Int)-1))&&decide (((s:Int)-1)<(aa.length:Int))))) <|
  bif ((decide (0<(s:Int)))&&(decide (((aa.getD s default).day)<=((aa.getD (Int.toNat ((s:Int)-1)) default).day)))) then (
  M.pure (.inr (.inl ())))
  else (
  M.pure (.inl (s+1))))
  else (
  M.pure (.inr (.inr ())))
def m_shift_Check (ac:List SMk) (aa:List SGg):M Int :=
  M.bind (m_shift_rated ac) fun r2 =>
  M.bind (M.opt (!(r2==3)) (m_shift_in (aa.length:Int) 1 30) false) fun r3 =>
  bif ((r2==3)||(!r3)) then (
  M.pure 3)
  else (
  bif r2 != 0 then (
  M.pure r2)
  else (
  M.bind (m_shift_every_shift_Gauging aa (fun ae=>m_shift_Check_1 ae)) fun r4 =>
  bif !r4 then (
  M.pure 60)
  else (
  M.bind (m_shift_rises ac) fun r5 =>
  bif !r5 then (
  M.pure 9)
  else (
  M.bind (M.iter (m_shift_Check_b0 aa) 0) fun x_=>match x_ with
  | (.inl (_:Unit))=>(
  M.pure 9)
  | (.inr (_:Unit))=>(
  M.pure 0)))))
theorem shift_Check_ok {R al ae am ac}(ao aa)(aT:Reads R al)(aU:Sl al ae ao)(ax:Reads R am)(ag:Sl am ac aa){r}(hM:(m_shift_Check ao aa).Ends r)(w)(H:St w w [] R):Ret Tryz.prog 99 #[.agg #[ae,ac]] w fun v w'=>∃ y0,y0=r/\v=I y0/\St w w' [] R:=by
 refine ret_of_W Tryz.func99 rfl rfl rfl ?_;refine kB 2 ?_;intro ap aV H;refine kC 6 @shift_rated_ok ?_;intro aW r2 hM H;have aX:=(ag).len_le;refine kg 12 ?_;obtain ⟨r3,ay,hM⟩:=M.e_bind hM;refine t_gcall (!(r2==3)) (gy_f rfl) cq (B r3) (fun _=>[I (aa.length:Int),I 1,I 30]) (fun hg=>lst3 (gd_of hg (I (aa.length:Int))) rfl rfl) H (fun hg=>(shift_in_ok (aa.length:Int) 1 30 (M.e_opt ay hg) _ (H.give (A:=[]) rfl)).mono fun v_ w_ ⟨y_,aA,aB,H_⟩=>by subst aA; exact ⟨aB,H.via H_⟩) ?_;intro aY H;refine kI 4 ?_ ?_
 ·intro aC hM;refine kg 4 ?_;exact rt
 intro aC hM;refine kI 6 ?_ ?_
 ·intro aD hM;refine kg 5 ?_;exact rt
 intro aD hM;refine kg 4 ?_;obtain ⟨aZ,aE,hM⟩:=M.e_bind hM;refine s_call cq [ac,.func (.func 172) #[] #[]] rfl (shift_every_shift_Gauging_ok aa (fun ah=>m_shift_Check_1 ah) (ax.app _) ag ⟨172,[],rfl,cq,fun aq a7 a8 aF ah ba aG bc aH aI=>by obtain rfl:=SGg_arg aH; exact (shift_Check_1_ok ah aI aq (St.refl aG)).mono fun aF aq ⟨bg,aJ,aK,aL⟩=>by subst aJ; exact ⟨aK,aL⟩⟩ aE _ (H.gt 1)) ?_;rintro _ bi ⟨r4,rfl,rfl,aM⟩;replace H:=H.bk aM;refine kI 3 ?_ ?_
 ·intro aN hM;refine kg 4 ?_;exact rt
 intro aN hM;refine kC 4 @shift_rises_ok ?_;intro bj r5 hM H;refine kI 3 ?_ ?_
 ·intro aO hM;refine kg 4 ?_;exact rt
 intro aO hM;have bm:=(ag).len_le;refine kg 10 ?_;obtain ⟨aP,au,av⟩:=M.e_bind hM;obtain ⟨bn,au⟩:=M.e_iter au;refine W.loop (fun m σ W=>∃ (s:Nat) (ρ:Env),σ=upds ρ [(1,Pq ap),(34,ac),(35,I (aa.length:Int)),(36,I (s:Int))]/\M.iterN (m_shift_Check_b0 aa) m s=some aP/\St w W [cBlk ap [ae,ac] 87] R) ?_ ?_
 ·exact kY
 rintro bp σ br ⟨s,ρ,rfl,aQ,H⟩;obtain ⟨bt,bu,bv,hM,aw⟩:=M.e_iterN aQ;refine kI 5 ?_ ?_
 ·intro aR hM;obtain ⟨bw,hM⟩:=M.e_gq hM;refine kA 8 ?_;intro bx bz H;refine kS 1 ?_;intro bA H;refine kD 2 [0,1] [] ?_;intro bB H;obtain ⟨ai,hM⟩:=M.e_grd hM;replace ai:=M.imp_of ai;simp only [Bool.and_eq_true,decide_eq_true_eq] at ai;obtain ⟨aj,hM⟩:=M.e_grd hM;replace aj:=M.imp_of aj;simp only [Bool.and_eq_true,decide_eq_true_eq] at aj;refine kI 15 ?_ ?_
  ·intro aS hM;refine kg 4 ?_;obtain rfl:=M.e_inr hM aw;replace hM:=av;exact rt
  intro aS hM;exact kXp 5 [1]
 intro aR hM;refine W.exit ?_;obtain rfl:=M.e_inr hM aw;replace hM:=av;refine kg 4 ?_;exact rt

def m_shift_shifts  : M Unit :=
  M.pure ()
theorem shift_shifts_ok {R r}(hM:(m_shift_shifts).Ends r)(w)(H:St w w [] R):Ret Tryz.prog 57 #[] w fun v w'=>()=r/\v = .func (.func 106) #[] #[]/\St w w' [] R:=by
 refine ret_of_W Tryz.func57 rfl rfl rfl ?_;exact kR0 8

def m_shift_shifts_1_b0 {T_:Type} (aa:T_->(Int × Int)->M (Bool × T_)):(Nat × T_)->M ((Nat × T_) ⊕ (T_ ⊕ T_)):=fun (s,t2) =>
  bif decide ((s:Int)<601) then (
  M.gi ((s:Int)-300) <|
  M.bind (aa t2 ((s:Int),(s:Int)-300)) fun (go,t) =>
  bif !go then (
  M.pure (.inr (.inl t)))
  else (
  M.pure (.inl (s+1,t))))
  else (
  M.pure (.inr (.inr t2)))
def m_shift_shifts_1 {T_:Type} (aa:T_->(Int × Int)->M (Bool × T_)) (t_:T_):M T_ :=
  M.bind (M.iter (m_shift_shifts_1_b0 aa) (0,t_)) fun x_=>match x_ with
  | (.inl t3)=>(
  M.pure t3)
  | (.inr t4)=>(
  M.pure t4)
theorem shift_shifts_1_ok {R:List Chunk} {T_:Type} {Y_:T_->List Chunk->Prop} {aa:Value} {ac:List Chunk} (ae:T_->(Int × Int)->M (Bool × T_)) (t_:T_) (ao:YieldC Tryz.prog R arII Y_ aa ae) (ap:Y_ t_ ac) {r:T_} (hM:(m_shift_shifts_1 ae t_).Ends r) (w:World) (H:St w w [cAll ac] R):Ret Tryz.prog 106 #[aa] w fun v w'=>∃ (y0:T_) (Ls0:List Chunk),y0=r/\v = .tuple #[]/\St w w' [cAll Ls0] R/\Y_ y0 Ls0:=by
 refine ret_of_W Tryz.func106 rfl rfl rfl ?_;refine kg 5 ?_;obtain ⟨aq,ag,aj⟩:=M.e_bind hM;obtain ⟨aB,ag⟩:=M.e_iter ag;refine W.loop (fun m σ W=>∃ (s:Nat) (t2:T_) (Ls_t2:List Chunk) (ρ:Env),σ=upds ρ [(0,aa),(3,I (s:Int))]/\M.iterN (m_shift_shifts_1_b0 ae) m (s,t2)=some aq/\St w W [cAll Ls_t2] R/\Y_ t2 Ls_t2) ?_ ?_
 ·exact ⟨_,0,t_,ac,_,jQ,ag,H,ap⟩
 rintro aC σ aD ⟨s,t2,Ls_t2,ρ,rfl,au,H,hY_t2⟩;obtain ⟨av,aw,aE,hM,ah⟩:=M.e_iterN au;refine kI 5 ?_ ?_
 ·intro ax hM;obtain ⟨aF,hM⟩:=M.e_gq hM;refine kg 14 ?_;obtain ⟨⟨go,t⟩,ay,hM⟩:=M.e_bind hM;refine t_yield (L:=[]) H ao hY_t2 rfl [I (s:Int),I ((s:Int)-300)] rfl ((s:Int),(s:Int)-300) Reads.none rfl ay ?_;intro al aG am H;replace H:=H.nf;refine kI 2 ?_ ?_
  ·intro aA hM;refine W.ret ?_;obtain rfl:=M.e_inr hM ah;replace hM:=aj;have ai:=M.e_pure hM;exact ⟨_,resE_tmp0 rfl,⟨t,al,ai,rfl,H,am⟩⟩
  intro aA hM;refine kg 5 ?_;exact ⟨av,aw,s+1,t,al,_,jQ,M.e_inl hM ah,H,am⟩
 intro ax hM;refine W.exit ?_;obtain rfl:=M.e_inr hM ah;replace hM:=aj;have ai:=M.e_pure hM;exact ⟨_,resE_tmp0 rfl,⟨t2,Ls_t2,ai,rfl,H,hY_t2⟩⟩

def m_shift_means_2 (m_:SMk) (aa:Int):M Bool :=
  M.pure (decide (aa<m_.stage))
theorem shift_means_2_ok {R aa}(m_ ac)(ae:Has R (cBlk aa [I ac] 3)){r}(hM:(m_shift_means_2 m_ ac).Ends r)(w)(H:St w w [] R):Ret Tryz.prog 225 #[.agg #[I m_.stage,I m_.flow],Pq aa] w fun v w'=>∃ y0,y0=r/\v=B y0/\St w w' [] R:=by
 refine ret_of_W Tryz.func225 rfl rfl rfl ?_;refine kB 2 ?_;intro ag ah H;refine kg 10 ?_;exact rt

def m_shift_ratio_b0  : (Int × Int)->M ((Int × Int) ⊕ Int):=fun (a,b) =>
  bif b != 0 then (
  M.grd (decide ((0:Int)<=a)&&decide ((0:Int)<b)) <|
  M.pure (.inl (b,a % b)))
  else (
  M.pure (.inr a))
def m_shift_ratio (n d:Int):M (Int × Int) :=
  M.grd (decide (-9223372036854775807<=n)&&decide (n<=9223372036854775807)) <|
  M.bind (M.iter (m_shift_ratio_b0) (max n (-n),d)) fun a2 =>
  M.grd (decide (0<=n)&&decide (n<=(9223372036854775807:Int))&&decide ((0:Int)<a2)) <|
  M.grd (decide (0<=d)&&decide (d<=(9223372036854775807:Int))&&decide ((0:Int)<a2)) <|
  M.pure ((n / a2),(d / a2))
theorem shift_ratio_ok {R}(n d){r}(hM:(m_shift_ratio n d).Ends r)(w)(H:St w w [] R):Ret Tryz.prog 223 #[I n,I d] w fun v w'=>∃ y0 y1,(y0,y1)=r/\v = .agg #[I y0,I y1]/\St w w' [] R:=by
 refine ret_of_W Tryz.func223 rfl rfl rfl ?_;refine kA 2 ?_;intro aa al H;obtain ⟨am,hM⟩:=M.e_gq hM;refine kg 5 ?_;refine s_val (x_neg (a:=n) rfl (by omega)) ?_;refine kg 7 ?_;obtain ⟨ae,ac,ag⟩:=M.e_bind hM;obtain ⟨ao,ac⟩:=M.e_iter ac;refine W.loop (fun m σ W=>∃ (a:Int) (b:Int) (ρ:Env),σ=upds ρ [(0,I n),(1,I d),(4,Pq aa),(5,I a),(6,I b)]/\M.iterN (m_shift_ratio_b0) m (a,b)=some ae/\St w W [cBlk aa [I 0,I 0] 73] R) ?_ ?_
 ·exact kY
 rintro ap σ aq ⟨a,b,ρ,rfl,ah,H⟩;obtain ⟨au,av,aw,hM,ai⟩:=M.e_iterN ah;refine kI 6 ?_ ?_
 ·intro aj hM;refine kD 2 [0] [] ?_;intro ax H;obtain ⟨ay,hM⟩:=M.e_gq hM;refine kg 3 ?_;refine d_q rfl (fun w' H=>x_rem' (a:=a) (b:=b) rfl rfl (by omega)) ?_;exact kX 3
 intro aj hM;refine W.exit ?_;obtain rfl:=M.e_inr hM ai;replace hM:=ag;refine kD 1 [] [7] ?_;intro aA H;obtain ⟨aB,hM⟩:=M.e_gq hM;obtain ⟨aC,hM⟩:=M.e_gq hM;refine kS 8 ?_;intro aD H;refine kN ?_;exact kR 1 []

def m_shift_means_1 (a b:SMk) (aa:Int):M (Int × Int) :=
  M.gi (b.stage-a.stage) <|
  M.gi (a.flow*(b.stage-a.stage)) <|
  M.gi (b.flow-a.flow) <|
  M.gi (aa-a.stage) <|
  M.gi ((b.flow-a.flow)*(aa-a.stage)) <|
  M.gi ((a.flow*(b.stage-a.stage))+((b.flow-a.flow)*(aa-a.stage))) <|
  M.bind (m_shift_ratio ((a.flow*(b.stage-a.stage))+((b.flow-a.flow)*(aa-a.stage))) (b.stage-a.stage)) fun (r0,r1) =>
  M.pure (r0,r1)
theorem shift_means_1_ok {R aa}(a b ac)(ae:Has R (cBlk aa [I ac] 3)){r}(hM:(m_shift_means_1 a b ac).Ends r)(w)(H:St w w [] R):Ret Tryz.prog 222 #[.agg #[I a.stage,I a.flow],.agg #[I b.stage,I b.flow],Pq aa] w fun v w'=>∃ y0 y1,(y0,y1)=r/\v = .agg #[I y0,I y1]/\St w w' [] R:=by
 refine ret_of_W Tryz.func222 rfl rfl rfl ?_;refine kB 2 ?_;intro ag ah H;refine kbx ?_;intro ai aj H;refine kal ?_;intro al am H;obtain ⟨ao,hM⟩:=M.e_gq hM;obtain ⟨ap,hM⟩:=M.e_gq hM;obtain ⟨aq,hM⟩:=M.e_gq hM;obtain ⟨au,hM⟩:=M.e_gq hM;obtain ⟨av,hM⟩:=M.e_gq hM;obtain ⟨aw,hM⟩:=M.e_gq hM;refine kC 28 @shift_ratio_ok ?_;intro ax r0 r1 hM H;refine ksw ?_;intro ay H;refine s_nil ?_;replace H:=H.pk [0];exact kR 0 []

def m_shift_means (l:List SMk) (at_:Int):M (Int × Int) :=
  M.grd (decide ((0:Int)<=((l.length:Int)-1))&&decide (((l.length:Int)-1)<(l.length:Int))) <|
  M.grd (decide (0<(l.length:Int))) <|
  bif decide (at_<=((l.getD 0 default).stage)) then (
  M.pure (((l.getD 0 default).flow),1))
  else (
  bif decide (((l.getD (Int.toNat ((l.length:Int)-1)) default).stage)<=at_) then (
  M.pure (((l.getD (Int.toNat ((l.length:Int)-1)) default).flow),1))
  else (
  M.bind (zaF l (fun aa=>m_shift_means_2 aa at_)) fun r2 =>
  M.gi (r2-1) <|
  M.grd (decide ((0:Int)<=(r2-1))&&decide ((r2-1)<(l.length:Int))) <|
  M.grd (decide ((0:Int)<=r2)&&decide (r2<(l.length:Int))) <|
  M.bind (m_shift_means_1 (l.getD (Int.toNat (r2-1)) default) (l.getD (Int.toNat r2) default) at_) fun (r0,r1) =>
  M.pure (r0,r1)))
theorem shift_means_ok {R ah ac}(l at_)(al:Reads R ah)(ai:Sl ah ac l){r}(hM:(m_shift_means l at_).Ends r)(w)(H:St w w [] R):Ret Tryz.prog 176 #[ac,I at_] w fun v w'=>∃ y0 y1,(y0,y1)=r/\v = .agg #[I y0,I y1]/\St w w' [] R:=by
 refine ret_of_W Tryz.func176 rfl rfl rfl ?_;refine kB 2 ?_;intro aa aC H;refine kal ?_;intro aD aE H;have aF:=(ai).len_le;obtain ⟨aG,hM⟩:=M.e_gq hM;refine kA 9 ?_;intro aH aI H;refine ksw ?_;intro aJ H;refine kD 4 [0,1,2] [] ?_;intro aK H;obtain ⟨aL,hM⟩:=M.e_gq hM;refine kI 8 ?_ ?_
 ·intro am hM;refine kS 7 ?_;intro aM H;refine s_nil ?_;replace H:=H.pk [1];exact kR 0 []
 intro am hM;refine kI 8 ?_ ?_
 ·intro ao hM;refine kS 5 ?_;intro aN H;refine s_nil ?_;replace H:=H.pk [1];exact kR 0 []
 intro ao hM;refine kg 3 ?_;refine s_val (x_mf (fs:=[]) (cs:=[Pq aa]) rfl rfl) ?_;refine kg 5 ?_;refine s_val (x_mf (fs:=[]) (cs:=[Pq aa]) rfl rfl) ?_;obtain ⟨aO,ap,hM⟩:=M.e_bind hM;refine s_call cq [ac,.func (.func 225) #[] #[Pq aa]] rfl (zfL l (fun ae=>m_shift_means_2 ae at_) (al.app _) ai ⟨225,[Pq aa],rfl,cq,fun aj aP aQ aq ae aR au aS av aw=>by obtain rfl:=SMk_arg av; exact (shift_means_2_ok ae at_ (Has.app (Has.here (k:=2) rfl) _) aw aj (St.refl au)).mono fun aq aj ⟨aT,ax,ay,aA⟩=>by subst ax; exact ⟨ay,aA⟩⟩ ap _ (H.gt 3)) ?_;rintro _ aU ⟨r2,rfl,rfl,ag⟩;replace H:=H.bk ag;refine kD 3 [0,2] [10,11] ?_;intro aV H;obtain ⟨aW,hM⟩:=M.e_gq hM;obtain ⟨aX,hM⟩:=M.e_gq hM;obtain ⟨aY,hM⟩:=M.e_gq hM;refine kG 11 ?_;obtain ⟨aZ,aB,hM⟩:=M.e_bind hM;refine s_callv (f:=222) rfl cq [.agg #[I ((l.getD (Int.toNat (r2-1)) default).stage),I ((l.getD (Int.toNat (r2-1)) default).flow)],.agg #[I ((l.getD (Int.toNat r2) default).stage),I ((l.getD (Int.toNat r2) default).flow)]] rfl (shift_means_1_ok (l.getD (Int.toNat (r2-1)) default) (l.getD (Int.toNat r2) default) at_ (Has.here (k:=2) rfl) aB _ (H.gt 3)) ?_;rintro _ a7 ⟨r0,r1,rfl,rfl,ag⟩;replace H:=H.bk ag;refine kN ?_;refine kS 1 ?_;intro a8 H;refine kN ?_;refine d_nil ?_;replace H:=H.pk [1];exact kR 0 []

def m_shift_book_passed (aa:List SMk) (ac:List SGg) (ae:List Span) (g:SGg) (shift:Int):M Bool :=
  M.gi (g.stage-shift) <|
  M.bind (m_shift_means aa (g.stage-shift)) fun (r0,r1) =>
  M.gi (g.lo*r1) <|
  M.grd ((!(decide ((g.lo*r1)<=r0))||(decide ((-9223372036854775808:Int)<=(g.hi*r1))&&decide ((g.hi*r1)<=(9223372036854775807:Int))))) <|
  M.pure ((decide ((g.lo*r1)<=r0))&&(decide (r0<=(g.hi*r1))))
theorem shift_book_passed_ok {R ae ag ah ai aj al am}(ao ap aq g shift)(av:Reads R ag)(aw:Sl ag ah ao)(ax:Reads R ai)(ay:Sl ai aj ap)(aA:Reads R al)(aB:Sl al am aq)(aC:Has R (cBlk ae [ah,aj,am] 164)){r}(hM:(m_shift_book_passed ao ap aq g shift).Ends r)(w)(H:St w w [] R):Ret Tryz.prog 100 #[Pq ae,.agg #[I g.day,I g.stage,I g.lo,I g.hi],I shift] w fun v w'=>∃ y0,y0=r/\v=B y0/\St w w' [] R:=by
 refine ret_of_W Tryz.func100 rfl rfl rfl ?_;refine kB 2 ?_;intro aD aE H;refine kDT 3 [0] (.q 0 (.q 1 (.q 2 (.q 3 (.q 4 (.q 5 (.q 6 (.q 7 (.q 8 (.l2 9 (.l 10 (.l 11 .nil)) 10 (.l 9 (.l 11 .nil)))))))))))) ?_;intro aF H;obtain ⟨aG,hM⟩:=M.e_gq hM;refine kg 9 ?_;refine t_l2 rfl rfl ?_ ?_
 ·refine kC 0 @shift_means_ok ?_;intro aH r0 r1 hM H;refine kN ?_;refine kA 1 ?_;intro au aI H;refine kN ?_;refine kS 1 ?_;intro aJ H;refine kN ?_;obtain ⟨aK,hM⟩:=M.e_gq hM;obtain ⟨aa,hM⟩:=M.e_grd hM;replace aa:=M.imp_of aa;simp only [Bool.and_eq_true,decide_eq_true_eq] at aa;refine kg 25 ?_;replace H:=H.pk [];exact rt
 refine kal ?_;intro au aL H;refine kN ?_;refine kC 1 @shift_means_ok ?_;intro aM r0 r1 hM H;refine kN ?_;refine kS 1 ?_;intro aN H;refine kN ?_;obtain ⟨aO,hM⟩:=M.e_gq hM;obtain ⟨ac,hM⟩:=M.e_grd hM;replace ac:=M.imp_of ac;simp only [Bool.and_eq_true,decide_eq_true_eq] at ac;refine kg 25 ?_;replace H:=H.pk [];exact rt

end Go.Proofs.YtaolcidinlnklaaGreat
end
section
set_option maxRecDepth 100000
set_option maxHeartbeats 16000000
namespace Go.Proofs.YtaolcidinlnklaaGreat
open Go Go.Nm
attribute [local irreducible] gd execOp SL SLD SLT WR
def m_shift_opened_b2 (ac:List SMk) (aa:List SGg) (s4:Nat) (l:List Span):(Int × Int)->(Int × Int)->M ((Int × Int) ⊕ Unit):=fun (s2,s3) (x,x2) =>
  M.bind (m_shift_book_passed ac aa l (aa.getD s4 default) x2) fun r3 =>
  bif r3 then (
  bif decide (s3<s2) then (
  M.pure (.inl (x2,x2)))
  else (
  M.pure (.inl (s2,x2))))
  else (
  M.pure (.inl (s2,s3)))
def m_shift_opened_b3 (ac:List SMk) (aa:List SGg):(Nat × (List Span))->M ((Nat × (List Span)) ⊕ ((List Span) × Int × (List Span))):=fun (s4,l) =>
  bif decide ((s4:Int)<(aa.length:Int)) then (
  M.grd (decide ((s4:Int)<(aa.length:Int))) <|
  M.bind (m_shift_shifts) fun (_:Unit) =>
  M.bind (m_shift_shifts_1 (M.yl (m_shift_opened_b2 ac aa s4 l)) (.inl (1,0))) fun x_=>match x_ with
  | .inl (s2,s3)=>(
  bif decide (s3<s2) then (
  M.pure (.inr (l,6,l)))
  else (
  M.grd (decide ((l.length+([(⟨(s2:Int),(s3:Int)⟩:Span)]).length)*16<=140737488355328)) <|
  M.pure (.inl (s4+1,l++([(⟨(s2:Int),(s3:Int)⟩:Span)])))))
  | .inr _=>M.fail)
  else (
  M.pure (.inr (l,0,l)))
def m_shift_opened (aa:List SMk) (ac:List SGg):M (Int ⊕ ((List Span) × Int)) :=
  M.bind (m_shift_Check aa ac) fun r2 =>
  bif r2 != 0 then (
  M.pure (.inl r2))
  else (
  M.bind (M.iter (m_shift_opened_b3 aa ac) (0,[])) fun (l2,e,l3) =>
  M.pure (.inr (l3,e)))
theorem shift_opened_ok {R aH ag aI ae}(aj aa)(aB:Reads R aH)(aJ:Sl aH ag aj)(aC:Reads R aI)(aD:Sl aI ae aa){r}(hM:(m_shift_opened aj aa).Ends r)(w)(H:St w w [] R):Ret Tryz.prog 52 #[.agg #[ag,ae]] w fun v w'=>(∃ (y0:Int),(.inl y0)=r/\v = .tuple #[.pointer none,I y0]/\St w w' [] R)∨(∃ (y0:List Span) (y1:Int) (aK:Nat) (u1:Value),(.inr (y0,y1))=r/\v = .tuple #[Pq aK,I y1]/\St w w' [cBlk aK [ag,ae,u1] 164,cOwn (α:=Span) 42 u1 y0] R):=by
 refine ret_of_WD Tryz.func52 rfl rfl rfl ?_;replace H:St w w [cMk ([])] R:=H.mk0;have a7:=aJ.len_le;have a8:=aD.len_le;unfold m_shift_opened at hM;refine WD.seq<|WD.of ?_;refine kB 1 ?_;intro aq ba H;refine kg 3 ?_;refine WD.scope<|WD.seq<|WD.seq<|WD.of ?_;refine kC 2 @shift_Check_ok ?_;intro bc r2 hM H;refine kg 2 ?_;refine WD.seq<|WD.of ?_;refine kg 4 ?_
 refine WD.cond (r2 != 0) rfl (fun al=>?_) (fun al=>?_)
 ·replace hM:=M.e_t hM al;replace al:=dI al;refine WD.seq<|WD.of ?_;refine kg 5 ?_;refine WD.of ?_;refine W.ret ?_;refine bodyD_r (H.pk [1,0]) ?_;intro bg H;replace H:=H.nf
  have au:=M.e_pure hM;exact ⟨_,resE_tmp2 rfl,.inl (⟨r2,au,rfl,(H.pk [])⟩)⟩
 replace hM:=M.e_f hM al;replace al:=dI al;refine WD.of<|W.skip<|WD.seq<|WD.of ?_;refine kB 3 ?_;intro ac bi H;refine kg 2 ?_;refine WD.seq<|WD.of ?_;refine kg 3 ?_;refine WD.seq<|WD.of ?_;refine kg 2 ?_;refine s_val (x_mf (fs:=[Pq ac]) (cs:=[]) rfl rfl) ?_;refine kal ?_;intro am bj H;refine ksw ?_;intro bm H;refine s_nil<|WD.seq<|WD.of ?_;refine W.label<|WD.seq<|WD.seq<|WD.of ?_
 have bn:=(aD).len_le;refine kg 6 ?_;refine WD.block ?_;replace H:=H.nilOwn (α:=Span) 42;obtain ⟨aQ,aL,aM⟩:=M.e_bind hM;obtain ⟨bp,aL⟩:=M.e_iter aL;refine WD.loop (fun m av σ W=>∃ (s4:Nat) (l:List Span) (ah:Value) (ρ:Env),σ=upds ρ [(5,Pq ac),(6,I 0),(7,Pq am),(24,ae),(25,I (aa.length:Int)),(26,I (s4:Int))]/\M.iterN (m_shift_opened_b3 aj aa) m (s4,l)=some aQ/\St w W [cOwn (α:=Span) 42 ah l,cBlk am [.func (.func 100) #[Pq ac] #[]] 242,cBlk ac [ag,ae,ah] 164,cBlk aq [ag,ae] 87,cMk av] R) ?_ ?_
 ·exact kY
 rintro br av σ bt ⟨s4,l,ah,ρ,rfl,aR,H⟩;obtain ⟨bu,bv,bw,hM,aN⟩:=M.e_iterN aR;refine WD.seq<|WD.of ?_;refine kg 3 ?_;refine WD.seq ?_
 refine WD.cond (decide ((s4:Int)<(aa.length:Int))) rfl (fun ao=>?_) (fun ao=>?_)
 ·replace hM:=M.e_t hM ao;replace ao:=dI ao;refine WD.of<|W.skip<|WD.seq<|WD.block<|WD.seq<|WD.of ?_;obtain ⟨bx,hM⟩:=M.e_gq hM;refine kA 3 ?_;intro aw bz H;refine ksw ?_;intro bA H;refine s_nil<|WD.seq<|WD.of ?_;refine kA 2 ?_;intro ai bB H;refine ksw ?_;intro bC H;refine s_nil<|WD.seq<|WD.seq<|WD.of ?_;refine kC 1 @shift_shifts_ok ?_;intro bD hM H;refine s_nil<|WD.block ?_;obtain ⟨bE,aS,hM⟩:=M.e_bind hM;refine WD.range (L:=[cBlk ai [I 1,I 0] 42,cBlk aw [I ((aa.getD s4 default).day),I ((aa.getD s4 default).stage),I ((aa.getD s4 default).lo),I ((aa.getD s4 default).hi)] 84,cOwn (α:=Span) 42 ah l,cBlk am [.func (.func 100) #[Pq ac] #[]] 242,cBlk ac [ag,ae,ah] 164,cBlk aq [ag,ae] 87]) [] (H.pk [6,0,1,2,3,4,5]) rfl cq ?_;intro ax aE aF aT aG H
  have hYC:YieldC Tryz.prog ([cMk (aE :: av),cBlk aw [I ((aa.getD s4 default).day),I ((aa.getD s4 default).stage),I ((aa.getD s4 default).lo),I ((aa.getD s4 default).hi)] 84,cOwn (α:=Span) 42 ah l,cBlk am [.func (.func 100) #[Pq ac] #[]] 242,cBlk ac [ag,ae,ah] 164,cBlk aq [ag,ae] 87]++R) arII (yJ ax aF (fun (s2,s3) ay=>ay=[cBlk ai [I s2,I s3] 42]) (fun (_:Unit) _=>False) (fun _=>.ret)) (.func (.yield ax) #[] #[]) (M.yl (m_shift_opened_b2 aj aa s4 l)):=by
   refine YieldC.mk aG (fun (s2,s3) ay=>ay=[cBlk ai [I s2,I s3] 42]) (fun (_:Unit) _=>False) (fun _=>.ret) (m_shift_opened_b2 aj aa s4 l) (by rintro ⟨s2,s3⟩ _ h_; obtain ⟨rfl⟩:=h_; rfl) (fun _ _ h_=>h_.elim) rfl (arII_len rfl) ?_;intro C_ bF x_ W_ aU;obtain ⟨x,x2⟩:=x_;obtain rfl:=aU;refine kg 3 ?_;refine ⟨rfl,rfl,?_⟩;intro w R aO ay s_ r aV hM H;obtain ⟨s2,s3⟩:=s_;obtain ⟨rfl⟩:=aV;replace aB:=aB.sub aO;replace aC:=aC.sub aO;replace hM:(m_shift_opened_b2 aj aa s4 l (s2,s3) (x,x2)).Ends r:=hM;simp only [m_shift_opened_b2] at hM;replace H:=H.pk [0,2,3,4,5,6,1];refine kg 6 ?_;obtain ⟨bG,aW,hM⟩:=M.e_bind hM;refine s_callm (f:=100) (fs:=[Pq ac]) rfl cq [.agg #[I ((aa.getD s4 default).day),I ((aa.getD s4 default).stage),I ((aa.getD s4 default).lo),I ((aa.getD s4 default).hi)],I x2] rfl (shift_book_passed_ok aj aa l (aa.getD s4 default) x2 (aB.app _) aJ (aC.app _) aD (rdo 2) (H.os 2) (Has.here (k:=4) rfl) aW _ (H.gt 7)) ?_;rintro _ bH ⟨r3,rfl,rfl,aA⟩;replace H:=H.bk aA;refine kI 1 ?_ ?_
   ·intro aX hM;refine kI 9 ?_ ?_
    ·intro aY hM;refine kS 3 ?_;intro bI H;refine kS 4 ?_;intro bJ H;refine s_nil ?_;exact ⟨(x2,x2),[cBlk ai [I x2,I x2] 42],(M.e_pure hM).symm,rfl,H.pick [0,6,1,2,3,4,5] (by decide) rfl⟩
    intro aY hM;refine kS 4 ?_;intro bK H;refine s_nil ?_;exact ⟨(s2,x2),[cBlk ai [I s2,I x2] 42],(M.e_pure hM).symm,rfl,H.pick [0,6,1,2,3,4,5] (by decide) rfl⟩
   intro aX hM;refine W.skip ?_;exact ⟨(s2,s3),[cBlk ai [I s2,I s3] 42],(M.e_pure hM).symm,rfl,H.pick [0,6,1,2,3,4,5] (by decide) rfl⟩
  replace H:St w aT (cAll (cObj ax (.loop aF) :: [cBlk ai [I 1,I 0] 42]) :: [cMk (aE :: av),cBlk aw [I ((aa.getD s4 default).day),I ((aa.getD s4 default).stage),I ((aa.getD s4 default).lo),I ((aa.getD s4 default).hi)] 84,cOwn (α:=Span) 42 ah l,cBlk am [.func (.func 100) #[Pq ac] #[]] 242,cBlk ac [ag,ae,ah] 164,cBlk aq [ag,ae] 87]) R:=St.bundleB (A:=cObj ax (.loop aF) :: [cBlk ai [I 1,I 0] 42]) (T:=[cMk (aE :: av),cBlk aw [I ((aa.getD s4 default).day),I ((aa.getD s4 default).stage),I ((aa.getD s4 default).lo),I ((aa.getD s4 default).hi)] 84,cOwn (α:=Span) 42 ah l,cBlk am [.func (.func 100) #[Pq ac] #[]] 242,cBlk ac [ag,ae,ah] 164,cBlk aq [ag,ae] 87]) rfl (H.pk [0,2,1,3,4,5,6,7]);refine (shift_shifts_1_ok (M.yl (m_shift_opened_b2 aj aa s4 l)) (.inl (1,0)) hYC ⟨_,rfl,rfl⟩ aS _ (H.gt 6)).mono ?_;rintro vq bL ⟨aZ,bN,rfl,hvq,aA,aP⟩;replace H:=H.back aA rfl;clear aA hYC;rcases aZ with ⟨s2,s3⟩ | _
  ·obtain ⟨_,rfl,rfl⟩:=aP;refine ⟨_,[cBlk ai [I s2,I s3] 42,cBlk aw [I ((aa.getD s4 default).day),I ((aa.getD s4 default).stage),I ((aa.getD s4 default).lo),I ((aa.getD s4 default).hi)] 84,cOwn (α:=Span) 42 ah l,cBlk am [.func (.func 100) #[Pq ac] #[]] 242,cBlk ac [ag,ae,ah] 164,cBlk aq [ag,ae] 87],H.unbundle.pick [0,2,1,3,4,5,6,7] (by decide) rfl,aG.nb,?_⟩;intro bO H;rw [aG.pd];replace H:=H.nf
   try simp only []
   refine WD.seq<|WD.seq<|WD.of ?_;refine kg 7 ?_
   refine WD.cond (decide (s3<s2)) rfl (fun ap=>?_) (fun ap=>?_)
   ·replace hM:=M.e_t hM ap;replace ap:=dI ap;refine WD.seq<|WD.of ?_;refine kg 3 ?_;replace H:=H.pk [0,3,4,5,6];refine WD.of ?_;refine W.exit ?_
    obtain rfl:=M.e_inr hM aN;replace hM:=aM;replace H:=H.pk [0,1,3];refine WD.seq<|WD.of ?_;refine kg 6 ?_;refine WD.of ?_;refine W.ret ?_;refine bodyD_r (H.pk [0,1,2]) ?_;intro bP H;replace H:=H.nf
    have au:=M.e_pure hM;exact ⟨_,resE_tmp2 rfl,.inr (⟨l,6,ac,ah,au,rfl,(H.pk [1,0])⟩)⟩
   replace hM:=M.e_f hM ap;replace ap:=dI ap;refine WD.of<|W.skip<|WD.of ?_;refine kDT 0 [0,1,2,4,6] (.q 0 (.q 1 (.q 2 (.q 3 (.q 5 (.l2 4 (.l 6 (.l 7 (.q 8 (.q 9 (.l 10 .nil))))) 6 (.l 4 (.l 7 (.q 8 (.q 9 (.l 10 .nil))))))))))) ?_;intro bQ H;obtain ⟨bR,hM⟩:=M.e_gq hM;refine kg 5 ?_;refine t_l2 rfl rfl ?_ ?_
   ·refine kG 1 ?_;refine kN ?_;refine kL 1 (α:=Span) [⟨s2,s3⟩] ?_;intro bS bT H;refine kN ?_;refine kP 1 ?_;intro bU bV H;refine kN ?_;refine kS 3 ?_;intro bW H;refine kN ?_;refine t_nil ?_;replace H:=H.pk [1,4,5,6,7];refine WD.of ?_;exact kXp 4 [1,2,3,4,0]
   refine kL 0 (α:=Span) [⟨s2,s3⟩] ?_;intro bX bY H;refine kN ?_;refine kG 2 ?_;refine kN ?_;refine kP 1 ?_;intro bZ b7 H;refine kN ?_;refine kS 3 ?_;intro b8 H;refine kN ?_;refine t_nil ?_;replace H:=H.pk [1,4,5,6,7];refine WD.of ?_;exact kXp 4 [1,2,3,4,0]
  obtain ⟨_,_,h_⟩:=aP; exact h_.elim
 replace hM:=M.e_f hM ao;replace ao:=dI ao;refine WD.of ?_;refine W.exit ?_;obtain rfl:=M.e_inr hM aN;replace hM:=aM;replace H:=H.pk [0,2,4];refine WD.seq<|WD.of ?_;refine kg 6 ?_;refine WD.of ?_;refine W.ret ?_;refine bodyD_r (H.pk [2,0,1]) ?_;intro b9 H;replace H:=H.nf
 have au:=M.e_pure hM;exact ⟨_,resE_tmp2 rfl,.inr (⟨l,0,ac,ah,au,rfl,(H.pk [1,0])⟩)⟩

def m_shift_Passes (aa:List SMk) (ac:List SGg):M ((List Span) × Int) :=
  M.bind (m_shift_opened aa ac) fun x_=>match x_ with
  | (.inl r1)=>(
  bif r1 != 0 then (
  M.pure (([]),r1))
  else (
  M.fail))
  | (.inr (ae,ag))=>(
  bif ag != 0 then (
  M.fail)
  else (
  M.pure (ae,0)))
theorem shift_Passes_ok {R ai aa aj ac}(ae ag)(al:Reads R ai)(am:Sl ai aa ae)(ao:Reads R aj)(ap:Sl aj ac ag){r}(hM:(m_shift_Passes ae ag).Ends r)(w)(H:St w w [] R):Ret Tryz.prog 18 #[.agg #[aa,ac]] w fun v w'=>∃ y0 y1 u0,(y0,y1)=r/\v = .tuple #[u0,I y1]/\St w w' [cOwn (α:=Span) 42 u0 y0] R:=by
 refine ret_of_W Tryz.func18 rfl rfl rfl ?_;refine kB 2 ?_;intro aA aB H;refine kg 6 ?_;obtain ⟨aC,aq,hM⟩:=M.e_bind hM;refine s_call cq [.agg #[aa,ac]] rfl (shift_opened_ok ae ag (al.app _) am (ao.app _) ap aq _ (H.gt 1)) ?_;rintro vq aD (⟨r1,au,hvq,ah⟩ | ⟨aE,aF,aG,aH,av,hvq,ah⟩)
 ·subst au;subst vq;replace H:=H.bk ah;refine kI 12 ?_ ?_
  ·intro aw hM;refine kg 6 ?_;refine W.ret ?_;have ax:=M.e_pure hM;replace H:=H.nilOwn (α:=Span) 42;exact ⟨_,resE_tmp2 rfl,⟨([]),r1,(.slice none 0 0),ax,rfl,(H.pk [0])⟩⟩
  intro aw hM;exact (M.e_fail hM).elim
 subst av;subst vq;replace H:=H.bk ah;refine kI 12 ?_ ?_
 ·intro ay hM;exact (M.e_fail hM).elim
 intro ay hM;refine kg 10 ?_;replace H:=H.pk [1];exact rt

def m_shift_greatest_b0 (l:List Int):(Int × Nat)->M ((Int × Nat) ⊕ Int):=fun (first2,s) =>
  bif decide ((s:Int)<(l.length:Int)) then (
  M.grd (decide ((s:Int)<(l.length:Int))) <|
  M.pure (.inl (max first2 (l.getD s 0),s+1)))
  else (
  M.pure (.inr first2))
def m_shift_greatest (first:Int) (l:List Int):M Int :=
  M.bind (M.iter (m_shift_greatest_b0 l) (first,0)) fun first3 =>
  M.pure first3
theorem shift_greatest_ok {R ac aa}(first l)(ao:Reads R ac)(ag:Sl ac aa l){r}(hM:(m_shift_greatest first l).Ends r)(w)(H:St w w [] R):Ret Tryz.prog 101 #[I first,aa] w fun v w'=>∃ y0,y0=r/\v=I y0/\St w w' [] R:=by
 refine ret_of_W Tryz.func101 rfl rfl rfl ?_;have ap:=(ag).len_le;refine kg 12 ?_;obtain ⟨ah,ae,ai⟩:=M.e_bind hM;obtain ⟨aq,ae⟩:=M.e_iter ae;refine W.loop (fun m σ W=>∃ (first2:Int) (s:Nat) (ρ:Env),σ=upds ρ [(0,I first2),(7,aa),(8,I (l.length:Int)),(9,I (s:Int))]/\M.iterN (m_shift_greatest_b0 l) m (first2,s)=some ah/\St w W [] R) ?_ ?_
 ·exact kY
 rintro au σ av ⟨first2,s,ρ,rfl,aj,H⟩;obtain ⟨aw,ax,ay,hM,al⟩:=M.e_iterN aj;refine kI 5 ?_ ?_
 ·intro am hM;obtain ⟨aA,hM⟩:=M.e_gq hM;exact kX 19
 intro am hM;refine W.exit ?_;obtain rfl:=M.e_inr hM al;replace hM:=ai;refine kg 5 ?_;exact rt

def m_shift_apart (a b:Int):M Int :=
  M.gi (a-b) <|
  M.gi (b-a) <|
  M.bind (m_shift_greatest (a-b) ([(b-a:Int)])) fun r2 =>
  M.pure r2
theorem shift_apart_ok {R}(a b){r}(hM:(m_shift_apart a b).Ends r)(w)(H:St w w [] R):Ret Tryz.prog 54 #[I a,I b] w fun v w'=>∃ y0,y0=r/\v=I y0/\St w w' [] R:=by
 refine ret_of_W Tryz.func54 rfl rfl rfl ?_;obtain ⟨aa,hM⟩:=M.e_gq hM;obtain ⟨ac,hM⟩:=M.e_gq hM;refine kL 12 (α:=Int) [b-a] ?_;intro ae ag H;refine kC 0 @shift_greatest_ok ?_;intro ah r2 hM H;refine kg 2 ?_;exact rt

def m_shift_Moves_b0 (course:List Int) (aa:List Span):(Int × Nat)->M ((Int × Nat) ⊕ (Unit ⊕ Int)):=fun (sum,s) =>
  bif decide ((s:Int)<(aa.length:Int)) then (
  M.grd (decide ((s:Int)<(aa.length:Int))) <|
  M.grd (decide ((s:Int)<(course.length:Int))) <|
  M.bind (m_shift_in (course.getD s 0) ((aa.getD s default).lo) ((aa.getD s default).hi)) fun r2 =>
  bif !r2 then (
  M.pure (.inr (.inl ())))
  else (
  bif decide (0<(s:Int)) then (
  M.gi ((s:Int)-1) <|
  M.grd (decide ((0:Int)<=((s:Int)-1))&&decide (((s:Int)-1)<(course.length:Int))) <|
  M.bind (m_shift_apart (course.getD s 0) (course.getD (Int.toNat ((s:Int)-1)) 0)) fun r3 =>
  M.gi (sum+r3) <|
  M.pure (.inl (sum+r3,s+1)))
  else (
  M.pure (.inl (sum,s+1)))))
  else (
  M.pure (.inr (.inr sum)))
def m_shift_Moves (ac:List SMk) (aa:List SGg) (course:List Int):M (Int × Int) :=
  M.bind (m_shift_opened ac aa) fun x_=>match x_ with
  | (.inl r1)=>(
  bif r1 != 0 then (
  M.pure (0,r1))
  else (
  M.fail))
  | (.inr (ae,ag))=>(
  bif ag != 0 then (
  M.fail)
  else (
  bif (course.length:Int) != (aa.length:Int) then (
  M.pure (0,2))
  else (
  M.bind (M.iter (m_shift_Moves_b0 course ae) (0,0)) fun x_=>match x_ with
  | (.inl (_:Unit))=>(
  M.pure (0,7))
  | (.inr sum2)=>(
  M.pure (sum2,0)))))
theorem shift_Moves_ok {R al aa am ac ao ae}(ag ah course)(ax:Reads R al)(ay:Sl al aa ag)(aA:Reads R am)(ap:Sl am ac ah)(aN:Reads R ao)(aB:Sl ao ae course){r}(hM:(m_shift_Moves ag ah course).Ends r)(w)(H:St w w [] R):Ret Tryz.prog 19 #[.agg #[aa,ac],ae] w fun v w'=>∃ y0 y1,(y0,y1)=r/\v = .tuple #[I y0,I y1]/\St w w' [] R:=by
 refine ret_of_W Tryz.func19 rfl rfl rfl ?_;refine kB 2 ?_;intro aO aP H;refine kg 6 ?_;obtain ⟨aQ,aC,hM⟩:=M.e_bind hM;refine s_call cq [.agg #[aa,ac]] rfl (shift_opened_ok ag ah (ax.app _) ay (aA.app _) ap aC _ (H.gt 1)) ?_;rintro vq aR (⟨r1,aD,hvq,ai⟩ | ⟨aj,aS,aT,aq,aE,hvq,ai⟩)
 ·subst aD;subst vq;replace H:=H.bk ai;refine kI 14 ?_ ?_
  ·intro aF hM;refine kg 6 ?_;exact rt
  intro aF hM;exact (M.e_fail hM).elim
 subst aE;subst vq;replace H:=H.bk ai;refine kI 14 ?_ ?_
 ·intro aG hM;exact (M.e_fail hM).elim
 intro aG hM;have aU:=(aB).len_le;have aV:=(ap).len_le;refine kI 10 ?_ ?_
 ·intro aH hM;refine kg 5 ?_;replace H:=H.pk [];exact rt
 intro aH hM;have aW:=((H.os 1)).len_le;refine kg 15 ?_;replace H:=H.pk [1];refine W.block ?_;obtain ⟨aI,au,av⟩:=M.e_bind hM;obtain ⟨aX,au⟩:=M.e_iter au;refine W.loop (fun m σ W=>∃ (sum:Int) (s:Nat) (ρ:Env),σ=upds ρ [(1,ae),(8,I sum),(30,aq),(31,I (aj.length:Int)),(32,I (s:Int))]/\M.iterN (m_shift_Moves_b0 course aj) m (sum,s)=some aI/\St w W [cOwn (α:=Span) 42 aq aj] R) ?_ ?_
 ·exact kY
 rintro aY σ aZ ⟨sum,s,ρ,rfl,aJ,H⟩;obtain ⟨a7,a8,ba,hM,aw⟩:=M.e_iterN aJ;refine kI 5 ?_ ?_
 ·intro aK hM;obtain ⟨bc,hM⟩:=M.e_gq hM;refine kA 8 ?_;intro bg bi H;refine kS 1 ?_;intro bj H;refine kD 3 [0,1] [8] ?_;intro bm H;obtain ⟨bn,hM⟩:=M.e_gq hM;refine kC 9 @shift_in_ok ?_;intro bp r2 hM H;refine kN ?_;refine kI 2 ?_ ?_
  ·intro aL hM;refine kg 5 ?_;obtain rfl:=M.e_inr hM aw;replace hM:=av;exact rt
  intro aL hM;refine kI 6 ?_ ?_
  ·intro aM hM;refine kD 0 [0,1] [10] ?_;intro br H;obtain ⟨bt,hM⟩:=M.e_gq hM;obtain ⟨bu,hM⟩:=M.e_gq hM;refine kC 11 @shift_apart_ok ?_;intro bv r3 hM H;refine kN ?_;obtain ⟨bw,hM⟩:=M.e_gq hM;exact kXp 7 [1]
  intro aM hM;exact kXp 5 [1]
 intro aK hM;refine W.exit ?_;obtain rfl:=M.e_inr hM aw;replace hM:=av;refine kg 6 ?_;exact rt

def zfj  : ((List Span) × Nat × Int)->M (((List Span) × Nat × Int) ⊕ (List Span)):=fun (l,i,j) =>
  bif decide ((i:Int)<j) then (
  M.grd (decide ((0:Int)<=j)&&decide (j<(l.length:Int))) <|
  M.grd (decide ((i:Int)<(l.length:Int))) <|
  M.grd (decide ((0:Int)<=j)&&decide (j<((l.set i (l.getD (Int.toNat j) default)).length:Int))) <|
  M.gi ((i:Int)+1) <|
  M.gi (j-1) <|
  M.pure (.inl ((l.set i (l.getD (Int.toNat j) default)).set (Int.toNat j) (l.getD i default),i+1,j-1)))
  else (
  M.pure (.inr l))
def zdx (s:List Span):M (List Span) :=
  M.bind (M.iter (zfj) (s,0,(s.length:Int)-1)) fun l2 =>
  M.pure l2
theorem zhD {R aa}(s){r}(hM:(zdx s).Ends r)(w)(H:St w w [cOwn (α:=Span) 42 aa s] R):Ret Tryz.prog 103 #[aa] w fun v w'=>∃ y0,y0=r/\v = .tuple #[]/\St w w' [cOwn (α:=Span) 42 aa y0] R:=by
 refine ret_of_W Tryz.func103 rfl rfl rfl ?_;have am:=((H.os 0)).len_le;refine kg 9 ?_;obtain ⟨ae,ac,ag⟩:=M.e_bind hM;obtain ⟨ao,ac⟩:=M.e_iter ac;refine W.loop (fun m σ W=>∃ (l:List Span) (i:Nat) (j:Int) (ρ:Env),σ=upds ρ [(0,aa),(2,I (i:Int)),(3,I j)]/\M.iterN (zfj) m (l,i,j)=some ae/\St w W [cOwn (α:=Span) 42 aa l] R) ?_ ?_
 ·exact kY
 rintro ap σ aq ⟨l,i,j,ρ,rfl,ah,H⟩;obtain ⟨au,av,aw,hM,ai⟩:=M.e_iterN ah;refine kI 7 ?_ ?_
 ·intro aj hM;refine kDS 3 [] (.q 0 (.q 1 (.q 2 (.q 3 (.q 4 (.q 5 (.q 8 (.q 9 (.l2 6 (.l2 7 (.l 10 (.l 11 (.l 12 (.l 13 (.l 14 .nil))))) 10 (.l2 7 (.l 11 (.l 12 (.l 13 (.l 14 .nil)))) 11 (.l 7 (.l 12 (.l 13 (.l 14 .nil)))))) 10 (.l2 6 (.l2 7 (.l 11 (.l 12 (.l 13 (.l 14 .nil)))) 11 (.l 7 (.l 12 (.l 13 (.l 14 .nil))))) 11 (.l 6 (.l 7 (.l 12 (.l 13 (.l 14 .nil))))))))))))))) 15 [15] ?_;intro ax H;obtain ⟨ay,hM⟩:=M.e_gq hM;obtain ⟨aA,hM⟩:=M.e_gq hM;obtain ⟨aB,hM⟩:=M.e_gq hM;refine kg 8 ?_;refine ts_l2 rfl rfl ?_ ?_
  ·refine kG 1 ?_;refine kN ?_;refine ts_l2 rfl rfl ?_ ?_
   ·refine kG 1 ?_;refine kN ?_;refine kG 2 ?_;refine kN ?_;refine kG 2 ?_;refine kN ?_;refine kG 2 ?_;refine kN ?_;refine kO 1 (l.getD (Int.toNat j) default) ?_;intro aC H;refine kN ?_;refine kG 2 ?_;refine kN ?_;refine kO 2 (l.getD i default) ?_;intro aD H;refine s_nil ⟨trivial,?_⟩;refine sr_nil ?_;obtain ⟨aE,hM⟩:=M.e_gq hM;obtain ⟨aF,hM⟩:=M.e_gq hM;exact kX 8
   refine kG 1 ?_;refine kN ?_;refine ts_l2 rfl rfl ?_ ?_
   ·refine kG 1 ?_;refine kN ?_;refine kG 2 ?_;refine kN ?_;refine kG 2 ?_;refine kN ?_;refine kO 1 (l.getD (Int.toNat j) default) ?_;intro aG H;refine kN ?_;refine kG 2 ?_;refine kN ?_;refine kO 2 (l.getD i default) ?_;intro aH H;refine s_nil ⟨trivial,?_⟩;refine sr_nil ?_;obtain ⟨aI,hM⟩:=M.e_gq hM;obtain ⟨aJ,hM⟩:=M.e_gq hM;exact kX 8
   refine kG 1 ?_;refine kN ?_;refine kG 2 ?_;refine kN ?_;refine kG 2 ?_;refine kN ?_;refine kO 1 (l.getD (Int.toNat j) default) ?_;intro aK H;refine kN ?_;refine kG 2 ?_;refine kN ?_;refine kO 2 (l.getD i default) ?_;intro aL H;refine s_nil ⟨trivial,?_⟩;refine sr_nil ?_;obtain ⟨aM,hM⟩:=M.e_gq hM;obtain ⟨aN,hM⟩:=M.e_gq hM;exact kX 8
  refine kG 1 ?_;refine kN ?_;refine ts_l2 rfl rfl ?_ ?_
  ·refine kG 1 ?_;refine kN ?_;refine ts_l2 rfl rfl ?_ ?_
   ·refine kG 1 ?_;refine kN ?_;refine kG 2 ?_;refine kN ?_;refine kG 2 ?_;refine kN ?_;refine kO 1 (l.getD (Int.toNat j) default) ?_;intro aO H;refine kN ?_;refine kG 2 ?_;refine kN ?_;refine kO 2 (l.getD i default) ?_;intro aP H;refine s_nil ⟨trivial,?_⟩;refine sr_nil ?_;obtain ⟨aQ,hM⟩:=M.e_gq hM;obtain ⟨aR,hM⟩:=M.e_gq hM;exact kX 8
   refine kG 1 ?_;refine kN ?_;refine kG 2 ?_;refine kN ?_;refine kG 2 ?_;refine kN ?_;refine kO 1 (l.getD (Int.toNat j) default) ?_;intro aS H;refine kN ?_;refine kG 2 ?_;refine kN ?_;refine kO 2 (l.getD i default) ?_;intro aT H;refine s_nil ⟨trivial,?_⟩;refine sr_nil ?_;obtain ⟨aU,hM⟩:=M.e_gq hM;obtain ⟨aV,hM⟩:=M.e_gq hM;exact kX 8
  refine kG 1 ?_;refine kN ?_;refine kG 2 ?_;refine kN ?_;refine kG 2 ?_;refine kN ?_;refine kG 2 ?_;refine kN ?_;refine kO 1 (l.getD (Int.toNat j) default) ?_;intro aW H;refine kN ?_;refine kG 2 ?_;refine kN ?_;refine kO 2 (l.getD i default) ?_;intro aX H;refine s_nil ⟨trivial,?_⟩;refine sr_nil ?_;obtain ⟨aY,hM⟩:=M.e_gq hM;obtain ⟨aZ,hM⟩:=M.e_gq hM;exact kX 8
 intro aj hM;refine W.exit ?_;obtain rfl:=M.e_inr hM ai;replace hM:=ag;have al:=M.e_pure hM;exact ⟨_,resE_tmp0 rfl,⟨l,al,rfl,H⟩⟩

def m_shift_start_b0 (s:Span):(List Int)->(Int × Int)->M ((List Int) ⊕ Unit):=fun s2 (x,x2) =>
  M.bind (m_shift_in x2 s.lo s.hi) fun r2 =>
  bif !r2 then (
  M.grd (decide ((0:Int)<=x)&&decide (x<(601:Int))) <|
  M.pure (.inl (s2.set (Int.toNat x) 1073741824)))
  else (
  M.pure (.inl s2))
def m_shift_start (s:Span):M (List Int) :=
  M.bind (m_shift_shifts) fun (_:Unit) =>
  M.bind (m_shift_shifts_1 (M.yl (m_shift_start_b0 s)) (.inl (List.replicate 601 0))) fun x_=>match x_ with
  | .inl s2=>(
  M.pure s2)
  | .inr _=>M.fail
theorem shift_start_ok {R}(s){r}(hM:(m_shift_start s).Ends r)(w)(H:St w w [] R):Ret Tryz.prog 177 #[.agg #[I s.lo,I s.hi]] w fun v w'=>∃ y0 am,y0=r/\v=Pq am/\St w w' [cBlk am (List.flatten [[],encF (α:=Int) y0]) 169] R/\y0.length=601:=by
 refine ret_of_WD Tryz.func177 rfl rfl rfl ?_;replace H:St w w [cMk ([])] R:=H.mk0;unfold m_shift_start at hM;refine WD.seq<|WD.of ?_;refine kB 1 ?_;intro ac aD H;refine kg 2 ?_;refine WD.seq<|WD.of<|W.region rfl ?_;refine t_alloc (cs:=(List.flatten [[],encF (α:=Int) (List.replicate 601 0)])) H Al169.h (by kernel_rfl) ?_;intro aa aE H;refine s_nil<|WD.seq<|WD.seq<|WD.of ?_;refine kC 1 @shift_shifts_ok ?_;intro aF hM H;refine s_nil<|WD.block ?_;obtain ⟨aG,aq,hM⟩:=M.e_bind hM;refine WD.range (L:=[cBlk aa (List.flatten [[],encF (α:=Int) (List.replicate 601 0)]) 169,cBlk ac [I s.lo,I s.hi] 42]) [] (H.pk [2,0,1]) rfl cq ?_;intro ag ah aj au al H
 have hYC:YieldC Tryz.prog ([cMk (ah :: ([])),cBlk ac [I s.lo,I s.hi] 42]++R) arII (yJ ag aj (fun s2 ai=>ai=[cBlk aa (List.flatten [[],encF (α:=Int) s2]) 169]/\s2.length=601) (fun (_:Unit) _=>False) (fun _=>.ret)) (.func (.yield ag) #[] #[]) (M.yl (m_shift_start_b0 s)):=by
  refine YieldC.mk al (fun s2 ai=>ai=[cBlk aa (List.flatten [[],encF (α:=Int) s2]) 169]/\s2.length=601) (fun (_:Unit) _=>False) (fun _=>.ret) (m_shift_start_b0 s) (by rintro s2 _ h_; obtain ⟨rfl,_⟩:=h_; rfl) (fun _ _ h_=>h_.elim) rfl (arII_len rfl) ?_;intro C_ aH x_ W_ av;obtain ⟨x,x2⟩:=x_;obtain rfl:=av;refine kg 7 ?_;refine ⟨rfl,rfl,?_⟩;intro w R aI ai s_ r aw hM H
  skip
  obtain ⟨s2,ax⟩:∃ y_,y_=s_:=⟨_,rfl⟩
  subst ax;obtain ⟨rfl,ae⟩:=aw;replace hM:(m_shift_start_b0 s s2 (x,x2)).Ends r:=hM;simp only [m_shift_start_b0] at hM;replace H:=H.pk [0,2,1];refine kC 8 @shift_in_ok ?_;intro aJ r2 hM H;refine kI 2 ?_ ?_
  ·intro ay hM;obtain ⟨aK,hM⟩:=M.e_gq hM;refine kg 2 ?_;refine s_val (x_ix (v:=.pointer (some ⟨aa,0+Int.toNat x*1,none⟩)) rfl rfl (run_indexS Tryz.underlying169 Sz3.h (by omega) (by omega))) ?_;refine t_stS (α:=Int) (kc:=0) (b:=aa) (k:=1) (off:=0) (i:=(Int.toNat x)) (f:=0) (sz:=1) (segs:=[[],encF (α:=Int) s2]) (segs':=[[],encF (α:=Int) (s2.set (Int.toNat x) 1073741824)]) (l:=s2) (l':=s2.set (Int.toNat x) 1073741824) (vs:=[I 1073741824]) (L':=[cBlk aa (List.flatten [[],encF (α:=Int) (s2.set (Int.toNat x) 1073741824)]) 169,cBlk ac [I s.lo,I s.hi] 42,cMk (ah :: ([]))]) H rfl rfl rfl Sz3.h rfl rfl rfl rfl (sgo1 rfl) rfl rfl (by have aL:=ae; omega) (by omega) 0 1073741824 rfl rfl rfl rfl ?_;intro aM H;have aA:(s2.set (Int.toNat x) 1073741824).length=601:=List.length_set.trans ae;refine s_nil ?_;exact ⟨s2.set (Int.toNat x) 1073741824,[cBlk aa (List.flatten [[],encF (α:=Int) (s2.set (Int.toNat x) 1073741824)]) 169],(M.e_pure hM).symm,⟨rfl,aA⟩,H.pick [0,2,1] (by decide) rfl⟩
  intro ay hM;refine W.skip ?_;exact ⟨s2,[cBlk aa (List.flatten [[],encF (α:=Int) s2]) 169],(M.e_pure hM).symm,⟨rfl,ae⟩,H.pick [0,2,1] (by decide) rfl⟩
 replace H:St w au (cAll (cObj ag (.loop aj) :: [cBlk aa (List.flatten [[],encF (α:=Int) (List.replicate 601 0)]) 169]) :: [cMk (ah :: ([])),cBlk ac [I s.lo,I s.hi] 42]) R:=St.bundleB (A:=cObj ag (.loop aj) :: [cBlk aa (List.flatten [[],encF (α:=Int) (List.replicate 601 0)]) 169]) (T:=[cMk (ah :: ([])),cBlk ac [I s.lo,I s.hi] 42]) rfl (H.pk [0,2,1,3]);refine (shift_shifts_1_ok (M.yl (m_shift_start_b0 s)) (.inl (List.replicate 601 0)) hYC ⟨_,rfl,⟨rfl,List.length_replicate⟩⟩ aq _ (H.gt 2)).mono ?_;rintro vq aN ⟨aB,aO,rfl,hvq,ao,ap⟩;replace H:=H.back ao rfl;clear ao hYC;rcases aB with s2 | _
 ·obtain ⟨_,rfl,rfl,ae⟩:=ap;refine ⟨_,[cBlk aa (List.flatten [[],encF (α:=Int) s2]) 169,cBlk ac [I s.lo,I s.hi] 42],H.unbundle.pick [0,2,1,3] (by decide) rfl,al.nb,?_⟩;intro aP H;rw [al.pd];replace H:=H.nf
  try simp only []
  refine WD.seq<|WD.of ?_;refine kg 3 ?_;refine WD.of ?_;refine W.ret ?_;refine bodyD_r (H.pk [0,1,2]) ?_;intro aQ H;replace H:=H.nf
  have aC:=M.e_pure hM;exact ⟨_,resE_tmp rfl,⟨s2,aa,aC,rfl,(H.pk [0]),ae⟩⟩
 obtain ⟨_,_,h_⟩:=ap; exact h_.elim

def m_shift_moved_on_b0 (aa:List Int):((List Int) × Int × Nat)->M (((List Int) × Int × Nat) ⊕ (List Int)):=fun (s2,best,s3) =>
  bif decide ((s3:Int)<601) then (
  M.gi (best+1) <|
  M.grd (decide ((0:Int)<=(s3:Int))&&decide ((s3:Int)<(601:Int))) <|
  M.pure (.inl (s2.set s3 (min (best+1) (aa.getD s3 0)),min (best+1) (aa.getD s3 0),s3+1)))
  else (
  M.pure (.inr s2))
def m_shift_moved_on_b1 (aa:List Int):((List Int) × Int × Int)->M (((List Int) × Int × Int) ⊕ (List Int)):=fun (s4,best2,i) =>
  bif decide (0<=i) then (
  M.gi (best2+1) <|
  M.grd (decide ((0:Int)<=i)&&decide (i<(601:Int))) <|
  M.gi (i-1) <|
  M.pure (.inl (s4.set (Int.toNat i) (min (s4.getD (Int.toNat i) 0) (min (best2+1) (aa.getD (Int.toNat i) 0))),min (best2+1) (aa.getD (Int.toNat i) 0),i-1)))
  else (
  M.pure (.inr s4))
def m_shift_moved_on_b2 (s:Span):(List Int)->(Int × Int)->M ((List Int) ⊕ Unit):=fun s5 (x,x2) =>
  M.bind (m_shift_in x2 s.lo s.hi) fun r2 =>
  bif !r2 then (
  M.grd (decide ((0:Int)<=x)&&decide (x<(601:Int))) <|
  M.pure (.inl (s5.set (Int.toNat x) 1073741824)))
  else (
  M.pure (.inl s5))
def m_shift_moved_on (aa:List Int) (s:Span):M (List Int) :=
  M.bind (M.iter (m_shift_moved_on_b0 aa) (List.replicate 601 (0:Int),1073741824,0)) fun l =>
  M.bind (M.iter (m_shift_moved_on_b1 aa) (l,1073741824,600)) fun l2 =>
  M.bind (m_shift_shifts) fun (_:Unit) =>
  M.bind (m_shift_shifts_1 (M.yl (m_shift_moved_on_b2 s)) (.inl l2)) fun x_=>match x_ with
  | .inl s5=>(
  M.pure s5)
  | .inr _=>M.fail
theorem shift_moved_on_ok {R aa}(ac s)(am:ac.length=601){r}(hM:(m_shift_moved_on ac s).Ends r)(w)(H:St w w [cBlk aa (List.flatten [[],encF (α:=Int) ac]) 169] R):Ret Tryz.prog 178 #[Pq aa,.agg #[I s.lo,I s.hi]] w fun v w'=>∃ y0,y0=r/\v = .tuple #[]/\St w w' [cBlk aa (List.flatten [[],encF (α:=Int) y0]) 169] R/\y0.length=601:=by
 refine ret_of_WD Tryz.func178 rfl rfl rfl ?_;replace H:St w w [cMk ([]),cBlk aa (List.flatten [[],encF (α:=Int) ac]) 169] R:=H.mk0;unfold m_shift_moved_on at hM;refine WD.seq<|WD.of ?_;refine kB 1 ?_;intro ag bg H;refine kbx ?_;intro ah bi H;refine s_nil<|WD.seq<|WD.of ?_;refine kg 3 ?_;refine s_val (x_ld (v:=.agg (List.flatten [[],encF (α:=Int) ac]).toArray) rfl (ldb_seg (l:=ac) (pre:=[]) (post:=[]) (by simp) Ag169.h Sz169.h (H.bl 3) (by simp) rfl am)) ?_;refine t_alloc (cs:=(List.flatten [[],encF (α:=Int) (List.replicate 601 0)])) H Al169.h (by kernel_rfl) ?_;intro ae bj H;refine t_swI 0 H rfl rfl Sz169.h List.length_replicate am ?_;intro bm H;refine s_nil<|WD.seq<|WD.of ?_;refine kg 3 ?_
 have bn:Sl (blkC aa (List.flatten [[],encF (α:=Int) ac])) (.slice (some ⟨aa,0,none⟩) 601 601) ac:=segSlA (α:=Int) (pre:=[]) (post:=[]) (by simp) rfl am (by omega);refine s_val (x_sl (v:=Pq aa) (u:=(.slice (some ⟨aa,0,none⟩) 601 601)) (lo':=none) (hi':=none) (mx':=none) rfl rfl rfl rfl (run_sliceN Tryz.underlying169 Sz3.h)) ?_;refine t_clrI (n:=601) T26.h 4 H rfl am (by decide) ?_;intro bp H;refine s_nil<|WD.seq<|WD.of ?_;refine kg 3 ?_;refine WD.seq<|WD.seq<|WD.of ?_;refine kg 3 ?_;refine WD.block ?_;obtain ⟨aI,ax,aJ⟩:=M.e_bind hM
 obtain ⟨aK,ax⟩:=M.e_iter ax;refine WD.loop (fun m ay σ W=>∃ (s2:List Int) (best:Int) (s3:Nat) (ρ:Env),σ=upds ρ [(2,Pq ag),(3,Pq ah),(4,Pq ae),(5,I best),(16,I (s3:Int))]/\M.iterN (m_shift_moved_on_b0 ac) m (s2,best,s3)=some aI/\St w W [cBlk ae (List.flatten [[],encF (α:=Int) ac]) 169,cBlk ah [I s.lo,I s.hi] 42,cBlk ag [Pq aa] 306,cMk ay,cBlk aa (List.flatten [[],encF (α:=Int) s2]) 169] R/\s2.length=601) ?_ ?_
 ·exact ⟨_,List.replicate 601 (0:Int),1073741824,0,_,jQ,ax,H,List.length_replicate⟩
 rintro br ay σ bt ⟨s2,best,s3,ρ,rfl,aL,H,aA⟩;obtain ⟨aM,aN,bu,hM,aE⟩:=M.e_iterN aL;refine WD.seq<|WD.of ?_;refine kg 3 ?_;refine WD.seq ?_
 refine WD.cond (decide ((s3:Int)<601)) rfl (fun ai=>?_) (fun ai=>?_)
 ·replace hM:=M.e_t hM ai;replace ai:=dI ai;refine WD.of<|W.skip<|WD.seq<|WD.block<|WD.seq<|WD.of ?_;refine kg 4 ?_;refine WD.seq<|WD.of ?_;obtain ⟨bv,hM⟩:=M.e_gq hM;obtain ⟨bw,hM⟩:=M.e_gq hM;refine kg 4 ?_;refine s_val (x_ix (v:=.pointer (some ⟨ae,0+Int.toNat (s3:Int)*1,none⟩)) rfl rfl (run_indexS Tryz.underlying169 Sz3.h (by omega) (by omega)))<|s_val (x_ld (v:=I (ac.getD s3 0)) rfl (ldS (α:=Int) (k:=1) (off:=0) (i:=s3) (f:=0) (sz:=1) 0 Sc3.h (H.bl 0) rfl (sgo1 rfl) rfl (by decide) (by have ao:=am; omega) (by omega) rfl)) ?_;refine kg 3 ?_;refine WD.of ?_;refine kg 5 ?_;refine s_val (x_ix (v:=.pointer (some ⟨aa,0+Int.toNat (s3:Int)*1,none⟩)) rfl rfl (run_indexS Tryz.underlying169 Sz3.h (by omega) (by omega))) ?_;refine t_stS (α:=Int) (kc:=4) (b:=aa) (k:=1) (off:=0) (i:=s3) (f:=0) (sz:=1) (segs:=[[],encF (α:=Int) s2]) (segs':=[[],encF (α:=Int) (s2.set s3 (min (best+1) (ac.getD s3 0)))]) (l:=s2) (l':=s2.set s3 (min (best+1) (ac.getD s3 0))) (vs:=[I (min (best+1) (ac.getD s3 0))]) (L':=[cBlk ae (List.flatten [[],encF (α:=Int) ac]) 169,cBlk ah [I s.lo,I s.hi] 42,cBlk ag [Pq aa] 306,cMk ay,cBlk aa (List.flatten [[],encF (α:=Int) (s2.set s3 (min (best+1) (ac.getD s3 0)))]) 169]) H rfl rfl rfl Sz3.h rfl rfl rfl rfl (sgo1 rfl) rfl rfl (by have ao:=aA; omega) (by omega) 0 (min (best+1) (ac.getD s3 0)) rfl rfl rfl rfl ?_;intro bx H
  have aO:(s2.set s3 (min (best+1) (ac.getD s3 0))).length=601:=List.length_set.trans aA;refine s_nil<|WD.of ?_;refine kg 4 ?_
  exact ⟨aM,aN,s2.set s3 (min (best+1) (ac.getD s3 0)),min (best+1) (ac.getD s3 0),s3+1,_,jQ,M.e_inl hM aE,H,aO⟩
 replace hM:=M.e_f hM ai;replace ai:=dI ai;refine WD.of ?_;refine W.exit ?_;obtain rfl:=M.e_inr hM aE;replace hM:=aJ;refine WD.seq<|WD.of ?_;refine kg 3 ?_;refine WD.seq<|WD.seq<|WD.of ?_;refine kg 3 ?_;refine WD.block ?_;obtain ⟨aP,aB,aQ⟩:=M.e_bind hM
 obtain ⟨aK,aB⟩:=M.e_iter aB;refine WD.loop (fun m aj σ W=>∃ (s4:List Int) (best2:Int) (i:Int) (ρ:Env),σ=upds ρ [(2,Pq ag),(3,Pq ah),(4,Pq ae),(5,I best2),(7,I i)]/\M.iterN (m_shift_moved_on_b1 ac) m (s4,best2,i)=some aP/\St w W [cBlk ae (List.flatten [[],encF (α:=Int) ac]) 169,cBlk ah [I s.lo,I s.hi] 42,cBlk ag [Pq aa] 306,cMk aj,cBlk aa (List.flatten [[],encF (α:=Int) s4]) 169] R/\s4.length=601) ?_ ?_
 ·exact ⟨_,s2,1073741824,600,_,jQ,aB,H,aA⟩
 rintro bz aj σ bA ⟨s4,best2,i,ρ,rfl,aR,H,aq⟩;obtain ⟨aS,aT,bB,hM,aF⟩:=M.e_iterN aR;refine WD.seq<|WD.seq<|WD.of ?_;refine kg 4 ?_
 refine WD.cond (decide (0<=i)) rfl (fun al=>?_) (fun al=>?_)
 ·replace hM:=M.e_t hM al;replace al:=dI al;refine WD.of<|W.skip<|WD.seq<|WD.block<|WD.seq<|WD.of ?_;obtain ⟨bC,hM⟩:=M.e_gq hM;obtain ⟨bD,hM⟩:=M.e_gq hM;refine kg 4 ?_;refine s_val (x_ix (v:=.pointer (some ⟨ae,0+Int.toNat i*1,none⟩)) rfl rfl (run_indexS Tryz.underlying169 Sz3.h (by omega) (by omega)))<|s_val (x_ld (v:=I (ac.getD (Int.toNat i) 0)) rfl (ldS (α:=Int) (k:=1) (off:=0) (i:=(Int.toNat i)) (f:=0) (sz:=1) 0 Sc3.h (H.bl 0) rfl (sgo1 rfl) rfl (by decide) (by have ao:=am; omega) (by omega) rfl)) ?_;refine kg 3 ?_;refine WD.of ?_;refine kDo 0 [0,1,2,3] [(0,true),(1,true),(2,true),(3,true),(4,true),(5,true),(7,true),(9,true),(6,false),(8,true),(10,true),(11,false)] ?_;intro bE H;refine kg 5 ?_;refine d_q rfl (fun w' H=>x_ix (v:=.pointer (some ⟨aa,0+Int.toNat i*1,none⟩)) rfl rfl (run_indexS Tryz.underlying169 Sz3.h (by omega) (by omega))) ?_;refine kG 3 ?_;refine s_val (x_ld (v:=I (s4.getD (Int.toNat i) 0)) rfl (ldS (α:=Int) (k:=1) (off:=0) (i:=(Int.toNat i)) (f:=0) (sz:=1) 0 Sc3.h (H.bl 4) rfl (sgo1 rfl) rfl (by decide) (by have ao:=aq; omega) (by omega) rfl)) ?_;refine kN ?_;refine kg 1 ?_;refine d_q rfl (fun w' H=>x_ix (v:=.pointer (some ⟨aa,0+Int.toNat i*1,none⟩)) rfl rfl (run_indexS Tryz.underlying169 Sz3.h (by omega) (by omega)))<|d_l rfl ?_;refine t_stS (α:=Int) (kc:=4) (b:=aa) (k:=1) (off:=0) (i:=(Int.toNat i)) (f:=0) (sz:=1) (segs:=[[],encF (α:=Int) s4]) (segs':=[[],encF (α:=Int) (s4.set (Int.toNat i) (min (s4.getD (Int.toNat i) 0) (min (best2+1) (ac.getD (Int.toNat i) 0))))]) (l:=s4) (l':=s4.set (Int.toNat i) (min (s4.getD (Int.toNat i) 0) (min (best2+1) (ac.getD (Int.toNat i) 0)))) (vs:=[I (min (s4.getD (Int.toNat i) 0) (min (best2+1) (ac.getD (Int.toNat i) 0)))]) (L':=[cBlk ae (List.flatten [[],encF (α:=Int) ac]) 169,cBlk ah [I s.lo,I s.hi] 42,cBlk ag [Pq aa] 306,cMk aj,cBlk aa (List.flatten [[],encF (α:=Int) (s4.set (Int.toNat i) (min (s4.getD (Int.toNat i) 0) (min (best2+1) (ac.getD (Int.toNat i) 0))))]) 169]) H rfl rfl rfl Sz3.h rfl rfl rfl rfl (sgo1 rfl) rfl rfl (by have ao:=aq; omega) (by omega) 0 (min (s4.getD (Int.toNat i) 0) (min (best2+1) (ac.getD (Int.toNat i) 0))) rfl rfl rfl rfl ?_;intro bF H
  have aU:(s4.set (Int.toNat i) (min (s4.getD (Int.toNat i) 0) (min (best2+1) (ac.getD (Int.toNat i) 0)))).length=601:=List.length_set.trans aq;refine kN ?_;refine d_nil<|WD.of ?_;obtain ⟨bG,hM⟩:=M.e_gq hM;refine kg 5 ?_
  exact ⟨aS,aT,s4.set (Int.toNat i) (min (s4.getD (Int.toNat i) 0) (min (best2+1) (ac.getD (Int.toNat i) 0))),min (best2+1) (ac.getD (Int.toNat i) 0),i-1,_,jQ,M.e_inl hM aF,H,aU⟩
 replace hM:=M.e_f hM al;replace al:=dI al;refine WD.of ?_;refine W.exit ?_;obtain rfl:=M.e_inr hM aF;replace hM:=aQ;refine WD.seq<|WD.of ?_;refine kC 1 @shift_shifts_ok ?_;intro bH hM H;refine s_nil<|WD.block ?_;obtain ⟨bI,aV,hM⟩:=M.e_bind hM;refine WD.range (L:=[cBlk aa (List.flatten [[],encF (α:=Int) s4]) 169,cBlk ae (List.flatten [[],encF (α:=Int) ac]) 169,cBlk ah [I s.lo,I s.hi] 42,cBlk ag [Pq aa] 306]) [] (H.pk [3,4,0,1,2]) rfl cq ?_;intro au av aC aW aD H
 have hYC:YieldC Tryz.prog ([cMk (av :: aj),cBlk ae (List.flatten [[],encF (α:=Int) ac]) 169,cBlk ah [I s.lo,I s.hi] 42,cBlk ag [Pq aa] 306]++R) arII (yJ au aC (fun s5 aw=>aw=[cBlk aa (List.flatten [[],encF (α:=Int) s5]) 169]/\s5.length=601) (fun (_:Unit) _=>False) (fun _=>.ret)) (.func (.yield au) #[] #[]) (M.yl (m_shift_moved_on_b2 s)):=by
  refine YieldC.mk aD (fun s5 aw=>aw=[cBlk aa (List.flatten [[],encF (α:=Int) s5]) 169]/\s5.length=601) (fun (_:Unit) _=>False) (fun _=>.ret) (m_shift_moved_on_b2 s) (by rintro s5 _ h_; obtain ⟨rfl,_⟩:=h_; rfl) (fun _ _ h_=>h_.elim) rfl (arII_len rfl) ?_;intro C_ bJ x_ W_ aX;obtain ⟨x,x2⟩:=x_;obtain rfl:=aX;refine kg 7 ?_;refine ⟨rfl,rfl,?_⟩;intro w R bK aw s_ r aY hM H
  skip
  obtain ⟨s5,aZ⟩:∃ y_,y_=s_:=⟨_,rfl⟩
  subst aZ;obtain ⟨rfl,ap⟩:=aY;replace hM:(m_shift_moved_on_b2 s s5 (x,x2)).Ends r:=hM;simp only [m_shift_moved_on_b2] at hM;replace H:=H.pk [0,2,3,4,1];refine kC 8 @shift_in_ok ?_;intro bL r2 hM H;refine kI 2 ?_ ?_
  ·intro a7 hM;obtain ⟨bN,hM⟩:=M.e_gq hM;refine kg 4 ?_;refine s_val (x_ix (v:=.pointer (some ⟨aa,0+Int.toNat x*1,none⟩)) rfl rfl (run_indexS Tryz.underlying169 Sz3.h (by omega) (by omega))) ?_;refine t_stS (α:=Int) (kc:=0) (b:=aa) (k:=1) (off:=0) (i:=(Int.toNat x)) (f:=0) (sz:=1) (segs:=[[],encF (α:=Int) s5]) (segs':=[[],encF (α:=Int) (s5.set (Int.toNat x) 1073741824)]) (l:=s5) (l':=s5.set (Int.toNat x) 1073741824) (vs:=[I 1073741824]) (L':=[cBlk aa (List.flatten [[],encF (α:=Int) (s5.set (Int.toNat x) 1073741824)]) 169,cBlk ae (List.flatten [[],encF (α:=Int) ac]) 169,cBlk ah [I s.lo,I s.hi] 42,cBlk ag [Pq aa] 306,cMk (av :: aj)]) H rfl rfl rfl Sz3.h rfl rfl rfl rfl (sgo1 rfl) rfl rfl (by have ao:=ap; omega) (by omega) 0 1073741824 rfl rfl rfl rfl ?_;intro bO H;have a8:(s5.set (Int.toNat x) 1073741824).length=601:=List.length_set.trans ap;refine s_nil ?_;exact ⟨s5.set (Int.toNat x) 1073741824,[cBlk aa (List.flatten [[],encF (α:=Int) (s5.set (Int.toNat x) 1073741824)]) 169],(M.e_pure hM).symm,⟨rfl,a8⟩,H.pick [0,4,1,2,3] (by decide) rfl⟩
  intro a7 hM;refine W.skip ?_;exact ⟨s5,[cBlk aa (List.flatten [[],encF (α:=Int) s5]) 169],(M.e_pure hM).symm,⟨rfl,ap⟩,H.pick [0,4,1,2,3] (by decide) rfl⟩
 replace H:St w aW (cAll (cObj au (.loop aC) :: [cBlk aa (List.flatten [[],encF (α:=Int) s4]) 169]) :: [cMk (av :: aj),cBlk ae (List.flatten [[],encF (α:=Int) ac]) 169,cBlk ah [I s.lo,I s.hi] 42,cBlk ag [Pq aa] 306]) R:=St.bundleB (A:=cObj au (.loop aC) :: [cBlk aa (List.flatten [[],encF (α:=Int) s4]) 169]) (T:=[cMk (av :: aj),cBlk ae (List.flatten [[],encF (α:=Int) ac]) 169,cBlk ah [I s.lo,I s.hi] 42,cBlk ag [Pq aa] 306]) rfl (H.pk [0,2,1,3,4,5]);refine (shift_shifts_1_ok (M.yl (m_shift_moved_on_b2 s)) (.inl s4) hYC ⟨_,rfl,⟨rfl,aq⟩⟩ aV _ (H.gt 4)).mono ?_;rintro vq bP ⟨ba,bQ,rfl,hvq,aG,aH⟩;replace H:=H.back aG rfl;clear aG hYC;rcases ba with s5 | _
 ·obtain ⟨_,rfl,rfl,ap⟩:=aH;refine ⟨_,[cBlk aa (List.flatten [[],encF (α:=Int) s5]) 169,cBlk ae (List.flatten [[],encF (α:=Int) ac]) 169,cBlk ah [I s.lo,I s.hi] 42,cBlk ag [Pq aa] 306],H.unbundle.pick [0,2,1,3,4,5] (by decide) rfl,aD.nb,?_⟩;intro bR H;rw [aD.pd];replace H:=H.nf
  try simp only []
  refine bodyD_n (H.pk [0,1,2,3,4]) ?_;intro bS H;replace H:=H.nf;have bc:=M.e_pure hM;exact ⟨_,resE_tmp0 rfl,⟨s5,bc,rfl,(H.pk [0]),ap⟩⟩
 obtain ⟨_,_,h_⟩:=aH; exact h_.elim

def m_shift_reckoned_b0 (l:List Span):((List Int) × (List Tb) × Nat)->M (((List Int) × (List Tb) × Nat) ⊕ ((List Tb) × (List Tb) × (List Int))):=fun (s,l2,s2) =>
  bif decide ((s2:Int)<((l.drop 1).length:Int)) then (
  M.grd (decide ((s2:Int)<((l.drop 1).length:Int))) <|
  M.bind (m_shift_moved_on s ((l.drop 1).getD s2 default)) fun q0 =>
  M.grd (decide ((l2.length+([(⟨q0⟩:Tb)]).length)*4808<=140737488355328)) <|
  M.pure (.inl (q0,l2++([(⟨q0⟩:Tb)]),s2+1)))
  else (
  M.pure (.inr (l2,l2,s)))
def m_shift_reckoned (l:List Span):M (List Tb) :=
  M.grd (decide (0<(l.length:Int))) <|
  M.bind (m_shift_start (l.getD 0 default)) fun r0 =>
  M.grd (decide (1<=(l.length:Int))) <|
  M.bind (M.iter (m_shift_reckoned_b0 l) (r0,[(⟨r0⟩:Tb)],0)) fun (l3,l4,l5) =>
  M.pure l4
theorem shift_reckoned_ok {R am aa}(l)(aG:Reads R am)(ap:Sl am aa l){r}(hM:(m_shift_reckoned l).Ends r)(w)(H:St w w [] R):Ret Tryz.prog 104 #[aa] w fun v w'=>∃ y0 u0,y0=r/\v=u0/\St w w' [cOwn (α:=Tb) 169 u0 y0] R:=by
 refine ret_of_W Tryz.func104 rfl rfl rfl ?_;obtain ⟨aH,hM⟩:=M.e_gq hM;refine kC 9 @shift_start_ok ?_;intro aI r0 ac ae hM H;refine kg 6 ?_;refine s_val (x_ld (v:=.agg (List.flatten [[],encF (α:=Int) r0]).toArray) rfl (ldb_seg (l:=r0) (pre:=[]) (post:=[]) (by simp) Ag169.h Sz169.h (H.bl 0) (by simp) rfl ae)) ?_;refine t_bs (α:=Tb) T165.h [.agg (List.flatten [[],encF (α:=Int) r0]).toArray] [(⟨r0⟩:Tb)] H rfl (.cons rfl (Tb.rep_of ae)<|.nil) rfl rfl rfl ?_;intro aq aJ H;obtain ⟨aK,hM⟩:=M.e_gq hM;refine kg 6 ?_;obtain ⟨ag,au,ah⟩:=sl_lo T88.h.und T88.h.size ap (i:=1) (by omega) (by omega);replace ah:Sl _ ag (l.drop 1):=ah;refine s_val (x_sl (v:=aa) (u:=ag) (lo':=some (I 1)) (hi':=none) (mx':=none) rfl rfl rfl rfl (au _)) ?_;have aL:=(ah).len_le;refine kg 4 ?_;obtain ⟨av,ai,aw⟩:=M.e_bind hM;obtain ⟨aM,ai⟩:=M.e_iter ai;refine W.loop (fun m σ W=>∃ (s:List Int) (l2:List Tb) (s2:Nat) (aj:Value) (ρ:Env),σ=upds ρ [(3,Pq ac),(4,aj),(16,ag),(17,I ((l.drop 1).length:Int)),(18,I (s2:Int))]/\M.iterN (m_shift_reckoned_b0 l) m (s,l2,s2)=some av/\St w W [cOwn (α:=Tb) 169 aj l2,cBlk ac (List.flatten [[],encF (α:=Int) s]) 169] R/\s.length=601) ?_ ?_
 ·exact ⟨_,r0,[(⟨r0⟩:Tb)],0,aq,_,jQ,ai,H,ae⟩
 rintro aN σ aO ⟨s,l2,s2,aj,ρ,rfl,ax,H,ay⟩;obtain ⟨aA,aB,aP,hM,ao⟩:=M.e_iterN ax;refine kI 5 ?_ ?_
 ·intro aC hM;obtain ⟨aQ,hM⟩:=M.e_gq hM;refine kA 7 ?_;intro aR aS H;refine ksw ?_;intro aT H;refine kg 5 ?_;obtain ⟨aU,aD,hM⟩:=M.e_bind hM;refine s_call cq [Pq ac,.agg #[I (((l.drop 1).getD s2 default).lo),I (((l.drop 1).getD s2 default).hi)]] rfl (shift_moved_on_ok s ((l.drop 1).getD s2 default) ay aD _ ((H.pk [2,0,1]).gt 2)) ?_;rintro _ aV ⟨q0,rfl,rfl,aE,al⟩;replace H:=H.pk [2,0,1] |>.bk aE
  refine kg 5 ?_;refine s_val (x_ld (v:=.agg (List.flatten [[],encF (α:=Int) q0]).toArray) rfl (ldb_seg (l:=q0) (pre:=[]) (post:=[]) (by simp) Ag169.h Sz169.h (H.bl 0) (by simp) rfl al)) ?_;refine t_bs (α:=Tb) T165.h [.agg (List.flatten [[],encF (α:=Int) q0]).toArray] [(⟨q0⟩:Tb)] H rfl (.cons rfl (Tb.rep_of al)<|.nil) rfl rfl rfl ?_;intro aW aX H;obtain ⟨aY,hM⟩:=M.e_gq hM;refine kP 0 ?_;intro aF aZ H;refine kg 2 ?_;replace H:=H.pk [1,3];refine kg 4 ?_;exact ⟨aA,aB,q0,l2++([(⟨q0⟩:Tb)]),s2+1,aF,_,jQ,M.e_inl hM ao,(H.pk [1,0]),al⟩
 intro aC hM;refine W.exit ?_;obtain rfl:=M.e_inr hM ao;replace hM:=aw;exact kR 5 [0]

def zdQ  : ((List Tb) × Nat × Int)->M (((List Tb) × Nat × Int) ⊕ (List Tb)):=fun (l,i,j) =>
  bif decide ((i:Int)<j) then (
  M.grd (decide ((0:Int)<=j)&&decide (j<(l.length:Int))) <|
  M.grd (decide ((i:Int)<(l.length:Int))) <|
  M.grd (decide ((0:Int)<=j)&&decide (j<((l.set i (l.getD (Int.toNat j) default)).length:Int))) <|
  M.gi ((i:Int)+1) <|
  M.gi (j-1) <|
  M.pure (.inl ((l.set i (l.getD (Int.toNat j) default)).set (Int.toNat j) (l.getD i default),i+1,j-1)))
  else (
  M.pure (.inr l))
def zeu (s:List Tb):M (List Tb) :=
  M.bind (M.iter (zdQ) (s,0,(s.length:Int)-1)) fun l2 =>
  M.pure l2
theorem zhP {R aa}(s){r}(hM:(zeu s).Ends r)(w)(H:St w w [cOwn (α:=Tb) 169 aa s] R):Ret Tryz.prog 105 #[aa] w fun v w'=>∃ y0,y0=r/\v = .tuple #[]/\St w w' [cOwn (α:=Tb) 169 aa y0] R:=by
 refine ret_of_W Tryz.func105 rfl rfl rfl ?_;refine kG 2 ?_;refine zM aa rfl ?_;have au:=((H.os 0)).len_le;refine s_val (x_lenS T165.h.und rfl (H.os 0))<|zR (s.length:Int) 1 ((s.length:Int)-1) rfl rfl rfl (by omega)<|zA (I 0) rfl<|zA (I ((s.length:Int)-1)) rfl ?_;refine kG 2 ?_;obtain ⟨am,ai,ao⟩:=M.e_bind hM
 obtain ⟨av,ai⟩:=M.e_iter ai;refine W.loop (fun m σ W=>∃ (l:List Tb) (i:Nat) (j:Int) (ρ:Env),σ=upds ρ [(0,aa),(2,I (i:Int)),(3,I j)]/\M.iterN (zdQ) m (l,i,j)=some am/\St w W [cOwn (α:=Tb) 169 aa l] R) ?_ ?_
 ·exact ⟨_,s,0,(s.length:Int)-1,_,upds_of _ _ ⟨rfl,rfl,rfl,trivial⟩,ai,H⟩
 rintro aw σ ax ⟨l,i,j,ρ,rfl,aj,H⟩;obtain ⟨ag,ah,ay,hM,ac⟩:=M.e_iterN aj;simp only [zdQ] at hM;clear aj;refine kG 3 ?_;refine zM (I (i:Int)) rfl<|zM (I j) rfl<|zC (i:Int) j (decide ((i:Int)<j)) rfl rfl rfl<|s_nil ?_
 refine W.cond (decide ((i:Int)<j)) rfl (fun ae=>?_) (fun ae=>?_)
 ·replace hM:=M.e_t hM ae;replace ae:=dI ae;refine kG 3 ?_;refine W.drawTS (fun W=>St w W [] R) (.q 0 (.q 1 (.q 2 (.q 3 (.q 4 (.q 5 (.q 8 (.q 9 (.l2 6 (.l2 7 (.l 10 (.l 11 (.l 12 (.l 13 (.l 14 .nil))))) 10 (.l2 7 (.l 11 (.l 12 (.l 13 (.l 14 .nil)))) 11 (.l 7 (.l 12 (.l 13 (.l 14 .nil)))))) 10 (.l2 6 (.l2 7 (.l 11 (.l 12 (.l 13 (.l 14 .nil)))) 11 (.l 7 (.l 12 (.l 13 (.l 14 .nil))))) 11 (.l 6 (.l 7 (.l 12 (.l 13 (.l 14 .nil))))))))))))))) 15 [15] mixed (by decide +kernel) rfl ?_;intro aA al;replace H:=H.ext al;clear al;refine ⟨(H.pk []),?_⟩;refine ts_q rfl (fun w' H=>x_mv (v:=aa) rfl) ?_;refine ts_q rfl (fun w' H=>x_mv (v:=I (i:Int)) rfl) ?_;refine ts_q rfl (fun w' H=>x_mv (v:=aa) rfl) ?_;refine ts_q rfl (fun w' H=>x_mv (v:=I j) rfl) ?_;refine ts_q rfl (fun w' H=>x_mv (v:=aa) rfl) ?_;refine ts_q rfl (fun w' H=>x_mv (v:=I j) rfl) ?_;refine ts_q rfl (fun w' H=>x_mv (v:=aa) rfl) ?_;refine ts_q rfl (fun w' H=>x_mv (v:=I (i:Int)) rfl) ?_;obtain ⟨aB,hM⟩:=M.e_gd hM;obtain ⟨aC,hM⟩:=M.e_gd hM;obtain ⟨aD,hM⟩:=M.e_gd hM;refine ts_l2 rfl rfl ?_ ?_
  ·skip
   refine s_val (x_ix (v:=vat aa 601 (Int.toNat j)) rfl rfl (Sl.ix (α:=Tb) T165.h.und T165.h.size (H.os 0) (by omega) (by omega))) ?_;refine kN ?_;refine ts_l2 rfl rfl ?_ ?_
   ·skip
    refine s_val (x_ld (v:=.agg (List.flatten [[],encF (α:=Int) (Tb.pad (l.getD (Int.toNat j) default).v)]).toArray) rfl (ld_ag Ag169.h (Sz169.h.trans (congrArg some (seg_len (Tb.pad_len _)).symm)) (At.mono (Tb_atA (H.os 0) (i:=j) (by omega) (by omega)) (H.ol 0)))) ?_;refine kN ?_;refine ts_l rfl<|s_val (x_ix (v:=vat aa 601 (Int.toNat (i:Int))) rfl rfl (Sl.ix (α:=Tb) T165.h.und T165.h.size (H.os 0) (by omega) (by omega))) ?_;refine kN ?_;refine ts_l rfl<|s_val (x_ld (v:=.agg (List.flatten [[],encF (α:=Int) (Tb.pad (l.getD i default).v)]).toArray) rfl (ld_ag Ag169.h (Sz169.h.trans (congrArg some (seg_len (Tb.pad_len _)).symm)) (At.mono (Tb_atA (H.os 0) (i:=(i:Int)) (by omega) (by omega)) (H.ol 0)))) ?_;refine kN ?_;refine ts_l rfl<|s_val (x_ix (v:=vat aa 601 (Int.toNat (i:Int))) rfl rfl (Sl.ix (α:=Tb) T165.h.und T165.h.size (H.os 0) (by omega) (by omega))) ?_;refine kN ?_;refine ts_l rfl ?_;refine t_ost (k:=0) (i:=(i:Int)) (l:=l) (l':=l.set i (l.getD (Int.toNat j) default)) (val:=.agg (List.flatten [[],encF (α:=Int) (Tb.pad (l.getD (Int.toNat j) default).v)]).toArray) (L':=[cOwn (α:=Tb) 169 aa (l.set i (l.getD (Int.toNat j) default))]) H rfl Sz169.h (by omega) (by omega) (l.getD (Int.toNat j) default) rfl rfl rfl rfl rfl ?_;intro aE H
    refine s_nil ⟨(H.pk []),?_⟩;refine ts_l rfl<|s_val (x_ix (v:=vat aa 601 (Int.toNat j)) rfl rfl (Sl.ix (α:=Tb) T165.h.und T165.h.size (H.os 0) (by omega) (by omega))) ?_;refine kN ?_;refine ts_nil ?_;refine sr_l rfl ?_;refine t_ost (k:=0) (i:=j) (l:=l.set i (l.getD (Int.toNat j) default)) (l':=(l.set i (l.getD (Int.toNat j) default)).set (Int.toNat j) (l.getD i default)) (val:=.agg (List.flatten [[],encF (α:=Int) (Tb.pad (l.getD i default).v)]).toArray) (L':=[cOwn (α:=Tb) 169 aa ((l.set i (l.getD (Int.toNat j) default)).set (Int.toNat j) (l.getD i default))]) H rfl Sz169.h (by omega) (by omega) (l.getD i default) rfl rfl rfl rfl rfl ?_;intro aF H
    refine s_nil ⟨trivial,?_⟩;refine sr_nil<|W.region rfl<|zM (I (i:Int)) rfl ?_;obtain ⟨aG,hM⟩:=M.e_gd hM;refine zR (i:Int) 1 ((i:Int)+1) rfl rfl rfl (by omega)<|zM (I j) rfl ?_;obtain ⟨aH,hM⟩:=M.e_gd hM;refine zR j 1 (j-1) rfl rfl rfl (by omega)<|zA (I ((i:Int)+1)) rfl<|zA (I (j-1)) rfl<|s_nil ?_
    exact ⟨ag,ah,(l.set i (l.getD (Int.toNat j) default)).set (Int.toNat j) (l.getD i default),i+1,j-1,_,upds_of _ _ ⟨rfl,rfl,rfl,trivial⟩,M.e_inl hM ac,H⟩
   skip
   refine s_val (x_ix (v:=vat aa 601 (Int.toNat (i:Int))) rfl rfl (Sl.ix (α:=Tb) T165.h.und T165.h.size (H.os 0) (by omega) (by omega))) ?_;refine kN ?_;refine ts_l2 rfl rfl ?_ ?_
   ·skip
    refine s_val (x_ld (v:=.agg (List.flatten [[],encF (α:=Int) (Tb.pad (l.getD (Int.toNat j) default).v)]).toArray) rfl (ld_ag Ag169.h (Sz169.h.trans (congrArg some (seg_len (Tb.pad_len _)).symm)) (At.mono (Tb_atA (H.os 0) (i:=j) (by omega) (by omega)) (H.ol 0)))) ?_;refine kN ?_;refine ts_l rfl<|s_val (x_ld (v:=.agg (List.flatten [[],encF (α:=Int) (Tb.pad (l.getD i default).v)]).toArray) rfl (ld_ag Ag169.h (Sz169.h.trans (congrArg some (seg_len (Tb.pad_len _)).symm)) (At.mono (Tb_atA (H.os 0) (i:=(i:Int)) (by omega) (by omega)) (H.ol 0)))) ?_;refine kN ?_;refine ts_l rfl<|s_val (x_ix (v:=vat aa 601 (Int.toNat (i:Int))) rfl rfl (Sl.ix (α:=Tb) T165.h.und T165.h.size (H.os 0) (by omega) (by omega))) ?_;refine kN ?_;refine ts_l rfl ?_;refine t_ost (k:=0) (i:=(i:Int)) (l:=l) (l':=l.set i (l.getD (Int.toNat j) default)) (val:=.agg (List.flatten [[],encF (α:=Int) (Tb.pad (l.getD (Int.toNat j) default).v)]).toArray) (L':=[cOwn (α:=Tb) 169 aa (l.set i (l.getD (Int.toNat j) default))]) H rfl Sz169.h (by omega) (by omega) (l.getD (Int.toNat j) default) rfl rfl rfl rfl rfl ?_;intro aI H
    refine s_nil ⟨(H.pk []),?_⟩;refine ts_l rfl<|s_val (x_ix (v:=vat aa 601 (Int.toNat j)) rfl rfl (Sl.ix (α:=Tb) T165.h.und T165.h.size (H.os 0) (by omega) (by omega))) ?_;refine kN ?_;refine ts_nil ?_;refine sr_l rfl ?_;refine t_ost (k:=0) (i:=j) (l:=l.set i (l.getD (Int.toNat j) default)) (l':=(l.set i (l.getD (Int.toNat j) default)).set (Int.toNat j) (l.getD i default)) (val:=.agg (List.flatten [[],encF (α:=Int) (Tb.pad (l.getD i default).v)]).toArray) (L':=[cOwn (α:=Tb) 169 aa ((l.set i (l.getD (Int.toNat j) default)).set (Int.toNat j) (l.getD i default))]) H rfl Sz169.h (by omega) (by omega) (l.getD i default) rfl rfl rfl rfl rfl ?_;intro aJ H
    refine s_nil ⟨trivial,?_⟩;refine sr_nil<|W.region rfl<|zM (I (i:Int)) rfl ?_;obtain ⟨aK,hM⟩:=M.e_gd hM;refine zR (i:Int) 1 ((i:Int)+1) rfl rfl rfl (by omega)<|zM (I j) rfl ?_;obtain ⟨aL,hM⟩:=M.e_gd hM;refine zR j 1 (j-1) rfl rfl rfl (by omega)<|zA (I ((i:Int)+1)) rfl<|zA (I (j-1)) rfl<|s_nil ?_
    exact ⟨ag,ah,(l.set i (l.getD (Int.toNat j) default)).set (Int.toNat j) (l.getD i default),i+1,j-1,_,upds_of _ _ ⟨rfl,rfl,rfl,trivial⟩,M.e_inl hM ac,H⟩
   skip
   refine s_val (x_ld (v:=.agg (List.flatten [[],encF (α:=Int) (Tb.pad (l.getD i default).v)]).toArray) rfl (ld_ag Ag169.h (Sz169.h.trans (congrArg some (seg_len (Tb.pad_len _)).symm)) (At.mono (Tb_atA (H.os 0) (i:=(i:Int)) (by omega) (by omega)) (H.ol 0)))) ?_;refine kN ?_;refine ts_l rfl<|s_val (x_ld (v:=.agg (List.flatten [[],encF (α:=Int) (Tb.pad (l.getD (Int.toNat j) default).v)]).toArray) rfl (ld_ag Ag169.h (Sz169.h.trans (congrArg some (seg_len (Tb.pad_len _)).symm)) (At.mono (Tb_atA (H.os 0) (i:=j) (by omega) (by omega)) (H.ol 0)))) ?_;refine kN ?_;refine ts_l rfl<|s_val (x_ix (v:=vat aa 601 (Int.toNat (i:Int))) rfl rfl (Sl.ix (α:=Tb) T165.h.und T165.h.size (H.os 0) (by omega) (by omega))) ?_;refine kN ?_;refine ts_l rfl ?_;refine t_ost (k:=0) (i:=(i:Int)) (l:=l) (l':=l.set i (l.getD (Int.toNat j) default)) (val:=.agg (List.flatten [[],encF (α:=Int) (Tb.pad (l.getD (Int.toNat j) default).v)]).toArray) (L':=[cOwn (α:=Tb) 169 aa (l.set i (l.getD (Int.toNat j) default))]) H rfl Sz169.h (by omega) (by omega) (l.getD (Int.toNat j) default) rfl rfl rfl rfl rfl ?_;intro aM H
   refine s_nil ⟨(H.pk []),?_⟩;refine ts_l rfl<|s_val (x_ix (v:=vat aa 601 (Int.toNat j)) rfl rfl (Sl.ix (α:=Tb) T165.h.und T165.h.size (H.os 0) (by omega) (by omega))) ?_;refine kN ?_;refine ts_nil ?_;refine sr_l rfl ?_;refine t_ost (k:=0) (i:=j) (l:=l.set i (l.getD (Int.toNat j) default)) (l':=(l.set i (l.getD (Int.toNat j) default)).set (Int.toNat j) (l.getD i default)) (val:=.agg (List.flatten [[],encF (α:=Int) (Tb.pad (l.getD i default).v)]).toArray) (L':=[cOwn (α:=Tb) 169 aa ((l.set i (l.getD (Int.toNat j) default)).set (Int.toNat j) (l.getD i default))]) H rfl Sz169.h (by omega) (by omega) (l.getD i default) rfl rfl rfl rfl rfl ?_;intro aN H
   refine s_nil ⟨trivial,?_⟩;refine sr_nil<|W.region rfl<|zM (I (i:Int)) rfl ?_;obtain ⟨aO,hM⟩:=M.e_gd hM;refine zR (i:Int) 1 ((i:Int)+1) rfl rfl rfl (by omega)<|zM (I j) rfl ?_;obtain ⟨aP,hM⟩:=M.e_gd hM;refine zR j 1 (j-1) rfl rfl rfl (by omega)<|zA (I ((i:Int)+1)) rfl<|zA (I (j-1)) rfl<|s_nil ?_
   exact ⟨ag,ah,(l.set i (l.getD (Int.toNat j) default)).set (Int.toNat j) (l.getD i default),i+1,j-1,_,upds_of _ _ ⟨rfl,rfl,rfl,trivial⟩,M.e_inl hM ac,H⟩
  skip
  refine s_val (x_ix (v:=vat aa 601 (Int.toNat (i:Int))) rfl rfl (Sl.ix (α:=Tb) T165.h.und T165.h.size (H.os 0) (by omega) (by omega))) ?_;refine kN ?_;refine ts_l2 rfl rfl ?_ ?_
  ·skip
   refine s_val (x_ix (v:=vat aa 601 (Int.toNat j)) rfl rfl (Sl.ix (α:=Tb) T165.h.und T165.h.size (H.os 0) (by omega) (by omega))) ?_;refine kN ?_;refine ts_l2 rfl rfl ?_ ?_
   ·skip
    refine s_val (x_ld (v:=.agg (List.flatten [[],encF (α:=Int) (Tb.pad (l.getD (Int.toNat j) default).v)]).toArray) rfl (ld_ag Ag169.h (Sz169.h.trans (congrArg some (seg_len (Tb.pad_len _)).symm)) (At.mono (Tb_atA (H.os 0) (i:=j) (by omega) (by omega)) (H.ol 0)))) ?_;refine kN ?_;refine ts_l rfl<|s_val (x_ld (v:=.agg (List.flatten [[],encF (α:=Int) (Tb.pad (l.getD i default).v)]).toArray) rfl (ld_ag Ag169.h (Sz169.h.trans (congrArg some (seg_len (Tb.pad_len _)).symm)) (At.mono (Tb_atA (H.os 0) (i:=(i:Int)) (by omega) (by omega)) (H.ol 0)))) ?_;refine kN ?_;refine ts_l rfl<|s_val (x_ix (v:=vat aa 601 (Int.toNat (i:Int))) rfl rfl (Sl.ix (α:=Tb) T165.h.und T165.h.size (H.os 0) (by omega) (by omega))) ?_;refine kN ?_;refine ts_l rfl ?_;refine t_ost (k:=0) (i:=(i:Int)) (l:=l) (l':=l.set i (l.getD (Int.toNat j) default)) (val:=.agg (List.flatten [[],encF (α:=Int) (Tb.pad (l.getD (Int.toNat j) default).v)]).toArray) (L':=[cOwn (α:=Tb) 169 aa (l.set i (l.getD (Int.toNat j) default))]) H rfl Sz169.h (by omega) (by omega) (l.getD (Int.toNat j) default) rfl rfl rfl rfl rfl ?_;intro aQ H
    refine s_nil ⟨(H.pk []),?_⟩;refine ts_l rfl<|s_val (x_ix (v:=vat aa 601 (Int.toNat j)) rfl rfl (Sl.ix (α:=Tb) T165.h.und T165.h.size (H.os 0) (by omega) (by omega))) ?_;refine kN ?_;refine ts_nil ?_;refine sr_l rfl ?_;refine t_ost (k:=0) (i:=j) (l:=l.set i (l.getD (Int.toNat j) default)) (l':=(l.set i (l.getD (Int.toNat j) default)).set (Int.toNat j) (l.getD i default)) (val:=.agg (List.flatten [[],encF (α:=Int) (Tb.pad (l.getD i default).v)]).toArray) (L':=[cOwn (α:=Tb) 169 aa ((l.set i (l.getD (Int.toNat j) default)).set (Int.toNat j) (l.getD i default))]) H rfl Sz169.h (by omega) (by omega) (l.getD i default) rfl rfl rfl rfl rfl ?_;intro aR H
    refine s_nil ⟨trivial,?_⟩;refine sr_nil<|W.region rfl<|zM (I (i:Int)) rfl ?_;obtain ⟨aS,hM⟩:=M.e_gd hM;refine zR (i:Int) 1 ((i:Int)+1) rfl rfl rfl (by omega)<|zM (I j) rfl ?_;obtain ⟨aT,hM⟩:=M.e_gd hM;refine zR j 1 (j-1) rfl rfl rfl (by omega)<|zA (I ((i:Int)+1)) rfl<|zA (I (j-1)) rfl<|s_nil ?_
    exact ⟨ag,ah,(l.set i (l.getD (Int.toNat j) default)).set (Int.toNat j) (l.getD i default),i+1,j-1,_,upds_of _ _ ⟨rfl,rfl,rfl,trivial⟩,M.e_inl hM ac,H⟩
   skip
   refine s_val (x_ld (v:=.agg (List.flatten [[],encF (α:=Int) (Tb.pad (l.getD i default).v)]).toArray) rfl (ld_ag Ag169.h (Sz169.h.trans (congrArg some (seg_len (Tb.pad_len _)).symm)) (At.mono (Tb_atA (H.os 0) (i:=(i:Int)) (by omega) (by omega)) (H.ol 0)))) ?_;refine kN ?_;refine ts_l rfl<|s_val (x_ld (v:=.agg (List.flatten [[],encF (α:=Int) (Tb.pad (l.getD (Int.toNat j) default).v)]).toArray) rfl (ld_ag Ag169.h (Sz169.h.trans (congrArg some (seg_len (Tb.pad_len _)).symm)) (At.mono (Tb_atA (H.os 0) (i:=j) (by omega) (by omega)) (H.ol 0)))) ?_;refine kN ?_;refine ts_l rfl<|s_val (x_ix (v:=vat aa 601 (Int.toNat (i:Int))) rfl rfl (Sl.ix (α:=Tb) T165.h.und T165.h.size (H.os 0) (by omega) (by omega))) ?_;refine kN ?_;refine ts_l rfl ?_;refine t_ost (k:=0) (i:=(i:Int)) (l:=l) (l':=l.set i (l.getD (Int.toNat j) default)) (val:=.agg (List.flatten [[],encF (α:=Int) (Tb.pad (l.getD (Int.toNat j) default).v)]).toArray) (L':=[cOwn (α:=Tb) 169 aa (l.set i (l.getD (Int.toNat j) default))]) H rfl Sz169.h (by omega) (by omega) (l.getD (Int.toNat j) default) rfl rfl rfl rfl rfl ?_;intro aU H
   refine s_nil ⟨(H.pk []),?_⟩;refine ts_l rfl<|s_val (x_ix (v:=vat aa 601 (Int.toNat j)) rfl rfl (Sl.ix (α:=Tb) T165.h.und T165.h.size (H.os 0) (by omega) (by omega))) ?_;refine kN ?_;refine ts_nil ?_;refine sr_l rfl ?_;refine t_ost (k:=0) (i:=j) (l:=l.set i (l.getD (Int.toNat j) default)) (l':=(l.set i (l.getD (Int.toNat j) default)).set (Int.toNat j) (l.getD i default)) (val:=.agg (List.flatten [[],encF (α:=Int) (Tb.pad (l.getD i default).v)]).toArray) (L':=[cOwn (α:=Tb) 169 aa ((l.set i (l.getD (Int.toNat j) default)).set (Int.toNat j) (l.getD i default))]) H rfl Sz169.h (by omega) (by omega) (l.getD i default) rfl rfl rfl rfl rfl ?_;intro aV H
   refine s_nil ⟨trivial,?_⟩;refine sr_nil<|W.region rfl<|zM (I (i:Int)) rfl ?_;obtain ⟨aW,hM⟩:=M.e_gd hM;refine zR (i:Int) 1 ((i:Int)+1) rfl rfl rfl (by omega)<|zM (I j) rfl ?_;obtain ⟨aX,hM⟩:=M.e_gd hM;refine zR j 1 (j-1) rfl rfl rfl (by omega)<|zA (I ((i:Int)+1)) rfl<|zA (I (j-1)) rfl<|s_nil ?_
   exact ⟨ag,ah,(l.set i (l.getD (Int.toNat j) default)).set (Int.toNat j) (l.getD i default),i+1,j-1,_,upds_of _ _ ⟨rfl,rfl,rfl,trivial⟩,M.e_inl hM ac,H⟩
  skip
  refine s_val (x_ld (v:=.agg (List.flatten [[],encF (α:=Int) (Tb.pad (l.getD i default).v)]).toArray) rfl (ld_ag Ag169.h (Sz169.h.trans (congrArg some (seg_len (Tb.pad_len _)).symm)) (At.mono (Tb_atA (H.os 0) (i:=(i:Int)) (by omega) (by omega)) (H.ol 0)))) ?_;refine kN ?_;refine ts_l rfl<|s_val (x_ix (v:=vat aa 601 (Int.toNat j)) rfl rfl (Sl.ix (α:=Tb) T165.h.und T165.h.size (H.os 0) (by omega) (by omega))) ?_;refine kN ?_;refine ts_l rfl<|s_val (x_ld (v:=.agg (List.flatten [[],encF (α:=Int) (Tb.pad (l.getD (Int.toNat j) default).v)]).toArray) rfl (ld_ag Ag169.h (Sz169.h.trans (congrArg some (seg_len (Tb.pad_len _)).symm)) (At.mono (Tb_atA (H.os 0) (i:=j) (by omega) (by omega)) (H.ol 0)))) ?_;refine kN ?_;refine ts_l rfl<|s_val (x_ix (v:=vat aa 601 (Int.toNat (i:Int))) rfl rfl (Sl.ix (α:=Tb) T165.h.und T165.h.size (H.os 0) (by omega) (by omega))) ?_;refine kN ?_;refine ts_l rfl ?_;refine t_ost (k:=0) (i:=(i:Int)) (l:=l) (l':=l.set i (l.getD (Int.toNat j) default)) (val:=.agg (List.flatten [[],encF (α:=Int) (Tb.pad (l.getD (Int.toNat j) default).v)]).toArray) (L':=[cOwn (α:=Tb) 169 aa (l.set i (l.getD (Int.toNat j) default))]) H rfl Sz169.h (by omega) (by omega) (l.getD (Int.toNat j) default) rfl rfl rfl rfl rfl ?_;intro aY H
  refine s_nil ⟨(H.pk []),?_⟩;refine ts_l rfl<|s_val (x_ix (v:=vat aa 601 (Int.toNat j)) rfl rfl (Sl.ix (α:=Tb) T165.h.und T165.h.size (H.os 0) (by omega) (by omega))) ?_;refine kN ?_;refine ts_nil ?_;refine sr_l rfl ?_;refine t_ost (k:=0) (i:=j) (l:=l.set i (l.getD (Int.toNat j) default)) (l':=(l.set i (l.getD (Int.toNat j) default)).set (Int.toNat j) (l.getD i default)) (val:=.agg (List.flatten [[],encF (α:=Int) (Tb.pad (l.getD i default).v)]).toArray) (L':=[cOwn (α:=Tb) 169 aa ((l.set i (l.getD (Int.toNat j) default)).set (Int.toNat j) (l.getD i default))]) H rfl Sz169.h (by omega) (by omega) (l.getD i default) rfl rfl rfl rfl rfl ?_;intro aZ H
  refine s_nil ⟨trivial,?_⟩;refine sr_nil<|W.region rfl<|zM (I (i:Int)) rfl ?_;obtain ⟨a7,hM⟩:=M.e_gd hM;refine zR (i:Int) 1 ((i:Int)+1) rfl rfl rfl (by omega)<|zM (I j) rfl ?_;obtain ⟨a8,hM⟩:=M.e_gd hM;refine zR j 1 (j-1) rfl rfl rfl (by omega)<|zA (I ((i:Int)+1)) rfl<|zA (I (j-1)) rfl<|s_nil ?_
  exact ⟨ag,ah,(l.set i (l.getD (Int.toNat j) default)).set (Int.toNat j) (l.getD i default),i+1,j-1,_,upds_of _ _ ⟨rfl,rfl,rfl,trivial⟩,M.e_inl hM ac,H⟩
 replace hM:=M.e_f hM ae;replace ae:=dI ae;refine W.exit ?_;have ap:=M.e_inr hM ac;subst ap;replace hM:=ao;(try dsimp only at hM);have aq:=M.e_pure hM;exact ⟨_,resE_tmp0 rfl,⟨l,aq,rfl,H⟩⟩

def m_shift_behind (l:List Span):M (List Tb) :=
  M.bind (zbz l) fun r2 =>
  M.bind (zdx r2) fun l_s =>
  M.bind (m_shift_reckoned l_s) fun r3 =>
  M.bind (zeu r3) fun l_s2 =>
  M.pure l_s2
theorem shift_behind_ok {R aa ac}(l)(ae:Reads R aa)(ag:Sl aa ac l){r}(hM:(m_shift_behind l).Ends r)(w)(H:St w w [] R):Ret Tryz.prog 55 #[ac] w fun v w'=>∃ y0 u0,y0=r/\v=u0/\St w w' [cOwn (α:=Tb) 169 u0 y0] R:=by
 refine ret_of_W Tryz.func55 rfl rfl rfl ?_;refine kC 7 @zdz ?_;intro ah r2 ai hM H;refine kC 5 @zhD ?_;intro aj l_s hM H;refine kC 4 @shift_reckoned_ok ?_;intro al r3 am hM H;refine kC 5 @zhP ?_;intro ao l_s2 hM H;exact kR 6 [0]

def zch (x:List Int):(Int × Nat)->M ((Int × Nat) ⊕ Int):=fun (m2,i) =>
  bif decide ((i:Int)<(x.length:Int)) then (
  M.grd (decide ((i:Int)<(x.length:Int))) <|
  M.pure (.inl (min m2 (x.getD i 0),i+1)))
  else (
  M.pure (.inr m2))
def zcB (x:List Int):M Int :=
  bif decide ((x.length:Int)<1) then (
  M.fail)
  else (
  M.grd (decide (0<(x.length:Int))) <|
  M.bind (M.iter (zch x) (x.getD 0 0,1)) fun m3 =>
  M.pure m3)
theorem zgt {R ac aa}(x)(ap:Reads R ac)(ae:Sl ac aa x){r}(hM:(zcB x).Ends r)(w)(H:St w w [] R):Ret Tryz.prog 56 #[aa] w fun v w'=>∃ y0,y0=r/\v=I y0/\St w w' [] R:=by
 refine ret_of_W Tryz.func56 rfl rfl rfl ?_;have aq:=(ae).len_le;refine kI 11 ?_ ?_
 ·intro ah hM;refine W.region rfl ?_;exact (M.e_fail hM).elim
 intro ah hM;obtain ⟨au,hM⟩:=M.e_gq hM;refine kg 14 ?_;obtain ⟨ai,ag,aj⟩:=M.e_bind hM;obtain ⟨av,ag⟩:=M.e_iter ag;refine W.loop (fun m σ W=>∃ (m2:Int) (i:Nat) (ρ:Env),σ=upds ρ [(0,aa),(3,I m2),(4,I (i:Int))]/\M.iterN (zch x) m (m2,i)=some ai/\St w W [] R) ?_ ?_
 ·exact kY
 rintro aw σ ax ⟨m2,i,ρ,rfl,al,H⟩;obtain ⟨ay,aA,aB,hM,am⟩:=M.e_iterN al;have aC:=(ae).len_le;refine kI 8 ?_ ?_
 ·intro ao hM;obtain ⟨aD,hM⟩:=M.e_gq hM;exact kX 17
 intro ao hM;refine W.exit ?_;obtain rfl:=M.e_inr hM am;replace hM:=aj;refine kg 5 ?_;exact rt

end Go.Proofs.YtaolcidinlnklaaGreat
end
section
set_option maxRecDepth 100000
set_option maxHeartbeats 16000000
namespace Go.Proofs.YtaolcidinlnklaaGreat
open Go Go.Nm
attribute [local irreducible] gd execOp SL SLD SLT WR
def m_shift_Least_j7 (r2:List Tb) (s2:Nat) (s3:Int) (l3:List Int) (x x2 step:Int):M (Unit ⊕ ((List Int) × (List Int) × Int)) :=
  M.grd (decide ((0:Int)<=x)&&decide (x<(601:Int))) <|
  M.grd ((!(((Tb.pad (r2.getD s2 default).v).getD (Int.toNat x) 0) != 1073741824)||(decide ((-9223372036854775808:Int)<=(step+((Tb.pad (r2.getD s2 default).v).getD (Int.toNat x) 0)))&&decide ((step+((Tb.pad (r2.getD s2 default).v).getD (Int.toNat x) 0))<=(9223372036854775807:Int))))) <|
  bif ((((Tb.pad (r2.getD s2 default).v).getD (Int.toNat x) 0) != 1073741824)&&((step+((Tb.pad (r2.getD s2 default).v).getD (Int.toNat x) 0))==s3)) then (
  M.grd (decide ((l3.length+([(x2:Int)]).length)*8<=140737488355328)) <|
  M.pure (.inr (l3++([(x2:Int)]),l3++([(x2:Int)]),(Tb.pad (r2.getD s2 default).v).getD (Int.toNat x) 0)))
  else (
  M.pure (.inl ()))
def m_shift_Least_b8 (r2:List Tb) (s2:Nat) (s3:Int) (l3:List Int):Unit->(Int × Int)->M (Unit ⊕ ((List Int) × (List Int) × Int)):=fun (_:Unit) (x,x2) =>
  bif decide (0<(s2:Int)) then (
  M.gi ((s2:Int)-1) <|
  M.grd (decide ((0:Int)<=((s2:Int)-1))&&decide (((s2:Int)-1)<(l3.length:Int))) <|
  M.bind (m_shift_apart x2 (l3.getD (Int.toNat ((s2:Int)-1)) 0)) fun r4 =>
  m_shift_Least_j7 r2 s2 s3 l3 x x2 r4)
  else (
  m_shift_Least_j7 r2 s2 s3 l3 x x2 0)
def m_shift_Least_b9 (r2:List Tb):(Nat × Int × (List Int))->M ((Nat × Int × (List Int)) ⊕ ((List Int) × (List Int) × Int)):=fun (s2,s3,l3) =>
  bif decide ((s2:Int)<(r2.length:Int)) then (
  M.grd (decide ((s2:Int)<(r2.length:Int))) <|
  M.bind (m_shift_shifts) fun (_:Unit) =>
  M.bind (m_shift_shifts_1 (M.yl (m_shift_Least_b8 r2 s2 s3 l3)) (.inl ())) fun x_=>match x_ with
  | .inl _=>(
  M.pure (.inl (s2+1,s3,l3)))
  | .inr (l2,l,s)=>(
  M.pure (.inl (s2+1,s,l))))
  else (
  M.pure (.inr (l3,l3,s3)))
def m_shift_Least (aa:List SMk) (ac:List SGg):M ((List Int) × Int × Int) :=
  M.bind (m_shift_opened aa ac) fun x_=>match x_ with
  | (.inl r1)=>(
  bif r1 != 0 then (
  M.pure (([]),0,r1))
  else (
  M.fail))
  | (.inr (ae,ag))=>(
  bif ag != 0 then (
  M.fail)
  else (
  M.bind (m_shift_behind ae) fun r2 =>
  M.grd (decide (0<(r2.length:Int))) <|
  M.bind (zcB (Tb.pad (r2.getD 0 default).v)) fun r3 =>
  M.bind (M.iter (m_shift_Least_b9 r2) (0,r3,[])) fun (l4,l5,s4) =>
  M.pure (l5,r3,0)))
theorem shift_Least_ok {R aL ay aM aA}(aB aC)(aD:Reads R aL)(aN:Sl aL ay aB)(aE:Reads R aM)(aO:Sl aM aA aC){r}(hM:(m_shift_Least aB aC).Ends r)(w)(H:St w w [] R):Ret Tryz.prog 20 #[.agg #[ay,aA]] w fun v w'=>∃ y0 y1 y2 u0,(y0,y1,y2)=r/\v = .tuple #[u0,I y1,I y2]/\St w w' [cOwn (α:=Int) 3 u0 y0] R:=by
 refine ret_of_WD Tryz.func20 rfl rfl rfl ?_;replace H:St w w [cMk ([])] R:=H.mk0;have bu:=aN.len_le;have bv:=aO.len_le;unfold m_shift_Least at hM;refine WD.seq<|WD.of ?_;refine kB 1 ?_;intro bw bx H;refine kg 4 ?_;refine WD.seq<|WD.of ?_;refine kg 2 ?_;obtain ⟨bz,aV,hM⟩:=M.e_bind hM;refine s_call cq [.agg #[ay,aA]] rfl (shift_opened_ok aB aC (aD.app _) aN (aE.app _) aO aV _ (H.gt 2)) ?_
 rintro vq bA (⟨r1,aW,hvq,ao⟩ | ⟨bB,aX,bC,bD,aY,hvq,ao⟩)
 ·subst aW;subst vq;replace H:=H.bk ao;refine kg 6 ?_;refine WD.seq<|WD.seq<|WD.of ?_;refine kg 4 ?_
  refine WD.cond (r1 != 0) rfl (fun aq=>?_) (fun aq=>?_)
  ·replace hM:=M.e_t hM aq;replace aq:=dI aq;refine WD.seq<|WD.of ?_;refine kg 6 ?_;refine WD.of ?_;refine W.ret ?_;refine bodyD_r (H.pk [1,0]) ?_;intro bE H;replace H:=H.nf
   have aF:=M.e_pure hM;replace H:=H.nilOwn (α:=Int) 3;exact ⟨_,resE_tmp3 rfl,⟨([]),0,r1,(.slice none 0 0),aF,rfl,(H.pk [0])⟩⟩
  replace hM:=M.e_f hM aq;exact (M.e_fail hM).elim
 subst aY;subst vq;replace H:=H.bk ao;refine kg 6 ?_;refine WD.seq<|WD.seq<|WD.of ?_;refine kg 4 ?_
 refine WD.cond (aX != 0) rfl (fun au=>?_) (fun au=>?_)
 ·replace hM:=M.e_t hM au;exact (M.e_fail hM).elim
 replace hM:=M.e_f hM au;replace au:=dI au;refine WD.of<|W.skip<|WD.seq<|WD.of ?_;refine kC 5 @shift_behind_ok ?_;intro bF r2 ah hM H;refine kg 2 ?_;replace H:=H.pk [0,4];refine WD.seq<|WD.of ?_;obtain ⟨bG,hM⟩:=M.e_gq hM;refine kg 3 ?_
 obtain ⟨aP,aQ,aZ,bH⟩:=Tb_view (i:=0) (H.os 0) (by omega) (by omega);refine s_val (x_sl (v:=.pointer (some ⟨aP,aQ,none⟩)) (u:=(.slice (some ⟨aP,aQ,none⟩) 601 601)) (lo':=none) (hi':=none) (mx':=none) (Eq.trans rfl aZ) rfl rfl rfl (run_sliceN Tryz.underlying169 Sz3.h)) ?_;refine kC 0 @zgt ?_;intro bI r3 hM H;refine kg 2 ?_;refine WD.seq<|WD.of ?_;refine kA 2 ?_;intro ac bJ H;refine ksw ?_;intro bK H;refine s_nil<|WD.seq<|WD.of ?_;refine kA 1 ?_;intro ae bL H;refine s_nil<|WD.seq<|WD.seq<|WD.of ?_
 have bN:=((H.os 2)).len_le;refine kg 5 ?_;refine WD.block ?_;replace H:=H.nilOwn (α:=Int) 3;obtain ⟨a7,aR,a8⟩:=M.e_bind hM;obtain ⟨bO,aR⟩:=M.e_iter aR;refine WD.loop (fun m ap σ W=>∃ (s2:Nat) (s3:Int) (l3:List Int) (aa:Value) (ρ:Env),σ=upds ρ [(8,I r3),(9,Pq ac),(10,Pq ae),(34,ah),(35,I (r2.length:Int)),(36,I (s2:Int))]/\M.iterN (m_shift_Least_b9 r2) m (s2,s3,l3)=some a7/\St w W [cOwn (α:=Int) 3 aa l3,cBlk ae [aa] 26,cBlk ac [I s3] 3,cOwn (α:=Tb) 169 ah r2,cMk ap] R) ?_ ?_
 ·exact kY
 rintro bP ap σ bQ ⟨s2,s3,l3,aa,ρ,rfl,ba,H⟩;obtain ⟨bR,bS,bT,hM,bc⟩:=M.e_iterN ba;refine WD.seq<|WD.of ?_;refine kg 3 ?_;refine WD.seq ?_
 refine WD.cond (decide ((s2:Int)<(r2.length:Int))) rfl (fun al=>?_) (fun al=>?_)
 ·replace hM:=M.e_t hM al;replace al:=dI al;refine WD.of<|W.skip<|WD.seq<|WD.block<|WD.seq<|WD.of ?_;obtain ⟨bU,hM⟩:=M.e_gq hM;refine kg 3 ?_;refine s_val (x_ld (v:=.agg (List.flatten [[],encF (α:=Int) (Tb.pad (r2.getD s2 default).v)]).toArray) rfl (ld_ag Ag169.h (Sz169.h.trans (congrArg some (seg_len (Tb.pad_len _)).symm)) (At.mono (Tb_atA (H.os 3) (i:=(s2:Int)) (by omega) (by omega)) (H.ol 3)))) ?_;refine kal ?_;intro am bV H;refine t_alloc (cs:=(List.flatten [[],encF (α:=Int) (List.replicate 601 0)])) H Al169.h (by kernel_rfl) ?_;intro ag bW H;refine ksw ?_;intro bX H;refine t_swI 0 H rfl rfl Sz169.h List.length_replicate (Tb.pad_len (r2.getD s2 default).v) ?_;intro bY H;refine s_nil<|WD.seq<|WD.of ?_;refine kC 1 @shift_shifts_ok ?_;intro bZ hM H;refine s_nil<|WD.block ?_;obtain ⟨b7,bg,hM⟩:=M.e_bind hM;refine WD.range (L:=[cOwn (α:=Int) 3 aa l3,cBlk ae [aa] 26,cBlk ac [I s3] 3,cBlk ag (List.flatten [[],encF (α:=Int) (Tb.pad (r2.getD s2 default).v)]) 169,cBlk am [I (s2:Int)] 3,cOwn (α:=Tb) 169 ah r2]) [] (H.pk [6,2,3,4,0,1,5]) rfl cq ?_;intro aw ax aG bi aH H
  have hYC:YieldC Tryz.prog ([cMk (ax :: ap),cBlk ag (List.flatten [[],encF (α:=Int) (Tb.pad (r2.getD s2 default).v)]) 169,cBlk am [I (s2:Int)] 3,cOwn (α:=Tb) 169 ah r2]++R) arII (yJ aw aG (fun _ ai=>ai=[cOwn (α:=Int) 3 aa l3,cBlk ae [aa] 26,cBlk ac [I s3] 3]) (fun (l2,l,s) ai=>∃ (aj:Value),ai=[cOwn (α:=Int) 3 aj l,cBlk ae [aj] 26,cBlk ac [I s] 3]) (fun _=>.exit 2)) (.func (.yield aw) #[] #[]) (M.yl (m_shift_Least_b8 r2 s2 s3 l3)):=by
   refine YieldC.mk aH (fun _ ai=>ai=[cOwn (α:=Int) 3 aa l3,cBlk ae [aa] 26,cBlk ac [I s3] 3]) (fun (l2,l,s) ai=>∃ (aj:Value),ai=[cOwn (α:=Int) 3 aj l,cBlk ae [aj] 26,cBlk ac [I s] 3]) (fun _=>.exit 2) (m_shift_Least_b8 r2 s2 s3 l3) (by rintro _ _ h_; obtain ⟨rfl⟩:=h_; rfl) (by rintro ⟨l2,l,s⟩ _ h_; (obtain ⟨_,rfl⟩:=h_; rfl)) rfl (arII_len rfl) ?_;intro C_ b8 x_ W_ bj;obtain ⟨x,x2⟩:=x_;obtain rfl:=bj;refine kg 7 ?_;refine ⟨rfl,rfl,?_⟩;intro w R aS ai s_ r bm hM H
   skip
   obtain ⟨rfl⟩:=bm;replace aD:=aD.sub aS;replace aE:=aE.sub aS;replace hM:(m_shift_Least_b8 r2 s2 s3 l3 () (x,x2)).Ends r:=hM;simp only [m_shift_Least_b8] at hM;replace H:=H.pk [0,1,2,4,5,6,3];refine kg 5 ?_;refine W.seqJ (fun σ W=>∃ (step:Int) (ρ:Env),σ=upds ρ [(8,I r3),(9,Pq ac),(10,Pq ae),(12,Pq ag),(13,I x),(14,I x2),(15,I step),(34,ah),(35,I (r2.length:Int)),(36,I (s2:Int))]/\(m_shift_Least_j7 r2 s2 s3 l3 x x2 step).Ends r/\St w W [cOwn (α:=Int) 3 aa l3,cBlk ae [aa] 26,cBlk ac [I s3] 3,cBlk ag (List.flatten [[],encF (α:=Int) (Tb.pad (r2.getD s2 default).v)]) 169,cBlk am [I (s2:Int)] 3,cOwn (α:=Tb) 169 ah r2,cMk (ax :: ap)] R) ?_ ?_
   ·refine kI 5 ?_ ?_
    ·intro bn hM;obtain ⟨b9,hM⟩:=M.e_gq hM;obtain ⟨cb,hM⟩:=M.e_gq hM;refine kC 7 @shift_apart_ok ?_;intro cc r4 hM H;refine kg 2 ?_;exact ⟨r4,_,jQ,hM,H⟩
    intro bn hM;refine W.skip ?_;exact ⟨0,_,jQ,hM,H⟩
   rintro _ ce ⟨step,ρ,rfl,hM,H⟩;unfold m_shift_Least_j7 at hM;refine kD 1 [0,1,2,3,4,5,6] [] ?_;intro cf H;obtain ⟨cg,hM⟩:=M.e_gq hM;refine kg 1 ?_;refine d_q rfl (fun w' H=>x_ix (v:=.pointer (some ⟨ag,0+Int.toNat x*1,none⟩)) rfl rfl (run_indexS Tryz.underlying169 Sz3.h (by omega) (by omega)))<|d_q rfl (fun w' H=>x_ld (v:=I ((Tb.pad (r2.getD s2 default).v).getD (Int.toNat x) 0)) rfl (ldS (α:=Int) (k:=1) (off:=0) (i:=(Int.toNat x)) (f:=0) (sz:=1) 0 Sc3.h (H.bl 3) rfl (sgo1 rfl) rfl (by decide) (by have aT:=(Tb.pad_len (r2.getD s2 default).v); omega) (by omega) rfl)) ?_;refine kg 4 ?_;refine d_qg (((Tb.pad (r2.getD s2 default).v).getD (Int.toNat x) 0) != 1073741824) rfl (gy_t rfl) (fun hg=>(fun w' H=>x_ix (v:=.pointer (some ⟨ag,0+Int.toNat x*1,none⟩)) rfl (gd_of hg (I x)) (run_indexS Tryz.underlying169 Sz3.h (by first | omega | (have av:=hg; simp at av; omega)) (by first | omega | (have av:=hg; simp at av; omega)))))<|d_qg (((Tb.pad (r2.getD s2 default).v).getD (Int.toNat x) 0) != 1073741824) rfl (gy_t rfl) (fun hg=>(fun w' H=>x_ld (v:=I ((Tb.pad (r2.getD s2 default).v).getD (Int.toNat x) 0)) (gd_of hg (.pointer (some ⟨ag,0+Int.toNat x*1,none⟩))) (ldS (α:=Int) (k:=1) (off:=0) (i:=(Int.toNat x)) (f:=0) (sz:=1) 0 Sc3.h (H.bl 3) rfl (sgo1 rfl) rfl (by decide) (by have aT:=(Tb.pad_len (r2.getD s2 default).v); first | omega | (have av:=hg; simp at av; omega)) (by omega) rfl))) ?_;obtain ⟨aI,hM⟩:=M.e_grd hM
   replace aI:=M.imp_of aI;simp only [Bool.and_eq_true,decide_eq_true_eq] at aI;refine kI 5 ?_ ?_
   ·intro bp hM;refine kDT 1 [3,4,5,6] (.q 1 (.q 4 (.q 5 (.q 6 (.l2 0 (.l 2 (.l 3 (.l 7 (.l 8 .nil)))) 2 (.l 0 (.l 3 (.l 7 (.l 8 .nil))))))))) ?_;intro ch H;refine kg 2 ?_;refine t_q rfl (fun w' H=>x_ix (v:=.pointer (some ⟨ag,0+Int.toNat x*1,none⟩)) rfl rfl (run_indexS Tryz.underlying169 Sz3.h (by omega) (by omega)))<|t_q rfl (fun w' H=>x_ld (v:=I ((Tb.pad (r2.getD s2 default).v).getD (Int.toNat x) 0)) rfl (ldS (α:=Int) (k:=1) (off:=0) (i:=(Int.toNat x)) (f:=0) (sz:=1) 0 Sc3.h (H.bl 0) rfl (sgo1 rfl) rfl (by decide) (by have aT:=(Tb.pad_len (r2.getD s2 default).v); omega) (by omega) rfl)) ?_;obtain ⟨cj,hM⟩:=M.e_gq hM;refine t_l2 rfl rfl ?_ ?_
    ·refine kG 1 ?_;refine kN ?_;refine kL 1 (α:=Int) [x2] ?_;intro ck cn H;refine kN ?_;refine kP 1 ?_;intro aJ cp H;refine kN ?_;refine kS 1 ?_;intro cr H;refine kN ?_;refine kS 1 ?_;intro ct H;refine kN ?_;refine t_nil ?_;refine W.exit ?_;exact ⟨(l3++([(x2:Int)]),l3++([(x2:Int)]),(Tb.pad (r2.getD s2 default).v).getD (Int.toNat x) 0),[cOwn (α:=Int) 3 aJ (l3++([(x2:Int)])),cBlk ae [aJ] 26,cBlk ac [I ((Tb.pad (r2.getD s2 default).v).getD (Int.toNat x) 0)] 3],(M.e_pure hM).symm,⟨aJ,rfl⟩,H.pick [1,2,3,7,4,5,6] (by decide) rfl,rfl⟩
    refine kL 0 (α:=Int) [x2] ?_;intro cv cw H;refine kN ?_;refine kG 2 ?_;refine kN ?_;refine kP 1 ?_;intro aK cA H;refine kN ?_;refine kS 1 ?_;intro cB H;refine kN ?_;refine kS 1 ?_;intro cC H;refine kN ?_;refine t_nil ?_;refine W.exit ?_;exact ⟨(l3++([(x2:Int)]),l3++([(x2:Int)]),(Tb.pad (r2.getD s2 default).v).getD (Int.toNat x) 0),[cOwn (α:=Int) 3 aK (l3++([(x2:Int)])),cBlk ae [aK] 26,cBlk ac [I ((Tb.pad (r2.getD s2 default).v).getD (Int.toNat x) 0)] 3],(M.e_pure hM).symm,⟨aK,rfl⟩,H.pick [1,2,3,7,4,5,6] (by decide) rfl,rfl⟩
   intro bp hM;refine W.skip ?_;exact ⟨(),[cOwn (α:=Int) 3 aa l3,cBlk ae [aa] 26,cBlk ac [I s3] 3],(M.e_pure hM).symm,rfl,H.pick [0,1,2,6,3,4,5] (by decide) rfl⟩
  replace H:St w bi (cAll (cObj aw (.loop aG) :: [cOwn (α:=Int) 3 aa l3,cBlk ae [aa] 26,cBlk ac [I s3] 3]) :: [cMk (ax :: ap),cBlk ag (List.flatten [[],encF (α:=Int) (Tb.pad (r2.getD s2 default).v)]) 169,cBlk am [I (s2:Int)] 3,cOwn (α:=Tb) 169 ah r2]) R:=St.bundleB (A:=cObj aw (.loop aG) :: [cOwn (α:=Int) 3 aa l3,cBlk ae [aa] 26,cBlk ac [I s3] 3]) (T:=[cMk (ax :: ap),cBlk ag (List.flatten [[],encF (α:=Int) (Tb.pad (r2.getD s2 default).v)]) 169,cBlk am [I (s2:Int)] 3,cOwn (α:=Tb) 169 ah r2]) rfl (H.pk [0,2,3,4,1,5,6,7]);refine (shift_shifts_1_ok (M.yl (m_shift_Least_b8 r2 s2 s3 l3)) (.inl ()) hYC ⟨_,rfl,rfl⟩ bg _ (H.gt 4)).mono ?_;rintro vq cD ⟨br,cE,rfl,hvq,ao,aU⟩;replace H:=H.back ao rfl;clear ao hYC;rcases br with _ | ⟨l2,l,s⟩
  ·obtain ⟨_,rfl,rfl⟩:=aU;refine ⟨_,[cOwn (α:=Int) 3 aa l3,cBlk ae [aa] 26,cBlk ac [I s3] 3,cBlk ag (List.flatten [[],encF (α:=Int) (Tb.pad (r2.getD s2 default).v)]) 169,cBlk am [I (s2:Int)] 3,cOwn (α:=Tb) 169 ah r2],H.unbundle.pick [0,4,1,2,3,5,6,7] (by decide) rfl,aH.nb,?_⟩;intro bt H;rw [aH.pd];replace H:=H.nf
   try simp only []
   replace H:=H.pk [0,1,2,3,6];refine WD.of ?_;exact kXp 4 [1,2,3,4,0]
  obtain ⟨_,rfl,aj,rfl⟩:=aU;refine ⟨_,[cOwn (α:=Int) 3 aj l,cBlk ae [aj] 26,cBlk ac [I s] 3,cBlk ag (List.flatten [[],encF (α:=Int) (Tb.pad (r2.getD s2 default).v)]) 169,cBlk am [I (s2:Int)] 3,cOwn (α:=Tb) 169 ah r2],H.unbundle.pick [0,4,1,2,3,5,6,7] (by decide) rfl,nofun,?_⟩;intro bt H;show WD _ _ _ (.exit 2) _ _ _;refine WD.of ?_;refine W.exit ?_;replace H:=H.nf;replace H:=H.pk [0,1,2,3,6];refine WD.of ?_;exact kXp 4 [1,2,3,4,0]
 replace hM:=M.e_f hM al;replace al:=dI al;refine WD.of ?_;refine W.exit ?_;obtain rfl:=M.e_inr hM bc;replace hM:=a8;replace H:=H.pk [0,1,4];refine WD.seq<|WD.of ?_;refine kg 7 ?_;refine WD.of ?_;refine W.ret ?_;refine bodyD_r (H.pk [2,0,1]) ?_;intro cF H;replace H:=H.nf
 have aF:=M.e_pure hM;exact ⟨_,resE_tmp3 rfl,⟨l3,r3,0,aa,aF,rfl,(H.pk [0])⟩⟩

end Go.Proofs.YtaolcidinlnklaaGreat
end
namespace Go.Proofs
open Go.Shelf
def Tryz.layMul_ren:Go.Shelf.Ren:=⟨fun | 212=>253 | 263=>257 | 264=>258 | n=>n,fun | 46=>204 | 51=>276 | 146=>368 | 53=>278 | 148=>370 | n=>n,fun | n=>n⟩
theorem Tryz.layMul:Go.Proofs.Lays.n212 Tryz.prog Tryz.layMul_ren:={
  mixed:=by kernel_rfl
  f212:=Tryz.func253.trans (congrArg some (by kernel_rfl))
  f263:=Tryz.func257.trans (congrArg some (by kernel_rfl))
  f264:=Tryz.func258.trans (congrArg some (by kernel_rfl))
  t46:=Tryz.underlying204
  a46:=Tryz.isAgg204
  z46:=Tryz.sizeOf204
  v46:=Tryz.zeroValue204
  t51:=Tryz.underlying276
  a51:=Tryz.isAgg276
  z51:=Tryz.sizeOf276
  v51:=Tryz.zeroValue276
  t53:=Tryz.underlying278
  a53:=Tryz.isAgg278
  z53:=Tryz.sizeOf278
  v53:=Tryz.zeroValue278
  t146:=Tryz.underlying368
  a146:=Tryz.isAgg368
  z146:=Tryz.sizeOf368
  v146:=Tryz.zeroValue368
  t148:=Tryz.underlying370
  a148:=Tryz.isAgg370
  z148:=Tryz.sizeOf370
  v148:=Tryz.zeroValue370 }
end Go.Proofs
namespace Go.Proofs.YtaolcidinlnklaaGreat
open Go Go.Nm Go.Proofs
theorem mul_any {n:Int} (h0:0<=n) (h1:n<=9223372036854775807) (w:World):Ret Tryz.prog 253 #[.int .u64 1,.int .u64 n] w fun v w'=>v = .tuple #[.int .u64 0,.int .u64 n]/\Ext w w':=by
  have h:=Any.bits_Mul Tryz.layMul 1 n.toNat (by omega) (by omega) w;have e:((n.toNat:Nat):Int)=n:=Int.toNat_of_nonneg h0;rw [Nat.one_mul,Nat.div_eq_of_lt (by omega),Nat.mod_eq_of_lt (by omega),e] at h;refine Calls.mono h ?_;rintro _ w' ⟨rfl,rfl⟩;exact ⟨_,rfl,rfl,Ext.refl w'⟩
end Go.Proofs.YtaolcidinlnklaaGreat
