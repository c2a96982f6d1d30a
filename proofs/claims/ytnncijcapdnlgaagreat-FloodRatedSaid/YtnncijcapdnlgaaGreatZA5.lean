/- Part 5 of the texts on which the proof rests. Conditions: none. -/
import Derived.KernelRfl
import Derived.Test.YtnncijcapdnlgaaGreatZA4
set_option linter.unusedVariables false
set_option linter.unusedSimpArgs false
set_option linter.unusedSectionVars false
section
set_option maxRecDepth 100000
set_option maxHeartbeats 16000000
namespace Go.Proofs.YtnncijcapdnlgaaGreat
open Go Go.Nm
attribute [local irreducible] gd execOp SL SLD SLT WR
def za8 (s_bytes:List UInt8):(Int × Int × Int × Int × Int × (List FRow))->M ((Int × Int × Int × Int × Int × (List FRow)) ⊕ (Int × Int × (List FRow) × (List FRow))):=fun (s2,s3,s4,carry,k,l) =>
  bif decide (0<k) then (
  M.grd (decide ((l.length+([(⟨(s4:Int),(carry:Int)⟩:FRow)]).length)*16<=140737488355328)) <|
  M.bind (zag s_bytes s2 s3 1 200) fun (r8,aa,ac) =>
  M.grd (decide ((-9223372036854775808:Int)<=(s4+r8))&&decide ((s4+r8)<=(9223372036854775807:Int))) <|
  M.bind (zad s_bytes aa ac 2000) fun (r9,ae,ag) =>
  M.grd (decide ((-9223372036854775808:Int)<=(carry+r9))&&decide ((carry+r9)<=(9223372036854775807:Int))) <|
  M.grd (decide ((-9223372036854775808:Int)<=(k-1))&&decide ((k-1)<=(9223372036854775807:Int))) <|
  M.pure (.inl (ae,ag,s4+r8,carry+r9,k-1,l++([(⟨(s4:Int),(carry:Int)⟩:FRow)]))))
  else (
  M.pure (.inr (s2,s3,l,l)))
def zaO (s_bytes:List UInt8) (marks:Int) (lies:Bool) (place stage:Int):(Int × Int × Int × (List Mrk))->M ((Int × Int × Int × (List Mrk)) ⊕ (Int × Int × (List Mrk) × (List Mrk))):=fun (aj,ak,k2,l7) =>
  bif ((decide (0<k2))&&(decide ((l7.length:Int)<marks))) then (
  M.bind (zad s_bytes aj ak 2) fun (aa,aq,au) =>
  M.bind (zad s_bytes aq au 20) fun (ac,av,ax) =>
  M.grd (decide ((-9223372036854775808:Int)<=(aa*ac))&&decide ((aa*ac)<=(9223372036854775807:Int))) <|
  M.grd (decide ((-9223372036854775808:Int)<=(place+(aa*ac)))&&decide ((place+(aa*ac))<=(9223372036854775807:Int))) <|
  M.bind (zad s_bytes av ax 9) fun (ae,ay,az) =>
  M.grd (decide ((-9223372036854775808:Int)<=(stage-ae))&&decide ((stage-ae)<=(9223372036854775807:Int))) <|
  M.bind (zad s_bytes ay az 9) fun (ag,al,am) =>
  M.grd (decide ((-9223372036854775808:Int)<=(stage+ag))&&decide ((stage+ag)<=(9223372036854775807:Int))) <|
  bif lies then (
  M.bind (zad s_bytes al am 3) fun (aA,ao,ap) =>
  bif (lies&&(aA==0)) then (
  M.bind (zag s_bytes ao ap 50 420) fun (ah,aB,aC) =>
  M.bind (zad s_bytes aB aC 9) fun (ai,aD,aE) =>
  M.grd (decide ((-9223372036854775808:Int)<=(ah+ai))&&decide ((ah+ai)<=(9223372036854775807:Int))) <|
  M.grd (decide ((l7.length+([(⟨(place+(aa*ac):Int),(ah:Int),(ah+ai:Int)⟩:Mrk)]).length)*24<=140737488355328)) <|
  M.grd (decide ((-9223372036854775808:Int)<=(k2-1))&&decide ((k2-1)<=(9223372036854775807:Int))) <|
  M.pure (.inl (aD,aE,k2-1,l7++([(⟨(place+(aa*ac):Int),(ah:Int),(ah+ai:Int)⟩:Mrk)]))))
  else (
  M.grd (decide ((l7.length+([(⟨(place+(aa*ac):Int),(max 0 (stage-ae):Int),(stage+ag:Int)⟩:Mrk)]).length)*24<=140737488355328)) <|
  M.grd (decide ((-9223372036854775808:Int)<=(k2-1))&&decide ((k2-1)<=(9223372036854775807:Int))) <|
  M.pure (.inl (ao,ap,k2-1,l7++([(⟨(place+(aa*ac):Int),(max 0 (stage-ae):Int),(stage+ag:Int)⟩:Mrk)])))))
  else (
  M.grd (decide ((l7.length+([(⟨(place+(aa*ac):Int),(max 0 (stage-ae):Int),(stage+ag:Int)⟩:Mrk)]).length)*24<=140737488355328)) <|
  M.grd (decide ((-9223372036854775808:Int)<=(k2-1))&&decide ((k2-1)<=(9223372036854775807:Int))) <|
  M.pure (.inl (al,am,k2-1,l7++([(⟨(place+(aa*ac):Int),(max 0 (stage-ae):Int),(stage+ag:Int)⟩:Mrk)])))))
  else (
  M.pure (.inr (aj,ak,l7,l7)))
def zcw (s_bytes:List UInt8) (marks:Int) (lies:Bool) (place stage n:Int) (l9:List Sect) (ae:List Mrk) (ag ah:List Int) (l3:List FRow) (ai aj ak:Int):M ((Int × Int × Int × Int × Int × (List Sect) × (List Mrk) × (List Int) × (List Int)) ⊕ (Int × Int × (List Sect) × (List Mrk) × (List Int) × (List Int) × (List Int) × (List Int) × (List Mrk) × (List Sect))) :=
  M.bind (zad s_bytes aj ak 3) fun (al,am,ao) =>
  M.bind (M.iter (zaO s_bytes marks lies place stage) (am,ao,al,ae)) fun (ap,aq,l5,l8) =>
  M.bind (zag s_bytes ap aq 21 200) fun (aa,au,av) =>
  M.grd (decide ((-9223372036854775808:Int)<=(place+aa))&&decide ((place+aa)<=(9223372036854775807:Int))) <|
  M.bind (zad s_bytes au av 20) fun (ac,ax,ay) =>
  M.grd (decide ((-9223372036854775808:Int)<=(stage-ac))&&decide ((stage-ac)<=(9223372036854775807:Int))) <|
  M.grd (decide ((-9223372036854775808:Int)<=(n-1))&&decide ((n-1)<=(9223372036854775807:Int))) <|
  M.pure (.inl (ax,ay,place+aa,stage-ac,n-1,l9++([(⟨(place:Int),l3⟩:Sect)]),l8,ag++([(stage:Int)]),ah++([(ai:Int)])))
def zaP (s_bytes:List UInt8) (marks:Int) (lies:Bool):(Int × Int × Int × Int × Int × (List Sect) × (List Mrk) × (List Int) × (List Int))->M ((Int × Int × Int × Int × Int × (List Sect) × (List Mrk) × (List Int) × (List Int)) ⊕ (Int × Int × (List Sect) × (List Mrk) × (List Int) × (List Int) × (List Int) × (List Int) × (List Mrk) × (List Sect))):=fun (ag,ah,place,stage,n,l9,ae,aa,ac) =>
  bif decide (0<n) then (
  M.bind (zad s_bytes ag ah 60) fun (r5,aj,ak) =>
  M.bind (zad s_bytes aj ak 50) fun (r6,al,am) =>
  M.bind (zag s_bytes al am 2 4) fun (r7,ao,ap) =>
  M.bind (M.iter (za8 s_bytes) (ao,ap,r5,r6,r7,[])) fun (s5,s6,l2,l3) =>
  M.grd (decide ((l9.length+([(⟨(place:Int),l3⟩:Sect)]).length)*32<=140737488355328)) <|
  M.grd (decide ((aa.length+([(stage:Int)]).length)*8<=140737488355328)) <|
  M.bind (zag s_bytes s5 s6 30 90) fun (ai,aq,au) =>
  M.grd (decide ((ac.length+([(ai:Int)]).length)*8<=140737488355328)) <|
  zcw s_bytes marks lies place stage n l9 ae aa ac l3 ai aq au)
  else (
  M.pure (.inr (ag,ah,l9,ae,aa,ac,ac,aa,ae,l9)))
def zaU (s_bytes:List UInt8) (ac:List Int) (ag:List Sect):(Int × Int × Int × (List Rch))->M ((Int × Int × Int × (List Rch)) ⊕ ((List Rch) × (List Rch) × Int × Int)):=fun (ak,al,n2,ah) =>
  bif decide (0<n2) then (
  M.bind (zad s_bytes ak al ((ag.length:Int)-1)) fun (aa,ao,ap) =>
  M.bind (zad s_bytes ao ap 4) fun (am,aq,au) =>
  M.grd (decide ((-9223372036854775808:Int)<=(((ag.length:Int)-1)-aa))&&decide ((((ag.length:Int)-1)-aa)<=(9223372036854775807:Int))) <|
  M.bind (zag s_bytes aq au 1 (((ag.length:Int)-1)-aa)) fun (ae,av,ax) =>
  M.grd (decide ((-9223372036854775808:Int)<=(aa+ae))&&decide ((aa+ae)<=(9223372036854775807:Int))) <|
  M.grd (decide ((0:Int)<=aa)&&decide (aa<(ac.length:Int))) <|
  M.grd (decide ((0:Int)<=(aa+ae))&&decide ((aa+ae)<(ac.length:Int))) <|
  M.bind (zad s_bytes av ax 8) fun (ai,ay,az) =>
  M.grd (decide ((-9223372036854775808:Int)<=((min (ac.getD (Int.toNat aa) 0) (ac.getD (Int.toNat (aa+ae)) 0))-ai))&&decide (((min (ac.getD (Int.toNat aa) 0) (ac.getD (Int.toNat (aa+ae)) 0))-ai)<=(9223372036854775807:Int))) <|
  M.bind (zad s_bytes ay az 8) fun (aj,aA,aB) =>
  M.grd (decide ((-9223372036854775808:Int)<=((max (ac.getD (Int.toNat aa) 0) (ac.getD (Int.toNat (aa+ae)) 0))+aj))&&decide (((max (ac.getD (Int.toNat aa) 0) (ac.getD (Int.toNat (aa+ae)) 0))+aj)<=(9223372036854775807:Int))) <|
  M.grd (decide ((ah.length+([(⟨(aa:Int),(aa+ae:Int),((min (ac.getD (Int.toNat aa) 0) (ac.getD (Int.toNat (aa+ae)) 0))-ai:Int),((max (ac.getD (Int.toNat aa) 0) (ac.getD (Int.toNat (aa+ae)) 0))+aj:Int),(am==0)⟩:Rch)]).length)*40<=140737488355328)) <|
  M.grd (decide ((-9223372036854775808:Int)<=(n2-1))&&decide ((n2-1)<=(9223372036854775807:Int))) <|
  M.pure (.inl (aA,aB,n2-1,ah++([(⟨(aa:Int),(aa+ae:Int),((min (ac.getD (Int.toNat aa) 0) (ac.getD (Int.toNat (aa+ae)) 0))-ai:Int),((max (ac.getD (Int.toNat aa) 0) (ac.getD (Int.toNat (aa+ae)) 0))+aj:Int),(am==0)⟩:Rch)]))))
  else (
  M.pure (.inr (ah,ah,ak,al)))
def zaB (s_bytes:List UInt8) (ae ag:Int) (aa ah:List Int) (ac:List Sect) (ai:List Mrk):M ((List Sect) × (List Mrk) × (List Rch) × (List Int) × (List Int) × Int × Int) :=
  M.bind (zag s_bytes ae ag 1 4) fun (aj,ak,al) =>
  M.bind (M.iter (zaU s_bytes aa ac) (ak,al,aj,[])) fun (aq,am,ao,ap) =>
  M.pure (ac,ai,am,ah,aa,ao,ap)
def zcg (s_bytes:List UInt8) (s_used s_mix marks:Int) (lies:Bool):M ((List Sect) × (List Mrk) × (List Rch) × (List Int) × (List Int) × Int × Int) :=
  M.bind (zad s_bytes s_used s_mix 50) fun (r2,q1,q2) =>
  M.bind (zag s_bytes q1 q2 100 400) fun (r3,aj,ak) =>
  M.bind (zag s_bytes aj ak 2 5) fun (r4,al,am) =>
  M.bind (M.iter (zaP s_bytes marks lies) (al,am,r2,r3,r4,[],[],[],[])) fun (ag,ah,ao,ap,aq,au,ai,aa,ae,ac) =>
  bif (ae.length:Int)==0 then (
  M.grd (decide (0<(ac.length:Int))) <|
  M.grd (decide (0<(aa.length:Int))) <|
  M.grd (decide ((-9223372036854775808:Int)<=((aa.getD 0 0)-5))&&decide (((aa.getD 0 0)-5)<=(9223372036854775807:Int))) <|
  M.grd (decide ((-9223372036854775808:Int)<=((aa.getD 0 0)+5))&&decide (((aa.getD 0 0)+5)<=(9223372036854775807:Int))) <|
  M.grd (decide ((ae.length+([(⟨((ac.getD 0 default).place:Int),((aa.getD 0 0)-5:Int),((aa.getD 0 0)+5:Int)⟩:Mrk)]).length)*24<=140737488355328)) <|
  zaB s_bytes ag ah ai aa ac (ae++([(⟨((ac.getD 0 default).place:Int),((aa.getD 0 0)-5:Int),((aa.getD 0 0)+5:Int)⟩:Mrk)])))
  else (
  zaB s_bytes ag ah ai aa ac ae)
theorem zeI {R:List Chunk} {ah:Nat} {ci:Cells} {aM:Value} (s_bytes:List UInt8) (s_used:Int) (s_mix:Int) (marks:Int) (lies:Bool) (am:Reads R ci) (ao:Sl ci aM s_bytes) {r:((List Sect) × (List Mrk) × (List Rch) × (List Int) × (List Int) × Int × Int)} (hM:(zcg s_bytes s_used s_mix marks lies).Ends r) (w:World) (H:St w w [cBlk ah [aM,I s_used,I s_mix] 82] R):Ret Tryz.prog 4 #[Pq ah,I marks,B lies] w fun v w'=>∃ (y0:List Sect) (y1:List Mrk) (y2:List Rch) (y3:List Int) (y4:List Int) (y5:Int) (y6:Int) (u0:Value) (rr1:List (Raw 1)) (cj:Base) (u3:Value) (u4:Value) (u5:Value) (u6:Value),(y0,y1,y2,y3,y4,y5,y6)=r/\v = .tuple #[.agg #[u0,u3,u4],.agg #[u5,u6]]/\St w w' [cOwn (α:=Raw 1) 76 u0 rr1,cRo cj,cOwn (α:=Mrk) 80 u3 y1,cOwn (α:=Rch) 38 u4 y2,cOwn (α:=Int) 3 u5 y3,cOwn (α:=Int) 3 u6 y4,cBlk ah [aM,I y5,I y6] 82] R/\RepR (α:=Sect) cj.cells rr1 y0:=by
 refine ret_of_W Tryz.func4 rfl rfl rfl ?_;refine kg 2 ?_;refine t_alloc (cs:=[.slice none 0 0,.slice none 0 0,.slice none 0 0]) H Al27 rfl ?_;intro aD fm H;refine t_alloc (cs:=[.slice none 0 0,.slice none 0 0]) H Al30 rfl ?_;intro aE fo H;refine kg 3 ?_;refine t_alloc (cs:=[.slice none 0 0,.slice none 0 0,.slice none 0 0]) H Al27 rfl ?_;intro ap fp H;refine kg 3 ?_;refine t_alloc (cs:=[.slice none 0 0,.slice none 0 0]) H Al30 rfl ?_;intro ax fq H;refine kg 4 ?_;obtain ⟨fu,cS,hM⟩:=M.e_bind hM;refine s_call cf10 [Pq ah,I 50] rfl (zac s_bytes s_used s_mix 50 (am.app _) ao cS _ ((H.pk [4,0,1,2,3]).gt 4)) ?_
 rintro vq fw ⟨r2,q1,q2,rfl,hvq,aa⟩
 subst vq;(try dsimp only at hM)
 replace H:=H.pk [4,0,1,2,3] |>.bk aa
 clear aa;refine kg 1 ?_;obtain ⟨fy,cT,hM⟩:=M.e_bind hM;refine s_call cf11 [Pq ah,I 100,I 400] rfl (zai s_bytes q1 q2 100 400 (am.app _) ao cT _ (H.gt 4)) ?_
 rintro vq fA ⟨r3,cU,cV,rfl,hvq,aa⟩
 subst vq;(try dsimp only at hM);replace H:=H.bk aa;clear aa;refine kg 7 ?_;obtain ⟨fB,cW,hM⟩:=M.e_bind hM;refine s_call cf11 [Pq ah,I 2,I 5] rfl (zai s_bytes cU cV 2 5 (am.app _) ao cW _ (H.gt 4)) ?_
 rintro vq fC ⟨r4,cX,cY,rfl,hvq,aa⟩
 subst vq;(try dsimp only at hM);replace H:=H.bk aa;clear aa;refine kg 3 ?_
 obtain ⟨ck,H⟩:=H.emptyE
 replace H:=H.nilOwn (α:=Raw 1) 76
 have cZ:RepR (α:=Sect) (n:=1) ck.cells [] []:=.nil
 replace H:=H.nilOwn (α:=Mrk) 80
 replace H:=H.nilOwn (α:=Int) 3
 replace H:=H.nilOwn (α:=Int) 3
 obtain ⟨c8,bG,c9⟩:=M.e_bind hM
 obtain ⟨bH,bG⟩:=M.e_iter bG
 refine W.loop (fun m σ W=>∃ (aW:Int) (aX:Int) (place:Int) (stage:Int) (n:Int) (l9:List Sect) (aI:List Mrk) (ag:List Int) (ae:List Int) (aj:Value) (aJ:Value) (ak:Value) (aq:Value) (aA:List (Raw 1)) (B_l9:Base) (ρ:Env),σ=upds ρ [(0,Pq ah),(1,I marks),(2,B lies),(6,Pq aD),(7,Pq aE),(8,Pq ap),(9,Pq ax),(10,I place),(11,I stage),(12,I n)]/\M.iterN (zaP s_bytes marks lies) m (aW,aX,place,stage,n,l9,aI,ag,ae)=some c8/\St w W [cOwn (α:=Int) 3 aq ae,cOwn (α:=Int) 3 ak ag,cOwn (α:=Mrk) 80 aJ aI,cOwn (α:=Raw 1) 76 aj aA,cRo B_l9,cBlk ah [aM,I aW,I aX] 82,cBlk ax [ak,aq] 30,cBlk ap [aj,aJ,.slice none 0 0] 27,cBlk aE [.slice none 0 0,.slice none 0 0] 30,cBlk aD [.slice none 0 0,.slice none 0 0,.slice none 0 0] 27] R/\RepR (α:=Sect) B_l9.cells aA l9) ?_ ?_
 ·exact ⟨_,cX,cY,r2,r3,r4,[],[],[],[],(.slice none 0 0),(.slice none 0 0),(.slice none 0 0),(.slice none 0 0),[],ck,_,upds_of _ _ ⟨rfl,rfl,rfl,rfl,rfl,rfl,rfl,rfl,rfl,rfl,trivial⟩,bG,H,cZ⟩
 rintro fD σ fE ⟨aW,aX,place,stage,n,l9,aI,ag,ae,aj,aJ,ak,aq,aA,B_l9,ρ,rfl,cn,H,az⟩
 obtain ⟨da,db,dc,hM,co⟩:=M.e_iterN cn
 simp only [zaP] at hM
 clear cn;refine kg 6 ?_
 refine W.cond (decide (0<n)) rfl (fun bb=>?_) (fun bb=>?_)
 ·replace hM:=M.e_t hM bb
  replace bb:=dI bb
  refine kg 6 ?_;refine s_val (x_bld (ps:=[(0,I place)]) (zs:=[I 0,.slice none 0 0]) (L':=[I place,.slice none 0 0]) rfl Tryz.underlying76 Al76 rfl (Bd76 Tryz.underlying76) (.cons (cs:=[I place]) rfl rfl rfl rfl rfl<|.nil)) ?_;refine t_alloc (cs:=[I 0,.slice none 0 0]) H Al76 rfl ?_;intro bw fG H;refine t_sw 0 0 [I place,.slice none 0 0] (.agg #[I place,.slice none 0 0]) H rfl rfl Sz76 rfl rfl rfl rfl ?_;intro fH H;refine kg 4 ?_;obtain ⟨fI,dd,hM⟩:=M.e_bind hM;refine s_call cf10 [Pq ah,I 60] rfl (zac s_bytes aW aX 60 (am.app _) ao dd _ ((H.pk [6,0,1,2,3,4,5,7,8,9,10]).gt 10)) ?_
  rintro vq fJ ⟨r5,dg,dh,rfl,hvq,aa⟩
  subst vq;(try dsimp only at hM)
  replace H:=H.pk [6,0,1,2,3,4,5,7,8,9,10] |>.bk aa
  clear aa;refine kg 1 ?_;obtain ⟨fK,di,hM⟩:=M.e_bind hM;refine s_call cf10 [Pq ah,I 50] rfl (zac s_bytes dg dh 50 (am.app _) ao di _ (H.gt 10)) ?_
  rintro vq fL ⟨r6,dj,dk,rfl,hvq,aa⟩
  subst vq;(try dsimp only at hM);replace H:=H.bk aa;clear aa;refine kg 7 ?_;obtain ⟨fM,dm,hM⟩:=M.e_bind hM;refine s_call cf11 [Pq ah,I 2,I 4] rfl (zai s_bytes dj dk 2 4 (am.app _) ao dm _ (H.gt 10)) ?_
  rintro vq fN ⟨r7,dp,dq,rfl,hvq,aa⟩
  subst vq;(try dsimp only at hM);replace H:=H.bk aa;clear aa;refine kg 3 ?_
  replace H:=H.nilOwn (α:=FRow) 78
  obtain ⟨dr,bI,dt⟩:=M.e_bind hM
  obtain ⟨bH,bI⟩:=M.e_iter bI
  refine W.loop (fun m σ W=>∃ (s2:Int) (s3:Int) (s4:Int) (carry:Int) (k:Int) (l:List FRow) (aK:Value) (ρ:Env),σ=upds ρ [(0,Pq ah),(1,I marks),(2,B lies),(6,Pq aD),(7,Pq aE),(8,Pq ap),(9,Pq ax),(10,I place),(11,I stage),(12,I n),(13,Pq bw),(14,I s4),(15,I carry),(16,I k)]/\M.iterN (za8 s_bytes) m (s2,s3,s4,carry,k,l)=some dr/\St w W [cOwn (α:=FRow) 78 aK l,cBlk ah [aM,I s2,I s3] 82,cBlk bw [I place,aK] 76,cOwn (α:=Int) 3 aq ae,cOwn (α:=Int) 3 ak ag,cOwn (α:=Mrk) 80 aJ aI,cOwn (α:=Raw 1) 76 aj aA,cRo B_l9,cBlk ax [ak,aq] 30,cBlk ap [aj,aJ,.slice none 0 0] 27,cBlk aE [.slice none 0 0,.slice none 0 0] 30,cBlk aD [.slice none 0 0,.slice none 0 0,.slice none 0 0] 27] R) ?_ ?_
  ·exact ⟨_,dp,dq,r5,r6,r7,[],(.slice none 0 0),_,upds_of _ _ ⟨rfl,rfl,rfl,rfl,rfl,rfl,rfl,rfl,rfl,rfl,rfl,rfl,rfl,rfl,trivial⟩,bI,H⟩
  rintro fO σ fP ⟨s2,s3,s4,carry,k,l,aK,ρ,rfl,cp,H⟩
  obtain ⟨dv,dw,fQ,hM,cq⟩:=M.e_iterN cp
  simp only [za8] at hM
  clear cp;refine kg 6 ?_
  refine W.cond (decide (0<k)) rfl (fun bc=>?_) (fun bc=>?_)
  ·replace hM:=M.e_t hM bc
   replace bc:=dI bc
   refine kg 9 ?_;refine s_val (x_bld (ps:=[(0,I s4),(1,I carry)]) (zs:=[I 0,I 0]) (L':=[I s4,I carry]) rfl Tryz.underlying78 Al78 rfl (Bd78 Tryz.underlying78) (.cons (cs:=[I s4]) rfl rfl rfl rfl rfl<|.cons (cs:=[I carry]) rfl rfl rfl rfl rfl<|.nil)) ?_;refine t_bs (α:=FRow) T74 [.agg #[I s4,I carry]] [(⟨(s4:Int),(carry:Int)⟩:FRow)] H rfl (.cons rfl (Flat.rep_enc _ (⟨(s4:Int),(carry:Int)⟩:FRow))<|.nil) rfl rfl rfl ?_;intro dx fR H;obtain ⟨fS,hM⟩:=M.e_gd hM;refine t_app (α:=FRow) (k:=1) (l:=l) (l2:=[(⟨(s4:Int),(carry:Int)⟩:FRow)]) (l':=l++([(⟨(s4:Int),(carry:Int)⟩:FRow)])) (vy:=dx) T74 rfl H rfl rfl rfl (H.os 0) (H.ol 0) (rfl) (by first | omega | (simp only [List.length_nil] at *; omega)) ?_;intro bJ fT H;replace H:=H.nf;refine kg 1 ?_;refine t_sw 3 1 [bJ] bJ H rfl rfl Sz74 (Sl.cells (H.os 1)) rfl rfl (by simp only [List.all_cons,List.all_nil,Bool.true_and,Bool.and_true,Sl.oc (H.os 1)]; try rfl) ?_;intro fU H;refine kg 4 ?_;obtain ⟨fV,dy,hM⟩:=M.e_bind hM;refine s_call cf11 [Pq ah,I 1,I 200] rfl (zai s_bytes s2 s3 1 200 (am.app _) ao dy _ ((H.pk [2,0,1,3,4,5,6,7,8,9,10,11,12]).gt 12)) ?_
   rintro vq fW ⟨r8,dz,dA,rfl,hvq,aa⟩
   subst vq;(try dsimp only at hM)
   replace H:=H.pk [2,0,1,3,4,5,6,7,8,9,10,11,12] |>.bk aa
   clear aa;obtain ⟨fX,hM⟩:=M.e_gd hM;refine kg 3 ?_;obtain ⟨fY,dB,hM⟩:=M.e_bind hM;refine s_call cf10 [Pq ah,I 2000] rfl (zac s_bytes dz dA 2000 (am.app _) ao dB _ (H.gt 12)) ?_
   rintro vq fZ ⟨r9,dC,dD,rfl,hvq,aa⟩
   subst vq;(try dsimp only at hM);replace H:=H.bk aa;clear aa;obtain ⟨f4,hM⟩:=M.e_gd hM;obtain ⟨f6,hM⟩:=M.e_gd hM;refine kg 9 ?_
   exact ⟨dv,dw,dC,dD,s4+r8,carry+r9,k-1,l++([(⟨(s4:Int),(carry:Int)⟩:FRow)]),bJ,_,upds_of _ _ ⟨rfl,rfl,rfl,rfl,rfl,rfl,rfl,rfl,rfl,rfl,rfl,rfl,rfl,rfl,trivial⟩,M.e_inl hM cq,(H.pk [2,0,3,4,5,6,7,8,9,10,11,12])⟩
  replace hM:=M.e_f hM bc
  replace bc:=dI bc
  refine W.exit ?_
  have dE:=M.e_inr hM cq
  subst dE;replace hM:=dt;(try dsimp only at hM);refine W.seqJ (fun σ W=>∃ (al:Int) (aR:Int) (aS:Int) (cr:Value) (ct:Value) (aN:Base) (cv:Value) (bK:List (Raw 1)) (aT:Base) (bf:Base) (bg:Base) (aY:Value) (aZ:Value) (a7:Value) (bj:List (Raw 1)) (ρ:Env),σ=upds ρ [(0,Pq ah),(1,I marks),(2,B lies),(6,Pq aD),(7,Pq aE),(8,Pq ap),(9,Pq ax),(10,I place),(11,I stage),(12,I n)]/\(zcw s_bytes marks lies place stage n l9 aI ag ae l al aR aS).Ends dc/\St w W [cOwn (α:=Int) 3 cr ([(al:Int)]),cBlk ah [aM,I aR,I aS] 82,cOwn (α:=Int) 3 ct ([(stage:Int)]),cRo aN,cOwn (α:=Raw 1) 76 cv bK,cRo aT,cRo bf,cRo bg,cBlk bw [I place,aK] 76,cOwn (α:=Int) 3 aY (ae++([(al:Int)])),cOwn (α:=Int) 3 aZ (ag++([(stage:Int)])),cOwn (α:=Mrk) 80 aJ aI,cOwn (α:=Raw 1) 76 a7 bj,cRo B_l9,cBlk ax [aZ,aY] 30,cBlk ap [a7,aJ,.slice none 0 0] 27,cBlk aE [.slice none 0 0,.slice none 0 0] 30,cBlk aD [.slice none 0 0,.slice none 0 0,.slice none 0 0] 27] R/\RepR (α:=Sect) aT.cells bK ([(⟨(place:Int),l⟩:Sect)])/\RepR (α:=Sect) aN.cells bj (l9++([(⟨(place:Int),l⟩:Sect)]))) ?_ ?_
  ·skip
   refine W.drawTS (fun W=>St w W [cBlk bw [I place,aK] 76,cOwn (α:=Mrk) 80 aJ aI,cRo B_l9,cBlk ax [ak,aq] 30,cBlk ap [aj,aJ,.slice none 0 0] 27,cBlk aE [.slice none 0 0,.slice none 0 0] 30,cBlk aD [.slice none 0 0,.slice none 0 0,.slice none 0 0] 27] R) (.q 0 (.q 1 (.q 2 (.q 5 (.q 6 (.q 7 (.q 10 (.q 11 (.q 12 (.l2 3 (.l2 4 (.q 16 (.l 8 (.l 9 (.l 13 (.l 14 (.l 15 .nil)))))) 8 (.l 4 (.q 16 (.l 9 (.l 13 (.l 14 (.l 15 .nil))))))) 8 (.l 3 (.l 4 (.q 16 (.l 9 (.l 13 (.l 14 (.l 15 .nil))))))))))))))))) 17 [17,18,19,20,21] mixed (by decide +kernel) rfl ?_;intro f9 aF;replace H:=H.ext aF;clear aF
   refine ⟨(H.pk [2,5,7,8,9,10,11]),?_⟩
   refine ts_q rfl (fun w' H=>x_fa (v:=Pq ap) rfl (fa_blk (o:=0) Fd27_0 Sz23)) ?_;refine ts_q rfl (fun w' H=>x_ld (v:=aj) rfl (ldb_sc Sc23 (H.bl 4) rfl)) ?_;refine ts_q rfl (fun w' H=>x_ld (v:=.agg #[I place,aK]) rfl (ldb_ag (ds:=[I place,aK]) Ag76 Sz76 (H.bl 0) rfl rfl)) ?_;refine ts_q rfl (fun w' H=>x_fa (v:=Pq ax) rfl (fa_blk (o:=0) Fd30_0 Sz28)) ?_;refine ts_q rfl (fun w' H=>x_ld (v:=ak) rfl (ldb_sc Sc28 (H.bl 3) rfl)) ?_;refine ts_q rfl (fun w' H=>x_mv (v:=I stage) rfl) ?_;refine ts_q rfl (fun w' H=>x_fa (v:=Oq ax 1) rfl (fa_blk (o:=0) Fd30_1 Sz28)) ?_;refine ts_q rfl (fun w' H=>x_ld (v:=aq) rfl (ldb_sc Sc28 (H.bl 3) rfl)) ?_;refine ts_q rfl (fun w' H=>x_mv (v:=Pq ah) rfl) ?_;refine ts_l2 rfl rfl ?_ ?_
   ·skip
    obtain ⟨bf,H⟩:=H.emptyE
    obtain ⟨bg,H,dF⟩:=H.freezeE (k:=1) rfl
    replace H:=H.nf
    have bx:=dF
    obtain ⟨aT,H,ga,dG⟩:=H.joinE (i:=0) (j:=1) rfl rfl
    replace bx:=bx.mono dG
    obtain ⟨aO,cw⟩:∃ r:Raw 1,r.cs=[I place,aK]:=⟨Raw.of [I place,aK] rfl (by simp only [List.all_cons,List.all_nil,Bool.true_and,Bool.and_true,Sl.oc bx]; try rfl),rfl⟩
    have bz:RepR (α:=Sect) aT.cells [aO] [(⟨(place:Int),l⟩:Sect)]:=.cons (by rw [cw]; exact ⟨_,rfl,bx⟩)<|.nil
    refine t_bs (α:=Raw 1) T23 [.agg #[I place,aK]] [aO] H rfl (.cons (by rw [show (Flat.enc aO:List Value)=aO.cs from rfl,cw]; rfl) (Flat.rep_enc _ _)<|.nil) rfl rfl rfl ?_;intro bA gc H;replace H:=H.nf
    have gf:=Sl.cells (H.os 0)
    have gg:=Sl.oc (H.os 0)
    have gh:=Sl.cells (H.os 6)
    have gi:=Sl.oc (H.os 6)
    have gj:=Sl.cells (H.os 7)
    have gk:=Sl.oc (H.os 7)
    have gl:=Sl.cells (H.os 9)
    have gm:=Sl.oc (H.os 9)
    refine s_nil ⟨(H.pk [5,8,10,11,12,13,14]),?_⟩
    refine ts_l2 rfl rfl ?_ ?_
    ·skip
     obtain ⟨gn,hM⟩:=M.e_gd hM
     have bB:=bz
     obtain ⟨aN,H,dH,dJ⟩:=H.joinE (i:=10) (j:=1) rfl rfl
     replace az:=az.mono dH
     replace bB:=bB.mono dJ
     have bL:=az.app bB
     refine t_app (α:=Raw 1) (k:=10) (l:=aA) (l2:=[aO]) (l':=aA++([aO])) (vy:=bA) T23 rfl H rfl rfl rfl (H.os 1) (H.ol 1) (rfl) (by have a_:=az.len; have b_:=bB.len; (try simp only [List.length_nil] at *); first | omega | (rw [a_,b_]; omega)) ?_;intro bN gp H;replace H:=H.nf
     have gr:=Sl.cells (H.os 10)
     have gu:=Sl.oc (H.os 10)
     refine s_nil ⟨(H.pk [6,9,11,12,13,14,15]),?_⟩
     refine ts_q rfl (fun w' H=>x_fa (v:=Pq ap) rfl (fa_blk (o:=0) Fd27_0 Sz23)) ?_;refine ts_l rfl ?_;refine t_bs (α:=Int) T28 [I stage] [(stage:Int)] H rfl (.cons rfl (Flat.rep_enc _ (stage:Int))<|.nil) rfl rfl rfl ?_;intro cx gv H
     have gw:=Sl.cells (H.os 0)
     have gx:=Sl.oc (H.os 0)
     refine s_nil ⟨(H.pk [7,10,12,13,14,15,16]),?_⟩
     refine ts_l rfl ?_;obtain ⟨gy,hM⟩:=M.e_gd hM;refine t_app (α:=Int) (k:=9) (l:=ag) (l2:=[(stage:Int)]) (l':=ag++([(stage:Int)])) (vy:=cx) T28 rfl H rfl rfl rfl (H.os 0) (H.ol 0) (rfl) (by first | omega | (simp only [List.length_nil] at *; omega)) ?_;intro bO gz H;replace H:=H.nf
     have gA:=Sl.cells (H.os 9)
     have gB:=Sl.oc (H.os 9)
     refine s_nil ⟨(H.pk [7,10,12,13,14,15,16]),?_⟩
     refine ts_l rfl ?_;obtain ⟨gC,dK,hM⟩:=M.e_bind hM;refine s_call cf11 [Pq ah,I 30,I 90] rfl (zai s_bytes s2 s3 30 90 (am.app _) ao dK _ ((H.pk [6,0,1,2,3,4,5,7,8,9,10,11,12,13,14,15,16]).gt 16)) ?_
     rintro vq gD ⟨al,aR,aS,rfl,hvq,aa⟩
     subst vq;(try dsimp only at hM)
     replace H:=H.pk [6,0,1,2,3,4,5,7,8,9,10,11,12,13,14,15,16] |>.bk aa
     clear aa
     refine s_nil ⟨(H.pk [7,10,12,13,14,15,16]),?_⟩
     refine ts_l rfl ?_;refine t_bs (α:=Int) T28 [I al] [(al:Int)] H rfl (.cons rfl (Flat.rep_enc _ (al:Int))<|.nil) rfl rfl rfl ?_;intro cy gE H
     have gF:=Sl.cells (H.os 0)
     have gG:=Sl.oc (H.os 0)
     refine s_nil ⟨(H.pk [8,11,13,14,15,16,17]),?_⟩
     refine ts_l rfl ?_;obtain ⟨gH,hM⟩:=M.e_gd hM;refine t_app (α:=Int) (k:=9) (l:=ae) (l2:=[(al:Int)]) (l':=ae++([(al:Int)])) (vy:=cy) T28 rfl H rfl rfl rfl (H.os 0) (H.ol 0) (rfl) (by first | omega | (simp only [List.length_nil] at *; omega)) ?_;intro bP gI H;replace H:=H.nf
     have gJ:=Sl.cells (H.os 9)
     have gK:=Sl.oc (H.os 9)
     refine s_nil ⟨(H.pk [8,11,13,14,15,16,17]),?_⟩
     refine ts_nil ?_;refine sr_l rfl ?_;refine t_sw 15 0 [bN] bN H rfl rfl Sz23 (Sl.cells (rowSl rfl (H.get (k:=12) rfl) (roLe _ (H.get (k:=3) rfl)) bL)) rfl rfl (by simp only [List.all_cons,List.all_nil,Bool.true_and,Bool.and_true,Sl.oc (rowSl rfl (H.get (k:=12) rfl) (roLe _ (H.get (k:=3) rfl)) bL)]; try rfl) ?_;intro gL H
     refine s_nil ⟨trivial,?_⟩
     refine sr_l rfl ?_;refine kg 1 ?_
     refine s_nil ⟨trivial,?_⟩
     refine sr_l rfl ?_;refine t_sw 14 0 [bO] bO H rfl rfl Sz28 (Sl.cells (H.os 10)) rfl rfl (by simp only [List.all_cons,List.all_nil,Bool.true_and,Bool.and_true,Sl.oc (H.os 10)]; try rfl) ?_;intro gM H
     refine s_nil ⟨trivial,?_⟩
     refine sr_l rfl ?_;refine kg 1 ?_
     refine s_nil ⟨trivial,?_⟩
     refine sr_l rfl ?_;refine t_sw 14 1 [bP] bP H rfl rfl Sz28 (Sl.cells (H.os 9)) rfl rfl (by simp only [List.all_cons,List.all_nil,Bool.true_and,Bool.and_true,Sl.oc (H.os 9)]; try rfl) ?_;intro gN H
     refine s_nil ⟨trivial,?_⟩
     refine sr_nil ?_
     exact ⟨al,aR,aS,cy,cx,aN,bA,[aO],aT,bf,bg,bP,bO,bN,aA++([aO]),_,upds_of _ _ ⟨rfl,rfl,rfl,rfl,rfl,rfl,rfl,rfl,rfl,rfl,trivial⟩,hM,H,bz,bL⟩
    skip
    refine t_bs (α:=Int) T28 [I stage] [(stage:Int)] H rfl (.cons rfl (Flat.rep_enc _ (stage:Int))<|.nil) rfl rfl rfl ?_;intro cz gO H
    have gP:=Sl.cells (H.os 0)
    have gQ:=Sl.oc (H.os 0)
    refine s_nil ⟨(H.pk [6,9,11,12,13,14,15]),?_⟩
    refine ts_l rfl ?_;obtain ⟨gR,hM⟩:=M.e_gd hM
    have bC:=bz
    obtain ⟨aN,H,dL,dM⟩:=H.joinE (i:=11) (j:=2) rfl rfl
    replace az:=az.mono dL
    replace bC:=bC.mono dM
    have bQ:=az.app bC
    refine t_app (α:=Raw 1) (k:=11) (l:=aA) (l2:=[aO]) (l':=aA++([aO])) (vy:=bA) T23 rfl H rfl rfl rfl (H.os 2) (H.ol 2) (rfl) (by have a_:=az.len; have b_:=bC.len; (try simp only [List.length_nil] at *); first | omega | (rw [a_,b_]; omega)) ?_;intro bR gS H;replace H:=H.nf
    have gT:=Sl.cells (H.os 11)
    have gU:=Sl.oc (H.os 11)
    refine s_nil ⟨(H.pk [7,10,12,13,14,15,16]),?_⟩
    refine ts_q rfl (fun w' H=>x_fa (v:=Pq ap) rfl (fa_blk (o:=0) Fd27_0 Sz23)) ?_;refine ts_l rfl ?_;obtain ⟨gV,hM⟩:=M.e_gd hM;refine t_app (α:=Int) (k:=9) (l:=ag) (l2:=[(stage:Int)]) (l':=ag++([(stage:Int)])) (vy:=cz) T28 rfl H rfl rfl rfl (H.os 1) (H.ol 1) (rfl) (by first | omega | (simp only [List.length_nil] at *; omega)) ?_;intro bS gW H;replace H:=H.nf
    have gX:=Sl.cells (H.os 9)
    have gY:=Sl.oc (H.os 9)
    refine s_nil ⟨(H.pk [7,10,12,13,14,15,16]),?_⟩
    refine ts_l rfl ?_;obtain ⟨gZ,dN,hM⟩:=M.e_bind hM;refine s_call cf11 [Pq ah,I 30,I 90] rfl (zai s_bytes s2 s3 30 90 (am.app _) ao dN _ ((H.pk [6,0,1,2,3,4,5,7,8,9,10,11,12,13,14,15,16]).gt 16)) ?_
    rintro vq hG ⟨al,aR,aS,rfl,hvq,aa⟩
    subst vq;(try dsimp only at hM)
    replace H:=H.pk [6,0,1,2,3,4,5,7,8,9,10,11,12,13,14,15,16] |>.bk aa
    clear aa
    refine s_nil ⟨(H.pk [7,10,12,13,14,15,16]),?_⟩
    refine ts_l rfl ?_;refine t_bs (α:=Int) T28 [I al] [(al:Int)] H rfl (.cons rfl (Flat.rep_enc _ (al:Int))<|.nil) rfl rfl rfl ?_;intro cA hO H
    have hZ:=Sl.cells (H.os 0)
    have h9:=Sl.oc (H.os 0)
    refine s_nil ⟨(H.pk [8,11,13,14,15,16,17]),?_⟩
    refine ts_l rfl ?_;obtain ⟨ia,hM⟩:=M.e_gd hM;refine t_app (α:=Int) (k:=9) (l:=ae) (l2:=[(al:Int)]) (l':=ae++([(al:Int)])) (vy:=cA) T28 rfl H rfl rfl rfl (H.os 0) (H.ol 0) (rfl) (by first | omega | (simp only [List.length_nil] at *; omega)) ?_;intro bT ib H;replace H:=H.nf
    have ic:=Sl.cells (H.os 9)
    have ie:=Sl.oc (H.os 9)
    refine s_nil ⟨(H.pk [8,11,13,14,15,16,17]),?_⟩
    refine ts_nil ?_;refine sr_l rfl ?_;refine t_sw 15 0 [bR] bR H rfl rfl Sz23 (Sl.cells (rowSl rfl (H.get (k:=12) rfl) (roLe _ (H.get (k:=2) rfl)) bQ)) rfl rfl (by simp only [List.all_cons,List.all_nil,Bool.true_and,Bool.and_true,Sl.oc (rowSl rfl (H.get (k:=12) rfl) (roLe _ (H.get (k:=2) rfl)) bQ)]; try rfl) ?_;intro ig H
    refine s_nil ⟨trivial,?_⟩
    refine sr_l rfl ?_;refine kg 1 ?_
    refine s_nil ⟨trivial,?_⟩
    refine sr_l rfl ?_;refine t_sw 14 0 [bS] bS H rfl rfl Sz28 (Sl.cells (H.os 10)) rfl rfl (by simp only [List.all_cons,List.all_nil,Bool.true_and,Bool.and_true,Sl.oc (H.os 10)]; try rfl) ?_;intro ii H
    refine s_nil ⟨trivial,?_⟩
    refine sr_l rfl ?_;refine kg 1 ?_
    refine s_nil ⟨trivial,?_⟩
    refine sr_l rfl ?_;refine t_sw 14 1 [bT] bT H rfl rfl Sz28 (Sl.cells (H.os 9)) rfl rfl (by simp only [List.all_cons,List.all_nil,Bool.true_and,Bool.and_true,Sl.oc (H.os 9)]; try rfl) ?_;intro ij H
    refine s_nil ⟨trivial,?_⟩
    refine sr_nil ?_
    exact ⟨al,aR,aS,cA,cz,aN,bA,[aO],aT,bf,bg,bT,bS,bR,aA++([aO]),_,upds_of _ _ ⟨rfl,rfl,rfl,rfl,rfl,rfl,rfl,rfl,rfl,rfl,trivial⟩,hM,(H.pk [0,1,3,2,4,5,6,7,8,9,10,11,12,13,14,15,16,17]),bz,bQ⟩
   skip
   refine t_bs (α:=Int) T28 [I stage] [(stage:Int)] H rfl (.cons rfl (Flat.rep_enc _ (stage:Int))<|.nil) rfl rfl rfl ?_;intro cB ik H
   have il:=Sl.cells (H.os 0)
   have im:=Sl.oc (H.os 0)
   have io:=Sl.cells (H.os 1)
   have iq:=Sl.oc (H.os 1)
   have ir:=Sl.cells (H.os 4)
   have iw:=Sl.oc (H.os 4)
   have iy:=Sl.cells (H.os 5)
   have iz:=Sl.oc (H.os 5)
   have iA:=Sl.cells (H.os 7)
   have iB:=Sl.oc (H.os 7)
   refine s_nil ⟨(H.pk [3,6,8,9,10,11,12]),?_⟩
   refine ts_l rfl ?_
   obtain ⟨bf,H⟩:=H.emptyE
   obtain ⟨bg,H,dO⟩:=H.freezeE (k:=2) rfl
   replace H:=H.nf
   have bD:=dO
   obtain ⟨aT,H,iC,dP⟩:=H.joinE (i:=0) (j:=2) rfl rfl
   replace bD:=bD.mono dP
   obtain ⟨a8,cC⟩:∃ r:Raw 1,r.cs=[I place,aK]:=⟨Raw.of [I place,aK] rfl (by simp only [List.all_cons,List.all_nil,Bool.true_and,Bool.and_true,Sl.oc bD]; try rfl),rfl⟩
   have cD:RepR (α:=Sect) aT.cells [a8] [(⟨(place:Int),l⟩:Sect)]:=.cons (by rw [cC]; exact ⟨_,rfl,bD⟩)<|.nil
   refine t_bs (α:=Raw 1) T23 [.agg #[I place,aK]] [a8] H rfl (.cons (by rw [show (Flat.enc a8:List Value)=a8.cs from rfl,cC]; rfl) (Flat.rep_enc _ _)<|.nil) rfl rfl rfl ?_;intro cE iD H;replace H:=H.nf
   have iE:=Sl.cells (H.os 0)
   have iF:=Sl.oc (H.os 0)
   refine s_nil ⟨(H.pk [6,9,11,12,13,14,15]),?_⟩
   refine ts_l rfl ?_;obtain ⟨iG,hM⟩:=M.e_gd hM
   have bE:=cD
   obtain ⟨aN,H,dQ,dR⟩:=H.joinE (i:=11) (j:=1) rfl rfl
   replace az:=az.mono dQ
   replace bE:=bE.mono dR
   have bU:=az.app bE
   refine t_app (α:=Raw 1) (k:=11) (l:=aA) (l2:=[a8]) (l':=aA++([a8])) (vy:=cE) T23 rfl H rfl rfl rfl (H.os 1) (H.ol 1) (rfl) (by have a_:=az.len; have b_:=bE.len; (try simp only [List.length_nil] at *); first | omega | (rw [a_,b_]; omega)) ?_;intro bV iH H;replace H:=H.nf
   have iI:=Sl.cells (H.os 11)
   have iJ:=Sl.oc (H.os 11)
   refine s_nil ⟨(H.pk [7,10,12,13,14,15,16]),?_⟩
   refine ts_q rfl (fun w' H=>x_fa (v:=Pq ap) rfl (fa_blk (o:=0) Fd27_0 Sz23)) ?_;refine ts_l rfl ?_;obtain ⟨iK,hM⟩:=M.e_gd hM;refine t_app (α:=Int) (k:=9) (l:=ag) (l2:=[(stage:Int)]) (l':=ag++([(stage:Int)])) (vy:=cB) T28 rfl H rfl rfl rfl (H.os 4) (H.ol 4) (rfl) (by first | omega | (simp only [List.length_nil] at *; omega)) ?_;intro bW iL H;replace H:=H.nf
   have iM:=Sl.cells (H.os 9)
   have iN:=Sl.oc (H.os 9)
   refine s_nil ⟨(H.pk [7,10,12,13,14,15,16]),?_⟩
   refine ts_l rfl ?_;obtain ⟨iO,dS,hM⟩:=M.e_bind hM;refine s_call cf11 [Pq ah,I 30,I 90] rfl (zai s_bytes s2 s3 30 90 (am.app _) ao dS _ ((H.pk [6,0,1,2,3,4,5,7,8,9,10,11,12,13,14,15,16]).gt 16)) ?_
   rintro vq iP ⟨al,aR,aS,rfl,hvq,aa⟩
   subst vq;(try dsimp only at hM)
   replace H:=H.pk [6,0,1,2,3,4,5,7,8,9,10,11,12,13,14,15,16] |>.bk aa
   clear aa
   refine s_nil ⟨(H.pk [7,10,12,13,14,15,16]),?_⟩
   refine ts_l rfl ?_;refine t_bs (α:=Int) T28 [I al] [(al:Int)] H rfl (.cons rfl (Flat.rep_enc _ (al:Int))<|.nil) rfl rfl rfl ?_;intro cF iQ H
   have iR:=Sl.cells (H.os 0)
   have iS:=Sl.oc (H.os 0)
   refine s_nil ⟨(H.pk [8,11,13,14,15,16,17]),?_⟩
   refine ts_l rfl ?_;obtain ⟨iT,hM⟩:=M.e_gd hM;refine t_app (α:=Int) (k:=9) (l:=ae) (l2:=[(al:Int)]) (l':=ae++([(al:Int)])) (vy:=cF) T28 rfl H rfl rfl rfl (H.os 0) (H.ol 0) (rfl) (by first | omega | (simp only [List.length_nil] at *; omega)) ?_;intro bX iU H;replace H:=H.nf
   have iV:=Sl.cells (H.os 9)
   have iW:=Sl.oc (H.os 9)
   refine s_nil ⟨(H.pk [8,11,13,14,15,16,17]),?_⟩
   refine ts_nil ?_;refine sr_l rfl ?_;refine t_sw 15 0 [bV] bV H rfl rfl Sz23 (Sl.cells (rowSl rfl (H.get (k:=12) rfl) (roLe _ (H.get (k:=2) rfl)) bU)) rfl rfl (by simp only [List.all_cons,List.all_nil,Bool.true_and,Bool.and_true,Sl.oc (rowSl rfl (H.get (k:=12) rfl) (roLe _ (H.get (k:=2) rfl)) bU)]; try rfl) ?_;intro iX H
   refine s_nil ⟨trivial,?_⟩
   refine sr_l rfl ?_;refine kg 1 ?_
   refine s_nil ⟨trivial,?_⟩
   refine sr_l rfl ?_;refine t_sw 14 0 [bW] bW H rfl rfl Sz28 (Sl.cells (H.os 10)) rfl rfl (by simp only [List.all_cons,List.all_nil,Bool.true_and,Bool.and_true,Sl.oc (H.os 10)]; try rfl) ?_;intro iY H
   refine s_nil ⟨trivial,?_⟩
   refine sr_l rfl ?_;refine kg 1 ?_
   refine s_nil ⟨trivial,?_⟩
   refine sr_l rfl ?_;refine t_sw 14 1 [bX] bX H rfl rfl Sz28 (Sl.cells (H.os 9)) rfl rfl (by simp only [List.all_cons,List.all_nil,Bool.true_and,Bool.and_true,Sl.oc (H.os 9)]; try rfl) ?_;intro iZ H
   refine s_nil ⟨trivial,?_⟩
   refine sr_nil ?_
   exact ⟨al,aR,aS,cF,cB,aN,cE,[a8],aT,bf,bg,bX,bW,bV,aA++([a8]),_,upds_of _ _ ⟨rfl,rfl,rfl,rfl,rfl,rfl,rfl,rfl,rfl,rfl,trivial⟩,hM,(H.pk [0,1,6,2,3,4,5,7,8,9,10,11,12,13,14,15,16,17]),cD,bU⟩
  rintro _ i0 ⟨al,aR,aS,cr,ct,aN,cv,bK,aT,bf,bg,aY,aZ,a7,bj,ρ,rfl,hM,H,i6,dT⟩
  unfold zcw at hM
  refine kg 4 ?_;obtain ⟨i7,dU,hM⟩:=M.e_bind hM;refine s_call cf10 [Pq ah,I 3] rfl (zac s_bytes aR aS 3 (am.app _) ao dU _ ((H.pk [1,0,2,3,4,5,6,7,8,9,10,11,12,13,14,15,16,17]).gt 17)) ?_
  rintro vq i8 ⟨dV,dW,dX,rfl,hvq,aa⟩
  subst vq;(try dsimp only at hM)
  replace H:=H.pk [1,0,2,3,4,5,6,7,8,9,10,11,12,13,14,15,16,17] |>.bk aa
  clear aa;refine kg 2 ?_;replace H:=H.pk [0,3,9,10,11,12,13,14,15,16,17];refine W.block ?_;obtain ⟨dY,bY,dZ⟩:=M.e_bind hM
  obtain ⟨bH,bY⟩:=M.e_iter bY
  refine W.loop (fun m σ W=>∃ (bp:Int) (br:Int) (k2:Int) (l7:List Mrk) (bm:Value) (ρ:Env),σ=upds ρ [(0,Pq ah),(1,I marks),(2,B lies),(6,Pq aD),(7,Pq aE),(8,Pq ap),(9,Pq ax),(10,I place),(11,I stage),(12,I n),(17,I k2)]/\M.iterN (zaO s_bytes marks lies place stage) m (bp,br,k2,l7)=some dY/\St w W [cBlk ah [aM,I bp,I br] 82,cRo aN,cOwn (α:=Int) 3 aY (ae++([(al:Int)])),cOwn (α:=Int) 3 aZ (ag++([(stage:Int)])),cOwn (α:=Mrk) 80 bm l7,cOwn (α:=Raw 1) 76 a7 bj,cRo B_l9,cBlk ax [aZ,aY] 30,cBlk ap [a7,bm,.slice none 0 0] 27,cBlk aE [.slice none 0 0,.slice none 0 0] 30,cBlk aD [.slice none 0 0,.slice none 0 0,.slice none 0 0] 27] R) ?_ ?_
  ·exact ⟨_,dW,dX,dV,aI,aJ,_,upds_of _ _ ⟨rfl,rfl,rfl,rfl,rfl,rfl,rfl,rfl,rfl,rfl,rfl,trivial⟩,bY,H⟩
  rintro i9 σ ja ⟨bp,br,k2,l7,bm,ρ,rfl,cG,H⟩
  obtain ⟨bZ,b6,jb,hM,bF⟩:=M.e_iterN cG
  simp only [zaO] at hM
  clear cG;refine kg 11 ?_;refine s_val (x_pand (b:=decide (0<k2)) (r:=decide ((l7.length:Int)<marks)) rfl (fun hb=>gd_of (c:=decide (0<k2)) (by first | exact hb | (rw [hb]; rfl) | simp_all) (B (decide ((l7.length:Int)<marks)))) rfl)<|s_nil ?_
  refine W.cond ((decide (0<k2))&&(decide ((l7.length:Int)<marks))) rfl (fun b7=>?_) (fun b7=>?_)
  ·replace hM:=M.e_t hM b7;refine kg 7 ?_;obtain ⟨jc,d4,hM⟩:=M.e_bind hM;refine s_call cf10 [Pq ah,I 2] rfl (zac s_bytes bp br 2 (am.app _) ao d4 _ (H.gt 10)) ?_
   rintro vq jd ⟨au,d5,d6,rfl,hvq,aa⟩
   subst vq;(try dsimp only at hM);replace H:=H.bk aa;clear aa;refine kg 1 ?_;obtain ⟨je,d7,hM⟩:=M.e_bind hM;refine s_call cf10 [Pq ah,I 20] rfl (zac s_bytes d5 d6 20 (am.app _) ao d7 _ (H.gt 10)) ?_
   rintro vq jf ⟨av,d8,d9,rfl,hvq,aa⟩
   subst vq;(try dsimp only at hM);replace H:=H.bk aa;clear aa;obtain ⟨jg,hM⟩:=M.e_gd hM;obtain ⟨jh,hM⟩:=M.e_gd hM;refine kg 4 ?_;obtain ⟨ji,ed,hM⟩:=M.e_bind hM;refine s_call cf10 [Pq ah,I 9] rfl (zac s_bytes d8 d9 9 (am.app _) ao ed _ (H.gt 10)) ?_
   rintro vq jj ⟨aB,ee,ef,rfl,hvq,aa⟩
   subst vq;(try dsimp only at hM);replace H:=H.bk aa;clear aa;obtain ⟨jk,hM⟩:=M.e_gd hM;refine kg 4 ?_;obtain ⟨jl,eg,hM⟩:=M.e_bind hM;refine s_call cf10 [Pq ah,I 9] rfl (zac s_bytes ee ef 9 (am.app _) ao eg _ (H.gt 10)) ?_
   rintro vq jm ⟨aC,cH,cI,rfl,hvq,aa⟩
   subst vq;(try dsimp only at hM);replace H:=H.bk aa;clear aa;obtain ⟨jn,hM⟩:=M.e_gd hM;refine kg 1 ?_;refine s_val (x_bld (ps:=[(0,I (max 0 (stage-aB))),(1,I (stage+aC))]) (zs:=[I 0,I 0]) (L':=[I (max 0 (stage-aB)),I (stage+aC)]) rfl Tryz.underlying36 Al36 rfl (Bd36 Tryz.underlying36) (.cons (cs:=[I (max 0 (stage-aB))]) rfl rfl rfl rfl rfl<|.cons (cs:=[I (stage+aC)]) rfl rfl rfl rfl rfl<|.nil))<|s_val (x_bld (ps:=[(0,I (place+(au*av))),(1,.agg #[I (max 0 (stage-aB)),I (stage+aC)])]) (zs:=[I 0,I 0,I 0]) (L':=[I (place+(au*av)),I (max 0 (stage-aB)),I (stage+aC)]) rfl Tryz.underlying80 Al80 rfl (Bd80 Tryz.underlying80) (.cons (cs:=[I (place+(au*av))]) rfl rfl rfl rfl rfl<|.cons (cs:=[I (max 0 (stage-aB)),I (stage+aC)]) rfl rfl rfl rfl rfl<|.nil)) ?_;refine t_alloc (cs:=[I 0,I 0,I 0]) H Al80 rfl ?_;intro bt jo H;refine t_sw 0 0 [I (place+(au*av)),I (max 0 (stage-aB)),I (stage+aC)] (.agg #[I (place+(au*av)),I (max 0 (stage-aB)),I (stage+aC)]) H rfl rfl Sz80 rfl rfl rfl rfl ?_;intro jp H;refine kg 7 ?_
   refine g_splitV lies (I 0) (gy_t rfl) (fun bu=>?_) (fun bu=>?_)
   ·replace hM:=M.e_t hM bu;obtain ⟨jq,ei,hM⟩:=M.e_bind hM;refine s_call cf10 [Pq ah,I 3] (lst2 (gd_of (c:=lies) bu (Pq ah)) rfl) (zac s_bytes cH cI 3 (am.app _) ao ei _ ((H.pk [1,0,2,3,4,5,6,7,8,9,10,11]).gt 11)) ?_
    rintro vq jr ⟨b8,cJ,cK,rfl,hvq,aa⟩
    subst vq;(try dsimp only at hM)
    replace H:=H.pk [1,0,2,3,4,5,6,7,8,9,10,11] |>.bk aa
    clear aa;refine kg 1 ?_;refine s_val (x_pand (b:=lies) (r:=b8==0) rfl (fun hb=>gd_of (c:=lies) (by first | exact hb | (rw [hb]; rfl) | simp_all) (B (b8==0))) rfl)<|s_nil ?_
    refine W.cond (lies&&(b8==0)) rfl (fun b9=>?_) (fun b9=>?_)
    ·replace hM:=M.e_t hM b9;refine kg 3 ?_;obtain ⟨js,ej,hM⟩:=M.e_bind hM;refine s_call cf11 [Pq ah,I 50,I 420] rfl (zai s_bytes cJ cK 50 420 (am.app _) ao ej _ (H.gt 11)) ?_
     rintro vq jt ⟨ay,em,eo,rfl,hvq,aa⟩
     subst vq;(try dsimp only at hM);replace H:=H.bk aa;clear aa;refine s_val (x_bld (ps:=[(0,I ay)]) (zs:=[I 0,I 0]) (L':=[I ay,I 0]) rfl Tryz.underlying36 Al36 rfl (Bd36 Tryz.underlying36) (.cons (cs:=[I ay]) rfl rfl rfl rfl rfl<|.nil)) ?_;refine kg 1 ?_;refine t_sw 1 1 [I ay,I 0] (.agg #[I ay,I 0]) H rfl rfl Sz36 rfl rfl rfl rfl ?_;intro ju H;refine s_nil ?_;refine W.drawTS (fun W=>St w W [cBlk bt [I (place+(au*av)),I ay,I 0] 80,cRo aN,cOwn (α:=Int) 3 aY (ae++([(al:Int)])),cOwn (α:=Int) 3 aZ (ag++([(stage:Int)])),cOwn (α:=Mrk) 80 bm l7,cOwn (α:=Raw 1) 76 a7 bj,cRo B_l9,cBlk ax [aZ,aY] 30,cBlk ap [a7,bm,.slice none 0 0] 27,cBlk aE [.slice none 0 0,.slice none 0 0] 30,cBlk aD [.slice none 0 0,.slice none 0 0,.slice none 0 0] 27] R) (.q 0 (.q 1 (.q 2 (.q 3 (.l 4 (.q 5 (.q 6 (.q 7 .nil)))))))) 8 [8] mixed (by decide +kernel) rfl ?_;intro jv aF;replace H:=H.ext aF;clear aF
     refine ⟨(H.pk [1,2,3,4,5,6,7,8,9,10,11]),?_⟩
     refine ts_q rfl (fun w' H=>x_fa (v:=Oq bt 1) rfl (fa_blk (o:=0) Fd80_1 Sz36)) ?_;refine ts_q rfl (fun w' H=>x_fa (v:=Oq bt 1) rfl (fa_blk (o:=1) Fd36_0 Sz3)) ?_;refine ts_q rfl (fun w' H=>x_ld (v:=I ay) rfl (ldb_sc Sc3 (H.bl 0) rfl)) ?_;refine ts_q rfl (fun w' H=>x_mv (v:=Pq ah) rfl) ?_;refine ts_l rfl ?_;obtain ⟨jw,ep,hM⟩:=M.e_bind hM;refine s_call cf10 [Pq ah,I 9] rfl (zac s_bytes em eo 9 (am.app _) ao ep _ (H.gt 11)) ?_
     rintro vq jx ⟨aV,eq,er,rfl,hvq,aa⟩
     subst vq;(try dsimp only at hM);replace H:=H.bk aa;clear aa
     refine s_nil ⟨(H.pk [1,2,3,4,5,6,7,8,9,10,11]),?_⟩
     obtain ⟨jy,hM⟩:=M.e_gd hM;refine ts_q rfl (fun w' H=>x_ari (r:=ay+aV) rfl rfl rfl (by omega)) ?_;refine ts_q rfl (fun w' H=>x_fa (v:=Oq bt 1) rfl (fa_blk (o:=0) Fd80_1 Sz36)) ?_;refine ts_q rfl (fun w' H=>x_fa (v:=Oq bt 2) rfl (fa_blk (o:=1) Fd36_1 Sz3)) ?_;refine ts_nil ?_;refine sr_l rfl ?_;refine t_sw 1 2 [I (ay+aV)] (I (ay+aV)) H rfl rfl Sz3 rfl rfl rfl rfl ?_;intro jz H
     refine s_nil ⟨trivial,?_⟩
     refine sr_nil ?_;refine kg 4 ?_;refine t_bs (α:=Mrk) T24 [.agg #[I (place+(au*av)),I ay,I (ay+aV)]] [(⟨(place+(au*av):Int),(ay:Int),(ay+aV:Int)⟩:Mrk)] H rfl (.cons rfl (Flat.rep_enc _ (⟨(place+(au*av):Int),(ay:Int),(ay+aV:Int)⟩:Mrk))<|.nil) rfl rfl rfl ?_;intro eu jA H;obtain ⟨jC,hM⟩:=M.e_gd hM;refine t_app (α:=Mrk) (k:=6) (l:=l7) (l2:=[(⟨(place+(au*av):Int),(ay:Int),(ay+aV:Int)⟩:Mrk)]) (l':=l7++([(⟨(place+(au*av):Int),(ay:Int),(ay+aV:Int)⟩:Mrk)])) (vy:=eu) T24 rfl H rfl rfl rfl (H.os 0) (H.ol 0) (rfl) (by first | omega | (simp only [List.length_nil] at *; omega)) ?_;intro cb jD H;replace H:=H.nf;refine kg 1 ?_;refine t_sw 10 1 [cb] cb H rfl rfl Sz24 (Sl.cells (H.os 6)) rfl rfl (by simp only [List.all_cons,List.all_nil,Bool.true_and,Bool.and_true,Sl.oc (H.os 6)]; try rfl) ?_;intro jF H;refine s_nil ?_;replace H:=H.pk [1,3,4,5,6,7,8,9,10,11,12];obtain ⟨jH,hM⟩:=M.e_gd hM;refine kg 5 ?_
     exact ⟨bZ,b6,eq,er,k2-1,l7++([(⟨(place+(au*av):Int),(ay:Int),(ay+aV:Int)⟩:Mrk)]),cb,_,upds_of _ _ ⟨rfl,rfl,rfl,rfl,rfl,rfl,rfl,rfl,rfl,rfl,rfl,trivial⟩,M.e_inl hM bF,H⟩
    replace hM:=M.e_f hM b9;refine kg 5 ?_;refine t_bs (α:=Mrk) T24 [.agg #[I (place+(au*av)),I (max 0 (stage-aB)),I (stage+aC)]] [(⟨(place+(au*av):Int),(max 0 (stage-aB):Int),(stage+aC:Int)⟩:Mrk)] H rfl (.cons rfl (Flat.rep_enc _ (⟨(place+(au*av):Int),(max 0 (stage-aB):Int),(stage+aC:Int)⟩:Mrk))<|.nil) rfl rfl rfl ?_;intro ew jI H;obtain ⟨jJ,hM⟩:=M.e_gd hM;refine t_app (α:=Mrk) (k:=6) (l:=l7) (l2:=[(⟨(place+(au*av):Int),(max 0 (stage-aB):Int),(stage+aC:Int)⟩:Mrk)]) (l':=l7++([(⟨(place+(au*av):Int),(max 0 (stage-aB):Int),(stage+aC:Int)⟩:Mrk)])) (vy:=ew) T24 rfl H rfl rfl rfl (H.os 0) (H.ol 0) (rfl) (by first | omega | (simp only [List.length_nil] at *; omega)) ?_;intro cc jK H;replace H:=H.nf;refine kg 1 ?_;refine t_sw 10 1 [cc] cc H rfl rfl Sz24 (Sl.cells (H.os 6)) rfl rfl (by simp only [List.all_cons,List.all_nil,Bool.true_and,Bool.and_true,Sl.oc (H.os 6)]; try rfl) ?_;intro jM H;refine s_nil ?_;replace H:=H.pk [1,3,4,5,6,7,8,9,10,11,12];obtain ⟨jN,hM⟩:=M.e_gd hM;refine kg 5 ?_
    exact ⟨bZ,b6,cJ,cK,k2-1,l7++([(⟨(place+(au*av):Int),(max 0 (stage-aB):Int),(stage+aC:Int)⟩:Mrk)]),cc,_,upds_of _ _ ⟨rfl,rfl,rfl,rfl,rfl,rfl,rfl,rfl,rfl,rfl,rfl,trivial⟩,M.e_inl hM bF,H⟩
   replace hM:=M.e_f hM bu;refine g_val (v:=B false) lies (gy_t rfl) (fun hg=>Bool.noConfusion (bu.symm.trans hg))<|s_val (x_pand0 (b:=lies) rfl (fun hb=>gd_of (c:=lies) (by first | exact hb | (rw [hb]; rfl) | simp_all) (B false)) rfl)<|s_nil ?_
   refine W.cond false rfl (fun cL=>?_) (fun cL=>?_)
   ·skip
    exact absurd cL (by decide)
   skip
   refine kg 5 ?_;refine t_bs (α:=Mrk) T24 [.agg #[I (place+(au*av)),I (max 0 (stage-aB)),I (stage+aC)]] [(⟨(place+(au*av):Int),(max 0 (stage-aB):Int),(stage+aC:Int)⟩:Mrk)] H rfl (.cons rfl (Flat.rep_enc _ (⟨(place+(au*av):Int),(max 0 (stage-aB):Int),(stage+aC:Int)⟩:Mrk))<|.nil) rfl rfl rfl ?_;intro ey jP H;obtain ⟨jQ,hM⟩:=M.e_gd hM;refine t_app (α:=Mrk) (k:=6) (l:=l7) (l2:=[(⟨(place+(au*av):Int),(max 0 (stage-aB):Int),(stage+aC:Int)⟩:Mrk)]) (l':=l7++([(⟨(place+(au*av):Int),(max 0 (stage-aB):Int),(stage+aC:Int)⟩:Mrk)])) (vy:=ey) T24 rfl H rfl rfl rfl (H.os 0) (H.ol 0) (rfl) (by first | omega | (simp only [List.length_nil] at *; omega)) ?_;intro ce jR H;replace H:=H.nf;refine kg 1 ?_;refine t_sw 10 1 [ce] ce H rfl rfl Sz24 (Sl.cells (H.os 6)) rfl rfl (by simp only [List.all_cons,List.all_nil,Bool.true_and,Bool.and_true,Sl.oc (H.os 6)]; try rfl) ?_;intro jT H;refine s_nil ?_;replace H:=H.pk [2,3,4,5,6,7,8,9,10,11,12];obtain ⟨jW,hM⟩:=M.e_gd hM;refine kg 5 ?_
   exact ⟨bZ,b6,cH,cI,k2-1,l7++([(⟨(place+(au*av):Int),(max 0 (stage-aB):Int),(stage+aC:Int)⟩:Mrk)]),ce,_,upds_of _ _ ⟨rfl,rfl,rfl,rfl,rfl,rfl,rfl,rfl,rfl,rfl,rfl,trivial⟩,M.e_inl hM bF,H⟩
  replace hM:=M.e_f hM b7;refine W.exit ?_
  have ez:=M.e_inr hM bF
  subst ez;replace hM:=dZ;(try dsimp only at hM);refine kg 3 ?_;obtain ⟨jX,eA,hM⟩:=M.e_bind hM;refine s_call cf11 [Pq ah,I 21,I 200] rfl (zai s_bytes bp br 21 200 (am.app _) ao eA _ (H.gt 10)) ?_
  rintro vq jY ⟨eB,eC,eD,rfl,hvq,aa⟩
  subst vq;(try dsimp only at hM);replace H:=H.bk aa;clear aa;obtain ⟨jZ,hM⟩:=M.e_gd hM;refine kg 3 ?_;obtain ⟨j0,eE,hM⟩:=M.e_bind hM;refine s_call cf10 [Pq ah,I 20] rfl (zac s_bytes eC eD 20 (am.app _) ao eE _ (H.gt 10)) ?_
  rintro vq j6 ⟨eF,eG,eH,rfl,hvq,aa⟩
  subst vq;(try dsimp only at hM);replace H:=H.bk aa;clear aa;obtain ⟨j7,hM⟩:=M.e_gd hM;obtain ⟨j8,hM⟩:=M.e_gd hM;refine kg 9 ?_
  exact ⟨da,db,eG,eH,place+eB,stage-eF,n-1,l9++([(⟨(place:Int),l⟩:Sect)]),l7,ag++([(stage:Int)]),ae++([(al:Int)]),a7,bm,aZ,aY,bj,aN,_,upds_of _ _ ⟨rfl,rfl,rfl,rfl,rfl,rfl,rfl,rfl,rfl,rfl,trivial⟩,M.e_inl hM co,(H.pk [2,3,4,5,1,0,7,8,9,10]),dT⟩
 replace hM:=M.e_f hM bb
 replace bb:=dI bb
 refine W.exit ?_
 have eI:=M.e_inr hM co
 subst eI;replace hM:=c9;(try dsimp only at hM);refine W.seqJ (fun σ W=>∃ (ba:List Mrk) (aG:Value) (ρ:Env),σ=upds ρ [(0,Pq ah),(6,Pq aD),(7,Pq aE),(8,Pq ap),(9,Pq ax)]/\(zaB s_bytes aW aX ae ag l9 ba).Ends r/\St w W [cOwn (α:=Int) 3 aq ae,cOwn (α:=Int) 3 ak ag,cOwn (α:=Mrk) 80 aG ba,cOwn (α:=Raw 1) 76 aj aA,cRo B_l9,cBlk ah [aM,I aW,I aX] 82,cBlk ax [ak,aq] 30,cBlk ap [aj,aG,.slice none 0 0] 27,cBlk aE [.slice none 0 0,.slice none 0 0] 30,cBlk aD [.slice none 0 0,.slice none 0 0,.slice none 0 0] 27] R) ?_ ?_
 ·skip
  have j9:=((H.os 2)).len_le
  refine kg 7 ?_
  refine W.cond ((aI.length:Int)==0) rfl (fun bh=>?_) (fun bh=>?_)
  ·replace hM:=M.e_t hM bh
   replace bh:=dI bh
   refine W.drawTS (fun W=>St w W [cOwn (α:=Int) 3 aq ae,cOwn (α:=Int) 3 ak ag,cOwn (α:=Raw 1) 76 aj aA,cRo B_l9,cBlk ah [aM,I aW,I aX] 82,cBlk ax [ak,aq] 30,cBlk ap [aj,aJ,.slice none 0 0] 27,cBlk aE [.slice none 0 0,.slice none 0 0] 30,cBlk aD [.slice none 0 0,.slice none 0 0,.slice none 0 0] 27] R) (.q 0 (.q 1 (.q 2 (.q 3 (.q 4 (.q 5 (.q 6 (.q 7 (.q 8 (.q 9 (.q 10 (.q 11 (.q 12 (.q 13 (.q 14 (.q 15 (.q 16 (.q 17 (.q 18 (.l 19 (.l 20 (.q 21 .nil)))))))))))))))))))))) 22 [22] mixed (by decide +kernel) rfl ?_;intro ka aF;replace H:=H.ext aF;clear aF
   refine ⟨(H.pk [0,1,3,4,5,6,7,8,9]),?_⟩
   refine ts_q rfl (fun w' H=>x_fa (v:=Oq ap 1) rfl (fa_blk (o:=0) Fd27_1 Sz24)) ?_;refine ts_q rfl (fun w' H=>x_ld (v:=aJ) rfl (ldb_sc Sc24 (H.bl 6) rfl)) ?_;refine ts_q rfl (fun w' H=>x_fa (v:=Pq ap) rfl (fa_blk (o:=0) Fd27_0 Sz23)) ?_;refine ts_q rfl (fun w' H=>x_ld (v:=aj) rfl (ldb_sc Sc23 (H.bl 6) rfl)) ?_;obtain ⟨kb,hM⟩:=M.e_gd hM;refine ts_q rfl (fun w' H=>x_ix (v:=vat aj 2 (Int.toNat 0)) rfl rfl (Sl.ix (α:=Sect) T23.und T23.size (rowSl rfl (H.get (k:=2) rfl) (roLe _ (H.get (k:=3) rfl)) az) (by omega) (by omega))) ?_;refine ts_q rfl (fun w' H=>x_fa (v:=fat (vat aj 2 (Int.toNat 0)) 0) rfl (fa_pl Fd76_0 Sz3 (Sl.pl (i:=0) (rowSl rfl (H.get (k:=2) rfl) (roLe _ (H.get (k:=3) rfl)) az) (by omega) (by omega)))) ?_;refine ts_q rfl (fun w' H=>x_ld (v:=I ((l9.getD 0 default).place)) rfl (ld_sc Sc3 (At.mono (Sect_at0 (rowSl rfl (H.get (k:=2) rfl) (roLe _ (H.get (k:=3) rfl)) az) (i:=0) (by omega) (by omega)) (Cells.sup_le (H.ol 2) (roLe _ (H.get (k:=3) rfl)))))) ?_;refine ts_q rfl (fun w' H=>x_fa (v:=Pq ax) rfl (fa_blk (o:=0) Fd30_0 Sz28)) ?_;refine ts_q rfl (fun w' H=>x_ld (v:=ak) rfl (ldb_sc Sc28 (H.bl 5) rfl)) ?_;obtain ⟨ke,hM⟩:=M.e_gd hM;refine ts_q rfl (fun w' H=>x_ix (v:=vat ak 1 (Int.toNat 0)) rfl rfl (Sl.ix (α:=Int) T28.und T28.size (H.os 1) (by omega) (by omega))) ?_;refine ts_q rfl (fun w' H=>x_ld (v:=I (ag.getD 0 0)) rfl (ld_sc Sc3 (At.mono (Int_at (H.os 1) (i:=0) (by omega) (by omega)) (H.ol 1)))) ?_;obtain ⟨kh,hM⟩:=M.e_gd hM;refine ts_q rfl (fun w' H=>x_ari (r:=(ag.getD 0 0)-5) rfl rfl rfl (by omega)) ?_;refine ts_q rfl (fun w' H=>x_fa (v:=Pq ax) rfl (fa_blk (o:=0) Fd30_0 Sz28)) ?_;refine ts_q rfl (fun w' H=>x_ld (v:=ak) rfl (ldb_sc Sc28 (H.bl 5) rfl)) ?_;refine ts_q rfl (fun w' H=>x_ix (v:=vat ak 1 (Int.toNat 0)) rfl rfl (Sl.ix (α:=Int) T28.und T28.size (H.os 1) (by omega) (by omega))) ?_;refine ts_q rfl (fun w' H=>x_ld (v:=I (ag.getD 0 0)) rfl (ld_sc Sc3 (At.mono (Int_at (H.os 1) (i:=0) (by omega) (by omega)) (H.ol 1)))) ?_;obtain ⟨ki,hM⟩:=M.e_gd hM;refine ts_q rfl (fun w' H=>x_ari (r:=(ag.getD 0 0)+5) rfl rfl rfl (by omega)) ?_;refine ts_q rfl (fun w' H=>x_bld (ps:=[(0,I ((ag.getD 0 0)-5)),(1,I ((ag.getD 0 0)+5))]) (zs:=[I 0,I 0]) (L':=[I ((ag.getD 0 0)-5),I ((ag.getD 0 0)+5)]) rfl Tryz.underlying36 Al36 rfl (Bd36 Tryz.underlying36) (.cons (cs:=[I ((ag.getD 0 0)-5)]) rfl rfl rfl rfl rfl<|.cons (cs:=[I ((ag.getD 0 0)+5)]) rfl rfl rfl rfl rfl<|.nil)) ?_;refine ts_q rfl (fun w' H=>x_bld (ps:=[(0,I ((l9.getD 0 default).place)),(1,.agg #[I ((ag.getD 0 0)-5),I ((ag.getD 0 0)+5)])]) (zs:=[I 0,I 0,I 0]) (L':=[I ((l9.getD 0 default).place),I ((ag.getD 0 0)-5),I ((ag.getD 0 0)+5)]) rfl Tryz.underlying80 Al80 rfl (Bd80 Tryz.underlying80) (.cons (cs:=[I ((l9.getD 0 default).place)]) rfl rfl rfl rfl rfl<|.cons (cs:=[I ((ag.getD 0 0)-5),I ((ag.getD 0 0)+5)]) rfl rfl rfl rfl rfl<|.nil)) ?_;refine ts_l rfl ?_;refine t_bs (α:=Mrk) T24 [.agg #[I ((l9.getD 0 default).place),I ((ag.getD 0 0)-5),I ((ag.getD 0 0)+5)]] [(⟨((l9.getD 0 default).place:Int),((ag.getD 0 0)-5:Int),((ag.getD 0 0)+5:Int)⟩:Mrk)] H rfl (.cons rfl (Flat.rep_enc _ (⟨((l9.getD 0 default).place:Int),((ag.getD 0 0)-5:Int),((ag.getD 0 0)+5:Int)⟩:Mrk))<|.nil) rfl rfl rfl ?_;intro eJ kj H
   have km:=Sl.cells (H.os 0)
   have kn:=Sl.oc (H.os 0)
   have ko:=Sl.cells (H.os 3)
   have kq:=Sl.oc (H.os 3)
   refine s_nil ⟨(H.pk [1,2,4,5,6,7,8,9,10]),?_⟩
   refine ts_l rfl ?_;obtain ⟨kr,hM⟩:=M.e_gd hM;refine t_app (α:=Mrk) (k:=3) (l:=aI) (l2:=[(⟨((l9.getD 0 default).place:Int),((ag.getD 0 0)-5:Int),((ag.getD 0 0)+5:Int)⟩:Mrk)]) (l':=aI++([(⟨((l9.getD 0 default).place:Int),((ag.getD 0 0)-5:Int),((ag.getD 0 0)+5:Int)⟩:Mrk)])) (vy:=eJ) T24 rfl H rfl rfl rfl (H.os 0) (H.ol 0) (rfl) (by first | omega | (simp only [List.length_nil] at *; omega)) ?_;intro cf ku H;replace H:=H.nf
   have kv:=Sl.cells (H.os 3)
   have kw:=Sl.oc (H.os 3)
   refine s_nil ⟨(H.pk [1,2,4,5,6,7,8,9,10]),?_⟩
   refine ts_q rfl (fun w' H=>x_fa (v:=Oq ap 1) rfl (fa_blk (o:=0) Fd27_1 Sz24)) ?_;refine ts_nil ?_;refine sr_l rfl ?_;refine t_sw 8 1 [cf] cf H rfl rfl Sz24 (Sl.cells (H.os 3)) rfl rfl (by simp only [List.all_cons,List.all_nil,Bool.true_and,Bool.and_true,Sl.oc (H.os 3)]; try rfl) ?_;intro ky H
   refine s_nil ⟨trivial,?_⟩
   refine sr_nil ?_
   exact ⟨aI++([(⟨((l9.getD 0 default).place:Int),((ag.getD 0 0)-5:Int),((ag.getD 0 0)+5:Int)⟩:Mrk)]),cf,_,upds_of _ _ ⟨rfl,rfl,rfl,rfl,rfl,trivial⟩,hM,(H.pk [1,2,3,4,5,6,7,8,9,10])⟩
  replace hM:=M.e_f hM bh
  replace bh:=dI bh
  refine W.skip ?_
  exact ⟨aI,aJ,_,upds_of _ _ ⟨rfl,rfl,rfl,rfl,rfl,trivial⟩,hM,H⟩
 rintro _ kz ⟨ba,aG,ρ,rfl,hM,H⟩
 unfold zaB at hM
 refine kg 4 ?_;obtain ⟨kA,eK,hM⟩:=M.e_bind hM;refine s_call cf11 [Pq ah,I 1,I 4] rfl (zai s_bytes aW aX 1 4 (am.app _) ao eK _ ((H.pk [5,0,1,2,3,4,6,7,8,9]).gt 9)) ?_
 rintro vq kB ⟨eL,eM,eN,rfl,hvq,aa⟩
 subst vq;(try dsimp only at hM)
 replace H:=H.pk [5,0,1,2,3,4,6,7,8,9] |>.bk aa
 clear aa;refine kg 3 ?_
 replace H:=H.nilOwn (α:=Rch) 38
 obtain ⟨eO,cg,eP⟩:=M.e_bind hM
 obtain ⟨bH,cg⟩:=M.e_iter cg
 refine W.loop (fun m σ W=>∃ (bn:Int) (bo:Int) (n2:Int) (aU:List Rch) (aH:Value) (ρ:Env),σ=upds ρ [(0,Pq ah),(6,Pq aD),(7,Pq aE),(8,Pq ap),(9,Pq ax),(19,I n2)]/\M.iterN (zaU s_bytes ae l9) m (bn,bo,n2,aU)=some eO/\St w W [cOwn (α:=Rch) 38 aH aU,cBlk ah [aM,I bn,I bo] 82,cOwn (α:=Int) 3 aq ae,cOwn (α:=Int) 3 ak ag,cOwn (α:=Mrk) 80 aG ba,cOwn (α:=Raw 1) 76 aj aA,cRo B_l9,cBlk ax [ak,aq] 30,cBlk ap [aj,aG,aH] 27,cBlk aE [.slice none 0 0,.slice none 0 0] 30,cBlk aD [.slice none 0 0,.slice none 0 0,.slice none 0 0] 27] R) ?_ ?_
 ·exact ⟨_,eM,eN,eL,[],(.slice none 0 0),_,upds_of _ _ ⟨rfl,rfl,rfl,rfl,rfl,rfl,trivial⟩,cg,H⟩
 rintro kC σ kD ⟨bn,bo,n2,aU,aH,ρ,rfl,cM,H⟩
 obtain ⟨eQ,eR,kE,hM,cN⟩:=M.e_iterN cM
 simp only [zaU] at hM
 clear cM;refine kg 6 ?_
 refine W.cond (decide (0<n2)) rfl (fun bi=>?_) (fun bi=>?_)
 ·replace hM:=M.e_t hM bi
  replace bi:=dI bi
  have kF:=((rowSl rfl (H.get (k:=5) rfl) (roLe _ (H.get (k:=6) rfl)) az)).len_le
  refine kg 8 ?_;refine s_val (x_lenS T23.und rfl (rowSl rfl (H.get (k:=5) rfl) (roLe _ (H.get (k:=6) rfl)) az)) ?_;refine kg 1 ?_;obtain ⟨kG,eS,hM⟩:=M.e_bind hM;refine s_call cf10 [Pq ah,I ((l9.length:Int)-1)] rfl (zac s_bytes bn bo ((l9.length:Int)-1) (am.app _) ao eS _ ((H.pk [1,0,2,3,4,5,6,7,8,9,10]).gt 10)) ?_
  rintro vq kH ⟨ac,eT,eU,rfl,hvq,aa⟩
  subst vq;(try dsimp only at hM)
  replace H:=H.pk [1,0,2,3,4,5,6,7,8,9,10] |>.bk aa
  clear aa;refine kg 1 ?_;obtain ⟨kI,eV,hM⟩:=M.e_bind hM;refine s_call cf10 [Pq ah,I 4] rfl (zac s_bytes eT eU 4 (am.app _) ao eV _ (H.gt 10)) ?_
  rintro vq kJ ⟨aL,eW,eX,rfl,hvq,aa⟩
  subst vq;(try dsimp only at hM);replace H:=H.bk aa;clear aa;refine kg 1 ?_;refine s_val (x_bld (ps:=[(0,I ac),(3,B (aL==0))]) (zs:=[I 0,I 0,I 0,I 0,B false]) (L':=[I ac,I 0,I 0,I 0,B (aL==0)]) rfl Tryz.underlying38 Al38 rfl (Bd38 Tryz.underlying38) (.cons (cs:=[I ac]) rfl rfl rfl rfl rfl<|.cons (cs:=[B (aL==0)]) rfl rfl rfl rfl rfl<|.nil)) ?_;refine t_alloc (cs:=[I 0,I 0,I 0,I 0,B false]) H Al38 rfl ?_;intro bv kK H;refine t_sw 0 0 [I ac,I 0,I 0,I 0,B (aL==0)] (.agg #[I ac,I 0,I 0,I 0,B (aL==0)]) H rfl rfl Sz38 rfl rfl rfl rfl ?_;intro kL H;refine kg 2 ?_;refine W.drawTS (fun W=>St w W [cBlk bv [I ac,I 0,I 0,I 0,B (aL==0)] 38,cOwn (α:=Rch) 38 aH aU,cOwn (α:=Int) 3 aq ae,cOwn (α:=Int) 3 ak ag,cOwn (α:=Mrk) 80 aG ba,cOwn (α:=Raw 1) 76 aj aA,cRo B_l9,cBlk ax [ak,aq] 30,cBlk ap [aj,aG,aH] 27,cBlk aE [.slice none 0 0,.slice none 0 0] 30,cBlk aD [.slice none 0 0,.slice none 0 0,.slice none 0 0] 27] R) (.q 0 (.q 1 (.q 2 (.q 3 (.q 4 (.q 5 (.q 6 (.q 7 (.q 8 (.q 9 (.l 10 (.q 11 (.q 12 .nil))))))))))))) 13 [13] mixed (by decide +kernel) rfl ?_;intro kM aF;replace H:=H.ext aF;clear aF
  refine ⟨(H.pk [0,2,3,4,5,6,7,8,9,10,11]),?_⟩
  refine ts_q rfl (fun w' H=>x_fa (v:=Pq bv) rfl (fa_blk (o:=0) Fd38_0 Sz3)) ?_;refine ts_q rfl (fun w' H=>x_ld (v:=I ac) rfl (ldb_sc Sc3 (H.bl 0) rfl)) ?_;refine ts_q rfl (fun w' H=>x_mv (v:=Pq ah) rfl) ?_;refine ts_q rfl (fun w' H=>x_fa (v:=Pq ap) rfl (fa_blk (o:=0) Fd27_0 Sz23)) ?_;refine ts_q rfl (fun w' H=>x_ld (v:=aj) rfl (ldb_sc Sc23 (H.bl 8) rfl)) ?_
  have kN:=((rowSl rfl (H.get (k:=6) rfl) (roLe _ (H.get (k:=7) rfl)) az)).len_le
  refine ts_q rfl (fun w' H=>x_lenS T23.und rfl (rowSl rfl (H.get (k:=5) rfl) (roLe _ (H.get (k:=6) rfl)) az)) ?_;refine ts_q rfl (fun w' H=>x_ari (r:=(l9.length:Int)-1) rfl rfl rfl (by omega)) ?_;refine ts_q rfl (fun w' H=>x_fa (v:=Pq bv) rfl (fa_blk (o:=0) Fd38_0 Sz3)) ?_;refine ts_q rfl (fun w' H=>x_ld (v:=I ac) rfl (ldb_sc Sc3 (H.bl 0) rfl)) ?_;obtain ⟨kO,hM⟩:=M.e_gd hM;refine ts_q rfl (fun w' H=>x_ari (r:=((l9.length:Int)-1)-ac) rfl rfl rfl (by omega)) ?_;refine ts_l rfl ?_;obtain ⟨kP,eY,hM⟩:=M.e_bind hM;refine s_call cf11 [Pq ah,I 1,I (((l9.length:Int)-1)-ac)] rfl (zai s_bytes eW eX 1 (((l9.length:Int)-1)-ac) (am.app _) ao eY _ ((H.pk [1,0,2,3,4,5,6,7,8,9,10,11]).gt 11)) ?_
  rintro vq kQ ⟨ai,cO,cQ,rfl,hvq,aa⟩
  subst vq;(try dsimp only at hM)
  replace H:=H.pk [1,0,2,3,4,5,6,7,8,9,10,11] |>.bk aa
  clear aa
  refine s_nil ⟨(H.pk [1,2,3,4,5,6,7,8,9,10,11]),?_⟩
  obtain ⟨kR,hM⟩:=M.e_gd hM;refine ts_q rfl (fun w' H=>x_ari (r:=ac+ai) rfl rfl rfl (by omega)) ?_;refine ts_q rfl (fun w' H=>x_fa (v:=Oq bv 1) rfl (fa_blk (o:=0) Fd38_1 Sz3)) ?_;refine ts_nil ?_;refine sr_l rfl ?_;refine t_sw 1 1 [I (ac+ai)] (I (ac+ai)) H rfl rfl Sz3 rfl rfl rfl rfl ?_;intro kS H
  refine s_nil ⟨trivial,?_⟩
  refine sr_nil<|W.seq ?_;refine W.draw (fun W=>St w W [cBlk ah [aM,I cO,I cQ] 82,cBlk bv [I ac,I (ac+ai),I 0,I 0,B (aL==0)] 38,cOwn (α:=Rch) 38 aH aU,cOwn (α:=Int) 3 aq ae,cOwn (α:=Int) 3 ak ag,cOwn (α:=Mrk) 80 aG ba,cOwn (α:=Raw 1) 76 aj aA,cRo B_l9,cBlk ax [ak,aq] 30,cBlk ap [aj,aG,aH] 27,cBlk aE [.slice none 0 0,.slice none 0 0] 30,cBlk aD [.slice none 0 0,.slice none 0 0,.slice none 0 0] 27] R) [(0,true),(1,true),(2,true),(3,true),(4,true),(5,true),(6,true),(7,true),(8,true),(9,true),(10,true),(11,true),(12,true),(13,true)] mixed (by decide +kernel) rfl ?_;intro kT aF;replace H:=H.ext aF;clear aF
  refine ⟨(H.pk [0,1,2,3,4,5,6,7,8,9,10,11]),?_⟩
  obtain ⟨kU,hM⟩:=M.e_gd hM;obtain ⟨kV,hM⟩:=M.e_gd hM;refine kg 21 ?_;obtain ⟨kW,eZ,hM⟩:=M.e_bind hM;refine s_call cf10 [Pq ah,I 8] rfl (zac s_bytes cO cQ 8 (am.app _) ao eZ _ (H.gt 11)) ?_
  rintro vq kX ⟨aP,e6,e7,rfl,hvq,aa⟩
  subst vq;(try dsimp only at hM);replace H:=H.bk aa;clear aa;obtain ⟨kY,hM⟩:=M.e_gd hM;refine kg 5 ?_;obtain ⟨kZ,e8,hM⟩:=M.e_bind hM;refine s_call cf10 [Pq ah,I 8] rfl (zac s_bytes e6 e7 8 (am.app _) ao e8 _ (H.gt 11)) ?_
  rintro vq la ⟨aQ,e9,fd,rfl,hvq,aa⟩
  subst vq;(try dsimp only at hM);replace H:=H.bk aa;clear aa;obtain ⟨lb,hM⟩:=M.e_gd hM;refine kg 1 ?_;refine s_val (x_bld (ps:=[(0,I ((min (ae.getD (Int.toNat ac) 0) (ae.getD (Int.toNat (ac+ai)) 0))-aP)),(1,I ((max (ae.getD (Int.toNat ac) 0) (ae.getD (Int.toNat (ac+ai)) 0))+aQ))]) (zs:=[I 0,I 0]) (L':=[I ((min (ae.getD (Int.toNat ac) 0) (ae.getD (Int.toNat (ac+ai)) 0))-aP),I ((max (ae.getD (Int.toNat ac) 0) (ae.getD (Int.toNat (ac+ai)) 0))+aQ)]) rfl Tryz.underlying36 Al36 rfl (Bd36 Tryz.underlying36) (.cons (cs:=[I ((min (ae.getD (Int.toNat ac) 0) (ae.getD (Int.toNat (ac+ai)) 0))-aP)]) rfl rfl rfl rfl rfl<|.cons (cs:=[I ((max (ae.getD (Int.toNat ac) 0) (ae.getD (Int.toNat (ac+ai)) 0))+aQ)]) rfl rfl rfl rfl rfl<|.nil)) ?_;refine kg 1 ?_;refine t_sw 1 2 [I ((min (ae.getD (Int.toNat ac) 0) (ae.getD (Int.toNat (ac+ai)) 0))-aP),I ((max (ae.getD (Int.toNat ac) 0) (ae.getD (Int.toNat (ac+ai)) 0))+aQ)] (.agg #[I ((min (ae.getD (Int.toNat ac) 0) (ae.getD (Int.toNat (ac+ai)) 0))-aP),I ((max (ae.getD (Int.toNat ac) 0) (ae.getD (Int.toNat (ac+ai)) 0))+aQ)]) H rfl rfl Sz36 rfl rfl rfl rfl ?_;intro ld H;refine kg 5 ?_;refine t_bs (α:=Rch) T25 [.agg #[I ac,I (ac+ai),I ((min (ae.getD (Int.toNat ac) 0) (ae.getD (Int.toNat (ac+ai)) 0))-aP),I ((max (ae.getD (Int.toNat ac) 0) (ae.getD (Int.toNat (ac+ai)) 0))+aQ),B (aL==0)]] [(⟨(ac:Int),(ac+ai:Int),((min (ae.getD (Int.toNat ac) 0) (ae.getD (Int.toNat (ac+ai)) 0))-aP:Int),((max (ae.getD (Int.toNat ac) 0) (ae.getD (Int.toNat (ac+ai)) 0))+aQ:Int),(aL==0)⟩:Rch)] H rfl (.cons rfl (Flat.rep_enc _ (⟨(ac:Int),(ac+ai:Int),((min (ae.getD (Int.toNat ac) 0) (ae.getD (Int.toNat (ac+ai)) 0))-aP:Int),((max (ae.getD (Int.toNat ac) 0) (ae.getD (Int.toNat (ac+ai)) 0))+aQ:Int),(aL==0)⟩:Rch))<|.nil) rfl rfl rfl ?_;intro fg lf H;obtain ⟨lg,hM⟩:=M.e_gd hM;refine t_app (α:=Rch) (k:=3) (l:=aU) (l2:=[(⟨(ac:Int),(ac+ai:Int),((min (ae.getD (Int.toNat ac) 0) (ae.getD (Int.toNat (ac+ai)) 0))-aP:Int),((max (ae.getD (Int.toNat ac) 0) (ae.getD (Int.toNat (ac+ai)) 0))+aQ:Int),(aL==0)⟩:Rch)]) (l':=aU++([(⟨(ac:Int),(ac+ai:Int),((min (ae.getD (Int.toNat ac) 0) (ae.getD (Int.toNat (ac+ai)) 0))-aP:Int),((max (ae.getD (Int.toNat ac) 0) (ae.getD (Int.toNat (ac+ai)) 0))+aQ:Int),(aL==0)⟩:Rch)])) (vy:=fg) T25 rfl H rfl rfl rfl (H.os 0) (H.ol 0) (rfl) (by first | omega | (simp only [List.length_nil] at *; omega)) ?_;intro ch li H;replace H:=H.nf;refine kg 1 ?_;refine t_sw 10 2 [ch] ch H rfl rfl Sz25 (Sl.cells (H.os 3)) rfl rfl (by simp only [List.all_cons,List.all_nil,Bool.true_and,Bool.and_true,Sl.oc (H.os 3)]; try rfl) ?_;intro lj H;refine s_nil ?_;replace H:=H.pk [1,3,4,5,6,7,8,9,10,11,12];obtain ⟨lk,hM⟩:=M.e_gd hM;refine kg 5 ?_
  exact ⟨eQ,eR,e9,fd,n2-1,aU++([(⟨(ac:Int),(ac+ai:Int),((min (ae.getD (Int.toNat ac) 0) (ae.getD (Int.toNat (ac+ai)) 0))-aP:Int),((max (ae.getD (Int.toNat ac) 0) (ae.getD (Int.toNat (ac+ai)) 0))+aQ:Int),(aL==0)⟩:Rch)]),ch,_,upds_of _ _ ⟨rfl,rfl,rfl,rfl,rfl,rfl,trivial⟩,M.e_inl hM cN,(H.pk [1,0,2,3,4,5,6,7,8,9,10])⟩
 replace hM:=M.e_f hM bi
 replace bi:=dI bi
 refine W.exit ?_
 have fh:=M.e_inr hM cN
 subst fh;replace hM:=eP;(try dsimp only at hM);refine W.seq ?_;refine W.draw (fun W=>St w W [cOwn (α:=Rch) 38 aH aU,cBlk ah [aM,I bn,I bo] 82,cOwn (α:=Int) 3 aq ae,cOwn (α:=Int) 3 ak ag,cOwn (α:=Mrk) 80 aG ba,cOwn (α:=Raw 1) 76 aj aA,cRo B_l9,cBlk ax [ak,aq] 30,cBlk ap [aj,aG,aH] 27] R) [(0,true),(1,true),(2,false),(3,false)] mixed (by decide +kernel) rfl ?_;intro ll aF;replace H:=H.ext aF;clear aF
 refine ⟨(H.pk [0,1,2,3,4,5,6,7,8]),?_⟩
 refine kg 2 ?_;refine d_l rfl ?_;refine t_sw 10 0 [aj,aG,aH] (.agg #[aj,aG,aH]) H rfl rfl Sz27 rfl rfl rfl (by simp only [List.all_cons,List.all_nil,Bool.true_and,Bool.and_true,Sl.oc (rowSl rfl (H.get (k:=5) rfl) (roLe _ (H.get (k:=6) rfl)) az),Sl.oc (H.os 4),Sl.oc (H.os 0)]; try rfl) ?_;intro lp H
 refine s_nil ⟨(H.pk [0,1,2,3,4,5,6,7,8]),?_⟩
 refine d_l rfl ?_;refine t_sw 9 0 [ak,aq] (.agg #[ak,aq]) H rfl rfl Sz30 rfl rfl rfl (by simp only [List.all_cons,List.all_nil,Bool.true_and,Bool.and_true,Sl.oc (H.os 3),Sl.oc (H.os 2)]; try rfl) ?_;intro lq H
 refine s_nil ⟨(H.pk [0,1,2,3,4,5,6,7,8]),?_⟩
 refine d_nil ?_;replace H:=H.pk [0,1,2,3,4,5,6,9,10];refine W.ret ?_
 have fi:=(H.bl 8)
 have fj:=(H.bl 7)
 have fk:=M.e_pure hM
 exact ⟨_,(resE_ofn (vs:=[.agg #[aj,aG,aH],.agg #[ak,aq]]) rfl rfl (.cell (v:=.agg #[aj,aG,aH]) rfl (run_loadVar_ag (ds:=[aj,aG,aH]) Ag27 Sz27 fi rfl rfl)<|.cell (v:=.agg #[ak,aq]) rfl (run_loadVar_ag (ds:=[ak,aq]) Ag30 Sz30 fj rfl rfl)<|.nil)),⟨l9,ba,aU,ag,ae,bn,bo,aj,aA,B_l9,aG,aH,ak,aq,fk,rfl,(H.pk [5,6,4,0,3,2,1]),az⟩⟩

end Go.Proofs.YtnncijcapdnlgaaGreat
end
section
set_option maxRecDepth 100000
set_option maxHeartbeats 16000000
namespace Go.Proofs.YtnncijcapdnlgaaGreat
open Go Go.Nm
attribute [local irreducible] gd execOp SL SLD SLT WR
def zcs (place lo hi:Int):M (Int × Int × Int) :=
  M.pure (place,lo,hi)
theorem zds {R:List Chunk}  (place:Int) (lo:Int) (hi:Int)  {r:(Int × Int × Int)} (hM:(zcs place lo hi).Ends r) (w:World) (H:St w w [] R):Ret Tryz.prog 27 #[I place,I lo,I hi] w fun v w'=>∃ (y0:Int) (y1:Int) (y2:Int),(y0,y1,y2)=r/\v = .agg #[I y0,I y1,I y2]/\St w w' [] R:=by
 refine ret_of_W Tryz.func27 rfl rfl rfl ?_;refine kg 2 ?_;refine t_alloc (cs:=[I 0,I 0,I 0]) H Al80 rfl ?_;intro ae ag H;refine kg 6 ?_;refine s_val (x_bld (ps:=[(0,I lo),(1,I hi)]) (zs:=[I 0,I 0]) (L':=[I lo,I hi]) rfl Tryz.underlying36 Al36 rfl (Bd36 Tryz.underlying36) (.cons (cs:=[I lo]) rfl rfl rfl rfl rfl<|.cons (cs:=[I hi]) rfl rfl rfl rfl rfl<|.nil))<|s_val (x_bld (ps:=[(0,I place),(1,.agg #[I lo,I hi])]) (zs:=[I 0,I 0,I 0]) (L':=[I place,I lo,I hi]) rfl Tryz.underlying80 Al80 rfl (Bd80 Tryz.underlying80) (.cons (cs:=[I place]) rfl rfl rfl rfl rfl<|.cons (cs:=[I lo,I hi]) rfl rfl rfl rfl rfl<|.nil)) ?_;refine t_sw 0 0 [I place,I lo,I hi] (.agg #[I place,I lo,I hi]) H rfl rfl Sz80 rfl rfl rfl rfl ?_;intro ah H;refine s_nil ?_;refine W.ret ?_
 have aa:=(H.bl 0)
 have ac:=M.e_pure hM
 exact ⟨_,(resE_of1 (v:=.agg #[I place,I lo,I hi]) rfl (.cell (v:=.agg #[I place,I lo,I hi]) rfl (run_loadVar_ag (ds:=[I place,I lo,I hi]) Ag80 Sz80 aa rfl rfl)<|.nil)),⟨place,lo,hi,ac,rfl,(H.pk [])⟩⟩

def zaX (marks:List Mrk):M ((List Sect) × (List Mrk) × (List Rch)) :=
  M.bind (zcs 0 150 160) fun (r0,r1,r2) =>
  M.bind (zcs 100 100 110) fun (aa,ac,ae) =>
  M.grd (decide ((([(⟨(r0:Int),(r1:Int),(r2:Int)⟩:Mrk),(⟨(aa:Int),(ac:Int),(ae:Int)⟩:Mrk)]).length+marks.length)*24<=140737488355328)) <|
  M.pure (([(⟨(0:Int),([(⟨(0:Int),(0:Int)⟩:FRow),(⟨(200:Int),(2000:Int)⟩:FRow)])⟩:Sect),(⟨(100:Int),([(⟨(0:Int),(0:Int)⟩:FRow),(⟨(200:Int),(2000:Int)⟩:FRow)])⟩:Sect)]),(([(⟨(r0:Int),(r1:Int),(r2:Int)⟩:Mrk),(⟨(aa:Int),(ac:Int),(ae:Int)⟩:Mrk)])++marks),([(⟨(0:Int),(1:Int),(50:Int),(100:Int),false⟩:Rch)]))
theorem zb5 {R:List Chunk} {au:Cells} {ap:Value} (marks:List Mrk) (aA:Reads R au) (aB:Sl au ap marks) {r:((List Sect) × (List Mrk) × (List Rch))} (hM:(zaX marks).Ends r) (w:World) (H:St w w [] R):Ret Tryz.prog 26 #[ap] w fun v w'=>∃ (y0:List Sect) (y1:List Mrk) (y2:List Rch) (u0:Value) (rr1:List (Raw 1)) (av:Base) (u3:Value) (u4:Value),(y0,y1,y2)=r/\v = .agg #[u0,u3,u4]/\St w w' [cOwn (α:=Raw 1) 76 u0 rr1,cRo av,cOwn (α:=Mrk) 80 u3 y1,cOwn (α:=Rch) 38 u4 y2] R/\RepR (α:=Sect) av.cells rr1 y0:=by
 refine ret_of_W Tryz.func26 rfl rfl rfl ?_;refine kg 2 ?_;refine t_alloc (cs:=[.slice none 0 0,.slice none 0 0,.slice none 0 0]) H Al27 rfl ?_;intro aI aJ H;refine kg 3 ?_;refine s_val (x_bld (ps:=[]) (zs:=[I 0,I 0]) (L':=[I 0,I 0]) rfl Tryz.underlying78 Al78 rfl (Bd78 Tryz.underlying78) (.nil))<|s_val (x_bld (ps:=[(0,I 200),(1,I 2000)]) (zs:=[I 0,I 0]) (L':=[I 200,I 2000]) rfl Tryz.underlying78 Al78 rfl (Bd78 Tryz.underlying78) (.cons (cs:=[I 200]) rfl rfl rfl rfl rfl<|.cons (cs:=[I 2000]) rfl rfl rfl rfl rfl<|.nil)) ?_;refine t_bs (α:=FRow) T74 [.agg #[I 0,I 0],.agg #[I 200,I 2000]] [(⟨(0:Int),(0:Int)⟩:FRow),(⟨(200:Int),(2000:Int)⟩:FRow)] H rfl (.cons rfl (Flat.rep_enc _ (⟨(0:Int),(0:Int)⟩:FRow))<|.cons rfl (Flat.rep_enc _ (⟨(200:Int),(2000:Int)⟩:FRow))<|.nil) rfl rfl rfl ?_;intro aa aK H;refine kg 5 ?_;refine s_val (x_bld (ps:=[(1,aa)]) (zs:=[I 0,.slice none 0 0]) (L':=[I 0,aa]) rfl Tryz.underlying76 Al76 rfl (Bd76 Tryz.underlying76) (.cons (cs:=[aa]) (Sl.cells (H.os 0)) rfl rfl rfl rfl<|.nil)) ?_;refine kg 1 ?_;refine s_val (x_bld (ps:=[(0,I 100),(1,aa)]) (zs:=[I 0,.slice none 0 0]) (L':=[I 100,aa]) rfl Tryz.underlying76 Al76 rfl (Bd76 Tryz.underlying76) (.cons (cs:=[I 100]) rfl rfl rfl rfl rfl<|.cons (cs:=[aa]) (Sl.cells (H.os 0)) rfl rfl rfl rfl<|.nil)) ?_
 obtain ⟨aL,H⟩:=H.emptyE
 obtain ⟨aM,H,aC⟩:=H.freezeE (k:=1) rfl
 replace H:=H.nf
 have ah:=aC
 obtain ⟨ax,H,aN,aD⟩:=H.joinE (i:=0) (j:=1) rfl rfl
 replace ah:=ah.mono aD
 obtain ⟨al,ay⟩:∃ r:Raw 1,r.cs=[I 0,aa]:=⟨Raw.of [I 0,aa] rfl (by simp only [List.all_cons,List.all_nil,Bool.true_and,Bool.and_true,Sl.oc ah]; try rfl),rfl⟩
 obtain ⟨am,az⟩:∃ r:Raw 1,r.cs=[I 100,aa]:=⟨Raw.of [I 100,aa] rfl (by simp only [List.all_cons,List.all_nil,Bool.true_and,Bool.and_true,Sl.oc ah]; try rfl),rfl⟩
 have aq:RepR (α:=Sect) ax.cells [al,am] [(⟨(0:Int),([(⟨(0:Int),(0:Int)⟩:FRow),(⟨(200:Int),(2000:Int)⟩:FRow)])⟩:Sect),(⟨(100:Int),([(⟨(0:Int),(0:Int)⟩:FRow),(⟨(200:Int),(2000:Int)⟩:FRow)])⟩:Sect)]:=.cons (by rw [ay]; exact ⟨_,rfl,ah⟩)<|.cons (by rw [az]; exact ⟨_,rfl,ah⟩)<|.nil
 refine t_bs (α:=Raw 1) T23 [.agg #[I 0,aa],.agg #[I 100,aa]] [al,am] H rfl (.cons (by rw [show (Flat.enc al:List Value)=al.cs from rfl,ay]; rfl) (Flat.rep_enc _ _)<|.cons (by rw [show (Flat.enc am:List Value)=am.cs from rfl,az]; rfl) (Flat.rep_enc _ _)<|.nil) rfl rfl rfl ?_;intro ac aO H;replace H:=H.nf;obtain ⟨aP,aE,hM⟩:=M.e_bind hM;refine s_call cf27 [I 0,I 150,I 160] rfl (zds 0 150 160 aE _ (H.gt 5)) ?_
 rintro vq aQ ⟨r0,r1,r2,rfl,hvq,ao⟩
 subst vq;(try dsimp only at hM);replace H:=H.bk ao;clear ao;obtain ⟨aR,aF,hM⟩:=M.e_bind hM;refine s_call cf27 [I 100,I 100,I 110] rfl (zds 100 100 110 aF _ (H.gt 5)) ?_
 rintro vq aS ⟨ai,aj,ak,rfl,hvq,ao⟩
 subst vq;(try dsimp only at hM);replace H:=H.bk ao;clear ao;refine t_bs (α:=Mrk) T24 [.agg #[I r0,I r1,I r2],.agg #[I ai,I aj,I ak]] [(⟨(r0:Int),(r1:Int),(r2:Int)⟩:Mrk),(⟨(ai:Int),(aj:Int),(ak:Int)⟩:Mrk)] H rfl (.cons rfl (Flat.rep_enc _ (⟨(r0:Int),(r1:Int),(r2:Int)⟩:Mrk))<|.cons rfl (Flat.rep_enc _ (⟨(ai:Int),(aj:Int),(ak:Int)⟩:Mrk))<|.nil) rfl rfl rfl ?_;intro aT aU H;obtain ⟨aV,hM⟩:=M.e_gd hM;refine kg 1 ?_;refine t_app (α:=Mrk) (k:=0) (l:=[(⟨(r0:Int),(r1:Int),(r2:Int)⟩:Mrk),(⟨(ai:Int),(aj:Int),(ak:Int)⟩:Mrk)]) (l2:=marks) (l':=([(⟨(r0:Int),(r1:Int),(r2:Int)⟩:Mrk),(⟨(ai:Int),(aj:Int),(ak:Int)⟩:Mrk)])++marks) (vy:=ap) T24 rfl H rfl rfl rfl aB (aA.at H) (rfl) (by first | omega | (simp only [List.length_nil] at *; omega)) ?_;intro ae aW H;replace H:=H.nf;refine s_val (x_bld (ps:=[(0,I 50),(1,I 100)]) (zs:=[I 0,I 0]) (L':=[I 50,I 100]) rfl Tryz.underlying36 Al36 rfl (Bd36 Tryz.underlying36) (.cons (cs:=[I 50]) rfl rfl rfl rfl rfl<|.cons (cs:=[I 100]) rfl rfl rfl rfl rfl<|.nil))<|s_val (x_bld (ps:=[(1,I 1),(2,.agg #[I 50,I 100])]) (zs:=[I 0,I 0,I 0,I 0,B false]) (L':=[I 0,I 1,I 50,I 100,B false]) rfl Tryz.underlying38 Al38 rfl (Bd38 Tryz.underlying38) (.cons (cs:=[I 1]) rfl rfl rfl rfl rfl<|.cons (cs:=[I 50,I 100]) rfl rfl rfl rfl rfl<|.nil)) ?_;refine t_bs (α:=Rch) T25 [.agg #[I 0,I 1,I 50,I 100,B false]] [(⟨(0:Int),(1:Int),(50:Int),(100:Int),false⟩:Rch)] H rfl (.cons rfl (Flat.rep_enc _ (⟨(0:Int),(1:Int),(50:Int),(100:Int),false⟩:Rch))<|.nil) rfl rfl rfl ?_;intro ag aX H;refine s_val (x_bld (ps:=[(0,ac),(1,ae),(2,ag)]) (zs:=[.slice none 0 0,.slice none 0 0,.slice none 0 0]) (L':=[ac,ae,ag]) rfl Tryz.underlying27 Al27 rfl (Bd27 Tryz.underlying27) (.cons (cs:=[ac]) (Sl.cells (rowSl rfl (H.get (k:=2) rfl) (roLe _ (H.get (k:=3) rfl)) aq)) rfl rfl rfl rfl<|.cons (cs:=[ae]) (Sl.cells (H.os 1)) rfl rfl rfl rfl<|.cons (cs:=[ag]) (Sl.cells (H.os 0)) rfl rfl rfl rfl<|.nil)) ?_;refine t_sw 6 0 [ac,ae,ag] (.agg #[ac,ae,ag]) H rfl rfl Sz27 rfl rfl rfl (by simp only [List.all_cons,List.all_nil,Bool.true_and,Bool.and_true,Sl.oc (rowSl rfl (H.get (k:=2) rfl) (roLe _ (H.get (k:=3) rfl)) aq),Sl.oc (H.os 1),Sl.oc (H.os 0)]; try rfl) ?_;intro aY H;refine s_nil ?_;replace H:=H.pk [0,1,2,3,6];refine W.ret ?_
 have aG:=(H.bl 4)
 have aH:=M.e_pure hM
 exact ⟨_,(resE_of1 (v:=.agg #[ac,ae,ag]) rfl (.cell (v:=.agg #[ac,ae,ag]) rfl (run_loadVar_ag (ds:=[ac,ae,ag]) Ag27 Sz27 aG rfl rfl)<|.nil)),⟨([(⟨(0:Int),([(⟨(0:Int),(0:Int)⟩:FRow),(⟨(200:Int),(2000:Int)⟩:FRow)])⟩:Sect),(⟨(100:Int),([(⟨(0:Int),(0:Int)⟩:FRow),(⟨(200:Int),(2000:Int)⟩:FRow)])⟩:Sect)]),(([(⟨(r0:Int),(r1:Int),(r2:Int)⟩:Mrk),(⟨(ai:Int),(aj:Int),(ak:Int)⟩:Mrk)])++marks),([(⟨(0:Int),(1:Int),(50:Int),(100:Int),false⟩:Rch)]),ac,[al,am],ax,ae,ag,aH,rfl,(H.pk [2,3,1,0]),aq⟩⟩

def zaD  : M Bool :=
  M.bind (zaX ([]:List Mrk)) fun (r0,r1,r2) =>
  M.bind (zaz r0 r1 r2 ([(0:Int),(1:Int)]) 0) fun (ai,aj,ak) =>
  M.bind (zaX ([]:List Mrk)) fun (aB,aC,aD) =>
  M.bind (zbb aB aC aD 0 (⟨(160:Int),(110:Int),(50:Int),(50:Int)⟩:Cas)) fun (al,am) =>
  M.bind (zaX ([]:List Mrk)) fun (aE,aF,ah) =>
  M.grd (decide (0<(ah.length:Int))) <|
  M.bind (zaz aE aF (ah.set 0 ({ (ah.getD 0 default) with narrow:=true })) ([(0:Int),(1:Int)]) 0) fun (aJ,ao,ap) =>
  M.bind (zcs 50 170 180) fun (aG,aH,aI) =>
  M.bind (zaX ([(⟨(aG:Int),(aH:Int),(aI:Int)⟩:Mrk)])) fun (aa,ac,ae) =>
  M.bind (zdW aa ac ae 0 2) fun (aq,au) =>
  M.bind (zdZ aa ac ae) fun (av,ax) =>
  M.bind (zdU aa ac ae 2 ([[(0:Int),(2:Int)],[(1:Int)]])) fun (ay,az) =>
  M.bind (zd1 aa ac ae ([(1:Int),(2:Int)])) fun (ag,aA) =>
  M.grd ((!((((((((((((((ak==0)&&(am==0))&&(ap==0))&&(au==0))&&(ax==0))&&(az==0))&&(aA==0))&&(decide ((⟨(ai:Int),(aj:Int)⟩:Span)=(⟨(812:Int),(1959:Int)⟩:Span))))&&(al==1876))&&(ao==1557))&&aq)&&((av.length:Int)==2))&&ay)&&((ag.length:Int)==2))||(decide (0<(ag.length:Int))))) <|
  M.pure (((((((((((((((ak==0)&&(am==0))&&(ap==0))&&(au==0))&&(ax==0))&&(az==0))&&(aA==0))&&(decide ((⟨(ai:Int),(aj:Int)⟩:Span)=(⟨(812:Int),(1959:Int)⟩:Span))))&&(al==1876))&&(ao==1557))&&aq)&&((av.length:Int)==2))&&ay)&&((ag.length:Int)==2))&&(decide ((ag.getD 0 default)=(⟨(170:Int),(2000:Int)⟩:Span))))
theorem zdw {R:List Chunk}    {r:Bool} (hM:(zaD).Ends r) (w:World) (H:St w w [] R):Ret Tryz.prog 9 #[] w fun v w'=>∃ (y0:Bool),y0=r/\v=B y0/\St w w' [] R:=by
 refine ret_of_W Tryz.func9 rfl rfl rfl ?_;refine kg 6 ?_;refine t_bs (α:=Int) T28 [I 0,I 1] [(0:Int),(1:Int)] H rfl (.cons rfl (Flat.rep_enc _ (0:Int))<|.cons rfl (Flat.rep_enc _ (1:Int))<|.nil) rfl rfl rfl ?_;intro aQ bS H;refine kg 4 ?_;obtain ⟨bT,aZ,hM⟩:=M.e_bind hM;refine s_call cf26 [.slice none 0 0] rfl (zb5 ([]:List Mrk) Reads.none (Sl.nil (fun _=>none)) aZ _ (H.gt 1)) ?_
 rintro vq bU ⟨r0,r1,r2,a7,bV,bW,a8,ba,rfl,hvq,aa,bb⟩
 subst vq;(try dsimp only at hM);replace H:=H.bk aa;clear aa;refine kg 1 ?_;obtain ⟨bX,bc,hM⟩:=M.e_bind hM;refine s_call cf7 [.agg #[a7,a8,ba],aQ,I 0] rfl (zaV r0 r1 r2 ([(0:Int),(1:Int)]) 0 (Reads.sup (rdo 0) (Reads.of (k:=1) rfl roLe)) (rowSl rfl (H.get (k:=0) rfl) (roLe _ (H.get (k:=1) rfl)) bb) (rdo 2) (H.os 2) (rdo 3) (H.os 3) (rdo 4) (H.os 4) bc _ (H.gt 5)) ?_
 rintro vq bY ⟨ak,al,ac,rfl,hvq,aa⟩
 subst vq;(try dsimp only at hM);replace H:=H.bk aa;clear aa;refine kg 3 ?_;refine t_alloc (cs:=[I 0,I 0]) H Al36 rfl ?_;intro bf bZ H;refine t_sw 0 0 [I ak,I al] (.agg #[I ak,I al]) H rfl rfl Sz36 rfl rfl rfl rfl ?_;intro b6 H;refine kg 2 ?_;replace H:=H.pk [0,5];refine kg 2 ?_;obtain ⟨b7,bg,hM⟩:=M.e_bind hM;refine s_call cf26 [.slice none 0 0] rfl (zb5 ([]:List Mrk) Reads.none (Sl.nil (fun _=>none)) bg _ (H.gt 2)) ?_
 rintro vq b8 ⟨bh,bi,bj,bm,b9,cb,bn,bo,rfl,hvq,aa,bp⟩
 subst vq;(try dsimp only at hM);replace H:=H.bk aa;clear aa;refine s_val (x_bld (ps:=[(0,I 160),(1,I 110),(2,I 50),(3,I 50)]) (zs:=[I 0,I 0,I 0,I 0]) (L':=[I 160,I 110,I 50,I 50]) rfl Tryz.underlying43 Al43 rfl (Bd43 Tryz.underlying43) (.cons (cs:=[I 160]) rfl rfl rfl rfl rfl<|.cons (cs:=[I 110]) rfl rfl rfl rfl rfl<|.cons (cs:=[I 50]) rfl rfl rfl rfl rfl<|.cons (cs:=[I 50]) rfl rfl rfl rfl rfl<|.nil)) ?_;obtain ⟨cc,br,hM⟩:=M.e_bind hM;refine s_call cf6 [.agg #[bm,bn,bo],I 0,.agg #[I 160,I 110,I 50,I 50]] rfl (zdu bh bi bj 0 (⟨(160:Int),(110:Int),(50:Int),(50:Int)⟩:Cas) (Reads.sup (rdo 0) (Reads.of (k:=1) rfl roLe)) (rowSl rfl (H.get (k:=0) rfl) (roLe _ (H.get (k:=1) rfl)) bp) (rdo 2) (H.os 2) (rdo 3) (H.os 3) br _ (H.gt 6)) ?_
 rintro vq ce ⟨ao,ae,rfl,hvq,aa⟩
 subst vq;(try dsimp only at hM);replace H:=H.bk aa;clear aa;refine kg 6 ?_;replace H:=H.pk [4,5];refine kg 2 ?_;obtain ⟨cf,bt,hM⟩:=M.e_bind hM;refine s_call cf26 [.slice none 0 0] rfl (zb5 ([]:List Mrk) Reads.none (Sl.nil (fun _=>none)) bt _ (H.gt 2)) ?_
 rintro vq cg ⟨bu,aU,av,aD,bv,bw,aE,aF,rfl,hvq,aa,aV⟩
 subst vq;(try dsimp only at hM);replace H:=H.bk aa;clear aa;refine t_alloc (cs:=[.slice none 0 0,.slice none 0 0,.slice none 0 0]) H Al27 rfl ?_;intro bx ch H;refine t_sw 0 0 [aD,aE,aF] (.agg #[aD,aE,aF]) H rfl rfl Sz27 rfl rfl rfl (by simp only [List.all_cons,List.all_nil,Bool.true_and,Bool.and_true,Sl.oc (rowSl rfl (H.get (k:=1) rfl) (roLe _ (H.get (k:=2) rfl)) aV),Sl.oc (H.os 3),Sl.oc (H.os 4)]; try rfl) ?_;intro ci H;obtain ⟨cj,hM⟩:=M.e_gd hM;refine kg 7 ?_;refine t_fst (α:=Rch) (k:=4) (i:=0) (off:=4) (l:=av) (l':=av.set 0 ({ (av.getD 0 default) with narrow:=true })) (val:=B true) (L':=[cBlk bx [aD,aE,aF] 27,cOwn (α:=Raw 1) 76 aD bv,cRo bw,cOwn (α:=Mrk) 80 aE aU,cOwn (α:=Rch) 38 aF (av.set 0 ({ (av.getD 0 default) with narrow:=true })),cBlk bf [I ak,I al] 36,cOwn (α:=Int) 3 aQ ([(0:Int),(1:Int)])]) H rfl Sz4 (by omega) (by omega) (av.getD 0 default) ({ (av.getD 0 default) with narrow:=true }) (getD_some _ (by omega) _) rfl rfl [B true] rfl rfl rfl rfl rfl rfl rfl ?_;intro ck H
 have cn:(av.set 0 ({ (av.getD 0 default) with narrow:=true })).length=(av).length:=List.length_set
 refine kg 5 ?_;obtain ⟨co,bz,hM⟩:=M.e_bind hM;refine s_call cf7 [.agg #[aD,aE,aF],aQ,I 0] rfl (zaV bu aU (av.set 0 ({ (av.getD 0 default) with narrow:=true })) ([(0:Int),(1:Int)]) 0 (Reads.sup (rdo 1) (Reads.of (k:=2) rfl roLe)) (rowSl rfl (H.get (k:=1) rfl) (roLe _ (H.get (k:=2) rfl)) aV) (rdo 3) (H.os 3) (rdo 4) (H.os 4) (rdo 6) (H.os 6) bz _ (H.gt 7)) ?_
 rintro vq cp ⟨aW,ap,ag,rfl,hvq,aa⟩
 subst vq;(try dsimp only at hM);replace H:=H.bk aa;clear aa;refine kg 3 ?_;refine t_alloc (cs:=[I 0,I 0]) H Al36 rfl ?_;intro cq cr H;refine t_sw 0 0 [I aW,I ap] (.agg #[I aW,I ap]) H rfl rfl Sz36 rfl rfl rfl rfl ?_;intro ct H;refine kg 2 ?_;replace H:=H.pk [0,6];refine kg 2 ?_;obtain ⟨cv,bA,hM⟩:=M.e_bind hM;refine s_call cf27 [I 50,I 170,I 180] rfl (zds 50 170 180 bA _ (H.gt 2)) ?_
 rintro vq cw ⟨aI,aJ,aK,rfl,hvq,aa⟩
 subst vq;(try dsimp only at hM);replace H:=H.bk aa;clear aa;refine t_bs (α:=Mrk) T24 [.agg #[I aI,I aJ,I aK]] [(⟨(aI:Int),(aJ:Int),(aK:Int)⟩:Mrk)] H rfl (.cons rfl (Flat.rep_enc _ (⟨(aI:Int),(aJ:Int),(aK:Int)⟩:Mrk))<|.nil) rfl rfl rfl ?_;intro bB cx H;obtain ⟨cy,bC,hM⟩:=M.e_bind hM;refine s_call cf26 [bB] rfl (zb5 ([(⟨(aI:Int),(aJ:Int),(aK:Int)⟩:Mrk)]) (rdo 0) (H.os 0) bC _ (H.gt 3)) ?_
 rintro vq cz ⟨aL,aM,aN,aA,cA,cB,aB,aC,rfl,hvq,aa,aG⟩
 subst vq;(try dsimp only at hM);replace H:=H.bk aa;clear aa;refine t_alloc (cs:=[.slice none 0 0,.slice none 0 0,.slice none 0 0]) H Al27 rfl ?_;intro cC cD H;refine t_sw 0 0 [aA,aB,aC] (.agg #[aA,aB,aC]) H rfl rfl Sz27 rfl rfl rfl (by simp only [List.all_cons,List.all_nil,Bool.true_and,Bool.and_true,Sl.oc (rowSl rfl (H.get (k:=1) rfl) (roLe _ (H.get (k:=2) rfl)) aG),Sl.oc (H.os 3),Sl.oc (H.os 4)]; try rfl) ?_;intro cE H;refine kg 4 ?_;obtain ⟨cF,bD,hM⟩:=M.e_bind hM;refine s_call cf28 [.agg #[aA,aB,aC],I 0,I 2] rfl (zev aL aM aN 0 2 (Reads.sup (rdo 1) (Reads.of (k:=2) rfl roLe)) (rowSl rfl (H.get (k:=1) rfl) (roLe _ (H.get (k:=2) rfl)) aG) (rdo 3) (H.os 3) (rdo 4) (H.os 4) bD _ (H.gt 8)) ?_
 rintro vq cG ⟨aq,ah,rfl,hvq,aa⟩
 subst vq;(try dsimp only at hM);replace H:=H.bk aa;clear aa;refine kg 9 ?_;obtain ⟨cH,bE,hM⟩:=M.e_bind hM;refine s_call cf29 [.agg #[aA,aB,aC]] rfl (zfn aL aM aN (Reads.sup (rdo 1) (Reads.of (k:=2) rfl roLe)) (rowSl rfl (H.get (k:=1) rfl) (roLe _ (H.get (k:=2) rfl)) aG) (rdo 3) (H.os 3) (rdo 4) (H.os 4) bE _ (H.gt 8)) ?_
 rintro vq cI ⟨ax,ai,cJ,rfl,hvq,aa⟩
 subst vq;(try dsimp only at hM);replace H:=H.bk aa;clear aa;refine kg 9 ?_;refine t_bs (α:=Int) T28 [I 0,I 2] [(0:Int),(2:Int)] H rfl (.cons rfl (Flat.rep_enc _ (0:Int))<|.cons rfl (Flat.rep_enc _ (2:Int))<|.nil) rfl rfl rfl ?_;intro aR cK H;refine t_bs (α:=Int) T28 [I 1] [(1:Int)] H rfl (.cons rfl (Flat.rep_enc _ (1:Int))<|.nil) rfl rfl rfl ?_;intro aS cL H
 obtain ⟨cM,H⟩:=H.emptyE
 obtain ⟨cN,H,bF⟩:=H.freezeE (k:=2) rfl
 replace H:=H.nf
 have az:=bF
 obtain ⟨cO,H,cQ,bG⟩:=H.joinE (i:=0) (j:=2) rfl rfl
 replace az:=az.mono bG
 obtain ⟨cS,H,bH⟩:=H.freezeE (k:=2) rfl
 replace H:=H.nf
 have aH:=bH
 obtain ⟨bI,H,bJ,bK⟩:=H.joinE (i:=0) (j:=2) rfl rfl
 replace az:=az.mono bJ
 replace aH:=aH.mono bK
 obtain ⟨aO,aX⟩:∃ r:Raw 0,r.cs=[aR]:=⟨Raw.of [aR] rfl (by simp only [List.all_cons,List.all_nil,Bool.true_and,Bool.and_true,Sl.oc az]; try rfl),rfl⟩
 obtain ⟨aP,aY⟩:∃ r:Raw 0,r.cs=[aS]:=⟨Raw.of [aS] rfl (by simp only [List.all_cons,List.all_nil,Bool.true_and,Bool.and_true,Sl.oc aH]; try rfl),rfl⟩
 have bL:RepR (α:=List Int) bI.cells [aO,aP] [[(0:Int),(2:Int)],[(1:Int)]]:=.cons (by rw [aX]; exact ⟨_,rfl,az⟩)<|.cons (by rw [aY]; exact ⟨_,rfl,aH⟩)<|.nil
 refine t_bs (α:=Raw 0) T99 [aR,aS] [aO,aP] H rfl (.cons (by rw [show (Flat.enc aO:List Value)=aO.cs from rfl,aX]; exact Sl.cells az) (Flat.rep_enc _ _)<|.cons (by rw [show (Flat.enc aP:List Value)=aP.cs from rfl,aY]; exact Sl.cells aH) (Flat.rep_enc _ _)<|.nil) rfl rfl rfl ?_;intro bN cT H;replace H:=H.nf;obtain ⟨cU,bO,hM⟩:=M.e_bind hM;refine s_call cf30 [.agg #[aA,aB,aC],I 2,bN] rfl (zee aL aM aN 2 ([[(0:Int),(2:Int)],[(1:Int)]]) (Reads.sup (rdo 8) (Reads.of (k:=9) rfl roLe)) (rowSl rfl (H.get (k:=8) rfl) (roLe _ (H.get (k:=9) rfl)) aG) (rdo 10) (H.os 10) (rdo 11) (H.os 11) (Reads.sup (rdo 0) (Reads.of (k:=1) rfl roLe)) (rowSl rfl (H.get (k:=0) rfl) (roLe _ (H.get (k:=1) rfl)) bL) bO _ (H.gt 15)) ?_
 rintro vq cV ⟨ay,aj,rfl,hvq,aa⟩
 subst vq;(try dsimp only at hM);replace H:=H.bk aa;clear aa;refine kg 6 ?_;replace H:=H.pk [6,7,8,9,10,11,13,14];refine kg 3 ?_;refine t_bs (α:=Int) T28 [I 1,I 2] [(1:Int),(2:Int)] H rfl (.cons rfl (Flat.rep_enc _ (1:Int))<|.cons rfl (Flat.rep_enc _ (2:Int))<|.nil) rfl rfl rfl ?_;intro bP cW H;obtain ⟨cX,bQ,hM⟩:=M.e_bind hM;refine s_call cf31 [.agg #[aA,aB,aC],bP] rfl (zfl aL aM aN ([(1:Int),(2:Int)]) (Reads.sup (rdo 3) (Reads.of (k:=4) rfl roLe)) (rowSl rfl (H.get (k:=3) rfl) (roLe _ (H.get (k:=4) rfl)) aG) (rdo 5) (H.os 5) (rdo 6) (H.os 6) (rdo 0) (H.os 0) bQ _ (H.gt 9)) ?_
 rintro vq cY ⟨au,am,cZ,rfl,hvq,aa⟩
 subst vq;(try dsimp only at hM);replace H:=H.bk aa;clear aa;refine kg 6 ?_;replace H:=H.pk [0,2,8,9];refine kg 7 ?_;refine s_val (x_pand (b:=ac==0) (r:=ae==0) rfl (fun hb=>gd_of (c:=ac==0) (by first | exact hb | (rw [hb]; rfl) | simp_all) (B (ae==0))) rfl) ?_;refine kg 3 ?_;refine s_val (x_pand (b:=((ac==0)&&(ae==0))) (r:=ag==0) rfl (fun hb=>gd_of (c:=((ac==0)&&(ae==0))) (by first | exact hb | (rw [hb]; rfl) | simp_all) (B (ag==0))) rfl) ?_;refine kg 3 ?_;refine s_val (x_pand (b:=(((ac==0)&&(ae==0))&&(ag==0))) (r:=ah==0) rfl (fun hb=>gd_of (c:=(((ac==0)&&(ae==0))&&(ag==0))) (by first | exact hb | (rw [hb]; rfl) | simp_all) (B (ah==0))) rfl) ?_;refine kg 3 ?_;refine s_val (x_pand (b:=((((ac==0)&&(ae==0))&&(ag==0))&&(ah==0))) (r:=ai==0) rfl (fun hb=>gd_of (c:=((((ac==0)&&(ae==0))&&(ag==0))&&(ah==0))) (by first | exact hb | (rw [hb]; rfl) | simp_all) (B (ai==0))) rfl) ?_;refine kg 3 ?_;refine s_val (x_pand (b:=(((((ac==0)&&(ae==0))&&(ag==0))&&(ah==0))&&(ai==0))) (r:=aj==0) rfl (fun hb=>gd_of (c:=(((((ac==0)&&(ae==0))&&(ag==0))&&(ah==0))&&(ai==0))) (by first | exact hb | (rw [hb]; rfl) | simp_all) (B (aj==0))) rfl) ?_;refine kg 3 ?_;refine s_val (x_pand (b:=((((((ac==0)&&(ae==0))&&(ag==0))&&(ah==0))&&(ai==0))&&(aj==0))) (r:=am==0) rfl (fun hb=>gd_of (c:=((((((ac==0)&&(ae==0))&&(ag==0))&&(ah==0))&&(ai==0))&&(aj==0))) (by first | exact hb | (rw [hb]; rfl) | simp_all) (B (am==0))) rfl) ?_;refine kg 2 ?_;refine g_val (((((((ac==0)&&(ae==0))&&(ag==0))&&(ah==0))&&(ai==0))&&(aj==0))&&(am==0)) (gy_t rfl) (fun hg=>x_bld (ps:=[(0,I 812),(1,I 1959)]) (zs:=[I 0,I 0]) (L':=[I 812,I 1959]) rfl Tryz.underlying36 Al36 rfl (Bd36 Tryz.underlying36) (.cons (cs:=[I 812]) rfl rfl rfl rfl rfl<|.cons (cs:=[I 1959]) rfl rfl rfl rfl rfl<|.nil))<|g_val (((((((ac==0)&&(ae==0))&&(ag==0))&&(ah==0))&&(ai==0))&&(aj==0))&&(am==0)) (gy_t rfl) (fun hg=>x_eqS (eqT36 (⟨(ak:Int),(al:Int)⟩:Span) (⟨(812:Int),(1959:Int)⟩:Span) _) gdT36 (gd_of hg (.agg #[I ak,I al])) (gd_of hg (.agg #[I 812,I 1959])))<|s_val (x_pand (b:=(((((((ac==0)&&(ae==0))&&(ag==0))&&(ah==0))&&(ai==0))&&(aj==0))&&(am==0))) (r:=decide ((⟨(ak:Int),(al:Int)⟩:Span)=(⟨(812:Int),(1959:Int)⟩:Span))) rfl (fun hb=>gd_of (c:=(((((((ac==0)&&(ae==0))&&(ag==0))&&(ah==0))&&(ai==0))&&(aj==0))&&(am==0))) (by first | exact hb | (rw [hb]; rfl) | simp_all) (B (decide ((⟨(ak:Int),(al:Int)⟩:Span)=(⟨(812:Int),(1959:Int)⟩:Span))))) rfl) ?_;refine kg 3 ?_;refine s_val (x_pand (b:=((((((((ac==0)&&(ae==0))&&(ag==0))&&(ah==0))&&(ai==0))&&(aj==0))&&(am==0))&&(decide ((⟨(ak:Int),(al:Int)⟩:Span)=(⟨(812:Int),(1959:Int)⟩:Span))))) (r:=ao==1876) rfl (fun hb=>gd_of (c:=((((((((ac==0)&&(ae==0))&&(ag==0))&&(ah==0))&&(ai==0))&&(aj==0))&&(am==0))&&(decide ((⟨(ak:Int),(al:Int)⟩:Span)=(⟨(812:Int),(1959:Int)⟩:Span))))) (by first | exact hb | (rw [hb]; rfl) | simp_all) (B (ao==1876))) rfl) ?_;refine kg 4 ?_;refine s_val (x_pand (b:=(((((((((ac==0)&&(ae==0))&&(ag==0))&&(ah==0))&&(ai==0))&&(aj==0))&&(am==0))&&(decide ((⟨(ak:Int),(al:Int)⟩:Span)=(⟨(812:Int),(1959:Int)⟩:Span))))&&(ao==1876))) (r:=ap==1557) rfl (fun hb=>gd_of (c:=(((((((((ac==0)&&(ae==0))&&(ag==0))&&(ah==0))&&(ai==0))&&(aj==0))&&(am==0))&&(decide ((⟨(ak:Int),(al:Int)⟩:Span)=(⟨(812:Int),(1959:Int)⟩:Span))))&&(ao==1876))) (by first | exact hb | (rw [hb]; rfl) | simp_all) (B (ap==1557))) rfl) ?_;refine kg 2 ?_;refine s_val (x_pand (b:=((((((((((ac==0)&&(ae==0))&&(ag==0))&&(ah==0))&&(ai==0))&&(aj==0))&&(am==0))&&(decide ((⟨(ak:Int),(al:Int)⟩:Span)=(⟨(812:Int),(1959:Int)⟩:Span))))&&(ao==1876))&&(ap==1557))) (r:=aq) rfl (fun hb=>gd_of (c:=((((((((((ac==0)&&(ae==0))&&(ag==0))&&(ah==0))&&(ai==0))&&(aj==0))&&(am==0))&&(decide ((⟨(ak:Int),(al:Int)⟩:Span)=(⟨(812:Int),(1959:Int)⟩:Span))))&&(ao==1876))&&(ap==1557))) (by first | exact hb | (rw [hb]; rfl) | simp_all) (B aq)) rfl) ?_;refine kg 4 ?_;refine s_val (x_pand (b:=(((((((((((ac==0)&&(ae==0))&&(ag==0))&&(ah==0))&&(ai==0))&&(aj==0))&&(am==0))&&(decide ((⟨(ak:Int),(al:Int)⟩:Span)=(⟨(812:Int),(1959:Int)⟩:Span))))&&(ao==1876))&&(ap==1557))&&aq)) (r:=(ax.length:Int)==2) rfl (fun hb=>gd_of (c:=(((((((((((ac==0)&&(ae==0))&&(ag==0))&&(ah==0))&&(ai==0))&&(aj==0))&&(am==0))&&(decide ((⟨(ak:Int),(al:Int)⟩:Span)=(⟨(812:Int),(1959:Int)⟩:Span))))&&(ao==1876))&&(ap==1557))&&aq)) (by first | exact hb | (rw [hb]; rfl) | simp_all) (B ((ax.length:Int)==2))) rfl) ?_;refine kg 2 ?_;refine s_val (x_pand (b:=((((((((((((ac==0)&&(ae==0))&&(ag==0))&&(ah==0))&&(ai==0))&&(aj==0))&&(am==0))&&(decide ((⟨(ak:Int),(al:Int)⟩:Span)=(⟨(812:Int),(1959:Int)⟩:Span))))&&(ao==1876))&&(ap==1557))&&aq)&&((ax.length:Int)==2))) (r:=ay) rfl (fun hb=>gd_of (c:=((((((((((((ac==0)&&(ae==0))&&(ag==0))&&(ah==0))&&(ai==0))&&(aj==0))&&(am==0))&&(decide ((⟨(ak:Int),(al:Int)⟩:Span)=(⟨(812:Int),(1959:Int)⟩:Span))))&&(ao==1876))&&(ap==1557))&&aq)&&((ax.length:Int)==2))) (by first | exact hb | (rw [hb]; rfl) | simp_all) (B ay)) rfl) ?_;refine kg 4 ?_;refine s_val (x_pand (b:=(((((((((((((ac==0)&&(ae==0))&&(ag==0))&&(ah==0))&&(ai==0))&&(aj==0))&&(am==0))&&(decide ((⟨(ak:Int),(al:Int)⟩:Span)=(⟨(812:Int),(1959:Int)⟩:Span))))&&(ao==1876))&&(ap==1557))&&aq)&&((ax.length:Int)==2))&&ay)) (r:=(au.length:Int)==2) rfl (fun hb=>gd_of (c:=(((((((((((((ac==0)&&(ae==0))&&(ag==0))&&(ah==0))&&(ai==0))&&(aj==0))&&(am==0))&&(decide ((⟨(ak:Int),(al:Int)⟩:Span)=(⟨(812:Int),(1959:Int)⟩:Span))))&&(ao==1876))&&(ap==1557))&&aq)&&((ax.length:Int)==2))&&ay)) (by first | exact hb | (rw [hb]; rfl) | simp_all) (B ((au.length:Int)==2))) rfl) ?_;obtain ⟨aT,hM⟩:=M.e_grd hM
 replace aT:=M.imp_of aT
 simp only [Bool.and_eq_true,decide_eq_true_eq] at aT
 refine kg 4 ?_;refine g_val ((((((((((((((ac==0)&&(ae==0))&&(ag==0))&&(ah==0))&&(ai==0))&&(aj==0))&&(am==0))&&(decide ((⟨(ak:Int),(al:Int)⟩:Span)=(⟨(812:Int),(1959:Int)⟩:Span))))&&(ao==1876))&&(ap==1557))&&aq)&&((ax.length:Int)==2))&&ay)&&((au.length:Int)==2)) (gy_t rfl) (fun hg=>x_bld (ps:=[(0,I 170),(1,I 2000)]) (zs:=[I 0,I 0]) (L':=[I 170,I 2000]) rfl Tryz.underlying36 Al36 rfl (Bd36 Tryz.underlying36) (.cons (cs:=[I 170]) rfl rfl rfl rfl rfl<|.cons (cs:=[I 2000]) rfl rfl rfl rfl rfl<|.nil))<|g_val ((((((((((((((ac==0)&&(ae==0))&&(ag==0))&&(ah==0))&&(ai==0))&&(aj==0))&&(am==0))&&(decide ((⟨(ak:Int),(al:Int)⟩:Span)=(⟨(812:Int),(1959:Int)⟩:Span))))&&(ao==1876))&&(ap==1557))&&aq)&&((ax.length:Int)==2))&&ay)&&((au.length:Int)==2)) (gy_t rfl) (fun hg=>x_eqS (eqT36 (au.getD 0 default) (⟨(170:Int),(2000:Int)⟩:Span) _) gdT36 (gd_of hg (.agg #[I ((au.getD 0 default).lo),I ((au.getD 0 default).hi)])) (gd_of hg (.agg #[I 170,I 2000])))<|s_val (x_pand (b:=((((((((((((((ac==0)&&(ae==0))&&(ag==0))&&(ah==0))&&(ai==0))&&(aj==0))&&(am==0))&&(decide ((⟨(ak:Int),(al:Int)⟩:Span)=(⟨(812:Int),(1959:Int)⟩:Span))))&&(ao==1876))&&(ap==1557))&&aq)&&((ax.length:Int)==2))&&ay)&&((au.length:Int)==2))) (r:=decide ((au.getD 0 default)=(⟨(170:Int),(2000:Int)⟩:Span))) rfl (fun hb=>gd_of (c:=((((((((((((((ac==0)&&(ae==0))&&(ag==0))&&(ah==0))&&(ai==0))&&(aj==0))&&(am==0))&&(decide ((⟨(ak:Int),(al:Int)⟩:Span)=(⟨(812:Int),(1959:Int)⟩:Span))))&&(ao==1876))&&(ap==1557))&&aq)&&((ax.length:Int)==2))&&ay)&&((au.length:Int)==2))) (by first | exact hb | (rw [hb]; rfl) | simp_all) (B (decide ((au.getD 0 default)=(⟨(170:Int),(2000:Int)⟩:Span))))) rfl) ?_;refine kg 2 ?_;replace H:=H.pk [];refine W.ret ?_
 have bR:=M.e_pure hM
 exact ⟨_,resE_tmp rfl,⟨(((((((((((((((ac==0)&&(ae==0))&&(ag==0))&&(ah==0))&&(ai==0))&&(aj==0))&&(am==0))&&(decide ((⟨(ak:Int),(al:Int)⟩:Span)=(⟨(812:Int),(1959:Int)⟩:Span))))&&(ao==1876))&&(ap==1557))&&aq)&&((ax.length:Int)==2))&&ay)&&((au.length:Int)==2))&&(decide ((au.getD 0 default)=(⟨(170:Int),(2000:Int)⟩:Span)))),bR,rfl,H⟩⟩

end Go.Proofs.YtnncijcapdnlgaaGreat
end
section
set_option maxRecDepth 100000
set_option maxHeartbeats 16000000
namespace Go.Proofs.YtnncijcapdnlgaaGreat
open Go Go.Nm
attribute [local irreducible] gd execOp SL SLD SLT WR
def za0 (s_Marks:List Mrk):(Nat × (List Int))->M ((Nat × (List Int)) ⊕ ((List Int) × (List Int))):=fun (i,l) =>
  bif decide ((i:Int)<(s_Marks.length:Int)) then (
  M.grd (decide ((l.length+([(i:Int)]).length)*8<=140737488355328)) <|
  M.pure (.inl (i+1,l++([(i:Int)]))))
  else (
  M.pure (.inr (l,l)))
def zct (s_Sections:List Sect) (s_Marks:List Mrk) (s_Reaches:List Rch):M (List Int) :=
  M.bind (M.iter (za0 s_Marks) (0,[])) fun (l2,l3) =>
  M.pure l3
theorem zdR {R:List Chunk} {aj:Cells} {ac:Value} {ak:Cells} {ae:Value} {al:Cells} {ag:Value} (s_Sections:List Sect) (s_Marks:List Mrk) (s_Reaches:List Rch) (aD:Reads R aj) (aE:Sl aj ac s_Sections) (aF:Reads R ak) (aq:Sl ak ae s_Marks) (aG:Reads R al) (aH:Sl al ag s_Reaches) {r:(List Int)} (hM:(zct s_Sections s_Marks s_Reaches).Ends r) (w:World) (H:St w w [] R):Ret Tryz.prog 8 #[.agg #[ac,ae,ag]] w fun v w'=>∃ (y0:List Int) (u0:Value),y0=r/\v=u0/\St w w' [cOwn (α:=Int) 3 u0 y0] R:=by
 refine ret_of_W Tryz.func8 rfl rfl rfl ?_;refine kg 2 ?_;refine t_bx [ac,ae,ag] H rfl ?_;intro am aI H;refine kg 12 ?_
 replace H:=H.nilOwn (α:=Int) 3
 obtain ⟨au,ai,av⟩:=M.e_bind hM
 obtain ⟨aJ,ai⟩:=M.e_iter ai
 refine W.loop (fun m σ W=>∃ (i:Nat) (l:List Int) (ah:Value) (ρ:Env),σ=upds ρ [(1,Pq am),(3,ah),(4,I (i:Int))]/\M.iterN (za0 s_Marks) m (i,l)=some au/\St w W [cOwn (α:=Int) 3 ah l,cBlk am [ac,ae,ag] 27] R) ?_ ?_
 ·exact ⟨_,0,[],(.slice none 0 0),_,upds_of _ _ ⟨rfl,rfl,rfl,trivial⟩,ai,H⟩
 rintro aK σ aL ⟨i,l,ah,ρ,rfl,ao,H⟩
 obtain ⟨ax,ay,aM,hM,ap⟩:=M.e_iterN ao
 simp only [za0] at hM
 clear ao
 have aN:=(aq).len_le
 refine kg 9 ?_
 refine W.cond (decide ((i:Int)<(s_Marks.length:Int))) rfl (fun aa=>?_) (fun aa=>?_)
 ·replace hM:=M.e_t hM aa
  replace aa:=dI aa
  refine kg 6 ?_;refine t_bs (α:=Int) T28 [I (i:Int)] [(i:Int)] H rfl (.cons rfl (Flat.rep_enc _ (i:Int))<|.nil) rfl rfl rfl ?_;intro az aO H;obtain ⟨aP,hM⟩:=M.e_gd hM;refine t_app (α:=Int) (k:=1) (l:=l) (l2:=[(i:Int)]) (l':=l++([(i:Int)])) (vy:=az) T28 rfl H rfl rfl rfl (H.os 0) (H.ol 0) (rfl) (by first | omega | (simp only [List.length_nil] at *; omega)) ?_;intro aA aQ H;replace H:=H.nf;refine kg 7 ?_
  exact ⟨ax,ay,i+1,l++([(i:Int)]),aA,_,upds_of _ _ ⟨rfl,rfl,rfl,trivial⟩,M.e_inl hM ap,(H.pk [1,2])⟩
 replace hM:=M.e_f hM aa
 replace aa:=dI aa
 refine W.exit ?_
 have aB:=M.e_inr hM ap
 subst aB;replace hM:=av;(try dsimp only at hM);refine kg 5 ?_;refine W.ret ?_
 have aC:=M.e_pure hM
 exact ⟨_,resE_tmp rfl,⟨l,ah,aC,rfl,(H.pk [0])⟩⟩

def zdB (l:List Gg):M (List Gg) :=
  M.grd (decide ((([]:List Gg).length+l.length)*24<=140737488355328)) <|
  M.pure l
theorem zdY {R:List Chunk} {ac:Cells} {aa:Value} (l:List Gg) (ae:Reads R ac) (ag:Sl ac aa l) {r:(List Gg)} (hM:(zdB l).Ends r) (w:World) (H:St w w [] R):Ret Tryz.prog 13 #[aa] w fun v w'=>∃ (y0:List Gg) (u0:Value),y0=r/\v=u0/\St w w' [cOwn (α:=Gg) 59 u0 y0] R:=by
 refine ret_of_W Tryz.func13 rfl rfl rfl ?_;refine kg 12 ?_
 replace H:=H.nilOwn (α:=Gg) 59
 obtain ⟨aj,hM⟩:=M.e_gd hM;refine t_app (α:=Gg) (k:=0) (l:=[]) (l2:=l) (l':=l) (vy:=aa) T56 rfl H rfl rfl rfl ag (ae.at H) (List.nil_append _) (by first | omega | (simp only [List.length_nil] at *; omega)) ?_;intro ah ak H;replace H:=H.nf;refine kg 2 ?_;refine W.ret ?_
 have ai:=M.e_pure hM
 exact ⟨_,resE_tmp rfl,⟨l,ah,ai,rfl,H⟩⟩

def zaF (q:Rto) (ae aa ag ac:Int):M Bool :=
  M.grd ((!(((decide (0<q.den))&&(decide (0<aa)))&&(decide (0<ac)))||(decide ((-9223372036854775808:Int)<=(ae*q.den))&&decide ((ae*q.den)<=(9223372036854775807:Int))))) <|
  M.grd ((!(((decide (0<q.den))&&(decide (0<aa)))&&(decide (0<ac)))||(decide ((-9223372036854775808:Int)<=(q.num*aa))&&decide ((q.num*aa)<=(9223372036854775807:Int))))) <|
  M.grd ((!((((decide (0<q.den))&&(decide (0<aa)))&&(decide (0<ac)))&&(decide ((ae*q.den)<=(q.num*aa))))||(decide ((-9223372036854775808:Int)<=(q.num*ac))&&decide ((q.num*ac)<=(9223372036854775807:Int))))) <|
  M.grd ((!((((decide (0<q.den))&&(decide (0<aa)))&&(decide (0<ac)))&&(decide ((ae*q.den)<=(q.num*aa))))||(decide ((-9223372036854775808:Int)<=(ag*q.den))&&decide ((ag*q.den)<=(9223372036854775807:Int))))) <|
  M.pure (((((decide (0<q.den))&&(decide (0<aa)))&&(decide (0<ac)))&&(decide ((ae*q.den)<=(q.num*aa))))&&(decide ((q.num*ac)<=(ag*q.den))))
theorem zdo {R:List Chunk}  (q:Rto) (ae:Int) (aa:Int) (ag:Int) (ac:Int)  {r:Bool} (hM:(zaF q ae aa ag ac).Ends r) (w:World) (H:St w w [] R):Ret Tryz.prog 18 #[.agg #[I q.num,I q.den],.agg #[I ae,I aa,I ag,I ac]] w fun v w'=>∃ (y0:Bool),y0=r/\v=B y0/\St w w' [] R:=by
 refine ret_of_W Tryz.func18 rfl rfl rfl ?_;refine kg 2 ?_;refine t_bx [I q.num,I q.den] H rfl ?_;intro am ao H;refine t_bx [I ae,I aa,I ag,I ac] H rfl ?_;intro ap aq H;refine kg 12 ?_;refine s_val (x_pand (b:=decide (0<q.den)) (r:=decide (0<aa)) rfl (fun hb=>gd_of (c:=decide (0<q.den)) (by first | exact hb | (rw [hb]; rfl) | simp_all) (B (decide (0<aa)))) rfl) ?_;refine kg 5 ?_;refine s_val (x_pand (b:=((decide (0<q.den))&&(decide (0<aa)))) (r:=decide (0<ac)) rfl (fun hb=>gd_of (c:=((decide (0<q.den))&&(decide (0<aa)))) (by first | exact hb | (rw [hb]; rfl) | simp_all) (B (decide (0<ac)))) rfl) ?_;obtain ⟨ah,hM⟩:=M.e_grd hM
 replace ah:=M.imp_of ah
 simp only [Bool.and_eq_true,decide_eq_true_eq] at ah
 obtain ⟨ai,hM⟩:=M.e_grd hM
 replace ai:=M.imp_of ai
 simp only [Bool.and_eq_true,decide_eq_true_eq] at ai
 refine kg 14 ?_;refine s_val (x_pand (b:=(((decide (0<q.den))&&(decide (0<aa)))&&(decide (0<ac)))) (r:=decide ((ae*q.den)<=(q.num*aa))) rfl (fun hb=>gd_of (c:=(((decide (0<q.den))&&(decide (0<aa)))&&(decide (0<ac)))) (by first | exact hb | (rw [hb]; rfl) | simp_all) (B (decide ((ae*q.den)<=(q.num*aa))))) rfl) ?_;obtain ⟨aj,hM⟩:=M.e_grd hM
 replace aj:=M.imp_of aj
 simp only [Bool.and_eq_true,decide_eq_true_eq] at aj
 obtain ⟨ak,hM⟩:=M.e_grd hM
 replace ak:=M.imp_of ak
 simp only [Bool.and_eq_true,decide_eq_true_eq] at ak
 refine kg 14 ?_;refine s_val (x_pand (b:=((((decide (0<q.den))&&(decide (0<aa)))&&(decide (0<ac)))&&(decide ((ae*q.den)<=(q.num*aa))))) (r:=decide ((q.num*ac)<=(ag*q.den))) rfl (fun hb=>gd_of (c:=((((decide (0<q.den))&&(decide (0<aa)))&&(decide (0<ac)))&&(decide ((ae*q.den)<=(q.num*aa))))) (by first | exact hb | (rw [hb]; rfl) | simp_all) (B (decide ((q.num*ac)<=(ag*q.den))))) rfl) ?_;refine kg 2 ?_;replace H:=H.pk [];refine W.ret ?_
 have al:=M.e_pure hM
 exact ⟨_,resE_tmp rfl,⟨(((((decide (0<q.den))&&(decide (0<aa)))&&(decide (0<ac)))&&(decide ((ae*q.den)<=(q.num*aa))))&&(decide ((q.num*ac)<=(ag*q.den)))),al,rfl,H⟩⟩

def zcl (gaugings:List UInt8) (ai:List Rch) (aj:List Int) (r0 r5 r6 k:Int) (l:List Gg) (r8 ag ah:Int):M ((Int × Int × Int × (List Gg)) ⊕ (((List Gg) × Int × Int) ⊕ ((List Gg) × (List Gg) × Int × Int))) :=
  M.bind (zcc (⟨(r5:Int),(r6:Int),(aj.getD (Int.toNat ((ai.getD 0 default).up)) 0:Int),(r0:Int)⟩:RLn) (r5+r8)) fun (aa,ac,ak) =>
  bif (((ak != 0)||(decide (ac<1)))||(decide (aa<0))) then (
  M.pure (.inr (.inl (l,ag,ah))))
  else (
  M.grd (decide (0<=aa)&&decide (aa<=(9223372036854775807:Int))&&decide ((0:Int)<ac)) <|
  M.bind (zad gaugings ag ah 5) fun (r9,al,am) =>
  M.grd (decide ((-9223372036854775808:Int)<=((aa / ac)-r9))&&decide (((aa / ac)-r9)<=(9223372036854775807:Int))) <|
  M.bind (zag gaugings al am 1 5) fun (ae,ao,ap) =>
  M.grd (decide ((-9223372036854775808:Int)<=((aa / ac)+ae))&&decide (((aa / ac)+ae)<=(9223372036854775807:Int))) <|
  M.grd (decide ((l.length+([(⟨(r5+r8:Int),(max 0 ((aa / ac)-r9):Int),(min 200000 ((aa / ac)+ae):Int)⟩:Gg)]).length)*24<=140737488355328)) <|
  M.grd (decide ((-9223372036854775808:Int)<=(k-1))&&decide ((k-1)<=(9223372036854775807:Int))) <|
  M.pure (.inl (ao,ap,k-1,l++([(⟨(r5+r8:Int),(max 0 ((aa / ac)-r9):Int),(min 200000 ((aa / ac)+ae):Int)⟩:Gg)]))))
def zaQ (gaugings:List UInt8) (aa:List Rch) (ac:List Int) (r0 r5 r6:Int):(Int × Int × Int × (List Gg))->M ((Int × Int × Int × (List Gg)) ⊕ (((List Gg) × Int × Int) ⊕ ((List Gg) × (List Gg) × Int × Int))):=fun (s,s2,k,l) =>
  bif decide (0<k) then (
  M.grd (decide ((-9223372036854775808:Int)<=((ac.getD (Int.toNat ((aa.getD 0 default).up)) 0)-r5))&&decide (((ac.getD (Int.toNat ((aa.getD 0 default).up)) 0)-r5)<=(9223372036854775807:Int))) <|
  M.bind (zad gaugings s s2 ((ac.getD (Int.toNat ((aa.getD 0 default).up)) 0)-r5)) fun (r8,ae,ag) =>
  M.grd (decide ((-9223372036854775808:Int)<=(r5+r8))&&decide ((r5+r8)<=(9223372036854775807:Int))) <|
  zcl gaugings aa ac r0 r5 r6 k l r8 ae ag)
  else (
  M.pure (.inr (.inr (l,l,s,s2))))
def zbK (at_:Int) (ag:List Rch) (ah:List Int) (r0 al am r5 r6:Int) (l4 ao:List Gg):M Bool :=
  M.bind (zbV (ao++([(⟨(ah.getD (Int.toNat ((ag.getD 0 default).up)) 0:Int),(al:Int),(am:Int)⟩:Gg)])) ([]:List Int) ([(⟨(r5:Int),(r6:Int),(ah.getD (Int.toNat ((ag.getD 0 default).up)) 0:Int),(r0:Int)⟩:RLn)])) fun (aC,aD) =>
  bif ((aD != 0)||(decide (0<(aC.length:Int)))) then (
  M.pure false)
  else (
  M.bind (zcb at_ 2001) fun aj =>
  M.bind (zbF l4 ([]:List Int) aj) fun (ap,aq,au,av,aa) =>
  M.bind (zbF (ao++([(⟨(ah.getD (Int.toNat ((ag.getD 0 default).up)) 0:Int),(al:Int),(am:Int)⟩:Gg)])) ([]:List Int) aj) fun (ax,ay,az,aA,ac) =>
  M.bind (zb8 ([]:List Int) ([(⟨(r5:Int),(r6:Int),(ah.getD (Int.toNat ((ag.getD 0 default).up)) 0:Int),(r0:Int)⟩:RLn)]) aj) fun (aE,aF,ae) =>
  M.bind (M.opt (((aa==0)&&(ac==0))&&(ae==0)) (zaF (⟨(ax:Int),(ay:Int)⟩:Rto) ap aq au av) false) fun ai =>
  M.bind (M.opt ((((aa==0)&&(ac==0))&&(ae==0))&&ai) (zaF (⟨(az:Int),(aA:Int)⟩:Rto) ap aq au av) false) fun ak =>
  M.bind (M.opt (((((aa==0)&&(ac==0))&&(ae==0))&&ai)&&ak) (zaF (⟨(aE:Int),(aF:Int)⟩:Rto) ax ay az aA) false) fun aB =>
  M.bind (M.opt ((((((aa==0)&&(ac==0))&&(ae==0))&&ai)&&ak)&&aB) (zaD) false) fun aG =>
  M.pure (((((((aa==0)&&(ac==0))&&(ae==0))&&ai)&&ak)&&aB)&&aG))
def zb1 (gaugings:List UInt8) (at_:Int) (aa:List Rch) (ac am:List Int) (r0 ae ag r5 r6 ai aj:Int):M Bool :=
  M.bind (zag gaugings ai aj 1 5) fun (r7,ak,al) =>
  M.bind (M.iter (zaQ gaugings aa ac r0 r5 r6) (ak,al,r7,[])) fun x_=>match x_ with
  | (.inl (l2,s3,s4))=>(
  M.pure false)
  | (.inr (l3,l4,s5,s6))=>(
  M.bind (zdB l4) fun ah =>
  M.grd (decide ((ah.length+([(⟨(ac.getD (Int.toNat ((aa.getD 0 default).up)) 0:Int),(ae:Int),(ag:Int)⟩:Gg)]).length)*24<=140737488355328)) <|
  zbK at_ aa ac r0 ae ag r5 r6 l4 ah)
def zbc (gaugings:List UInt8) (at_:Int) (aa:List Rch) (ac ah:List Int) (ai aj r0 ak ag ae al:Int):M Bool :=
  bif ((((ak != 0)||(al != 0))||(decide (r0<ag)))||(decide (ae<r0))) then (
  M.pure false)
  else (
  bif ((decide (200000<ae))||(decide ((ac.getD (Int.toNat ((aa.getD 0 default).up)) 0)<2))) then (
  M.bind (zaD) fun r4 =>
  M.pure r4)
  else (
  M.grd (decide ((-9223372036854775808:Int)<=((ac.getD (Int.toNat ((aa.getD 0 default).up)) 0)-1))&&decide (((ac.getD (Int.toNat ((aa.getD 0 default).up)) 0)-1)<=(9223372036854775807:Int))) <|
  M.grd (decide ((-9223372036854775808:Int)<=(r0+1))&&decide ((r0+1)<=(9223372036854775807:Int))) <|
  M.bind (zad gaugings ai aj ((ac.getD (Int.toNat ((aa.getD 0 default).up)) 0)-1)) fun (r5,am,ao) =>
  M.bind (zad gaugings am ao (r0+1)) fun (r6,ap,aq) =>
  zb1 gaugings at_ aa ac ah r0 ag ae r5 r6 ap aq))
def zc3 (numbers gaugings:List UInt8) (at_:Int):M Bool :=
  M.bind (zbe numbers) fun (r1,r2) =>
  M.bind (zcg numbers r1 r2 8 false) fun (ag,ah,aa,ac,ae,q1,q2) =>
  M.bind (zbe gaugings) fun (ai,aj) =>
  M.grd (decide (0<(aa.length:Int))) <|
  M.grd (decide ((0:Int)<=((aa.getD 0 default).up))&&decide (((aa.getD 0 default).up)<(ac.length:Int))) <|
  M.grd (decide ((0:Int)<=((aa.getD 0 default).down))&&decide (((aa.getD 0 default).down)<(ac.length:Int))) <|
  M.grd (decide ((0:Int)<=((aa.getD 0 default).up))&&decide (((aa.getD 0 default).up)<(ae.length:Int))) <|
  M.grd (decide ((0:Int)<=((aa.getD 0 default).down))&&decide (((aa.getD 0 default).down)<(ae.length:Int))) <|
  M.bind (zbb ag ah aa 0 (⟨(ac.getD (Int.toNat ((aa.getD 0 default).up)) 0:Int),(ac.getD (Int.toNat ((aa.getD 0 default).down)) 0:Int),(ae.getD (Int.toNat ((aa.getD 0 default).up)) 0:Int),(ae.getD (Int.toNat ((aa.getD 0 default).down)) 0:Int)⟩:Cas)) fun (r0,ak) =>
  M.bind (zct ag ah aa) fun r3 =>
  M.bind (zaz ag ah aa r3 0) fun (al,am,ao) =>
  zbc gaugings at_ aa ac ae ai aj r0 ak al am ao
theorem zep {R:List Chunk} {bP:Cells} {bn:Value} {bQ:Cells} {aS:Value} (numbers:List UInt8) (gaugings:List UInt8) (at_:Int) (bR:Reads R bP) (bS:Sl bP bn numbers) (aL:Reads R bQ) (aM:Sl bQ aS gaugings) {r:Bool} (hM:(zc3 numbers gaugings at_).Ends r) (w:World) (H:St w w [] R):Ret Tryz.prog 3 #[bn,aS,I at_] w fun v w'=>∃ (y0:Bool),y0=r/\v=B y0/\St w w' [] R:=by
 refine ret_of_W Tryz.func3 rfl rfl rfl ?_;refine kg 7 ?_;obtain ⟨cZ,bY,hM⟩:=M.e_bind hM;refine s_call cf5 [bn] rfl (zdV numbers (bR.app _) bS bY _ (H.gt 0)) ?_
 rintro vq c8 ⟨r1,r2,bx,rfl,hvq,ae⟩
 subst vq;(try dsimp only at hM);replace H:=H.bk ae;clear ae;obtain ⟨c9,bZ,hM⟩:=M.e_bind hM;refine s_call cf4 [Pq bx,I 8,B false] rfl (zeI numbers r1 r2 8 false (bR.app _) bS bZ _ (H.gt 0)) ?_
 rintro vq da ⟨bo,aT,aa,ac,ap,q1,q2,aF,bC,bD,aG,aH,ak,am,rfl,hvq,ae,bg⟩
 subst vq;(try dsimp only at hM);replace H:=H.bk ae;clear ae;refine kg 3 ?_;refine t_alloc (cs:=[.slice none 0 0,.slice none 0 0,.slice none 0 0]) H Al27 rfl ?_;intro bE db H;refine t_alloc (cs:=[.slice none 0 0,.slice none 0 0]) H Al30 rfl ?_;intro ay dc H;refine t_sw 1 0 [aF,aG,aH] (.agg #[aF,aG,aH]) H rfl rfl Sz27 rfl rfl rfl (by simp only [List.all_cons,List.all_nil,Bool.true_and,Bool.and_true,Sl.oc (rowSl rfl (H.get (k:=2) rfl) (roLe _ (H.get (k:=3) rfl)) bg),Sl.oc (H.os 4),Sl.oc (H.os 5)]; try rfl) ?_;intro dd H;refine t_sw 0 0 [ak,am] (.agg #[ak,am]) H rfl rfl Sz30 rfl rfl rfl (by simp only [List.all_cons,List.all_nil,Bool.true_and,Bool.and_true,Sl.oc (H.os 6),Sl.oc (H.os 7)]; try rfl) ?_;intro dg H;refine kg 4 ?_;obtain ⟨dh,b6,hM⟩:=M.e_bind hM;refine s_call cf5 [aS] rfl (zdV gaugings (aL.app _) aM b6 _ (H.gt 9)) ?_
 rintro vq di ⟨bp,br,aq,rfl,hvq,ae⟩
 subst vq;(try dsimp only at hM);replace H:=H.bk ae;clear ae;obtain ⟨dj,hM⟩:=M.e_gd hM;refine kg 8 ?_;refine t_alloc (cs:=[I 0,I 0,I 0,I 0,B false]) H Al38 rfl ?_;intro az dk H;refine t_sw 0 0 [I ((aa.getD 0 default).up),I ((aa.getD 0 default).down),I ((aa.getD 0 default).lo),I ((aa.getD 0 default).hi),B ((aa.getD 0 default).narrow)] (.agg #[I ((aa.getD 0 default).up),I ((aa.getD 0 default).down),I ((aa.getD 0 default).lo),I ((aa.getD 0 default).hi),B ((aa.getD 0 default).narrow)]) H rfl rfl Sz38 rfl rfl rfl rfl ?_;intro dm H;refine kg 2 ?_;refine W.draw (fun W=>St w W [cBlk az [I ((aa.getD 0 default).up),I ((aa.getD 0 default).down),I ((aa.getD 0 default).lo),I ((aa.getD 0 default).hi),B ((aa.getD 0 default).narrow)] 38,cBlk aq [aS,I bp,I br] 82,cBlk ay [ak,am] 30,cBlk bE [aF,aG,aH] 27,cOwn (α:=Raw 1) 76 aF bC,cRo bD,cOwn (α:=Mrk) 80 aG aT,cOwn (α:=Rch) 38 aH aa,cOwn (α:=Int) 3 ak ac,cOwn (α:=Int) 3 am ap,cBlk bx [bn,I q1,I q2] 82] R) [(0,true),(1,true),(2,true),(3,true),(4,true),(5,true),(6,true),(7,true),(8,true),(9,true),(10,true),(11,true),(12,true),(13,true),(14,true),(15,true),(16,true),(17,true),(18,true),(19,true),(20,true),(21,true),(22,true),(23,true),(24,true),(25,true),(26,false),(27,true),(28,true),(29,true),(30,true),(31,true)] mixed (by decide +kernel) rfl ?_;intro dp aA;replace H:=H.ext aA;clear aA
 refine ⟨(H.pk [0,1,2,3,4,5,6,7,8,9,10]),?_⟩
 obtain ⟨dq,hM⟩:=M.e_gd hM;obtain ⟨dr,hM⟩:=M.e_gd hM;obtain ⟨dt,hM⟩:=M.e_gd hM;obtain ⟨dv,hM⟩:=M.e_gd hM;refine kg 25 ?_;refine d_q rfl (fun w' H=>x_bld (ps:=[(0,I (ac.getD (Int.toNat ((aa.getD 0 default).up)) 0)),(1,I (ac.getD (Int.toNat ((aa.getD 0 default).down)) 0)),(2,I (ap.getD (Int.toNat ((aa.getD 0 default).up)) 0)),(3,I (ap.getD (Int.toNat ((aa.getD 0 default).down)) 0))]) (zs:=[I 0,I 0,I 0,I 0]) (L':=[I (ac.getD (Int.toNat ((aa.getD 0 default).up)) 0),I (ac.getD (Int.toNat ((aa.getD 0 default).down)) 0),I (ap.getD (Int.toNat ((aa.getD 0 default).up)) 0),I (ap.getD (Int.toNat ((aa.getD 0 default).down)) 0)]) rfl Tryz.underlying43 Al43 rfl (Bd43 Tryz.underlying43) (.cons (cs:=[I (ac.getD (Int.toNat ((aa.getD 0 default).up)) 0)]) rfl rfl rfl rfl rfl<|.cons (cs:=[I (ac.getD (Int.toNat ((aa.getD 0 default).down)) 0)]) rfl rfl rfl rfl rfl<|.cons (cs:=[I (ap.getD (Int.toNat ((aa.getD 0 default).up)) 0)]) rfl rfl rfl rfl rfl<|.cons (cs:=[I (ap.getD (Int.toNat ((aa.getD 0 default).down)) 0)]) rfl rfl rfl rfl rfl<|.nil))<|d_l rfl ?_;obtain ⟨dw,b7,hM⟩:=M.e_bind hM;refine s_call cf6 [.agg #[aF,aG,aH],I 0,.agg #[I (ac.getD (Int.toNat ((aa.getD 0 default).up)) 0),I (ac.getD (Int.toNat ((aa.getD 0 default).down)) 0),I (ap.getD (Int.toNat ((aa.getD 0 default).up)) 0),I (ap.getD (Int.toNat ((aa.getD 0 default).down)) 0)]] rfl (zdu bo aT aa 0 (⟨(ac.getD (Int.toNat ((aa.getD 0 default).up)) 0:Int),(ac.getD (Int.toNat ((aa.getD 0 default).down)) 0:Int),(ap.getD (Int.toNat ((aa.getD 0 default).up)) 0:Int),(ap.getD (Int.toNat ((aa.getD 0 default).down)) 0:Int)⟩:Cas) (Reads.sup (rdo 4) (Reads.of (k:=5) rfl roLe)) (rowSl rfl (H.get (k:=4) rfl) (roLe _ (H.get (k:=5) rfl)) bg) (rdo 6) (H.os 6) (rdo 7) (H.os 7) b7 _ (H.gt 11)) ?_
 rintro vq dx ⟨r0,av,rfl,hvq,ae⟩
 subst vq;(try dsimp only at hM);replace H:=H.bk ae;clear ae
 refine s_nil ⟨(H.pk [0,1,2,3,4,5,6,7,8,9,10]),?_⟩
 refine kg 6 ?_;refine W.seqJ (fun σ W=>∃ (ao:Nat) (al:Int) (ag:Int) (ah:Int) (aO:Value) (r3:List Int) (ρ:Env),σ=upds ρ [(2,I at_),(8,Pq ay),(9,Pq aq),(10,Pq az),(11,I r0),(12,I av),(13,Pq ao),(14,I al)]/\(zbc gaugings at_ aa ac ap bp br r0 av ag ah al).Ends r/\St w W [cBlk ao [I ag,I ah] 36,cOwn (α:=Int) 3 aO r3,cBlk az [I ((aa.getD 0 default).up),I ((aa.getD 0 default).down),I ((aa.getD 0 default).lo),I ((aa.getD 0 default).hi),B ((aa.getD 0 default).narrow)] 38,cBlk aq [aS,I bp,I br] 82,cBlk ay [ak,am] 30,cBlk bE [aF,aG,aH] 27,cOwn (α:=Raw 1) 76 aF bC,cRo bD,cOwn (α:=Mrk) 80 aG aT,cOwn (α:=Rch) 38 aH aa,cOwn (α:=Int) 3 ak ac,cOwn (α:=Int) 3 am ap,cBlk bx [bn,I q1,I q2] 82] R) ?_ ?_
 ·skip
  refine W.drawT (fun W=>St w W [cBlk az [I ((aa.getD 0 default).up),I ((aa.getD 0 default).down),I ((aa.getD 0 default).lo),I ((aa.getD 0 default).hi),B ((aa.getD 0 default).narrow)] 38,cBlk aq [aS,I bp,I br] 82,cBlk ay [ak,am] 30,cBlk bE [aF,aG,aH] 27,cOwn (α:=Raw 1) 76 aF bC,cRo bD,cOwn (α:=Mrk) 80 aG aT,cOwn (α:=Rch) 38 aH aa,cOwn (α:=Int) 3 ak ac,cOwn (α:=Int) 3 am ap,cBlk bx [bn,I q1,I q2] 82] R) (.q 0 (.q 1 (.l2 2 (.l2 3 (.q 4 (.q 5 (.q 6 (.l 7 (.l 8 (.q 9 .nil)))))) 7 (.l 3 (.q 4 (.q 5 (.q 6 (.l 8 (.q 9 .nil))))))) 7 (.l 2 (.l 3 (.q 4 (.q 5 (.q 6 (.l 8 (.q 9 .nil)))))))))) mixed (by decide +kernel) rfl ?_;intro dy aA;replace H:=H.ext aA;clear aA
  refine ⟨(H.pk [0,1,2,3,4,5,6,7,8,9,10]),?_⟩
  refine kg 2 ?_;refine t_l2 rfl rfl ?_ ?_
  ·skip
   obtain ⟨dz,b8,hM⟩:=M.e_bind hM;refine s_call cf8 [.agg #[aF,aG,aH]] rfl (zdR bo aT aa (Reads.sup (rdo 4) (Reads.of (k:=5) rfl roLe)) (rowSl rfl (H.get (k:=4) rfl) (roLe _ (H.get (k:=5) rfl)) bg) (rdo 6) (H.os 6) (rdo 7) (H.os 7) b8 _ (H.gt 11)) ?_
   rintro vq dA ⟨r3,aO,rfl,hvq,ae⟩
   subst vq;(try dsimp only at hM);replace H:=H.bk ae;clear ae
   have dB:=Sl.cells (H.os 0)
   have dC:=Sl.oc (H.os 0)
   refine s_nil ⟨(H.pk [1,2,3,4,5,6,7,8,9,10,11]),?_⟩
   refine t_l2 rfl rfl ?_ ?_
   ·skip
    obtain ⟨dD,b9,hM⟩:=M.e_bind hM;refine s_call cf7 [.agg #[aF,aG,aH],aO,I 0] rfl (zaV bo aT aa r3 0 (Reads.sup (rdo 5) (Reads.of (k:=6) rfl roLe)) (rowSl rfl (H.get (k:=5) rfl) (roLe _ (H.get (k:=6) rfl)) bg) (rdo 7) (H.os 7) (rdo 8) (H.os 8) (rdo 0) (H.os 0) b9 _ (H.gt 12)) ?_
    rintro vq dE ⟨ag,ah,al,rfl,hvq,ae⟩
    subst vq;(try dsimp only at hM);replace H:=H.bk ae;clear ae
    refine s_nil ⟨(H.pk [1,2,3,4,5,6,7,8,9,10,11]),?_⟩
    refine kg 3 ?_;refine t_l rfl ?_;refine t_alloc (cs:=[I 0,I 0]) H Al36 rfl ?_;intro ao dF H
    refine s_nil ⟨(H.pk [2,3,4,5,6,7,8,9,10,11,12]),?_⟩
    refine t_l rfl ?_;refine t_sw 0 0 [I ag,I ah] (.agg #[I ag,I ah]) H rfl rfl Sz36 rfl rfl rfl rfl ?_;intro dG H
    refine s_nil ⟨(H.pk [2,3,4,5,6,7,8,9,10,11,12]),?_⟩
    refine kg 2 ?_
    exact ⟨ao,al,ag,ah,aO,r3,_,upds_of _ _ ⟨rfl,rfl,rfl,rfl,rfl,rfl,rfl,rfl,trivial⟩,hM,H⟩
   skip
   refine t_alloc (cs:=[I 0,I 0]) H Al36 rfl ?_;intro ao dH H
   refine s_nil ⟨(H.pk [2,3,4,5,6,7,8,9,10,11,12]),?_⟩
   refine t_l rfl ?_;obtain ⟨dJ,cb,hM⟩:=M.e_bind hM;refine s_call cf7 [.agg #[aF,aG,aH],aO,I 0] rfl (zaV bo aT aa r3 0 (Reads.sup (rdo 6) (Reads.of (k:=7) rfl roLe)) (rowSl rfl (H.get (k:=6) rfl) (roLe _ (H.get (k:=7) rfl)) bg) (rdo 8) (H.os 8) (rdo 9) (H.os 9) (rdo 1) (H.os 1) cb _ (H.gt 13)) ?_
   rintro vq dK ⟨ag,ah,al,rfl,hvq,ae⟩
   subst vq;(try dsimp only at hM);replace H:=H.bk ae;clear ae
   refine s_nil ⟨(H.pk [2,3,4,5,6,7,8,9,10,11,12]),?_⟩
   refine kg 3 ?_;refine t_l rfl ?_;refine t_sw 0 0 [I ag,I ah] (.agg #[I ag,I ah]) H rfl rfl Sz36 rfl rfl rfl rfl ?_;intro dL H
   refine s_nil ⟨(H.pk [2,3,4,5,6,7,8,9,10,11,12]),?_⟩
   refine kg 2 ?_
   exact ⟨ao,al,ag,ah,aO,r3,_,upds_of _ _ ⟨rfl,rfl,rfl,rfl,rfl,rfl,rfl,rfl,trivial⟩,hM,H⟩
  skip
  refine t_alloc (cs:=[I 0,I 0]) H Al36 rfl ?_;intro ao dM H
  refine s_nil ⟨(H.pk [1,2,3,4,5,6,7,8,9,10,11]),?_⟩
  refine t_l rfl ?_;obtain ⟨dN,cc,hM⟩:=M.e_bind hM;refine s_call cf8 [.agg #[aF,aG,aH]] rfl (zdR bo aT aa (Reads.sup (rdo 5) (Reads.of (k:=6) rfl roLe)) (rowSl rfl (H.get (k:=5) rfl) (roLe _ (H.get (k:=6) rfl)) bg) (rdo 7) (H.os 7) (rdo 8) (H.os 8) cc _ (H.gt 12)) ?_
  rintro vq dO ⟨r3,aO,rfl,hvq,ae⟩
  subst vq;(try dsimp only at hM);replace H:=H.bk ae;clear ae
  have dP:=Sl.cells (H.os 0)
  have dQ:=Sl.oc (H.os 0)
  refine s_nil ⟨(H.pk [2,3,4,5,6,7,8,9,10,11,12]),?_⟩
  refine t_l rfl ?_;obtain ⟨dR,ce,hM⟩:=M.e_bind hM;refine s_call cf7 [.agg #[aF,aG,aH],aO,I 0] rfl (zaV bo aT aa r3 0 (Reads.sup (rdo 6) (Reads.of (k:=7) rfl roLe)) (rowSl rfl (H.get (k:=6) rfl) (roLe _ (H.get (k:=7) rfl)) bg) (rdo 8) (H.os 8) (rdo 9) (H.os 9) (rdo 0) (H.os 0) ce _ (H.gt 13)) ?_
  rintro vq dS ⟨ag,ah,al,rfl,hvq,ae⟩
  subst vq;(try dsimp only at hM);replace H:=H.bk ae;clear ae
  refine s_nil ⟨(H.pk [2,3,4,5,6,7,8,9,10,11,12]),?_⟩
  refine kg 3 ?_;refine t_l rfl ?_;refine t_sw 1 0 [I ag,I ah] (.agg #[I ag,I ah]) H rfl rfl Sz36 rfl rfl rfl rfl ?_;intro dT H
  refine s_nil ⟨(H.pk [2,3,4,5,6,7,8,9,10,11,12]),?_⟩
  refine kg 2 ?_
  exact ⟨ao,al,ag,ah,aO,r3,_,upds_of _ _ ⟨rfl,rfl,rfl,rfl,rfl,rfl,rfl,rfl,trivial⟩,hM,(H.pk [1,0,2,3,4,5,6,7,8,9,10,11,12])⟩
 rintro _ dU ⟨ao,al,ag,ah,aO,r3,ρ,rfl,hM,H⟩
 unfold zbc at hM
 refine kg 8 ?_;refine s_val (x_por (b:=av != 0) (r:=al != 0) rfl rfl (fun hb=>gd_of (c:=!(av != 0)) (by first | exact hb | (rw [hb]; rfl) | simp_all) (B (al != 0))))<|zM (B ((av != 0)||(al != 0))) rfl<|g_val (!((av != 0)||(al != 0))) (gy_f rfl) (fun hg=>x_mv (v:=I r0) rfl)<|g_val (!((av != 0)||(al != 0))) (gy_f rfl) (fun hg=>x_fa (v:=Pq ao) rfl (fa_blk (o:=0) Fd36_0 Sz3))<|g_val (!((av != 0)||(al != 0))) (gy_f rfl) (fun hg=>x_ld (v:=I ag) (gd_of hg (Pq ao)) (ldb_sc Sc3 (H.bl 0) rfl))<|g_val (!((av != 0)||(al != 0))) (gy_f rfl) (fun hg=>x_cmp (kd:=.i64) (r:=decide (r0<ag)) (gd_of hg (I r0)) (gd_of hg (I ag)) rfl)<|s_val (x_por (b:=((av != 0)||(al != 0))) (r:=decide (r0<ag)) rfl rfl (fun hb=>gd_of (c:=!((av != 0)||(al != 0))) (by first | exact hb | (rw [hb]; rfl) | simp_all) (B (decide (r0<ag)))))<|zM (B (((av != 0)||(al != 0))||(decide (r0<ag)))) rfl<|g_val (!(((av != 0)||(al != 0))||(decide (r0<ag)))) (gy_f rfl) (fun hg=>x_mv (v:=I r0) rfl)<|g_val (!(((av != 0)||(al != 0))||(decide (r0<ag)))) (gy_f rfl) (fun hg=>x_fa (v:=Oq ao 1) rfl (fa_blk (o:=0) Fd36_1 Sz3)) ?_;refine g_val (!(((av != 0)||(al != 0))||(decide (r0<ag)))) (gy_f rfl) (fun hg=>x_ld (v:=I ah) (gd_of hg (Oq ao 1)) (ldb_sc Sc3 (H.bl 0) rfl))<|g_val (!(((av != 0)||(al != 0))||(decide (r0<ag)))) (gy_f rfl) (fun hg=>x_cmp (kd:=.i64) (r:=decide (ah<r0)) (gd_of hg (I r0)) (gd_of hg (I ah)) rfl)<|s_val (x_por (b:=(((av != 0)||(al != 0))||(decide (r0<ag)))) (r:=decide (ah<r0)) rfl rfl (fun hb=>gd_of (c:=!(((av != 0)||(al != 0))||(decide (r0<ag)))) (by first | exact hb | (rw [hb]; rfl) | simp_all) (B (decide (ah<r0)))))<|s_nil ?_;replace H:=H.pk [0,2,3,4,10,11]
 refine W.cond ((((av != 0)||(al != 0))||(decide (r0<ag)))||(decide (ah<r0))) rfl (fun bF=>?_) (fun bF=>?_)
 ·replace hM:=M.e_t hM bF;refine kg 4 ?_;replace H:=H.pk [];refine W.ret ?_
  have aB:=M.e_pure hM
  exact ⟨_,resE_tmp rfl,⟨false,aB,rfl,H⟩⟩
 replace hM:=M.e_f hM bF;refine kg 15 ?_;refine s_val (x_por (b:=decide (200000<ah)) (r:=decide ((ac.getD (Int.toNat ((aa.getD 0 default).up)) 0)<2)) rfl rfl (fun hb=>gd_of (c:=!(decide (200000<ah))) (by first | exact hb | (rw [hb]; rfl) | simp_all) (B (decide ((ac.getD (Int.toNat ((aa.getD 0 default).up)) 0)<2)))))<|s_nil ?_
 refine W.cond ((decide (200000<ah))||(decide ((ac.getD (Int.toNat ((aa.getD 0 default).up)) 0)<2))) rfl (fun bG=>?_) (fun bG=>?_)
 ·replace hM:=M.e_t hM bG;refine kg 2 ?_;obtain ⟨dV,cf,hM⟩:=M.e_bind hM;refine s_call cf9 [] rfl (zdw cf _ (H.gt 6)) ?_
  rintro vq dW ⟨r4,rfl,hvq,ae⟩
  subst vq;(try dsimp only at hM);replace H:=H.bk ae;clear ae;refine kg 2 ?_;replace H:=H.pk [];refine W.ret ?_
  have aB:=M.e_pure hM
  exact ⟨_,resE_tmp rfl,⟨r4,aB,rfl,H⟩⟩
 replace hM:=M.e_f hM bG;refine W.skip ?_;refine W.seqJ (fun σ W=>∃ (au:Nat) (r5:Int) (r6:Int) (aP:Int) (aQ:Int) (ρ:Env),σ=upds ρ [(2,I at_),(8,Pq ay),(9,Pq aq),(10,Pq az),(13,Pq ao),(15,Pq au)]/\(zb1 gaugings at_ aa ac ap r0 ag ah r5 r6 aP aQ).Ends r/\St w W [cBlk au [I r5,I r6,I (ac.getD (Int.toNat ((aa.getD 0 default).up)) 0),I r0] 52,cBlk aq [aS,I aP,I aQ] 82,cBlk ao [I ag,I ah] 36,cBlk az [I ((aa.getD 0 default).up),I ((aa.getD 0 default).down),I ((aa.getD 0 default).lo),I ((aa.getD 0 default).hi),B ((aa.getD 0 default).narrow)] 38,cBlk ay [ak,am] 30,cOwn (α:=Int) 3 ak ac,cOwn (α:=Int) 3 am ap] R) ?_ ?_
 ·skip
  refine W.drawTS (fun W=>St w W [cBlk ao [I ag,I ah] 36,cBlk az [I ((aa.getD 0 default).up),I ((aa.getD 0 default).down),I ((aa.getD 0 default).lo),I ((aa.getD 0 default).hi),B ((aa.getD 0 default).narrow)] 38,cBlk ay [ak,am] 30,cOwn (α:=Int) 3 ak ac,cOwn (α:=Int) 3 am ap] R) (.q 0 (.q 1 (.q 2 (.q 3 (.q 4 (.q 5 (.q 6 (.q 7 (.q 9 (.q 10 (.q 11 (.q 14 (.q 15 (.q 16 (.q 17 (.q 18 (.q 19 (.q 20 (.q 21 (.l2 8 (.l2 12 (.q 13 (.q 22 (.l 23 .nil))) 23 (.l 12 (.q 13 (.q 22 .nil)))) 23 (.l 8 (.l 12 (.q 13 (.q 22 .nil)))))))))))))))))))))))) 24 [24] mixed (by decide +kernel) rfl ?_;intro dX aA;replace H:=H.ext aA;clear aA
  refine ⟨(H.pk [0,1,3,4,5]),?_⟩
  refine ts_q rfl (fun w' H=>x_mv (v:=Pq aq) rfl) ?_;refine ts_q rfl (fun w' H=>x_fa (v:=Pq ay) rfl (fa_blk (o:=0) Fd30_0 Sz28)) ?_;refine ts_q rfl (fun w' H=>x_ld (v:=ak) rfl (ldb_sc Sc28 (H.bl 2) rfl)) ?_;refine ts_q rfl (fun w' H=>x_fa (v:=Pq az) rfl (fa_blk (o:=0) Fd38_0 Sz3)) ?_;refine ts_q rfl (fun w' H=>x_ld (v:=I ((aa.getD 0 default).up)) rfl (ldb_sc Sc3 (H.bl 1) rfl)) ?_;refine ts_q rfl (fun w' H=>x_ix (v:=vat ak 1 (Int.toNat ((aa.getD 0 default).up))) rfl rfl (Sl.ix (α:=Int) T28.und T28.size (H.os 3) (by omega) (by omega))) ?_;refine ts_q rfl (fun w' H=>x_ld (v:=I (ac.getD (Int.toNat ((aa.getD 0 default).up)) 0)) rfl (ld_sc Sc3 (At.mono (Int_at (H.os 3) (i:=(aa.getD 0 default).up) (by omega) (by omega)) (H.ol 3)))) ?_;obtain ⟨dY,hM⟩:=M.e_gd hM;refine ts_q rfl (fun w' H=>x_ari (r:=(ac.getD (Int.toNat ((aa.getD 0 default).up)) 0)-1) rfl rfl rfl (by omega)) ?_;refine ts_q rfl (fun w' H=>x_mv (v:=Pq aq) rfl) ?_;refine ts_q rfl (fun w' H=>x_mv (v:=I r0) rfl) ?_;obtain ⟨dZ,hM⟩:=M.e_gd hM;refine ts_q rfl (fun w' H=>x_ari (r:=r0+1) rfl rfl rfl (by omega)) ?_;refine ts_q rfl (fun w' H=>x_fa (v:=Pq ay) rfl (fa_blk (o:=0) Fd30_0 Sz28)) ?_;refine ts_q rfl (fun w' H=>x_ld (v:=ak) rfl (ldb_sc Sc28 (H.bl 2) rfl)) ?_;refine ts_q rfl (fun w' H=>x_fa (v:=Pq az) rfl (fa_blk (o:=0) Fd38_0 Sz3)) ?_;refine ts_q rfl (fun w' H=>x_ld (v:=I ((aa.getD 0 default).up)) rfl (ldb_sc Sc3 (H.bl 1) rfl)) ?_;refine ts_q rfl (fun w' H=>x_ix (v:=vat ak 1 (Int.toNat ((aa.getD 0 default).up))) rfl rfl (Sl.ix (α:=Int) T28.und T28.size (H.os 3) (by omega) (by omega))) ?_;refine ts_q rfl (fun w' H=>x_ld (v:=I (ac.getD (Int.toNat ((aa.getD 0 default).up)) 0)) rfl (ld_sc Sc3 (At.mono (Int_at (H.os 3) (i:=(aa.getD 0 default).up) (by omega) (by omega)) (H.ol 3)))) ?_;refine ts_q rfl (fun w' H=>x_mv (v:=I r0) rfl) ?_;refine ts_q rfl (fun w' H=>x_bld (ps:=[(0,I (ac.getD (Int.toNat ((aa.getD 0 default).up)) 0)),(1,I r0)]) (zs:=[I 0,I 0]) (L':=[I (ac.getD (Int.toNat ((aa.getD 0 default).up)) 0),I r0]) rfl Tryz.underlying50 Al50 rfl (Bd50 Tryz.underlying50) (.cons (cs:=[I (ac.getD (Int.toNat ((aa.getD 0 default).up)) 0)]) rfl rfl rfl rfl rfl<|.cons (cs:=[I r0]) rfl rfl rfl rfl rfl<|.nil)) ?_;refine ts_l2 rfl rfl ?_ ?_
  ·skip
   obtain ⟨d4,cg,hM⟩:=M.e_bind hM;refine s_call cf10 [Pq aq,I ((ac.getD (Int.toNat ((aa.getD 0 default).up)) 0)-1)] rfl (zac gaugings bp br ((ac.getD (Int.toNat ((aa.getD 0 default).up)) 0)-1) (aL.app _) aM cg _ ((H.pk [2,0,1,3,4,5]).gt 5)) ?_
   rintro vq d5 ⟨r5,bz,bA,rfl,hvq,ae⟩
   subst vq;(try dsimp only at hM)
   replace H:=H.pk [2,0,1,3,4,5] |>.bk ae
   clear ae
   refine s_nil ⟨(H.pk [1,2,3,4,5]),?_⟩
   refine ts_l2 rfl rfl ?_ ?_
   ·skip
    obtain ⟨d6,ch,hM⟩:=M.e_bind hM;refine s_call cf10 [Pq aq,I (r0+1)] rfl (zac gaugings bz bA (r0+1) (aL.app _) aM ch _ (H.gt 5)) ?_
    rintro vq d7 ⟨r6,aP,aQ,rfl,hvq,ae⟩
    subst vq;(try dsimp only at hM);replace H:=H.bk ae;clear ae
    refine s_nil ⟨(H.pk [1,2,3,4,5]),?_⟩
    refine ts_q rfl (fun w' H=>x_bld (ps:=[(0,I r5),(1,I r6)]) (zs:=[I 0,I 0]) (L':=[I r5,I r6]) rfl Tryz.underlying50 Al50 rfl (Bd50 Tryz.underlying50) (.cons (cs:=[I r5]) rfl rfl rfl rfl rfl<|.cons (cs:=[I r6]) rfl rfl rfl rfl rfl<|.nil)) ?_;refine ts_q rfl (fun w' H=>x_bld (ps:=[(0,.agg #[I r5,I r6]),(1,.agg #[I (ac.getD (Int.toNat ((aa.getD 0 default).up)) 0),I r0])]) (zs:=[I 0,I 0,I 0,I 0]) (L':=[I r5,I r6,I (ac.getD (Int.toNat ((aa.getD 0 default).up)) 0),I r0]) rfl Tryz.underlying52 Al52 rfl (Bd52 Tryz.underlying52) (.cons (cs:=[I r5,I r6]) rfl rfl rfl rfl rfl<|.cons (cs:=[I (ac.getD (Int.toNat ((aa.getD 0 default).up)) 0),I r0]) rfl rfl rfl rfl rfl<|.nil)) ?_;refine ts_l rfl ?_;refine t_alloc (cs:=[I 0,I 0,I 0,I 0]) H Al52 rfl ?_;intro au d8 H
    refine s_nil ⟨(H.pk [2,3,4,5,6]),?_⟩
    refine ts_nil ?_;refine sr_l rfl ?_;refine t_sw 0 0 [I r5,I r6,I (ac.getD (Int.toNat ((aa.getD 0 default).up)) 0),I r0] (.agg #[I r5,I r6,I (ac.getD (Int.toNat ((aa.getD 0 default).up)) 0),I r0]) H rfl rfl Sz52 rfl rfl rfl rfl ?_;intro d9 H
    refine s_nil ⟨trivial,?_⟩
    refine sr_nil ?_
    exact ⟨au,r5,r6,aP,aQ,_,upds_of _ _ ⟨rfl,rfl,rfl,rfl,rfl,rfl,trivial⟩,hM,H⟩
   skip
   refine t_alloc (cs:=[I 0,I 0,I 0,I 0]) H Al52 rfl ?_;intro au ed H
   refine s_nil ⟨(H.pk [2,3,4,5,6]),?_⟩
   refine ts_l rfl ?_;obtain ⟨ee,ci,hM⟩:=M.e_bind hM;refine s_call cf10 [Pq aq,I (r0+1)] rfl (zac gaugings bz bA (r0+1) (aL.app _) aM ci _ ((H.pk [1,0,2,3,4,5,6]).gt 6)) ?_
   rintro vq ef ⟨r6,aP,aQ,rfl,hvq,ae⟩
   subst vq;(try dsimp only at hM)
   replace H:=H.pk [1,0,2,3,4,5,6] |>.bk ae
   clear ae
   refine s_nil ⟨(H.pk [2,3,4,5,6]),?_⟩
   refine ts_q rfl (fun w' H=>x_bld (ps:=[(0,I r5),(1,I r6)]) (zs:=[I 0,I 0]) (L':=[I r5,I r6]) rfl Tryz.underlying50 Al50 rfl (Bd50 Tryz.underlying50) (.cons (cs:=[I r5]) rfl rfl rfl rfl rfl<|.cons (cs:=[I r6]) rfl rfl rfl rfl rfl<|.nil)) ?_;refine ts_q rfl (fun w' H=>x_bld (ps:=[(0,.agg #[I r5,I r6]),(1,.agg #[I (ac.getD (Int.toNat ((aa.getD 0 default).up)) 0),I r0])]) (zs:=[I 0,I 0,I 0,I 0]) (L':=[I r5,I r6,I (ac.getD (Int.toNat ((aa.getD 0 default).up)) 0),I r0]) rfl Tryz.underlying52 Al52 rfl (Bd52 Tryz.underlying52) (.cons (cs:=[I r5,I r6]) rfl rfl rfl rfl rfl<|.cons (cs:=[I (ac.getD (Int.toNat ((aa.getD 0 default).up)) 0),I r0]) rfl rfl rfl rfl rfl<|.nil)) ?_;refine ts_nil ?_;refine sr_l rfl ?_;refine t_sw 1 0 [I r5,I r6,I (ac.getD (Int.toNat ((aa.getD 0 default).up)) 0),I r0] (.agg #[I r5,I r6,I (ac.getD (Int.toNat ((aa.getD 0 default).up)) 0),I r0]) H rfl rfl Sz52 rfl rfl rfl rfl ?_;intro eg H
   refine s_nil ⟨trivial,?_⟩
   refine sr_nil ?_
   exact ⟨au,r5,r6,aP,aQ,_,upds_of _ _ ⟨rfl,rfl,rfl,rfl,rfl,rfl,trivial⟩,hM,(H.pk [1,0,2,3,4,5,6])⟩
  skip
  refine t_alloc (cs:=[I 0,I 0,I 0,I 0]) H Al52 rfl ?_;intro au ei H
  refine s_nil ⟨(H.pk [1,2,4,5,6]),?_⟩
  refine ts_l rfl ?_;obtain ⟨ej,cj,hM⟩:=M.e_bind hM;refine s_call cf10 [Pq aq,I ((ac.getD (Int.toNat ((aa.getD 0 default).up)) 0)-1)] rfl (zac gaugings bp br ((ac.getD (Int.toNat ((aa.getD 0 default).up)) 0)-1) (aL.app _) aM cj _ ((H.pk [3,0,1,2,4,5,6]).gt 6)) ?_
  rintro vq em ⟨r5,bz,bA,rfl,hvq,ae⟩
  subst vq;(try dsimp only at hM)
  replace H:=H.pk [3,0,1,2,4,5,6] |>.bk ae
  clear ae
  refine s_nil ⟨(H.pk [2,3,4,5,6]),?_⟩
  refine ts_l rfl ?_;obtain ⟨eo,ck,hM⟩:=M.e_bind hM;refine s_call cf10 [Pq aq,I (r0+1)] rfl (zac gaugings bz bA (r0+1) (aL.app _) aM ck _ (H.gt 6)) ?_
  rintro vq ep ⟨r6,aP,aQ,rfl,hvq,ae⟩
  subst vq;(try dsimp only at hM);replace H:=H.bk ae;clear ae
  refine s_nil ⟨(H.pk [2,3,4,5,6]),?_⟩
  refine ts_q rfl (fun w' H=>x_bld (ps:=[(0,I r5),(1,I r6)]) (zs:=[I 0,I 0]) (L':=[I r5,I r6]) rfl Tryz.underlying50 Al50 rfl (Bd50 Tryz.underlying50) (.cons (cs:=[I r5]) rfl rfl rfl rfl rfl<|.cons (cs:=[I r6]) rfl rfl rfl rfl rfl<|.nil)) ?_;refine ts_q rfl (fun w' H=>x_bld (ps:=[(0,.agg #[I r5,I r6]),(1,.agg #[I (ac.getD (Int.toNat ((aa.getD 0 default).up)) 0),I r0])]) (zs:=[I 0,I 0,I 0,I 0]) (L':=[I r5,I r6,I (ac.getD (Int.toNat ((aa.getD 0 default).up)) 0),I r0]) rfl Tryz.underlying52 Al52 rfl (Bd52 Tryz.underlying52) (.cons (cs:=[I r5,I r6]) rfl rfl rfl rfl rfl<|.cons (cs:=[I (ac.getD (Int.toNat ((aa.getD 0 default).up)) 0),I r0]) rfl rfl rfl rfl rfl<|.nil)) ?_;refine ts_nil ?_;refine sr_l rfl ?_;refine t_sw 1 0 [I r5,I r6,I (ac.getD (Int.toNat ((aa.getD 0 default).up)) 0),I r0] (.agg #[I r5,I r6,I (ac.getD (Int.toNat ((aa.getD 0 default).up)) 0),I r0]) H rfl rfl Sz52 rfl rfl rfl rfl ?_;intro eq H
  refine s_nil ⟨trivial,?_⟩
  refine sr_nil ?_
  exact ⟨au,r5,r6,aP,aQ,_,upds_of _ _ ⟨rfl,rfl,rfl,rfl,rfl,rfl,trivial⟩,hM,(H.pk [1,0,2,3,4,5,6])⟩
 rintro _ er ⟨au,r5,r6,aP,aQ,ρ,rfl,hM,H⟩
 unfold zb1 at hM
 refine kg 3 ?_;refine t_bs (α:=RLn) T53 [.agg #[I r5,I r6,I (ac.getD (Int.toNat ((aa.getD 0 default).up)) 0),I r0]] [(⟨(r5:Int),(r6:Int),(ac.getD (Int.toNat ((aa.getD 0 default).up)) 0:Int),(r0:Int)⟩:RLn)] H rfl (.cons rfl (Flat.rep_enc _ (⟨(r5:Int),(r6:Int),(ac.getD (Int.toNat ((aa.getD 0 default).up)) 0:Int),(r0:Int)⟩:RLn))<|.nil) rfl rfl rfl ?_;intro ax eu H;refine s_val (x_bld (ps:=[(1,ax)]) (zs:=[.slice none 0 0,.slice none 0 0]) (L':=[.slice none 0 0,ax]) rfl Tryz.underlying55 Al55 rfl (Bd55 Tryz.underlying55) (.cons (cs:=[ax]) (Sl.cells (H.os 0)) rfl rfl rfl rfl<|.nil)) ?_;refine t_alloc (cs:=[.slice none 0 0,.slice none 0 0]) H Al55 rfl ?_;intro aU ew H;refine t_sw 0 0 [.slice none 0 0,ax] (.agg #[.slice none 0 0,ax]) H rfl rfl Sz55 rfl rfl rfl (by simp only [List.all_cons,List.all_nil,Bool.true_and,Bool.and_true,Sl.oc (H.os 1)]; try rfl) ?_;intro ey H;refine kg 9 ?_;obtain ⟨ez,cn,hM⟩:=M.e_bind hM;refine s_call cf11 [Pq aq,I 1,I 5] rfl (zai gaugings aP aQ 1 5 (aL.app _) aM cn _ ((H.pk [3,0,1,2,4,5,6,7,8]).gt 8)) ?_
 rintro vq eA ⟨r7,co,cp,rfl,hvq,ae⟩
 subst vq;(try dsimp only at hM)
 replace H:=H.pk [3,0,1,2,4,5,6,7,8] |>.bk ae
 clear ae;refine kg 3 ?_
 replace H:=H.nilOwn (α:=Gg) 59
 obtain ⟨cq,bH,bT⟩:=M.e_bind hM
 obtain ⟨eB,bH⟩:=M.e_iter bH
 refine W.loop (fun m σ W=>∃ (s:Int) (s2:Int) (k:Int) (l:List Gg) (aI:Value) (ρ:Env),σ=upds ρ [(2,I at_),(8,Pq ay),(9,Pq aq),(10,Pq az),(13,Pq ao),(15,Pq au),(16,Pq aU),(17,aI),(18,I k)]/\M.iterN (zaQ gaugings aa ac r0 r5 r6) m (s,s2,k,l)=some cq/\St w W [cOwn (α:=Gg) 59 aI l,cBlk aq [aS,I s,I s2] 82,cBlk aU [.slice none 0 0,ax] 55,cOwn (α:=RLn) 52 ax ([(⟨(r5:Int),(r6:Int),(ac.getD (Int.toNat ((aa.getD 0 default).up)) 0:Int),(r0:Int)⟩:RLn)]),cBlk au [I r5,I r6,I (ac.getD (Int.toNat ((aa.getD 0 default).up)) 0),I r0] 52,cBlk ao [I ag,I ah] 36,cBlk az [I ((aa.getD 0 default).up),I ((aa.getD 0 default).down),I ((aa.getD 0 default).lo),I ((aa.getD 0 default).hi),B ((aa.getD 0 default).narrow)] 38,cBlk ay [ak,am] 30,cOwn (α:=Int) 3 ak ac,cOwn (α:=Int) 3 am ap] R) ?_ ?_
 ·exact ⟨_,co,cp,r7,[],(.slice none 0 0),_,upds_of _ _ ⟨rfl,rfl,rfl,rfl,rfl,rfl,rfl,rfl,rfl,trivial⟩,bH,H⟩
 rintro eC σ eD ⟨s,s2,k,l,aI,ρ,rfl,bU,H⟩
 obtain ⟨cr,ct,cv,hM,bI⟩:=M.e_iterN bU
 simp only [zaQ] at hM
 clear bU;refine kg 6 ?_
 refine W.cond (decide (0<k)) rfl (fun bh=>?_) (fun bh=>?_)
 ·replace hM:=M.e_t hM bh
  replace bh:=dI bh
  refine kg 3 ?_;refine W.seqJ (fun σ W=>∃ (bi:Nat) (r8:Int) (aW:Int) (aX:Int) (ρ:Env),σ=upds ρ [(2,I at_),(8,Pq ay),(9,Pq aq),(10,Pq az),(13,Pq ao),(15,Pq au),(16,Pq aU),(17,aI),(18,I k),(19,Pq bi)]/\(zcl gaugings aa ac r0 r5 r6 k l r8 aW aX).Ends cv/\St w W [cBlk bi [I (r5+r8),I 0,I 0] 59,cBlk aq [aS,I aW,I aX] 82,cOwn (α:=Gg) 59 aI l,cBlk aU [.slice none 0 0,ax] 55,cOwn (α:=RLn) 52 ax ([(⟨(r5:Int),(r6:Int),(ac.getD (Int.toNat ((aa.getD 0 default).up)) 0:Int),(r0:Int)⟩:RLn)]),cBlk au [I r5,I r6,I (ac.getD (Int.toNat ((aa.getD 0 default).up)) 0),I r0] 52,cBlk ao [I ag,I ah] 36,cBlk az [I ((aa.getD 0 default).up),I ((aa.getD 0 default).down),I ((aa.getD 0 default).lo),I ((aa.getD 0 default).hi),B ((aa.getD 0 default).narrow)] 38,cBlk ay [ak,am] 30,cOwn (α:=Int) 3 ak ac,cOwn (α:=Int) 3 am ap] R) ?_ ?_
  ·skip
   refine W.drawTS (fun W=>St w W [cOwn (α:=Gg) 59 aI l,cBlk aU [.slice none 0 0,ax] 55,cOwn (α:=RLn) 52 ax ([(⟨(r5:Int),(r6:Int),(ac.getD (Int.toNat ((aa.getD 0 default).up)) 0:Int),(r0:Int)⟩:RLn)]),cBlk au [I r5,I r6,I (ac.getD (Int.toNat ((aa.getD 0 default).up)) 0),I r0] 52,cBlk ao [I ag,I ah] 36,cBlk az [I ((aa.getD 0 default).up),I ((aa.getD 0 default).down),I ((aa.getD 0 default).lo),I ((aa.getD 0 default).hi),B ((aa.getD 0 default).narrow)] 38,cBlk ay [ak,am] 30,cOwn (α:=Int) 3 ak ac,cOwn (α:=Int) 3 am ap] R) (.q 0 (.q 1 (.q 2 (.q 3 (.q 4 (.q 5 (.q 6 (.q 7 (.q 8 (.q 9 (.q 10 (.l2 11 (.q 12 (.q 13 (.l 14 .nil))) 14 (.l 11 (.q 12 (.q 13 .nil))))))))))))))) 15 [15] mixed (by decide +kernel) rfl ?_;intro eE aA;replace H:=H.ext aA;clear aA
   refine ⟨(H.pk [0,2,3,4,5,6,7,8,9]),?_⟩
   refine ts_q rfl (fun w' H=>x_fa (v:=Pq au) rfl (fa_blk (o:=0) Fd52_0 Sz50)) ?_;refine ts_q rfl (fun w' H=>x_fa (v:=Pq au) rfl (fa_blk (o:=0) Fd50_0 Sz3)) ?_;refine ts_q rfl (fun w' H=>x_ld (v:=I r5) rfl (ldb_sc Sc3 (H.bl 3) rfl)) ?_;refine ts_q rfl (fun w' H=>x_mv (v:=Pq aq) rfl) ?_;refine ts_q rfl (fun w' H=>x_fa (v:=Oq au 2) rfl (fa_blk (o:=0) Fd52_1 Sz50)) ?_;refine ts_q rfl (fun w' H=>x_fa (v:=Oq au 2) rfl (fa_blk (o:=2) Fd50_0 Sz3)) ?_;refine ts_q rfl (fun w' H=>x_ld (v:=I (ac.getD (Int.toNat ((aa.getD 0 default).up)) 0)) rfl (ldb_sc Sc3 (H.bl 3) rfl)) ?_;refine ts_q rfl (fun w' H=>x_fa (v:=Pq au) rfl (fa_blk (o:=0) Fd52_0 Sz50)) ?_;refine ts_q rfl (fun w' H=>x_fa (v:=Pq au) rfl (fa_blk (o:=0) Fd50_0 Sz3)) ?_;refine ts_q rfl (fun w' H=>x_ld (v:=I r5) rfl (ldb_sc Sc3 (H.bl 3) rfl)) ?_;obtain ⟨eF,hM⟩:=M.e_gd hM;refine ts_q rfl (fun w' H=>x_ari (r:=(ac.getD (Int.toNat ((aa.getD 0 default).up)) 0)-r5) rfl rfl rfl (by omega)) ?_;refine ts_l2 rfl rfl ?_ ?_
   ·skip
    obtain ⟨eG,cw,hM⟩:=M.e_bind hM;refine s_call cf10 [Pq aq,I ((ac.getD (Int.toNat ((aa.getD 0 default).up)) 0)-r5)] rfl (zac gaugings s s2 ((ac.getD (Int.toNat ((aa.getD 0 default).up)) 0)-r5) (aL.app _) aM cw _ ((H.pk [1,0,2,3,4,5,6,7,8,9]).gt 9)) ?_
    rintro vq eH ⟨r8,aW,aX,rfl,hvq,ae⟩
    subst vq;(try dsimp only at hM)
    replace H:=H.pk [1,0,2,3,4,5,6,7,8,9] |>.bk ae
    clear ae
    refine s_nil ⟨(H.pk [1,2,3,4,5,6,7,8,9]),?_⟩
    obtain ⟨eI,hM⟩:=M.e_gd hM;refine ts_q rfl (fun w' H=>x_ari (r:=r5+r8) rfl rfl rfl (by omega)) ?_;refine ts_q rfl (fun w' H=>x_bld (ps:=[(0,I (r5+r8))]) (zs:=[I 0,I 0,I 0]) (L':=[I (r5+r8),I 0,I 0]) rfl Tryz.underlying59 Al59 rfl (Bd59 Tryz.underlying59) (.cons (cs:=[I (r5+r8)]) rfl rfl rfl rfl rfl<|.nil)) ?_;refine ts_l rfl ?_;refine t_alloc (cs:=[I 0,I 0,I 0]) H Al59 rfl ?_;intro bi eJ H
    refine s_nil ⟨(H.pk [2,3,4,5,6,7,8,9,10]),?_⟩
    refine ts_nil ?_;refine sr_l rfl ?_;refine t_sw 0 0 [I (r5+r8),I 0,I 0] (.agg #[I (r5+r8),I 0,I 0]) H rfl rfl Sz59 rfl rfl rfl rfl ?_;intro eK H
    refine s_nil ⟨trivial,?_⟩
    refine sr_nil ?_
    exact ⟨bi,r8,aW,aX,_,upds_of _ _ ⟨rfl,rfl,rfl,rfl,rfl,rfl,rfl,rfl,rfl,rfl,trivial⟩,hM,H⟩
   skip
   refine t_alloc (cs:=[I 0,I 0,I 0]) H Al59 rfl ?_;intro bi eL H
   refine s_nil ⟨(H.pk [1,3,4,5,6,7,8,9,10]),?_⟩
   refine ts_l rfl ?_;obtain ⟨eM,cx,hM⟩:=M.e_bind hM;refine s_call cf10 [Pq aq,I ((ac.getD (Int.toNat ((aa.getD 0 default).up)) 0)-r5)] rfl (zac gaugings s s2 ((ac.getD (Int.toNat ((aa.getD 0 default).up)) 0)-r5) (aL.app _) aM cx _ ((H.pk [2,0,1,3,4,5,6,7,8,9,10]).gt 10)) ?_
   rintro vq eN ⟨r8,aW,aX,rfl,hvq,ae⟩
   subst vq;(try dsimp only at hM)
   replace H:=H.pk [2,0,1,3,4,5,6,7,8,9,10] |>.bk ae
   clear ae
   refine s_nil ⟨(H.pk [2,3,4,5,6,7,8,9,10]),?_⟩
   obtain ⟨eO,hM⟩:=M.e_gd hM;refine ts_q rfl (fun w' H=>x_ari (r:=r5+r8) rfl rfl rfl (by omega)) ?_;refine ts_q rfl (fun w' H=>x_bld (ps:=[(0,I (r5+r8))]) (zs:=[I 0,I 0,I 0]) (L':=[I (r5+r8),I 0,I 0]) rfl Tryz.underlying59 Al59 rfl (Bd59 Tryz.underlying59) (.cons (cs:=[I (r5+r8)]) rfl rfl rfl rfl rfl<|.nil)) ?_;refine ts_nil ?_;refine sr_l rfl ?_;refine t_sw 1 0 [I (r5+r8),I 0,I 0] (.agg #[I (r5+r8),I 0,I 0]) H rfl rfl Sz59 rfl rfl rfl rfl ?_;intro eP H
   refine s_nil ⟨trivial,?_⟩
   refine sr_nil ?_
   exact ⟨bi,r8,aW,aX,_,upds_of _ _ ⟨rfl,rfl,rfl,rfl,rfl,rfl,rfl,rfl,rfl,rfl,trivial⟩,hM,(H.pk [1,0,2,3,4,5,6,7,8,9,10])⟩
  rintro _ eQ ⟨bi,r8,aW,aX,ρ,rfl,hM,H⟩
  unfold zcl at hM
  refine kg 5 ?_;obtain ⟨eR,cy,hM⟩:=M.e_bind hM;refine s_call cf12 [.agg #[I r5,I r6,I (ac.getD (Int.toNat ((aa.getD 0 default).up)) 0),I r0],I (r5+r8)] rfl (zeR (⟨(r5:Int),(r6:Int),(ac.getD (Int.toNat ((aa.getD 0 default).up)) 0:Int),(r0:Int)⟩:RLn) (r5+r8) cy _ (H.gt 11)) ?_
  rintro vq eS ⟨aj,ai,aV,rfl,hvq,ae⟩
  subst vq;(try dsimp only at hM);replace H:=H.bk ae;clear ae;refine kg 3 ?_;refine t_alloc (cs:=[I 0,I 0]) H Al61 rfl ?_;intro bJ eT H;refine t_sw 0 0 [I aj,I ai] (.agg #[I aj,I ai]) H rfl rfl Sz61 rfl rfl rfl rfl ?_;intro eU H;refine kg 11 ?_;refine s_val (x_por (b:=aV != 0) (r:=decide (ai<1)) rfl rfl (fun hb=>gd_of (c:=!(aV != 0)) (by first | exact hb | (rw [hb]; rfl) | simp_all) (B (decide (ai<1)))))<|zM (B ((aV != 0)||(decide (ai<1)))) rfl<|g_val (!((aV != 0)||(decide (ai<1)))) (gy_f rfl) (fun hg=>x_fa (v:=Pq bJ) rfl (fa_blk (o:=0) Fd61_0 Sz3))<|g_val (!((aV != 0)||(decide (ai<1)))) (gy_f rfl) (fun hg=>x_ld (v:=I aj) (gd_of hg (Pq bJ)) (ldb_sc Sc3 (H.bl 0) rfl))<|g_val (!((aV != 0)||(decide (ai<1)))) (gy_f rfl) (fun hg=>x_cmp (kd:=.i64) (r:=decide (aj<0)) (gd_of hg (I aj)) rfl rfl)<|s_val (x_por (b:=((aV != 0)||(decide (ai<1)))) (r:=decide (aj<0)) rfl rfl (fun hb=>gd_of (c:=!((aV != 0)||(decide (ai<1)))) (by first | exact hb | (rw [hb]; rfl) | simp_all) (B (decide (aj<0)))))<|s_nil ?_
  refine W.cond (((aV != 0)||(decide (ai<1)))||(decide (aj<0))) rfl (fun bK=>?_) (fun bK=>?_)
  ·replace hM:=M.e_t hM bK;refine kg 4 ?_;replace H:=H.pk [2,3,4,5,6,7,8,9,10,11];refine W.ret ?_
   have cz:=M.e_inr hM bI
   subst cz;replace hM:=bT;(try dsimp only at hM)
   have aB:=M.e_pure hM
   exact ⟨_,resE_tmp rfl,⟨false,aB,rfl,(H.pk [])⟩⟩
  replace hM:=M.e_f hM bK;refine kg 2 ?_;refine W.draw (fun W=>St w W [cBlk bJ [I aj,I ai] 61,cOwn (α:=Gg) 59 aI l,cBlk aU [.slice none 0 0,ax] 55,cOwn (α:=RLn) 52 ax ([(⟨(r5:Int),(r6:Int),(ac.getD (Int.toNat ((aa.getD 0 default).up)) 0:Int),(r0:Int)⟩:RLn)]),cBlk au [I r5,I r6,I (ac.getD (Int.toNat ((aa.getD 0 default).up)) 0),I r0] 52,cBlk ao [I ag,I ah] 36,cBlk az [I ((aa.getD 0 default).up),I ((aa.getD 0 default).down),I ((aa.getD 0 default).lo),I ((aa.getD 0 default).hi),B ((aa.getD 0 default).narrow)] 38,cBlk ay [ak,am] 30,cOwn (α:=Int) 3 ak ac,cOwn (α:=Int) 3 am ap] R) [(0,true),(1,true),(2,true),(3,true),(4,true),(5,true),(9,true),(10,true),(11,true),(12,true),(13,true),(14,true),(6,false),(7,true),(8,true),(15,false),(16,true),(17,true),(18,true),(19,true),(20,false)] mixed (by decide +kernel) rfl ?_;intro eV aA;replace H:=H.ext aA;clear aA
  refine ⟨(H.pk [0,3,4,5,6,7,8,9,10,11]),?_⟩
  obtain ⟨eW,hM⟩:=M.e_gd hM;refine kg 12 ?_;refine d_l rfl ?_;obtain ⟨eX,cA,hM⟩:=M.e_bind hM;refine s_call cf10 [Pq aq,I 5] rfl (zac gaugings aW aX 5 (aL.app _) aM cA _ ((H.pk [2,0,1,3,4,5,6,7,8,9,10,11]).gt 11)) ?_
  rintro vq eY ⟨r9,cB,cC,rfl,hvq,ae⟩
  subst vq;(try dsimp only at hM)
  replace H:=H.pk [2,0,1,3,4,5,6,7,8,9,10,11] |>.bk ae
  clear ae
  refine s_nil ⟨(H.pk [1,3,4,5,6,7,8,9,10,11]),?_⟩
  obtain ⟨eZ,hM⟩:=M.e_gd hM;refine kg 2 ?_;refine d_l rfl ?_;obtain ⟨e6,cD,hM⟩:=M.e_bind hM;refine s_call cf11 [Pq aq,I 1,I 5] rfl (zai gaugings cB cC 1 5 (aL.app _) aM cD _ (H.gt 11)) ?_
  rintro vq e7 ⟨aN,cE,cF,rfl,hvq,ae⟩
  subst vq;(try dsimp only at hM);replace H:=H.bk ae;clear ae
  refine s_nil ⟨(H.pk [1,3,4,5,6,7,8,9,10,11]),?_⟩
  obtain ⟨e8,hM⟩:=M.e_gd hM;refine kg 2 ?_;refine d_q rfl (fun w' H=>x_bld (ps:=[(0,I (max 0 ((aj / ai)-r9))),(1,I (min 200000 ((aj / ai)+aN)))]) (zs:=[I 0,I 0]) (L':=[I (max 0 ((aj / ai)-r9)),I (min 200000 ((aj / ai)+aN))]) rfl Tryz.underlying36 Al36 rfl (Bd36 Tryz.underlying36) (.cons (cs:=[I (max 0 ((aj / ai)-r9))]) rfl rfl rfl rfl rfl<|.cons (cs:=[I (min 200000 ((aj / ai)+aN))]) rfl rfl rfl rfl rfl<|.nil)) ?_;refine kg 1 ?_;refine d_l rfl ?_;refine t_sw 2 1 [I (max 0 ((aj / ai)-r9)),I (min 200000 ((aj / ai)+aN))] (.agg #[I (max 0 ((aj / ai)-r9)),I (min 200000 ((aj / ai)+aN))]) H rfl rfl Sz36 rfl rfl rfl rfl ?_;intro e9 H
  refine s_nil ⟨(H.pk [1,3,4,5,6,7,8,9,10,11]),?_⟩
  refine kg 4 ?_;refine t_bs (α:=Gg) T56 [.agg #[I (r5+r8),I (max 0 ((aj / ai)-r9)),I (min 200000 ((aj / ai)+aN))]] [(⟨(r5+r8:Int),(max 0 ((aj / ai)-r9):Int),(min 200000 ((aj / ai)+aN):Int)⟩:Gg)] H rfl (.cons rfl (Flat.rep_enc _ (⟨(r5+r8:Int),(max 0 ((aj / ai)-r9):Int),(min 200000 ((aj / ai)+aN):Int)⟩:Gg))<|.nil) rfl rfl rfl ?_;intro cG fd H;obtain ⟨fg,hM⟩:=M.e_gd hM;refine t_app (α:=Gg) (k:=4) (l:=l) (l2:=[(⟨(r5+r8:Int),(max 0 ((aj / ai)-r9):Int),(min 200000 ((aj / ai)+aN):Int)⟩:Gg)]) (l':=l++([(⟨(r5+r8:Int),(max 0 ((aj / ai)-r9):Int),(min 200000 ((aj / ai)+aN):Int)⟩:Gg)])) (vy:=cG) T56 rfl H rfl rfl rfl (H.os 0) (H.ol 0) (rfl) (by first | omega | (simp only [List.length_nil] at *; omega)) ?_;intro cH fh H;replace H:=H.nf;refine kg 2 ?_;replace H:=H.pk [1,2,4,5,6,7,8,9,10,11,12];obtain ⟨fi,hM⟩:=M.e_gd hM;refine kg 5 ?_
  exact ⟨cr,ct,cE,cF,k-1,l++([(⟨(r5+r8:Int),(max 0 ((aj / ai)-r9):Int),(min 200000 ((aj / ai)+aN):Int)⟩:Gg)]),cH,_,upds_of _ _ ⟨rfl,rfl,rfl,rfl,rfl,rfl,rfl,rfl,rfl,trivial⟩,M.e_inl hM bI,(H.pk [2,0,3,4,5,6,7,8,9,10])⟩
 replace hM:=M.e_f hM bh
 replace bh:=dI bh
 refine W.exit ?_
 have cI:=M.e_inr hM bI
 subst cI;replace hM:=bT;(try dsimp only at hM);replace H:=H.pk [0,2,3,5,6,7,8,9];refine W.seqJ (fun σ W=>∃ (bu:Value) (aJ:List Gg) (bV:Value) (ρ:Env),σ=upds ρ [(2,I at_),(16,Pq aU),(17,aI),(22,bu)]/\(zbK at_ aa ac r0 ag ah r5 r6 l aJ).Ends r/\St w W [cOwn (α:=Gg) 59 bV ([(⟨(ac.getD (Int.toNat ((aa.getD 0 default).up)) 0:Int),(ag:Int),(ah:Int)⟩:Gg)]),cOwn (α:=Gg) 59 bu (aJ++([(⟨(ac.getD (Int.toNat ((aa.getD 0 default).up)) 0:Int),(ag:Int),(ah:Int)⟩:Gg)])),cOwn (α:=Gg) 59 aI l,cBlk aU [.slice none 0 0,ax] 55,cOwn (α:=RLn) 52 ax ([(⟨(r5:Int),(r6:Int),(ac.getD (Int.toNat ((aa.getD 0 default).up)) 0:Int),(r0:Int)⟩:RLn)]),cBlk ao [I ag,I ah] 36,cBlk az [I ((aa.getD 0 default).up),I ((aa.getD 0 default).down),I ((aa.getD 0 default).lo),I ((aa.getD 0 default).hi),B ((aa.getD 0 default).narrow)] 38,cBlk ay [ak,am] 30,cOwn (α:=Int) 3 ak ac,cOwn (α:=Int) 3 am ap] R) ?_ ?_
 ·skip
  refine W.drawT (fun W=>St w W [cOwn (α:=Gg) 59 aI l,cBlk aU [.slice none 0 0,ax] 55,cOwn (α:=RLn) 52 ax ([(⟨(r5:Int),(r6:Int),(ac.getD (Int.toNat ((aa.getD 0 default).up)) 0:Int),(r0:Int)⟩:RLn)]),cBlk ao [I ag,I ah] 36,cBlk az [I ((aa.getD 0 default).up),I ((aa.getD 0 default).down),I ((aa.getD 0 default).lo),I ((aa.getD 0 default).hi),B ((aa.getD 0 default).narrow)] 38,cBlk ay [ak,am] 30,cOwn (α:=Int) 3 ak ac,cOwn (α:=Int) 3 am ap] R) (.q 0 (.q 2 (.q 3 (.q 4 (.q 5 (.q 6 (.q 7 (.q 8 (.q 9 (.l2 1 (.l 10 (.l 11 (.q 12 .nil))) 10 (.l 1 (.l 11 (.q 12 .nil))))))))))))) mixed (by decide +kernel) rfl ?_;intro fj aA;replace H:=H.ext aA;clear aA
  refine ⟨(H.pk [0,1,2,3,4,5,6,7]),?_⟩
  refine kg 8 ?_;refine t_q rfl (fun w' H=>x_bld (ps:=[(0,I (ac.getD (Int.toNat ((aa.getD 0 default).up)) 0)),(1,.agg #[I ag,I ah])]) (zs:=[I 0,I 0,I 0]) (L':=[I (ac.getD (Int.toNat ((aa.getD 0 default).up)) 0),I ag,I ah]) rfl Tryz.underlying59 Al59 rfl (Bd59 Tryz.underlying59) (.cons (cs:=[I (ac.getD (Int.toNat ((aa.getD 0 default).up)) 0)]) rfl rfl rfl rfl rfl<|.cons (cs:=[I ag,I ah]) rfl rfl rfl rfl rfl<|.nil)) ?_;refine t_l2 rfl rfl ?_ ?_
  ·skip
   obtain ⟨fk,cJ,hM⟩:=M.e_bind hM;refine s_call cf13 [aI] rfl (zdY l (rdo 0) (H.os 0) cJ _ (H.gt 8)) ?_
   rintro vq fm ⟨aJ,cK,rfl,hvq,ae⟩
   subst vq;(try dsimp only at hM);replace H:=H.bk ae;clear ae
   have fo:=Sl.cells (H.os 0)
   have fp:=Sl.oc (H.os 0)
   refine s_nil ⟨(H.pk [1,2,3,4,5,6,7,8]),?_⟩
   refine t_l rfl ?_;refine t_bs (α:=Gg) T56 [.agg #[I (ac.getD (Int.toNat ((aa.getD 0 default).up)) 0),I ag,I ah]] [(⟨(ac.getD (Int.toNat ((aa.getD 0 default).up)) 0:Int),(ag:Int),(ah:Int)⟩:Gg)] H rfl (.cons rfl (Flat.rep_enc _ (⟨(ac.getD (Int.toNat ((aa.getD 0 default).up)) 0:Int),(ag:Int),(ah:Int)⟩:Gg))<|.nil) rfl rfl rfl ?_;intro bW fq H
   have fu:=Sl.cells (H.os 0)
   have fw:=Sl.oc (H.os 0)
   refine s_nil ⟨(H.pk [2,3,4,5,6,7,8,9]),?_⟩
   refine t_l rfl ?_;obtain ⟨fy,hM⟩:=M.e_gd hM;refine t_app (α:=Gg) (k:=1) (l:=aJ) (l2:=[(⟨(ac.getD (Int.toNat ((aa.getD 0 default).up)) 0:Int),(ag:Int),(ah:Int)⟩:Gg)]) (l':=aJ++([(⟨(ac.getD (Int.toNat ((aa.getD 0 default).up)) 0:Int),(ag:Int),(ah:Int)⟩:Gg)])) (vy:=bW) T56 rfl H rfl rfl rfl (H.os 0) (H.ol 0) (rfl) (by first | omega | (simp only [List.length_nil] at *; omega)) ?_;intro cL fA H;replace H:=H.nf
   have fB:=Sl.cells (H.os 1)
   have fC:=Sl.oc (H.os 1)
   refine s_nil ⟨(H.pk [2,3,4,5,6,7,8,9]),?_⟩
   refine kg 2 ?_
   exact ⟨cL,aJ,bW,_,upds_of _ _ ⟨rfl,rfl,rfl,rfl,trivial⟩,hM,H⟩
  skip
  refine t_bs (α:=Gg) T56 [.agg #[I (ac.getD (Int.toNat ((aa.getD 0 default).up)) 0),I ag,I ah]] [(⟨(ac.getD (Int.toNat ((aa.getD 0 default).up)) 0:Int),(ag:Int),(ah:Int)⟩:Gg)] H rfl (.cons rfl (Flat.rep_enc _ (⟨(ac.getD (Int.toNat ((aa.getD 0 default).up)) 0:Int),(ag:Int),(ah:Int)⟩:Gg))<|.nil) rfl rfl rfl ?_;intro bX fD H
  have fE:=Sl.cells (H.os 0)
  have fG:=Sl.oc (H.os 0)
  refine s_nil ⟨(H.pk [1,2,3,4,5,6,7,8]),?_⟩
  refine t_l rfl ?_;obtain ⟨fH,cM,hM⟩:=M.e_bind hM;refine s_call cf13 [aI] rfl (zdY l (rdo 1) (H.os 1) cM _ (H.gt 9)) ?_
  rintro vq fI ⟨aJ,cK,rfl,hvq,ae⟩
  subst vq;(try dsimp only at hM);replace H:=H.bk ae;clear ae
  have fJ:=Sl.cells (H.os 0)
  have fK:=Sl.oc (H.os 0)
  refine s_nil ⟨(H.pk [2,3,4,5,6,7,8,9]),?_⟩
  refine t_l rfl ?_;obtain ⟨fL,hM⟩:=M.e_gd hM;refine t_app (α:=Gg) (k:=0) (l:=aJ) (l2:=[(⟨(ac.getD (Int.toNat ((aa.getD 0 default).up)) 0:Int),(ag:Int),(ah:Int)⟩:Gg)]) (l':=aJ++([(⟨(ac.getD (Int.toNat ((aa.getD 0 default).up)) 0:Int),(ag:Int),(ah:Int)⟩:Gg)])) (vy:=bX) T56 rfl H rfl rfl rfl (H.os 1) (H.ol 1) (rfl) (by first | omega | (simp only [List.length_nil] at *; omega)) ?_;intro cN fM H;replace H:=H.nf
  have fN:=Sl.cells (H.os 0)
  have fO:=Sl.oc (H.os 0)
  refine s_nil ⟨(H.pk [2,3,4,5,6,7,8,9]),?_⟩
  refine kg 2 ?_
  exact ⟨cN,aJ,bX,_,upds_of _ _ ⟨rfl,rfl,rfl,rfl,trivial⟩,hM,(H.pk [1,0,2,3,4,5,6,7,8,9])⟩
 rintro _ fP ⟨bu,aJ,bV,ρ,rfl,hM,H⟩
 unfold zbK at hM
 refine kg 4 ?_;obtain ⟨fQ,cO,hM⟩:=M.e_bind hM;refine s_call cf14 [bu,.agg #[.slice none 0 0,ax]] rfl (zfj (aJ++([(⟨(ac.getD (Int.toNat ((aa.getD 0 default).up)) 0:Int),(ag:Int),(ah:Int)⟩:Gg)])) ([]:List Int) ([(⟨(r5:Int),(r6:Int),(ac.getD (Int.toNat ((aa.getD 0 default).up)) 0:Int),(r0:Int)⟩:RLn)]) (rdo 1) (H.os 1) Reads.none (Sl.nil (fun _=>none)) (rdo 4) (H.os 4) cO _ (H.gt 10)) ?_
 rintro vq fR ⟨bL,bN,fS,rfl,hvq,ae⟩
 subst vq;(try dsimp only at hM);replace H:=H.bk ae;clear ae;refine kg 6 ?_;replace H:=H.pk [0,2,3,4,5];refine kg 9 ?_;refine s_val (x_por (b:=bN != 0) (r:=decide (0<(bL.length:Int))) rfl rfl (fun hb=>gd_of (c:=!(bN != 0)) (by first | exact hb | (rw [hb]; rfl) | simp_all) (B (decide (0<(bL.length:Int))))))<|s_nil ?_
 refine W.cond ((bN != 0)||(decide (0<(bL.length:Int)))) rfl (fun bO=>?_) (fun bO=>?_)
 ·replace hM:=M.e_t hM bO;refine kg 4 ?_;replace H:=H.pk [];refine W.ret ?_
  have aB:=M.e_pure hM
  exact ⟨_,resE_tmp rfl,⟨false,aB,rfl,H⟩⟩
 replace hM:=M.e_f hM bO;refine kg 4 ?_;obtain ⟨fT,cQ,hM⟩:=M.e_bind hM;refine s_call cf15 [I at_,I 2001] rfl (zfa at_ 2001 cQ _ (H.gt 5)) ?_
 rintro vq fU ⟨bt,rfl,hvq,ae⟩
 subst vq;(try dsimp only at hM);replace H:=H.bk ae;clear ae;refine kg 6 ?_;obtain ⟨fV,cS,hM⟩:=M.e_bind hM;refine s_call cf16 [aI,.slice none 0 0,I bt] rfl (zdD l ([]:List Int) bt (rdo 2) (H.os 2) Reads.none (Sl.nil (fun _=>none)) cS _ (H.gt 5)) ?_
 rintro vq fW ⟨aY,aZ,a7,a8,aC,rfl,hvq,ae⟩
 subst vq;(try dsimp only at hM);replace H:=H.bk ae;clear ae;refine kg 3 ?_;refine t_alloc (cs:=[I 0,I 0,I 0,I 0]) H Al68 rfl ?_;intro fX fY H;refine t_sw 0 0 [I aY,I aZ,I a7,I a8] (.agg #[I aY,I aZ,I a7,I a8]) H rfl rfl Sz68 rfl rfl rfl rfl ?_;intro fZ H;refine kg 2 ?_;replace H:=H.pk [0,2,4,5];refine kg 4 ?_;obtain ⟨f4,cT,hM⟩:=M.e_bind hM;refine s_call cf16 [bu,.slice none 0 0,I bt] rfl (zdD (aJ++([(⟨(ac.getD (Int.toNat ((aa.getD 0 default).up)) 0:Int),(ag:Int),(ah:Int)⟩:Gg)])) ([]:List Int) bt (rdo 1) (H.os 1) Reads.none (Sl.nil (fun _=>none)) cT _ (H.gt 4)) ?_
 rintro vq f6 ⟨ba,bb,bc,bf,aD,rfl,hvq,ae⟩
 subst vq;(try dsimp only at hM);replace H:=H.bk ae;clear ae;refine kg 3 ?_;refine t_alloc (cs:=[I 0,I 0,I 0,I 0]) H Al68 rfl ?_;intro f9 ga H;refine t_sw 0 0 [I ba,I bb,I bc,I bf] (.agg #[I ba,I bb,I bc,I bf]) H rfl rfl Sz68 rfl rfl rfl rfl ?_;intro gc H;refine kg 6 ?_;obtain ⟨gf,cU,hM⟩:=M.e_bind hM;refine s_call cf17 [.agg #[.slice none 0 0,ax],I bt] rfl (ze6 ([]:List Int) ([(⟨(r5:Int),(r6:Int),(ac.getD (Int.toNat ((aa.getD 0 default).up)) 0:Int),(r0:Int)⟩:RLn)]) bt Reads.none (Sl.nil (fun _=>none)) (rdo 4) (H.os 4) cU _ (H.gt 5)) ?_
 rintro vq gg ⟨bv,bw,aE,rfl,hvq,ae⟩
 subst vq;(try dsimp only at hM);replace H:=H.bk ae;clear ae;refine kg 3 ?_;refine t_alloc (cs:=[I 0,I 0]) H Al61 rfl ?_;intro gh gi H;refine t_sw 0 0 [I bv,I bw] (.agg #[I bv,I bw]) H rfl rfl Sz61 rfl rfl rfl rfl ?_;intro gj H;refine kg 2 ?_;replace H:=H.pk [0,1,2];refine kg 7 ?_;refine s_val (x_pand (b:=aC==0) (r:=aD==0) rfl (fun hb=>gd_of (c:=aC==0) (by first | exact hb | (rw [hb]; rfl) | simp_all) (B (aD==0))) rfl) ?_;refine kg 3 ?_;refine s_val (x_pand (b:=((aC==0)&&(aD==0))) (r:=aE==0) rfl (fun hb=>gd_of (c:=((aC==0)&&(aD==0))) (by first | exact hb | (rw [hb]; rfl) | simp_all) (B (aE==0))) rfl) ?_;refine kg 4 ?_;obtain ⟨aK,cV,hM⟩:=M.e_bind hM;refine t_gcall (((aC==0)&&(aD==0))&&(aE==0)) (gy_t rfl) cf18 (B aK) (fun _=>[.agg #[I ba,I bb],.agg #[I aY,I aZ,I a7,I a8]]) (fun hg=>lst2 (gd_of hg (.agg #[I ba,I bb])) (gd_of hg (.agg #[I aY,I aZ,I a7,I a8]))) H (fun hg=>(zdo (⟨(ba:Int),(bb:Int)⟩:Rto) aY aZ a7 a8 (M.e_opt cV hg) _ (H.give (A:=[]) rfl)).mono fun v_ w_ ⟨y_,aB,bj,H_⟩=>by subst aB; exact ⟨bj,H.via H_⟩) ?_;intro gk H;refine s_val (x_pand (b:=(((aC==0)&&(aD==0))&&(aE==0))) (r:=aK) rfl (fun hb=>gd_of (c:=(((aC==0)&&(aD==0))&&(aE==0))) (by first | exact hb | (rw [hb]; rfl) | simp_all) (B aK)) rfl) ?_;refine kg 4 ?_;obtain ⟨aR,cW,hM⟩:=M.e_bind hM;refine t_gcall ((((aC==0)&&(aD==0))&&(aE==0))&&aK) (gy_t rfl) cf18 (B aR) (fun _=>[.agg #[I bc,I bf],.agg #[I aY,I aZ,I a7,I a8]]) (fun hg=>lst2 (gd_of hg (.agg #[I bc,I bf])) (gd_of hg (.agg #[I aY,I aZ,I a7,I a8]))) H (fun hg=>(zdo (⟨(bc:Int),(bf:Int)⟩:Rto) aY aZ a7 a8 (M.e_opt cW hg) _ (H.give (A:=[]) rfl)).mono fun v_ w_ ⟨y_,aB,bj,H_⟩=>by subst aB; exact ⟨bj,H.via H_⟩) ?_;intro gl H;refine s_val (x_pand (b:=((((aC==0)&&(aD==0))&&(aE==0))&&aK)) (r:=aR) rfl (fun hb=>gd_of (c:=((((aC==0)&&(aD==0))&&(aE==0))&&aK)) (by first | exact hb | (rw [hb]; rfl) | simp_all) (B aR)) rfl) ?_;refine kg 3 ?_;obtain ⟨bm,cX,hM⟩:=M.e_bind hM;refine t_gcall (((((aC==0)&&(aD==0))&&(aE==0))&&aK)&&aR) (gy_t rfl) cf18 (B bm) (fun _=>[.agg #[I bv,I bw],.agg #[I ba,I bb,I bc,I bf]]) (fun hg=>lst2 (gd_of hg (.agg #[I bv,I bw])) (gd_of hg (.agg #[I ba,I bb,I bc,I bf]))) H (fun hg=>(zdo (⟨(bv:Int),(bw:Int)⟩:Rto) ba bb bc bf (M.e_opt cX hg) _ (H.give (A:=[]) rfl)).mono fun v_ w_ ⟨y_,aB,bj,H_⟩=>by subst aB; exact ⟨bj,H.via H_⟩) ?_;intro gm H;refine s_val (x_pand (b:=(((((aC==0)&&(aD==0))&&(aE==0))&&aK)&&aR)) (r:=bm) rfl (fun hb=>gd_of (c:=(((((aC==0)&&(aD==0))&&(aE==0))&&aK)&&aR)) (by first | exact hb | (rw [hb]; rfl) | simp_all) (B bm)) rfl) ?_;refine kg 1 ?_;obtain ⟨bB,cY,hM⟩:=M.e_bind hM;refine t_gcall ((((((aC==0)&&(aD==0))&&(aE==0))&&aK)&&aR)&&bm) (gy_t rfl) cf9 (B bB) (fun _=>[]) (fun _=>rfl) H (fun hg=>(zdw (M.e_opt cY hg) _ (H.give (A:=[]) rfl)).mono fun v_ w_ ⟨y_,aB,bj,H_⟩=>by subst aB; exact ⟨bj,H.via H_⟩) ?_;intro gn H;refine s_val (x_pand (b:=((((((aC==0)&&(aD==0))&&(aE==0))&&aK)&&aR)&&bm)) (r:=bB) rfl (fun hb=>gd_of (c:=((((((aC==0)&&(aD==0))&&(aE==0))&&aK)&&aR)&&bm)) (by first | exact hb | (rw [hb]; rfl) | simp_all) (B bB)) rfl) ?_;refine kg 2 ?_;replace H:=H.pk [];refine W.ret ?_
 have aB:=M.e_pure hM
 exact ⟨_,resE_tmp rfl,⟨(((((((aC==0)&&(aD==0))&&(aE==0))&&aK)&&aR)&&bm)&&bB),aB,rfl,H⟩⟩

end Go.Proofs.YtnncijcapdnlgaaGreat
end
namespace Go.Proofs.YtnncijcapdnlgaaGreat
open Go Go.Nm
theorem M.i_pT {b:Bool} (h:b=true):(M.pure b).Ends true:=by subst h; exact M.i_pure
theorem line_right {x:RLn} (R:RR x):(zao x).Ends true:=by
  have:=right_ends x
  rwa [rlB_iff.2 R] at this
theorem rating1' {x:RLn} (R:RR x):(zbj [] [x]).Ends 0:=by
  unfold zbj
  refine M.i_bind breaks0 (M.i_f rfl (M.i_grd (gA2 (by decide) (by decide)) (M.i_f rfl (M.i_bind (a:=true) ?_ (M.i_f rfl M.i_pure)))))
  unfold zcW zcS zcH
  refine M.i_bind (a:=false) (M.i_bind (a:=-1) (M.i_bind (a:=(Sum.inr ():Int ⊕ Unit)) ?_ M.i_pure) M.i_pure) M.i_pure
  refine M.i_next (s':=1) ?_ (M.i_stop ?_)
  · simp only [zbw]
    refine M.i_t (decide_eq_true (by simp)) (M.i_grd (decide_eq_true (by simp)) (M.i_bind (a:=false) ?_ (M.i_f rfl M.i_pure)))
    unfold zbR
    exact M.i_bind (line_right R) M.i_pure
  · simp only [zbw]
    exact M.i_f (decide_eq_false (by simp)) M.i_pure
theorem passes1 {l:List Gg} (hs:∀ g∈l,GO g) (h0:l ≠ []) (hn:l.length<=24) {x:RLn} (R:RR x) (P:∀ g∈l,pasB x g=true):(zbV l [] [x]).Ends ([],0):=by
  unfold zbV
  refine M.i_bind (check_ends' hs h0 hn) (M.i_t rfl (M.i_bind (rating1' R) ?_))
  unfold zbn
  refine M.i_f rfl (M.i_bind (a:=(([]:List Int),([]:List Int))) ?_ M.i_pure)
  refine M.i_for (fun i=>(i,([]:List Int))) l.length (fun i hi=>?_) ?_
  · simp only [zbN]
    have hm:l.getD i default∈l:=by rw [getD_el l hi]; exact List.getElem_mem hi
    have hp:=passes_ends R (hs _ hm)
    rw [P _ hm] at hp
    exact M.i_t (decide_eq_true (by omega)) (M.i_grd (decide_eq_true (by omega)) (M.i_bind (part0 _) (M.i_grd (gA2 (by decide) (by simp)) (M.i_bind hp (M.i_f rfl M.i_pure)))))
  · simp only [zbN]
    exact M.i_f (decide_eq_false (by omega)) M.i_pure
theorem at1 {x:RLn} (R:RR x) {t:Int} (t0:0<=t) (t1:t<=2000):(zb8 [] [x] t).Ends ((flowE x t).N,(flowE x t).D,0):=by
  unfold zb8
  refine M.i_bind (rating1' R) (M.i_f rfl (M.i_bind (rin_true t0 t1) (M.i_f rfl (M.i_bind (a:=((flowE x t).N,(flowE x t).D)) ?_ M.i_pure))))
  unfold zc0 zcR
  exact M.i_bind (a:=((flowE x t).N,(flowE x t).D)) (M.i_bind (part0 t) (M.i_grd (gA2 (by decide) (by simp)) (M.i_bind (flow_ends' R t0 t1) M.i_pure))) M.i_pure
theorem has1 {x:RLn} (R:RR x) {t:Int} (t0:0<=t) (t1:t<=2000):(zcc x t).Ends ((hasE x t).N,(hasE x t).D,0):=by
  unfold zcc
  exact M.i_bind (line_right R) (M.i_f rfl (M.i_bind (rin_true t0 t1) (M.i_f rfl (M.i_bind (has_ends R t0 t1) M.i_pure))))
theorem between_true {x a b:RLn} (R:RR x) (Ra:RR a) (Rb:RR b) {t:Int} (h1:(flowE a t).le (flowE x t)) (h2:(flowE x t).le (flowE b t)) :
    (zaF ⟨(flowE x t).N,(flowE x t).D⟩ (flowE a t).N (flowE a t).D (flowE b t).N (flowE b t).D).Ends true:=by
  have fx:=RR.flow_b R t
  have fa:=RR.flow_b Ra t
  have fb:=RR.flow_b Rb t
  have p1:=prod_b Ra R t
  have p2:=prod_b R Ra t
  have p3:=prod_b R Rb t
  have p4:=prod_b Rb R t
  unfold zaF
  dsimp only
  refine M.i_grd (gOr2 (by omega) (by omega)) (M.i_grd (gOr2 (by omega) (by omega)) (M.i_grd (gOr2 (by omega) (by omega)) (M.i_grd (gOr2 (by omega) (by omega)) (M.i_pT ?_))))
  simp only [Bool.and_eq_true,decide_eq_true_eq]
  exact ⟨⟨⟨⟨fx.1,fa.1⟩,fb.1⟩,h1⟩,h2⟩
section
variable {gs:List UInt8} {R2:List Rch} {ts:List Int} {r0 r5 r6 T:Int} (hT:ts.getD (Int.toNat (R2.getD 0 default).up) 0=T) (hR:RR ⟨r5,r6,T,r0⟩)
theorem line_at {r0 r5 r6 T:Int}:(ln ⟨r5,r6,T,r0⟩).at T=r0*(ln ⟨r5,r6,T,r0⟩).w:=by
  show r6*(T-r5)+(r0-r6)*(T-r5)=r0*(T-r5)
  rw [Int.sub_mul]
  omega
include hR in
theorem line_in {s:Int} (h0:r5<=s) (h1:s<=T):0<=(ln ⟨r5,r6,T,r0⟩).at s/\(ln ⟨r5,r6,T,r0⟩).at s<=r0*(ln ⟨r5,r6,T,r0⟩).w:=by
  have a1:r5<T:=hR.ab
  have a2:0<=r6:=hR.f0
  have a3:r6<=r0:=hR.ff
  show 0<=r6*(T-r5)+(r0-r6)*(s-r5)/\r6*(T-r5)+(r0-r6)*(s-r5)<=r0*(T-r5)
  have k1:0<=r6*(T-r5):=Int.mul_nonneg a2 (by omega)
  have k2:0<=(r0-r6)*(s-r5):=Int.mul_nonneg (by omega) (by omega)
  have k3:(r0-r6)*(s-r5)<=(r0-r6)*(T-r5):=mul_le_l (by omega) (by omega)
  rw [Int.sub_mul r0 r6 (T-r5)] at k3
  omega
include hT hR
theorem loop_out {q q' r7:Int} (hk:SOk 100 q q') (h7:1<=r7/\r7<=5):(M.iter (zaQ gs R2 ts r0 r5 r6) (q,q',r7,[])).Out (fun y=>match y with
    | .inl _=>False
    | .inr z=>z.2.1 ≠ []/\z.2.1.length<=5/\∀ g∈z.2.1,GO g/\pasB ⟨r5,r6,T,r0⟩ g=true):=by
  have b0:0<=r5:=hR.a0
  have b1:r5<T:=hR.ab
  have b2:T<=2000:=hR.bM
  have b3:0<=r6:=hR.f0
  have b4:r6<=r0:=hR.ff
  have b5:r0<=200000:=hR.fF
  have hw:=RR.w0 hR
  refine M.o_iter (fun m (s:Int × Int × Int × List Gg)=>SOk (100+3*(s.2.2.2.length:Int)) s.1 s.2.1/\0<=s.2.2.1/\s.2.2.1+s.2.2.2.length=r7/\m=s.2.2.1.toNat/\∀ g∈s.2.2.2,GO g/\pasB ⟨r5,r6,T,r0⟩ g=true) ?_ r7.toNat _ ⟨by simpa using hk,by show 0<=r7; omega,by simp,rfl,fun g hg=>by cases hg⟩
  rintro m ⟨u,v,k,l⟩ ⟨hs,hk0,hkl,rfl,hl⟩
  dsimp only at hs hk0 hkl hl
  simp only [zaQ,hT]
  refine M.o_if (fun hc=>?_) (fun hc=>?_)
  · have hc:=of_decide_eq_true hc
    refine M.o_grd (gA2 (by omega) (by omega)) (M.o_bind (next_out hs (by omega) (by omega)) ?_)
    rintro ⟨r8,u1,v1⟩ ⟨s1,g1,_⟩
    have g1:=g1 (by omega)
    dsimp only at s1 g1 ⊢
    refine M.o_grd (gA2 (by omega) (by omega)) ?_
    unfold zcl
    simp only [hT]
    have hx:=line_in hR (s:=r5+r8) (by omega) (by omega)
    have hD:=RR.D hR (r5+r8)
    have hi:=(RR.is hR (r5+r8)).2
    have n0:0<=(hasE ⟨r5,r6,T,r0⟩ (r5+r8)).N:=by
      have:=(pas_fr (lo:=0) hw.1 hD.1 hi).1.2 (by omega)
      omega
    have n1:(hasE ⟨r5,r6,T,r0⟩ (r5+r8)).N<=200000*(hasE ⟨r5,r6,T,r0⟩ (r5+r8)).D:=(pas_fr (lo:=200000) hw.1 hD.1 hi).2.2 (Int.le_trans hx.2 (mul_le_r (by omega) b5))
    have p1:∀ lo,(lo*(hasE ⟨r5,r6,T,r0⟩ (r5+r8)).D<=(hasE ⟨r5,r6,T,r0⟩ (r5+r8)).N↔lo*(ln ⟨r5,r6,T,r0⟩).w<=(ln ⟨r5,r6,T,r0⟩).at (r5+r8)):=fun lo=>(pas_fr (lo:=lo) hw.1 hD.1 hi).1
    have p2:∀ lo,((hasE ⟨r5,r6,T,r0⟩ (r5+r8)).N<=lo*(hasE ⟨r5,r6,T,r0⟩ (r5+r8)).D↔(ln ⟨r5,r6,T,r0⟩).at (r5+r8)<=lo*(ln ⟨r5,r6,T,r0⟩).w):=fun lo=>(pas_fr (lo:=lo) hw.1 hD.1 hi).2
    refine M.o_bindE (has1 hR (t:=r5+r8) (by omega) (by omega)) ?_
    generalize (hasE ⟨r5,r6,T,r0⟩ (r5+r8)).N=N at n0 n1 p1 p2 ⊢
    generalize (hasE ⟨r5,r6,T,r0⟩ (r5+r8)).D=D at hD n1 p1 p2 ⊢
    have f0:0<=N / D:=Int.ediv_nonneg n0 (by omega)
    have f1:N / D<=200000:=Int.ediv_le_of_le_mul hD.1 n1
    have f2:N / D*D<=N:=Int.ediv_mul_le N (by omega)
    have f3:N<(N / D+1)*D:=Int.lt_ediv_add_one_mul_self N hD.1
    generalize N / D=F at f0 f1 f2 f3 ⊢
    dsimp only
    refine M.o_f (by simp only [Bool.or_eq_false_iff]; exact ⟨⟨rfl,decide_eq_false (by omega)⟩,decide_eq_false (by omega)⟩) (M.o_grd (gA3 (by omega) (by omega) (by omega)) (M.o_bind (next_out s1 (by omega) (by omega)) ?_))
    rintro ⟨r9,u2,v2⟩ ⟨s2,g2,_⟩
    have g2:=g2 (by omega)
    dsimp only at s2 g2 ⊢
    refine M.o_grd (gA2 (by omega) (by omega)) (M.o_bind (within_out s2 (by omega) (by omega) (by omega) (by omega)) ?_)
    rintro ⟨r16,u3,v3⟩ ⟨s3,g3,g4⟩
    dsimp only at s3 g3 g4 ⊢
    refine M.o_grd (gA2 (by omega) (by omega)) (M.o_grd (decide_eq_true (by simp; omega)) (M.o_grd (gA2 (by omega) (by omega)) (M.o_pure ⟨(k-1).toNat,by omega,?_,by dsimp only; omega,by dsimp only; rw [List.length_append,List.length_singleton]; omega,rfl,?_⟩)))
    · refine s3.mono ?_
      dsimp only
      rw [List.length_append,List.length_singleton]
      omega
    · intro g hg
      rcases List.mem_append.1 hg with hg | hg
      · exact hl g hg
      · obtain rfl:=List.mem_singleton.1 hg
        refine ⟨⟨by show 0<=r5+r8; omega,by show r5+r8<=2000; omega,by show 0<=max 0 (F-r9); omega,by show max 0 (F-r9)<=min 200000 (F+r16); omega,by show min 200000 (F+r16)<=200000; omega⟩,?_⟩
        unfold pasB
        rw [Bool.and_eq_true,decide_eq_true_iff,decide_eq_true_iff]
        refine ⟨(p1 _).1 ?_,(p2 _).1 ?_⟩
        · have:=mul_le_r (a:=max 0 (F-r9)) (b:=F) (c:=D) (by omega) (by omega)
          dsimp only
          omega
        · dsimp only
          by_cases hm:F+r16<=200000
          · have:=mul_le_r (a:=F+1) (b:=min 200000 (F+r16)) (c:=D) (by omega) (by omega)
            omega
          · rw [Int.min_eq_left (by omega)]
            exact n1
  · have hc:=of_decide_eq_false hc
    refine M.o_pure ⟨fun h=>?_,?_,hl⟩
    · dsimp only at h
      rw [h] at hkl
      simp at hkl
      omega
    · dsimp only
      omega
theorem j4_out (aw:zaD.Ends true) {at_ lo hi:Int} (h0:0<=lo) (h1:lo<=r0) (h2:r0<=hi) (h3:hi<=200000) {l:List Gg} (l0:l ≠ []) (l1:l.length<=5) (hl:∀ g∈l,GO g/\pasB ⟨r5,r6,T,r0⟩ g=true) :
    (zbK at_ R2 ts r0 lo hi r5 r6 l l).Out (fun b=>b=true):=by
  have b0:0<=r5:=hR.a0
  have b1:r5<T:=hR.ab
  have b2:T<=2000:=hR.bM
  have hw:=RR.w0 hR
  have hs:∀ g∈l,GO g:=fun g hg=>(hl g hg).1
  have hp:allP l ⟨r5,r6,T,r0⟩=true:=List.all_eq_true.2 fun g hg=>(hl g hg).2
  have all:∀ g∈l++[(⟨T,lo,hi⟩:Gg)],GO g/\pasB ⟨r5,r6,T,r0⟩ g=true:=fun g hg=>by
    rcases List.mem_append.1 hg with hg | hg
    · exact hl g hg
    · obtain rfl:=List.mem_singleton.1 hg
      refine ⟨⟨by show 0<=T; omega,b2,h0,by show lo<=hi; omega,h3⟩,?_⟩
      unfold pasB
      rw [Bool.and_eq_true,decide_eq_true_iff,decide_eq_true_iff]
      dsimp only
      rw [line_at]
      exact ⟨mul_le_r (by omega) h1,mul_le_r (by omega) h2⟩
  have hs':∀ g∈l++[(⟨T,lo,hi⟩:Gg)],GO g:=fun g hg=>(all g hg).1
  have hp':allP (l++[(⟨T,lo,hi⟩:Gg)]) ⟨r5,r6,T,r0⟩=true:=List.all_eq_true.2 fun g hg=>(all g hg).2
  have l0':l++[(⟨T,lo,hi⟩:Gg)] ≠ []:=by simp
  have l1':(l++[(⟨T,lo,hi⟩:Gg)]).length<=24:=by rw [List.length_append,List.length_singleton]; omega
  have sub:∀ y,allP (l++[(⟨T,lo,hi⟩:Gg)]) y=true->allP l y=true:=fun y hy=>List.all_eq_true.2 fun g hg=>List.all_eq_true.1 hy g (List.mem_append_left _ hg)
  unfold zbK
  simp only [hT]
  refine M.o_bindE (passes1 hs' l0' l1' hR fun g hg=>(all g hg).2) (M.o_f rfl (M.o_bind (pick_num (n:=2001) (by decide)) ?_))
  rintro t ⟨t0,t1⟩
  have t1:t<=2000:=by omega
  refine M.o_bind (Flow_out hs l0 (by omega) hR hp t0 t1) ?_
  rintro ⟨c1,c2,c3,c4,c5⟩ ⟨e0,⟨a,Ra,Pa,e1,e2⟩,⟨b,Rb,Pb,e3,e4⟩,hall⟩
  dsimp only at e0 e1 e2 e3 e4 hall ⊢
  subst e0 e1 e2 e3 e4
  refine M.o_bind (Flow_out hs' l0' l1' hR hp' t0 t1) ?_
  rintro ⟨c1,c2,c3,c4,c5⟩ ⟨e0,⟨c,Rc,Pc,e1,e2⟩,⟨d,Rd,Pd,e3,e4⟩,hall'⟩
  dsimp only at e0 e1 e2 e3 e4 hall' ⊢
  subst e0 e1 e2 e3 e4
  have kc:=hall c Rc (sub c Pc)
  have kd:=hall d Rd (sub d Pd)
  have kx:=hall' _ hR hp'
  exact M.o_bindE (at1 hR t0 t1) (M.o_bindE (between_true Rc Ra Rb kc.1 kc.2) (M.o_bindE (between_true Rd Ra Rb kd.1 kd.2) (M.o_bindE (between_true hR Rc Rd kx.1 kx.2) (M.o_bindE aw (M.o_pure rfl)))))
end
/-- What FloodRated asks, of the truth's peak. -/
theorem j6_out (aw:zaD.Ends true) {gs:List UInt8} {R2:List Rch} {ts ros:List Int} {r0 lo hi at_:Int} (hT:0<=ts.getD (Int.toNat (R2.getD 0 default).up) 0/\ts.getD (Int.toNat (R2.getD 0 default).up) 0<=2000) (h0:0<=lo) (h1:lo<=r0) (h2:r0<=hi) :
    (zbc gs at_ R2 ts ros 0 0 r0 0 lo hi 0).Out (fun b=>b=true):=by
  unfold zbc
  refine M.o_f (by simp only [Bool.or_eq_false_iff]; exact ⟨⟨⟨rfl,rfl⟩,decide_eq_false (by omega)⟩,decide_eq_false (by omega)⟩) (M.o_if (fun _=>M.o_bindE aw (M.o_pure rfl)) (fun hc=>?_))
  rw [Bool.or_eq_false_iff,decide_eq_false_iff_not,decide_eq_false_iff_not] at hc
  obtain ⟨hc1,hc2⟩:=hc
  refine M.o_grd (gA2 (by omega) (by omega)) (M.o_grd (gA2 (by omega) (by omega)) (M.o_bind (next_out SOk.zero (by omega) (by omega)) ?_))
  rintro ⟨r5,u1,v1⟩ ⟨s1,g1,_⟩
  have g1:=g1 (by omega)
  dsimp only at s1 g1 ⊢
  refine M.o_bind (next_out s1 (by omega) (by omega)) ?_
  rintro ⟨r6,u2,v2⟩ ⟨s2,g2,_⟩
  have g2:=g2 (by omega)
  dsimp only at s2 g2 ⊢
  unfold zb1
  refine M.o_bind (within_out s2 (by omega) (by omega) (by omega) (by omega)) ?_
  rintro ⟨r7,u3,v3⟩ ⟨s3,g3,g4⟩
  dsimp only at s3 g3 g4 ⊢
  have hR:RR ⟨r5,r6,ts.getD (Int.toNat (R2.getD 0 default).up) 0,r0⟩:=⟨g1.1,by show r5<ts.getD _ 0; omega,hT.2,g2.1,by show r6<=r0; omega,by show r0<=200000; omega⟩
  refine M.o_bind (loop_out rfl hR (s3.mono (by omega)) ⟨g3,g4⟩) ?_
  rintro (y | ⟨y1,l,y3,y4⟩) hy
  · exact hy.elim
  · dsimp only at hy ⊢
    obtain ⟨l0,l1,hl⟩:=hy
    refine M.o_bindE (a:=l) (M.i_grd (decide_eq_true (by simp; omega)) M.i_pure) (M.o_grd (decide_eq_true (by simp; omega)) ?_)
    exact j4_out rfl hR aw h0 h1 h2 (by omega) l0 l1 hl
end Go.Proofs.YtnncijcapdnlgaaGreat
-- libD/GA.lean
namespace Go.Nm
theorem M.Out.ends {α:Type} {m:M α} {a:α} (h:m.Out (fun r=>r=a)):m.Ends a:=by
  obtain ⟨r,h1,rfl⟩:=h
  exact h1
namespace Fl
/-- The greatest whole number whose square is at most a number. -/
def rtN:Nat->Nat
  | 0=>0
  | n+1=>if (rtN n+1)*(rtN n+1)<=n+1 then rtN n+1 else rtN n
theorem rtN_spec:∀ n,rtN n*rtN n<=n/\n<(rtN n+1)*(rtN n+1)
  | 0=>by decide
  | n + 1 => by
    obtain ⟨h1,h2⟩:=rtN_spec n
    unfold rtN
    split
    · rename_i h
      refine ⟨h,?_⟩
      have:(rtN n+1+1)*(rtN n+1+1)=(rtN n+1)*(rtN n+1)+2*(rtN n+1)+1:=by
        simp only [Nat.add_mul,Nat.mul_add,Nat.mul_one,Nat.one_mul]; omega
      omega
    · rename_i h
      exact ⟨by omega,by omega⟩
def rt (n:Int):Int:=rtN n.toNat
theorem rt_nn (n:Int):0<=rt n:=Int.natCast_nonneg _
theorem rt_le {n:Int} (h:0<=n):rt n*rt n<=n:=by
  have:=(rtN_spec n.toNat).1
  unfold rt
  have h2:((rtN n.toNat*rtN n.toNat:Nat):Int)<=(n.toNat:Int):=Int.ofNat_le.2 this
  rw [Int.natCast_mul] at h2
  omega
theorem rt_lt {n:Int} (h:0<=n):n<(rt n+1)*(rt n+1):=by
  have:=(rtN_spec n.toNat).2
  unfold rt
  have h2:(n.toNat:Int)<(((rtN n.toNat+1)*(rtN n.toNat+1):Nat):Int):=Int.ofNat_lt.2 this
  rw [Int.natCast_mul,Int.natCast_add] at h2
  simp only [Int.ofNat_eq_natCast,Int.cast_ofNat_Int,Int.natCast_one] at h2
  omega
theorem sq_mono {a b:Int} (h0:0<=a) (h:a<=b):a*a<=b*b:=Int.mul_le_mul h h h0 (by omega)
theorem rt_uniq {n x:Int} (h0:0<=x) (h1:x*x<=n) (h2:n<(x+1)*(x+1)):rt n=x:=by
  have hn:0<=n:=Int.le_trans (Int.mul_nonneg h0 h0) h1
  have a:=rt_le hn
  have b:=rt_lt hn
  have c:=rt_nn n
  rcases Int.lt_trichotomy (rt n) x with e | e | e
  · have:=sq_mono (by omega:0<=rt n+1) (by omega:rt n+1<=x)
    omega
  · exact e
  · have:=sq_mono (by omega:0<=x+1) (by omega:x+1<=rt n)
    omega
theorem rt_mono {a b:Int} (h0:0<=a) (h:a<=b):rt a<=rt b:=by
  rcases Int.lt_or_le (rt b) (rt a) with e | e
  · have h1:=rt_le h0
    have h2:=rt_lt (by omega:0<=b)
    have:=sq_mono (by have:=rt_nn b; omega:0<=rt b+1) (by omega:rt b+1<=rt a)
    omega
  · exact e
theorem div_mono {a b d e:Int} (ha:0<=a) (h:a<=b) (he:0<e) (hd:e<=d):a / d<=b / e:=by
  refine Int.le_ediv_of_mul_le he ?_
  have h1:0<=a / d:=Int.ediv_nonneg ha (by omega)
  have h2:a / d*e<=a / d*d:=Int.mul_le_mul_of_nonneg_left hd h1
  have h3:a / d*d<=a:=Int.ediv_mul_le a (by omega)
  omega
/-- Rows whose stages rise and whose numbers do not fall. -/
def Rows:List FRow->Prop
  | []=>True
  | [a]=>0<=a.stage/\a.stage<=2000/\0<=a.carry/\a.carry<=100000
  | a :: b :: r=>0<=a.stage/\a.stage<b.stage/\0<=a.carry/\a.carry<=b.carry/\Rows (b :: r)
theorem Rows.head {a:FRow} {r:List FRow} (h:Rows (a :: r)):0<=a.stage/\a.stage<=2000/\0<=a.carry/\a.carry<=100000:=by
  induction r generalizing a with
  | nil=>exact h
  | cons b r ih =>
    obtain ⟨h1,h2,h3,h4,h5⟩:=h
    have:=ih h5
    omega
/-- What is carried between two rows. -/
def ip (a b:FRow) (s:Int):Int:=a.carry+(b.carry-a.carry)*(s-a.stage) / (b.stage-a.stage)
def go:FRow->List FRow->Int->Int
  | a,[],_=>a.carry
  | a,b :: r,s=>if s<b.stage then ip a b s else go b r s
def car:List FRow->Int->Int
  | [],_=>0
  | a :: r,s=>if s<a.stage then 0 else go a r s
theorem ip_mono {a b:FRow} {s t:Int} (h0:a.stage<=s) (h:s<=t) (h1:t<=b.stage) (hs:a.stage<b.stage) (hc:a.carry<=b.carry):a.carry<=ip a b s/\ip a b s<=ip a b t/\ip a b t<=b.carry:=by
  unfold ip
  have n1:0<=(b.carry-a.carry)*(s-a.stage):=Int.mul_nonneg (by omega) (by omega)
  have n2:(b.carry-a.carry)*(s-a.stage)<=(b.carry-a.carry)*(t-a.stage):=Int.mul_le_mul_of_nonneg_left (by omega) (by omega)
  have n3:(b.carry-a.carry)*(t-a.stage)<=(b.carry-a.carry)*(b.stage-a.stage):=Int.mul_le_mul_of_nonneg_left (by omega) (by omega)
  have d1:0<=(b.carry-a.carry)*(s-a.stage) / (b.stage-a.stage):=Int.ediv_nonneg n1 (by omega)
  have d2:=div_mono n1 n2 (by omega:0<b.stage-a.stage) (Int.le_refl _)
  have d3:=div_mono (Int.le_trans n1 n2) n3 (by omega:0<b.stage-a.stage) (Int.le_refl _)
  rw [Int.mul_ediv_cancel _ (by omega:b.stage-a.stage ≠ 0)] at d3
  omega
theorem go_mono {r:List FRow} {a:FRow} (h:Rows (a :: r)) {s t:Int} (h0:a.stage<=s) (hst:s<=t):a.carry<=go a r s/\go a r s<=go a r t/\go a r t<=100000:=by
  induction r generalizing a s with
  | nil=>have:=h.head; exact ⟨Int.le_refl _,Int.le_refl _,this.2.2.2⟩
  | cons b r ih =>
    have hh:=h
    obtain ⟨h1,h2,h3,h4,h5⟩:=h
    have hb:=h5.head
    unfold go
    by_cases e:s<b.stage
    · rw [if_pos e]
      by_cases e':t<b.stage
      · rw [if_pos e']
        have:=ip_mono (a:=a) (b:=b) h0 hst (by omega) h2 h4
        omega
      · rw [if_neg e']
        have k1:=ip_mono (a:=a) (b:=b) h0 (Int.le_refl s) (by omega) h2 h4
        have k2:=ih h5 (s:=t) (by omega) (Int.le_refl t)
        omega
    · rw [if_neg e,if_neg (by omega)]
      have:=ih h5 (s:=s) (by omega) hst
      omega
theorem car_mono {rows:List FRow} (h:Rows rows) {s t:Int} (hst:s<=t):0<=car rows s/\car rows s<=car rows t/\car rows t<=100000:=by
  cases rows with
  | nil=>exact ⟨Int.le_refl _,Int.le_refl _,show (0:Int)<=100000 by omega⟩
  | cons a r =>
    have hh:=h.head
    have hc:∀ s,car (a :: r) s=if s<a.stage then 0 else go a r s:=fun _=>rfl
    rw [hc,hc]
    by_cases e:s<a.stage
    · rw [if_pos e]
      by_cases e':t<a.stage
      · rw [if_pos e']; omega
      · rw [if_neg e']
        have:=go_mono h (s:=t) (by omega) (Int.le_refl t)
        omega
    · rw [if_neg e,if_neg (by omega)]
      have:=go_mono h (s:=s) (by omega) hst
      omega
end Fl
end Go.Nm
-- libD/GB.lean
namespace Go.Nm
namespace Fl
theorem Rows.pw:∀ {l:List FRow},Rows l->l.Pairwise (fun a b=>a.stage<b.stage)
  | [],_=>List.Pairwise.nil
  | [a],_=>List.pairwise_singleton _ _
  | a :: b :: r,h=>by
    obtain ⟨h1,h2,h3,h4,h5⟩:=h
    have ih:=h5.pw
    refine List.Pairwise.cons (fun x hx=>?_) ih
    rcases List.mem_cons.1 hx with rfl | hx
    · exact h2
    · have:=(List.pairwise_cons.1 ih).1 x hx
      omega
theorem Rows.lt {l:List FRow} (h:Rows l) {i j:Nat} (hij:i<j) (hj:j<l.length):(l.getD i default).stage<(l.getD j default).stage:=by
  rw [getD_el l (by omega),getD_el l hj]
  exact (List.pairwise_iff_getElem.1 h.pw) i j (by omega) hj hij
theorem Rows.el:∀ {l:List FRow},Rows l->∀ j,j<l.length->0<=(l.getD j default).stage/\(l.getD j default).stage<=2000/\0<=(l.getD j default).carry/\(l.getD j default).carry<=100000
  | [],_,j,hj=>by simp at hj
  | a :: r,h,0,_=>h.head
  | [a],_,j+1,hj=>by simp at hj
  | a :: b :: r,h,j+1,hj=>h.2.2.2.2.el j (by simp at hj ⊢; omega)
theorem Rows.cm:∀ {l:List FRow},Rows l->∀ j,j+1<l.length->(l.getD j default).carry<=(l.getD (j+1) default).carry
  | [],_,j,hj=>by simp at hj
  | [a],_,j,hj=>by simp at hj
  | a :: b :: r,h,0,_=>h.2.2.2.1
  | a :: b :: r,h,j+1,hj=>h.2.2.2.2.cm j (by simp at hj ⊢; omega)
theorem go_btw:∀ (r:List FRow) (a:FRow),Rows (a :: r)->∀ (k:Nat) (s:Int),k+1<(a :: r).length->((a :: r).getD k default).stage<=s->s<((a :: r).getD (k+1) default).stage →
    go a r s=ip ((a :: r).getD k default) ((a :: r).getD (k+1) default) s
  | [],_,_,k,_,hk,_,_=>by simp at hk
  | b :: r,a,h,0,s,_,h1,h2=>by
    exact if_pos (show s<b.stage from h2)
  | b :: r,a,h,k+1,s,hk,h1,h2=>by
    have hb:b.stage<=s:=by
      cases k with
      | zero=>exact h1
      | succ k =>
        have:=Rows.lt h (i:=1) (j:=k+2) (by omega) (by simp at hk ⊢; omega)
        have e:((a :: b :: r).getD 1 default).stage=b.stage:=rfl
        have e2:((a :: b :: r).getD (k+2) default).stage<=s:=h1
        omega
    show (if s<b.stage then ip a b s else go b r s)=_
    rw [if_neg (by omega)]
    exact go_btw r b h.2.2.2.2 k s (by simp at hk ⊢; omega) h1 h2
theorem go_last:∀ (r:List FRow) (a:FRow),Rows (a :: r)->∀ (s:Int),((a :: r).getD r.length default).stage<=s->go a r s=((a :: r).getD r.length default).carry
  | [],_,_,_,_=>rfl
  | b :: r,a,h,s,h1=>by
    have hb:b.stage<=s:=by
      cases r with
      | nil=>exact h1
      | cons c r =>
        have:=Rows.lt h (i:=1) (j:=r.length+2) (by omega) (by simp)
        have e:((a :: b :: c :: r).getD 1 default).stage=b.stage:=rfl
        have e2:((a :: b :: c :: r).getD (r.length+2) default).stage<=s:=h1
        omega
    show (if s<b.stage then ip a b s else go b r s)=_
    rw [if_neg (by omega)]
    exact go_last r b h.2.2.2.2 s h1
theorem car_zero {l:List FRow} {s:Int} (h:l ≠ []) (h1:s<(l.getD 0 default).stage):car l s=0:=by
  cases l with
  | nil=>exact absurd rfl h
  | cons a r=>exact if_pos h1
theorem car_btw {l:List FRow} (h:Rows l) {k:Nat} {s:Int} (hk:k+1<l.length) (h1:(l.getD k default).stage<=s) (h2:s<(l.getD (k+1) default).stage):car l s=ip (l.getD k default) (l.getD (k+1) default) s:=by
  cases l with
  | nil=>simp at hk
  | cons a r =>
    have h0:a.stage<=s:=by
      cases k with
      | zero=>exact h1
      | succ k =>
        have:=Rows.lt h (i:=0) (j:=k+1) (by omega) (by omega)
        have e:((a :: r).getD 0 default).stage=a.stage:=rfl
        omega
    exact (if_neg (by omega)).trans (go_btw r a h k s hk h1 h2)
theorem car_last {l:List FRow} (h:Rows l) {k:Nat} {s:Int} (hk:k+1=l.length) (h1:(l.getD k default).stage<=s):car l s=(l.getD k default).carry:=by
  cases l with
  | nil=>simp at hk
  | cons a r =>
    have hk':k=r.length:=by simp at hk; omega
    subst hk'
    have h0:a.stage<=s:=by
      rcases Nat.eq_zero_or_pos r.length with e | e
      · rw [e] at h1; exact h1
      · have:=Rows.lt h (i:=0) (j:=r.length) e (by simp)
        have e:((a :: r).getD 0 default).stage=a.stage:=rfl
        omega
    exact (if_neg (by omega)).trans (go_last r a h s h1)
theorem car_met {l:List FRow} (h:Rows l) {k:Nat} {s:Int} (hk:k<l.length) (h1:(l.getD k default).stage=s):car l s=(l.getD k default).carry:=by
  by_cases e:k+1<l.length
  · have:=Rows.lt h (i:=k) (j:=k+1) (by omega) e
    rw [car_btw h e (by omega) (by omega)]
    unfold ip
    rw [h1,Int.sub_self,Int.mul_zero,Int.zero_ediv,Int.add_zero]
  · exact car_last h (by omega) (by omega)
end Fl
end Go.Nm
namespace Go.Proofs.YtnncijcapdnlgaaGreat
open Go Go.Nm
theorem root_ends {n:Int} (h0:0<=n) (h1:n<4611686018427387904):(zca n).Ends (Fl.rt n):=by
  unfold zca
  refine M.i_bind (M.Out.ends ?_) M.i_pure
  refine M.o_iter (fun m (s:Int × Int)=>0<=s.1/\s.1<=s.2/\s.2<=2147483648/\m=(s.2-s.1).toNat/\s.1*s.1<=n/\n<(s.2+1)*(s.2+1)) ?_ _ (0,2147483648) ⟨by decide,by decide,by decide,rfl,by simpa using h0,Int.lt_trans h1 (by decide)⟩
  rintro m ⟨l,h⟩ ⟨a,b,c,rfl,e,f⟩
  dsimp only at a b c e f ⊢
  simp only [zcy]
  refine M.o_if (fun hb=>?_) (fun hb=>?_)
  · have hb:=of_decide_eq_true hb
    have q1:l<l+(h-l+1) / 2:=by omega
    have q2:l+(h-l+1) / 2<=h:=by omega
    refine M.o_grd (gA2 (by omega) (by omega)) (M.o_grd (gA2 (by omega) (by omega)) (M.o_grd (gA3 (by omega) (by omega) (by decide)) ?_))
    generalize l+(h-l+1) / 2=q at q1 q2 ⊢
    have s1:0<=q*q:=Int.mul_nonneg (by omega) (by omega)
    have s2:q*q<=2147483648*2147483648:=Fl.sq_mono (by omega) (by omega)
    refine M.o_grd (gA2 (by omega) (by omega)) (M.o_grd (gA2 (by omega) (by omega)) (M.o_if (fun hc=>?_) (fun hc=>?_)))
    · have hc:=of_decide_eq_true hc
      exact M.o_pure ⟨(h-q).toNat,by omega,by dsimp only; omega,by dsimp only; omega,by dsimp only; omega,rfl,hc,f⟩
    · have hc:=of_decide_eq_false hc
      refine M.o_grd (gA2 (by omega) (by omega)) (M.o_pure ⟨(q-1-l).toNat,by omega,by dsimp only; omega,by dsimp only; omega,by dsimp only; omega,rfl,e,?_⟩)
      dsimp only
      rw [show q-1+1=q by omega]
      omega
  · have hb:=of_decide_eq_false hb
    obtain rfl:l=h:=by omega
    exact M.o_pure (Fl.rt_uniq a e f).symm
theorem cmp_ends (x y:Int):(m_cmp_Compare_int x y).Ends (if x<y then -1 else if y<x then 1 else 0):=by
  unfold m_cmp_Compare_int m_cmp_isNaN_int
  refine M.i_bind (a:=false) (by rw [show false=(x != x) by simp]; exact M.i_pure) (M.i_bind (a:=false) (by rw [show false=(y != y) by simp]; exact M.i_pure) (M.i_f rfl (M.i_f rfl ?_)))
  by_cases h:x<y
  · rw [if_pos h]
    exact M.i_t (decide_eq_true h) M.i_pure
  · rw [if_neg h]
    refine M.i_f (decide_eq_false h) ?_
    by_cases h':y<x
    · rw [if_pos h']
      exact M.i_t (decide_eq_true h') M.i_pure
    · rw [if_neg h']
      exact M.i_f (decide_eq_false h') M.i_pure
theorem cmp1_ends (r:FRow) (s:Int):(za5 r s).Ends (if r.stage<s then -1 else if s<r.stage then 1 else 0):=by
  unfold za5
  exact M.i_bind (cmp_ends _ _) M.i_pure
theorem bs_out {rows:List FRow} (hr:Fl.Rows rows) (hl:rows.length<=1000) (s:Int):(zcv rows s).Out (fun x=>∃ k:Nat,x.1=k/\k<=rows.length ∧
    (∀ j,j<k->(rows.getD j default).stage<s)/\(∀ j,k<=j->j<rows.length->s<=(rows.getD j default).stage)/\(x.2=true->k<rows.length/\(rows.getD k default).stage=s)/\(x.2=false->k<rows.length->s<(rows.getD k default).stage)):=by
  unfold zcv
  refine M.o_bind (P:=fun (i:Int)=>∃ k:Nat,i=(k:Int)/\k<=rows.length/\(∀ j,j<k->(rows.getD j default).stage<s)/\(∀ j,k<=j->j<rows.length->s<=(rows.getD j default).stage)) ?_ ?_
  · refine M.o_iter (fun m (x:Int × Int)=>∃ i j:Nat,x=((i:Int),(j:Int))/\i<=j/\j<=rows.length/\m=j-i/\(∀ q,q<i->(rows.getD q default).stage<s)/\(∀ q,j<=q->q<rows.length->s<=(rows.getD q default).stage)) ?_ _ (0,(rows.length:Int)) ⟨0,rows.length,rfl,Nat.zero_le _,Nat.le_refl _,rfl,fun q hq=>by omega,fun q h1 h2=>by omega⟩
    rintro m _ ⟨i,j,rfl,hij,hj,rfl,lo,hi⟩
    simp only [zb6]
    refine M.o_if (fun hb=>?_) (fun hb=>?_)
    · have hb:=of_decide_eq_true hb
      have e:((i:Int)+(j:Int)) / 2=(((i+j) / 2:Nat):Int):=by omega
      have k1:i<=(i+j) / 2:=by omega
      have k2:(i+j) / 2<j:=by omega
      rw [e]
      generalize (i+j) / 2=k at k1 k2 ⊢
      refine M.o_grd (gA2 (by omega) (by omega)) (M.o_grd (gA2 (by omega) (by omega)) (M.o_grd (gA2 (by omega) (by omega)) (M.o_grd (gA2 (by omega) (by omega)) (M.o_bindE (cmp1_ends _ s) ?_))))
      rw [Int.toNat_natCast]
      by_cases hs:(rows.getD k default).stage<s
      · rw [if_pos hs]
        refine M.o_t rfl (M.o_pure ⟨j-(k+1),by omega,k+1,j,rfl,by omega,hj,rfl,fun q hq=>?_,hi⟩)
        rcases Nat.lt_or_eq_of_le (Nat.le_of_lt_succ hq) with e | rfl
        · have:=hr.lt e (by omega)
          omega
        · exact hs
      · rw [if_neg hs]
        refine M.o_f (by split <;> decide) (M.o_pure ⟨k-i,by omega,i,k,rfl,k1,by omega,rfl,lo,fun q h1 h2=>?_⟩)
        rcases Nat.lt_or_eq_of_le h1 with e | rfl
        · have:=hr.lt e h2
          omega
        · omega
    · have hb:=of_decide_eq_false hb
      exact M.o_pure ⟨i,rfl,by omega,lo,fun q h1 h2=>hi q (by omega) h2⟩
  · rintro _ ⟨k,rfl,hk,lo,hi⟩
    by_cases hl':k<rows.length
    · have hd:decide ((k:Int)<(rows.length:Int))=true:=decide_eq_true (by omega)
      refine M.o_grd (gOr2 (by omega) (by omega)) (M.o_bindE (M.i_opt (fun _=>cmp1_ends _ s) (fun h=>by rw [hd] at h; cases h)) (M.o_pure ⟨k,rfl,hk,lo,hi,fun h=>?_,fun h _=>?_⟩))
      · dsimp only at h
        rw [hd,Bool.true_and,Int.toNat_natCast,beq_iff_eq] at h
        have:=hi k (Nat.le_refl _) hl'
        refine ⟨hl',?_⟩
        split at h
        · cases h
        · split at h
          · cases h
          · omega
      · dsimp only at h
        rw [hd,Bool.true_and,Int.toNat_natCast,beq_eq_false_iff_ne] at h
        have:=hi k (Nat.le_refl _) hl'
        split at h
        · omega
        · split at h
          · assumption
          · exact absurd rfl h
    · have hd:decide ((k:Int)<(rows.length:Int))=false:=decide_eq_false (by omega)
      refine M.o_grd (by rw [hd]; rfl) (M.o_bindE (M.i_opt (fun h=>by rw [hd] at h; cases h) (fun _=>rfl)) (M.o_pure ⟨k,rfl,hk,lo,hi,fun h=>?_,fun _ h=>absurd h hl'⟩))
      dsimp only at h
      rw [hd] at h
      cases h
theorem carry_ends {S:List Sect} {M':List Mrk} {R':List Rch} {i s:Int} (h0:0<=i) (h1:i<S.length) (hr:Fl.Rows (S.getD (Int.toNat i) default).rows) (hn:(S.getD (Int.toNat i) default).rows ≠ []) (hl:(S.getD (Int.toNat i) default).rows.length<=1000) (hs:-2000000<=s/\s<=2000000) :
    (zaa S M' R' ⟨i,s⟩).Ends (Fl.car (S.getD (Int.toNat i) default).rows s):=by
  refine M.Out.ends ?_
  unfold zaa
  dsimp only
  generalize hrr:(S.getD (Int.toNat i) default).rows=rows at hr hn hl ⊢
  refine M.o_grd (gA2 h0 h1) (M.o_bind (bs_out hr hl s) ?_)
  rintro ⟨_,met⟩ ⟨k,rfl,hk,lo,hi,m1,m2⟩
  dsimp only at m1 m2 ⊢
  have hpos:0<rows.length:=List.length_pos_iff.2 hn
  refine M.o_if (fun hm=>?_) (fun hm=>?_)
  · obtain ⟨k1,k2⟩:=m1 hm
    refine M.o_grd (gA2 (by omega) (by omega)) (M.o_pure ?_)
    rw [Int.toNat_natCast,Fl.car_met hr k1 k2]
  refine M.o_if (fun he=>?_) (fun he=>?_)
  · rw [beq_iff_eq] at he
    have hk':k=rows.length:=by omega
    have e:Int.toNat ((k:Int)-1)=k-1:=by omega
    refine M.o_grd (gA2 (by omega) (by omega)) (M.o_grd (gA2 (by omega) (by omega)) (M.o_pure ?_))
    rw [e]
    exact (Fl.car_last hr (k:=k-1) (by omega) (by have:=lo (k-1) (by omega); omega)).symm
  · rw [beq_eq_false_iff_ne] at he
    have hk':k<rows.length:=by omega
    have hgt:=m2 hm hk'
    refine M.o_if (fun hp=>?_) (fun hp=>?_)
    · have hp:=of_decide_eq_true hp
      obtain ⟨q,rfl⟩:∃ q,k=q+1:=⟨k-1,by omega⟩
      have e:Int.toNat (((q+1:Nat):Int)-1)=q:=by omega
      have hlo:=lo q (by omega)
      rw [e,Int.toNat_natCast,Fl.car_btw hr hk' (by omega) hgt]
      have ea:=hr.el q (by omega)
      have eb:=hr.el (q+1) hk'
      have ec:=hr.cm q hk'
      have es:=hr.lt (i:=q) (j:=q+1) (by omega) hk'
      generalize rows.getD q default=a at ea ec es hlo ⊢
      generalize rows.getD (q+1) default=b at eb ec es hgt ⊢
      have n1:0<=(b.carry-a.carry)*(s-a.stage):=Int.mul_nonneg (by omega) (by omega)
      have n2:(b.carry-a.carry)*(s-a.stage)<=100000*2000:=Int.mul_le_mul (by omega) (by omega) (by omega) (by omega)
      have k1:=Fl.ip_mono (a:=a) (b:=b) (s:=s) (t:=s) (by omega) (Int.le_refl _) (by omega) es ec
      unfold Fl.ip at k1 ⊢
      exact M.o_grd (gA2 (by omega) (by omega)) (M.o_grd (gA2 (by omega) (by omega)) (M.o_grd (gA2 (by omega) (by omega)) (M.o_grd (gA2 (by omega) (by omega)) (M.o_grd (gA2 (by omega) (by omega)) (M.o_grd (gA2 (by omega) (by omega)) (M.o_grd (gA2 (by omega) (by omega)) (M.o_grd (gA3 (by omega) (by omega) (by omega)) (M.o_grd (gA2 (by omega) (by omega)) (M.o_pure rfl)))))))))
    · have hp:=of_decide_eq_false hp
      obtain rfl:k=0:=by omega
      exact M.o_pure (Fl.car_zero hn hgt).symm
end Go.Proofs.YtnncijcapdnlgaaGreat
-- libD/GC.lean
namespace Go.Nm
namespace Fl
/-- Sections that are right. -/
structure Secs (S:List Sect):Prop where
  n:2<=S.length/\S.length<=6
  rows:∀ i,i<S.length->Rows (S.getD i default).rows/\2<=(S.getD i default).rows.length/\(S.getD i default).rows.length<=8
  place:∀ i,i<S.length->0<=(S.getD i default).place/\(S.getD i default).place<=10000
  up:∀ i j,i<j->j<S.length->(S.getD i default).place<(S.getD j default).place
structure Rok (S:List Sect) (r:Rch):Prop where
  u0:0<=r.up
  ud:r.up<r.down
  d1:r.down<S.length
  l1:1<=r.lo
  lh:r.lo<=r.hi
  h4:r.hi<=400
structure Mok (m:Mrk):Prop where
  p0:0<=m.place
  p1:m.place<=10000
  l0:0<=m.lo
  lh:m.lo<=m.hi
  h2:m.hi<=2000
structure Site (S:List Sect) (M:List Mrk) (R:List Rch):Prop where
  s:Secs S
  m:1<=M.length/\M.length<=16
  r:1<=R.length/\R.length<=6
  mks:∀ x∈M,Mok x
  rks:∀ x∈R,Rok S x
/-- The flow of a case. -/
def fl (S:List Sect) (r:Rch) (c:Cas):Int :=
  let a:=car (S.getD (Int.toNat r.up) default).rows c.up
  let b:=car (S.getD (Int.toNat r.down) default).rows c.down
  rt (10000*(bif r.narrow then b else a)*b*(c.up-c.down) / ((bif r.narrow then c.roughdown else c.roughup)*c.roughdown*((S.getD (Int.toNat r.down) default).place-(S.getD (Int.toNat r.up) default).place)))
/-- A case that lies in bounds. -/
structure Cok (c:Cas):Prop where
  d0:0<=c.down
  du:c.down<=c.up
  u2:c.up<=2000
  r1:1<=c.roughup
  r2:1<=c.roughdown
  r3:c.roughup<=400
  r4:c.roughdown<=400
theorem num_bd {a b d:Int} (ha:0<=a/\a<=100000) (hb:0<=b/\b<=100000) (hd:0<=d/\d<=2000) :
    0<=10000*a*b/\10000*a*b<=100000000000000/\0<=10000*a*b*d/\10000*a*b*d<=200000000000000000:=by
  have h1:0<=10000*a*b:=Int.mul_nonneg (by omega) hb.1
  have h2:10000*a*b<=1000000000*100000:=Int.mul_le_mul (by omega) hb.2 hb.1 (by omega)
  have h3:0<=10000*a*b*d:=Int.mul_nonneg h1 hd.1
  have h4:10000*a*b*d<=100000000000000*2000:=Int.mul_le_mul (by omega) hd.2 hd.1 (by omega)
  omega
theorem den_bd {a b d:Int} (ha:1<=a/\a<=400) (hb:1<=b/\b<=400) (hd:1<=d/\d<=10000):1<=a*b/\a*b<=160000/\1<=a*b*d/\a*b*d<=1600000000:=by
  have h1:1*1<=a*b:=Int.mul_le_mul ha.1 hb.1 (by omega) (by omega)
  have h2:a*b<=400*400:=Int.mul_le_mul ha.2 hb.2 (by omega) (by omega)
  have h3:1*1<=a*b*d:=Int.mul_le_mul (by omega) hd.1 (by omega) (by omega)
  have h4:a*b*d<=160000*10000:=Int.mul_le_mul (by omega) hd.2 (by omega) (by omega)
  omega
section
variable {S:List Sect} {r:Rch}
theorem Rok.iu (h:Rok S r):Int.toNat r.up<S.length:=by have:=h.u0; have:=h.ud; have:=h.d1; omega
theorem Rok.id (h:Rok S r):Int.toNat r.down<S.length:=by have:=h.u0; have:=h.ud; have:=h.d1; omega
theorem far (hS:Secs S) (h:Rok S r):1<=(S.getD (Int.toNat r.down) default).place-(S.getD (Int.toNat r.up) default).place/\(S.getD (Int.toNat r.down) default).place-(S.getD (Int.toNat r.up) default).place<=10000:=by
  have h1:=hS.up (Int.toNat r.up) (Int.toNat r.down) (by have:=h.u0; have:=h.ud; omega) h.id
  have h2:=hS.place _ h.id
  have h3:=hS.place _ h.iu
  omega
theorem carU (hS:Secs S) (h:Rok S r) (s:Int):0<=car (S.getD (Int.toNat r.up) default).rows s/\car (S.getD (Int.toNat r.up) default).rows s<=100000:=by
  have:=car_mono (hS.rows _ h.iu).1 (Int.le_refl s)
  omega
theorem carD (hS:Secs S) (h:Rok S r) (s:Int):0<=car (S.getD (Int.toNat r.down) default).rows s/\car (S.getD (Int.toNat r.down) default).rows s<=100000:=by
  have:=car_mono (hS.rows _ h.id).1 (Int.le_refl s)
  omega
theorem fl_nn (c:Cas):0<=fl S r c:=rt_nn _
/-- A flow rises with the upper stage, and falls with both roughnesses. -/
theorem fl_mono (hS:Secs S) (h:Rok S r) {c e:Cas} (hc:Cok c) (he:Cok e) (hd:c.down=e.down) (hu:c.up<=e.up) (h1:e.roughup<=c.roughup) (h2:e.roughdown<=c.roughdown):fl S r c<=fl S r e:=by
  have k1:=car_mono (hS.rows _ h.iu).1 hu
  have k2:=carD hS h c.down
  have k3:=far hS h
  have q1:=hc.du
  have q2:=he.u2
  have q3:=hc.d0
  have q4:=he.r1
  have q5:=he.r2
  have q6:=hc.r3
  have q7:=hc.r4
  unfold fl
  dsimp only
  rw [← hd]
  generalize car (S.getD (Int.toNat r.up) default).rows c.up=a at k1 ⊢
  generalize car (S.getD (Int.toNat r.up) default).rows e.up=a' at k1 ⊢
  generalize car (S.getD (Int.toNat r.down) default).rows c.down=b at k2 ⊢
  generalize (S.getD (Int.toNat r.down) default).place-(S.getD (Int.toNat r.up) default).place=f at k3 ⊢
  cases r.narrow with
  | true =>
    dsimp only [cond]
    have n:=num_bd k2 k2 (d:=c.up-c.down) (by omega)
    have n':=num_bd k2 k2 (d:=e.up-c.down) (by omega)
    have le:10000*b*b*(c.up-c.down)<=10000*b*b*(e.up-c.down):=Int.mul_le_mul_of_nonneg_left (by omega) n.1
    have d:=den_bd (a:=e.roughdown) (b:=e.roughdown) (d:=f) (by omega) (by omega) k3
    have dl:e.roughdown*e.roughdown*f<=c.roughdown*c.roughdown*f:=Int.mul_le_mul_of_nonneg_right (sq_mono (by omega) h2) (by omega)
    exact rt_mono (Int.ediv_nonneg n.2.2.1 (by omega)) (div_mono n.2.2.1 le (by omega) dl)
  | false =>
    dsimp only [cond]
    have n:=num_bd (a:=a) (b:=b) (by omega) k2 (d:=c.up-c.down) (by omega)
    have n':=num_bd (a:=a') (b:=b) (by omega) k2 (d:=e.up-c.down) (by omega)
    have l1:10000*a*b<=10000*a'*b:=Int.mul_le_mul_of_nonneg_right (by omega) k2.1
    have le:10000*a*b*(c.up-c.down)<=10000*a'*b*(e.up-c.down):=Int.mul_le_mul l1 (by omega) (by omega) n'.1
    have d:=den_bd (a:=e.roughup) (b:=e.roughdown) (d:=f) (by omega) (by omega) k3
    have l2:e.roughup*e.roughdown<=c.roughup*c.roughdown:=Int.mul_le_mul h1 h2 (by omega) (by omega)
    have dl:e.roughup*e.roughdown*f<=c.roughup*c.roughdown*f:=Int.mul_le_mul_of_nonneg_right l2 (by omega)
    exact rt_mono (Int.ediv_nonneg n.2.2.1 (by omega)) (div_mono n.2.2.1 le (by omega) dl)
end
def stLo (M:List Mrk) (ms:List Int) (p:Int):Int:=ms.foldl (fun a k=>if p<=(M.getD (Int.toNat k) default).place then max a (M.getD (Int.toNat k) default).lo else a) 0
def stHi (M:List Mrk) (ms:List Int) (p:Int):Int:=ms.foldl (fun a k=>if (M.getD (Int.toNat k) default).place<=p then min a (M.getD (Int.toNat k) default).hi else a) 2000
end Fl
end Go.Nm
namespace Go.Proofs.YtnncijcapdnlgaaGreat
open Go Go.Nm
theorem flow_ends {S:List Sect} {M':List Mrk} {R':List Rch} {r:Rch} {c:Cas} (hS:Fl.Secs S) (h:Fl.Rok S r) (hc:Fl.Cok c):(zaK S M' R' r c).Ends (Fl.fl S r c):=by
  have hu:=hS.rows _ h.iu
  have hd:=hS.rows _ h.id
  have k1:=Fl.carU hS h c.up
  have k2:=Fl.carD hS h c.down
  have k3:=Fl.far hS h
  have h0:=h.u0
  have h1:=h.ud
  have h2:=h.d1
  obtain ⟨c1,c2,c3,c4,c5,c6,c7⟩:=hc
  unfold zaK
  refine M.i_bind (carry_ends (by omega) (by omega) hu.1 (by intro e; rw [e] at hu; simp at hu) (by omega) (by omega)) (M.i_bind (carry_ends (by omega) (by omega) hd.1 (by intro e; rw [e] at hd; simp at hd) (by omega) (by omega)) ?_)
  unfold Fl.fl
  dsimp only
  generalize Fl.car (S.getD (Int.toNat r.up) default).rows c.up=a at k1 ⊢
  generalize Fl.car (S.getD (Int.toNat r.down) default).rows c.down=b at k2 ⊢
  have key:∀ s a:Int,(0<=a/\a<=100000)->(1<=s/\s<=400)->(zaH S M' R' r c b s a).Ends (Fl.rt (10000*a*b*(c.up-c.down) / (s*c.roughdown*((S.getD (Int.toNat r.down) default).place-(S.getD (Int.toNat r.up) default).place)))):=fun s a ha hs=>by
    unfold zaH
    have n:=Fl.num_bd ha k2 (d:=c.up-c.down) (by omega)
    have d:=Fl.den_bd hs (b:=c.roughdown) (by omega) k3
    refine M.i_grd (gA2 (by omega) (by omega)) (M.i_grd (gA2 (by omega) (by omega)) (M.i_grd (gA2 (by omega) (by omega)) ?_))
    generalize (S.getD (Int.toNat r.down) default).place-(S.getD (Int.toNat r.up) default).place=f at d k3 ⊢
    refine M.i_grd (gA2 (by omega) (by omega)) (M.i_grd (gA2 (by omega) (by omega)) (M.i_grd (gA2 (by omega) (by omega)) (M.i_grd (gA2 (by omega) (by omega)) (M.i_grd (gA2 (by omega) (by omega)) (M.i_grd (gA2 (by omega) (by omega)) (M.i_grd (gA3 (by omega) (by omega) (by omega)) (M.i_bind (root_ends (Int.ediv_nonneg n.2.2.1 (by omega)) ?_) M.i_pure)))))))
    have:=Fl.div_mono n.2.2.1 (Int.le_refl _) (by decide:(0:Int)<1) (by omega:(1:Int)<=s*c.roughdown*f)
    rw [Int.ediv_one] at this
    omega
  cases hn:r.narrow with
  | true=>exact key _ _ k2 ⟨c5,c7⟩
  | false=>exact key _ _ k1 ⟨c4,c6⟩
theorem least_ends (a b:Int):(zaG a [b]).Ends (min a b):=by
  unfold zaG
  refine M.i_bind (M.i_next (s':=(min a b,1)) ?_ (M.i_stop ?_)) M.i_pure
  · simp only [zbI]
    exact M.i_t (by simp) (M.i_grd (by simp) M.i_pure)
  · simp only [zbI]
    exact M.i_f (by simp) M.i_pure
theorem stages_ends {S:List Sect} {M':List Mrk} {R':List Rch} {ms:List Int} {i:Int} (hm:∀ k∈ms,0<=k/\k<M'.length) (h0:0<=i) (h1:i<S.length) :
    (zas S M' R' ms i).Ends (Fl.stLo M' ms (S.getD (Int.toNat i) default).place,Fl.stHi M' ms (S.getD (Int.toNat i) default).place):=by
  unfold zas
  refine M.i_bind (a:=(Fl.stLo M' ms (S.getD (Int.toNat i) default).place,Fl.stHi M' ms (S.getD (Int.toNat i) default).place)) ?_ M.i_pure
  refine M.i_for (fun j=>(Fl.stLo M' (ms.take j) (S.getD (Int.toNat i) default).place,Fl.stHi M' (ms.take j) (S.getD (Int.toNat i) default).place,j)) ms.length (fun j hj=>?_) ?_
  · have hk:=hm (ms.getD j 0) (by rw [getD_el ms hj]; exact List.getElem_mem hj)
    simp only [zbJ]
    refine M.i_t (decide_eq_true (by omega)) (M.i_grd (decide_eq_true (by omega)) (M.i_grd (gA2 hk.1 hk.2) (M.i_grd (gA2 h0 h1) ?_)))
    have el:Fl.stLo M' (ms.take (j+1)) (S.getD (Int.toNat i) default).place=if (S.getD (Int.toNat i) default).place<=(M'.getD (Int.toNat (ms.getD j 0)) default).place then max (Fl.stLo M' (ms.take j) (S.getD (Int.toNat i) default).place) (M'.getD (Int.toNat (ms.getD j 0)) default).lo else Fl.stLo M' (ms.take j) (S.getD (Int.toNat i) default).place:=by
      rw [← take_succ_D ms j hj 0]
      unfold Fl.stLo
      rw [List.foldl_append]
      rfl
    have eh:Fl.stHi M' (ms.take (j+1)) (S.getD (Int.toNat i) default).place=if (M'.getD (Int.toNat (ms.getD j 0)) default).place<=(S.getD (Int.toNat i) default).place then min (Fl.stHi M' (ms.take j) (S.getD (Int.toNat i) default).place) (M'.getD (Int.toNat (ms.getD j 0)) default).hi else Fl.stHi M' (ms.take j) (S.getD (Int.toNat i) default).place:=by
      rw [← take_succ_D ms j hj 0]
      unfold Fl.stHi
      rw [List.foldl_append]
      rfl
    rw [el,eh]
    refine M.i_if (fun hc=>?_) (fun hc=>?_)
    · have hc:=of_decide_eq_true hc
      rw [if_pos hc]
      refine M.i_bind (least_ends _ _) (M.i_if (fun hd=>?_) (fun hd=>?_))
      · rw [if_pos (of_decide_eq_true hd)]; exact M.i_pure
      · rw [if_neg (of_decide_eq_false hd)]; exact M.i_pure
    · have hc:=of_decide_eq_false hc
      rw [if_neg hc]
      refine M.i_if (fun hd=>?_) (fun hd=>?_)
      · rw [if_pos (of_decide_eq_true hd)]; exact M.i_pure
      · rw [if_neg (of_decide_eq_false hd)]; exact M.i_pure
  · simp only [zbJ]
    rw [List.take_length]
    exact M.i_f (decide_eq_false (by omega)) M.i_pure
theorem nums_out {T X:Type} {bd:T->Int->M (T ⊕ X)} {lo hi:Int} (J:Int->T->Prop) (hl:lo<=hi+1) (h1:hi<=1000000) (h2:-1000000<=lo) {s0:T} (h0:J lo s0)
    (step:∀ x s,lo<=x->x<=hi->J x s->(bd s x).Out (fun r=>match r with | .inl s'=>J (x+1) s' | .inr _=>False)) :
    (zap (M.yl bd) (.inl s0) lo hi).Out (fun r=>match r with | .inl s=>J (hi+1) s | .inr _=>False):=by
  unfold zap
  refine M.o_bind (P:=fun (x:(T ⊕ X) ⊕ (T ⊕ X))=>∃ s,x = .inr (.inl s)/\J (hi+1) s) ?_ ?_
  · refine M.o_iter (fun m (x:Int × (T ⊕ X))=>∃ s,x.2 = .inl s/\lo<=x.1/\x.1<=hi+1/\m=(hi+1-x.1).toNat/\J x.1 s) ?_ _ (lo,.inl s0) ⟨s0,rfl,Int.le_refl _,hl,rfl,h0⟩
    rintro m ⟨n,t⟩ ⟨s,rfl,a,b,rfl,hj⟩
    dsimp only at a b hj ⊢
    simp only [za9]
    refine M.o_if (fun hb=>?_) (fun hb=>?_)
    · have hb:=of_decide_eq_true hb
      refine M.o_bind (P:=fun (y:Bool × (T ⊕ X))=>y.1=true/\∃ s',y.2 = .inl s'/\J (n+1) s') ?_ ?_
      · unfold M.yl
        refine M.o_bind (step n s a hb hj) ?_
        intro r hr
        cases r with
        | inl s'=>exact M.o_pure ⟨rfl,s',rfl,hr⟩
        | inr x=>exact hr.elim
      · rintro ⟨g,t⟩ ⟨h1',s',h2',hj'⟩
        dsimp only at h1' h2' ⊢
        subst h1' h2'
        refine M.o_f rfl (M.o_grd (gA2 (by omega) (by omega)) (M.o_pure ⟨(hi+1-(n+1)).toNat,by omega,s',rfl,by dsimp only; omega,by dsimp only; omega,rfl,hj'⟩))
    · have hb:=of_decide_eq_false hb
      obtain rfl:n=hi+1:=by omega
      exact M.o_pure ⟨s,rfl,hj⟩
  · rintro _ ⟨s,rfl,hj⟩
    exact M.o_pure hj
end Go.Proofs.YtnncijcapdnlgaaGreat
-- libD/GD.lean
namespace Go.Nm
namespace Fl
section
variable {M:List Mrk} {p:Int}
theorem lo_fold:∀ (ms:List Int) (a:Int),a<=ms.foldl (fun a k=>if p<=(M.getD (Int.toNat k) default).place then max a (M.getD (Int.toNat k) default).lo else a) a ∧
    (∀ k∈ms,p<=(M.getD (Int.toNat k) default).place->(M.getD (Int.toNat k) default).lo<=ms.foldl (fun a k=>if p<=(M.getD (Int.toNat k) default).place then max a (M.getD (Int.toNat k) default).lo else a) a) ∧
    (ms.foldl (fun a k=>if p<=(M.getD (Int.toNat k) default).place then max a (M.getD (Int.toNat k) default).lo else a) a=a∨∃ k∈ms,p<=(M.getD (Int.toNat k) default).place/\ms.foldl (fun a k=>if p<=(M.getD (Int.toNat k) default).place then max a (M.getD (Int.toNat k) default).lo else a) a=(M.getD (Int.toNat k) default).lo)
  | [],a=>⟨Int.le_refl _,fun k hk=>(List.not_mem_nil hk).elim,.inl rfl⟩
  | k :: ms,a=>by
    rw [List.foldl_cons]
    obtain ⟨h1,h2,h3⟩:=lo_fold ms (if p<=(M.getD (Int.toNat k) default).place then max a (M.getD (Int.toNat k) default).lo else a)
    by_cases hp:p<=(M.getD (Int.toNat k) default).place
    · rw [if_pos hp] at h1 h2 h3 ⊢
      refine ⟨by omega,fun j hj hpj=>?_,?_⟩
      · rcases List.mem_cons.1 hj with rfl | hj
        · omega
        · exact h2 j hj hpj
      · rcases h3 with h3 | ⟨j,hj,hpj,e⟩
        · rcases Int.le_total (M.getD (Int.toNat k) default).lo a with e | e
          · left; omega
          · right; exact ⟨k,by simp,hp,by omega⟩
        · right; exact ⟨j,by simp [hj],hpj,e⟩
    · rw [if_neg hp] at h1 h2 h3 ⊢
      refine ⟨h1,fun j hj hpj=>?_,?_⟩
      · rcases List.mem_cons.1 hj with rfl | hj
        · exact absurd hpj hp
        · exact h2 j hj hpj
      · rcases h3 with h3 | ⟨j,hj,hpj,e⟩
        · exact .inl h3
        · right; exact ⟨j,by simp [hj],hpj,e⟩
theorem hi_fold:∀ (ms:List Int) (a:Int),ms.foldl (fun a k=>if (M.getD (Int.toNat k) default).place<=p then min a (M.getD (Int.toNat k) default).hi else a) a<=a ∧
    (∀ k∈ms,(M.getD (Int.toNat k) default).place<=p->ms.foldl (fun a k=>if (M.getD (Int.toNat k) default).place<=p then min a (M.getD (Int.toNat k) default).hi else a) a<=(M.getD (Int.toNat k) default).hi) ∧
    (ms.foldl (fun a k=>if (M.getD (Int.toNat k) default).place<=p then min a (M.getD (Int.toNat k) default).hi else a) a=a∨∃ k∈ms,(M.getD (Int.toNat k) default).place<=p/\ms.foldl (fun a k=>if (M.getD (Int.toNat k) default).place<=p then min a (M.getD (Int.toNat k) default).hi else a) a=(M.getD (Int.toNat k) default).hi)
  | [],a=>⟨Int.le_refl _,fun k hk=>(List.not_mem_nil hk).elim,.inl rfl⟩
  | k :: ms,a=>by
    rw [List.foldl_cons]
    obtain ⟨h1,h2,h3⟩:=hi_fold ms (if (M.getD (Int.toNat k) default).place<=p then min a (M.getD (Int.toNat k) default).hi else a)
    by_cases hp:(M.getD (Int.toNat k) default).place<=p
    · rw [if_pos hp] at h1 h2 h3 ⊢
      refine ⟨by omega,fun j hj hpj=>?_,?_⟩
      · rcases List.mem_cons.1 hj with rfl | hj
        · omega
        · exact h2 j hj hpj
      · rcases h3 with h3 | ⟨j,hj,hpj,e⟩
        · rcases Int.le_total a (M.getD (Int.toNat k) default).hi with e | e
          · left; omega
          · right; exact ⟨k,by simp,hp,by omega⟩
        · right; exact ⟨j,by simp [hj],hpj,e⟩
    · rw [if_neg hp] at h1 h2 h3 ⊢
      refine ⟨h1,fun j hj hpj=>?_,?_⟩
      · rcases List.mem_cons.1 hj with rfl | hj
        · exact absurd hpj hp
        · exact h2 j hj hpj
      · rcases h3 with h3 | ⟨j,hj,hpj,e⟩
        · exact .inl h3
        · right; exact ⟨j,by simp [hj],hpj,e⟩
theorem stLo_nn (ms:List Int):0<=stLo M ms p:=(lo_fold ms 0).1
theorem stLo_ex (ms:List Int):stLo M ms p=0∨∃ k∈ms,p<=(M.getD (Int.toNat k) default).place/\stLo M ms p=(M.getD (Int.toNat k) default).lo:=(lo_fold ms 0).2.2
theorem stHi_le (ms:List Int):stHi M ms p<=2000:=(hi_fold ms 2000).1
theorem stHi_ex (ms:List Int):stHi M ms p=2000∨∃ k∈ms,(M.getD (Int.toNat k) default).place<=p/\stHi M ms p=(M.getD (Int.toNat k) default).hi:=(hi_fold ms 2000).2.2
end
/-- Marks that are true together. -/
def Tog (M:List Mrk) (ms:List Int):Prop:=∀ a∈ms,∀ b∈ms,¬((M.getD (Int.toNat a) default).place<=(M.getD (Int.toNat b) default).place/\(M.getD (Int.toNat a) default).hi<(M.getD (Int.toNat b) default).lo)
def Ixs (M:List Mrk) (ms:List Int):Prop:=∀ k∈ms,0<=k/\k<M.length
theorem Ixs.mok {M:List Mrk} {ms:List Int} (hk:∀ x∈M,Mok x) (h:Ixs M ms) {k:Int} (hm:k∈ms):Mok (M.getD (Int.toNat k) default):=by
  have:=h k hm
  have hl:Int.toNat k<M.length:=by omega
  rw [getD_el M hl]
  exact hk _ (List.getElem_mem hl)
/-- What lies further up is bounded by no less from above. -/
theorem st_le {M:List Mrk} {ms:List Int} (hk:∀ x∈M,Mok x) (h:Ixs M ms) (ht:Tog M ms) {p q:Int} (hpq:q<=p):stLo M ms p<=stHi M ms q:=by
  rcases stLo_ex (M:=M) (p:=p) ms with e | ⟨a,ha,hpa,e⟩ <;> rcases stHi_ex (M:=M) (p:=q) ms with e' | ⟨b,hb,hpb,e'⟩
  · omega
  · have k1:=(h.mok hk hb).lh
    have k2:=(h.mok hk hb).l0
    omega
  · have:=(h.mok hk ha).lh
    have:=(h.mok hk ha).h2
    omega
  · have:=ht b hb a ha
    rw [e,e']
    rcases Int.lt_or_le (M.getD (Int.toNat b) default).hi (M.getD (Int.toNat a) default).lo with k | k
    · exact absurd ⟨by omega,k⟩ this
    · exact k
section
variable (S:List Sect) (M:List Mrk) (ms:List Int) (r:Rch)
def pu:Int:=(S.getD (Int.toNat r.up) default).place
def pd:Int:=(S.getD (Int.toNat r.down) default).place
/-- The lower stages that there can be. -/
def Dn (x:Int):Prop:=stLo M ms (pd S r)<=x/\x<=min (stHi M ms (pd S r)) (stHi M ms (pu S r))
def lc (x:Int):Cas:=⟨max (stLo M ms (pu S r)) x,x,r.hi,r.hi⟩
def hc (x:Int):Cas:=⟨stHi M ms (pu S r),x,r.lo,r.lo⟩
def IsLow (c:Cas) (n:Int):Prop:=∃ x,Dn S M ms r x/\c=lc S M ms r x/\n=fl S r c/\∀ y,Dn S M ms r y->n<=fl S r (lc S M ms r y)
def IsHigh (c:Cas) (n:Int):Prop:=∃ x,Dn S M ms r x/\c=hc S M ms r x/\n=fl S r c/\∀ y,Dn S M ms r y->fl S r (hc S M ms r y)<=n
end
section
variable {S:List Sect} {M:List Mrk} {ms:List Int} {r:Rch}
theorem lc_ok (hr:Rok S r) (hk:∀ x∈M,Mok x) (h:Ixs M ms) (ht:Tog M ms) {x:Int} (hx:Dn S M ms r x):Cok (lc S M ms r x):=by
  have h1:=stLo_nn (M:=M) (p:=pu S r) ms
  have h2:=stLo_nn (M:=M) (p:=pd S r) ms
  have h3:=stHi_le (M:=M) (p:=pu S r) ms
  have h4:=st_le hk h ht (Int.le_refl (pu S r))
  obtain ⟨a,b⟩:=hx
  have:=hr.l1
  have:=hr.lh
  have:=hr.h4
  unfold lc
  constructor <;> dsimp only <;> omega
theorem hc_ok (hr:Rok S r) {x:Int} (hx:Dn S M ms r x):Cok (hc S M ms r x):=by
  have h2:=stLo_nn (M:=M) (p:=pd S r) ms
  have h3:=stHi_le (M:=M) (p:=pu S r) ms
  obtain ⟨a,b⟩:=hx
  have:=hr.l1
  have:=hr.lh
  have:=hr.h4
  unfold hc
  constructor <;> dsimp only <;> omega
theorem pu_pd (hS:Secs S) (hr:Rok S r):pu S r<pd S r:=by
  have:=far hS hr
  unfold pu pd
  omega
theorem Dn.ne (hS:Secs S) (hr:Rok S r) (hk:∀ x∈M,Mok x) (h:Ixs M ms) (ht:Tog M ms):Dn S M ms r (stLo M ms (pd S r)):=by
  have h1:=st_le hk h ht (Int.le_refl (pd S r))
  have h2:=st_le hk h ht (Int.le_of_lt (pu_pd hS hr))
  exact ⟨Int.le_refl _,by omega⟩
end
end Fl
end Go.Nm
namespace Go.Proofs.YtnncijcapdnlgaaGreat
open Go Go.Nm
section
variable {S:List Sect} {M':List Mrk} {R':List Rch} {ms:List Int} {r:Rch}
theorem best82_out (hS:Fl.Secs S) (hr:Fl.Rok S r) (hk:∀ x∈M',Fl.Mok x) (h:Fl.Ixs M' ms) (ht:Fl.Tog M' ms) :
    (zbH S M' R' ms r).Out (fun x=>Fl.IsLow S M' ms r ⟨x.1,x.2.1,x.2.2.1,x.2.2.2.1⟩ x.2.2.2.2):=by
  have hne:=Fl.Dn.ne hS hr hk h ht
  have b1:=Fl.stLo_nn (M:=M') (p:=Fl.pd S r) ms
  have b2:=Fl.stHi_le (M:=M') (p:=Fl.pu S r) ms
  have hlo:=hr.l1
  have hlh:=hr.lh
  unfold zbH
  have h0:=hr.u0
  have h1:=hr.ud
  have h2:=hr.d1
  refine M.o_bindE (stages_ends h (by omega) (by omega)) (M.o_bindE (stages_ends h (by omega) (by omega)) (M.o_bindE (a:=false) (by unfold zbz; exact M.i_pure) (M.o_t rfl (M.o_bindE (least_ends _ _) (M.o_bindE (by unfold zbx; exact M.i_pure) ?_)))))
  dsimp only
  refine M.o_bind (nums_out (lo:=Fl.stLo M' ms (Fl.pd S r)) (hi:=min (Fl.stHi M' ms (Fl.pd S r)) (Fl.stHi M' ms (Fl.pu S r))) (fun x (s:Int × Int × Int × Int × Int)=>(x=Fl.stLo M' ms (Fl.pd S r)/\s=(0,0,0,0,0))∨∃ y,Fl.Dn S M' ms r y/\y<x/\s=(Fl.fl S r (Fl.lc S M' ms r y),(Fl.lc S M' ms r y).up,(Fl.lc S M' ms r y).down,(Fl.lc S M' ms r y).roughup,(Fl.lc S M' ms r y).roughdown)/\∀ z,Fl.stLo M' ms (Fl.pd S r)<=z->z<x->Fl.fl S r (Fl.lc S M' ms r y)<=Fl.fl S r (Fl.lc S M' ms r z)) (by have:=hne.2; omega) (by omega) (by have:=hne.1; omega) (.inl ⟨rfl,rfl⟩) ?_) ?_
  · rintro x ⟨n,a,b,c,d⟩ hx1 hx2 hj
    have hx:Fl.Dn S M' ms r x:=⟨hx1,hx2⟩
    simp only [zat]
    refine M.o_f rfl (M.o_bindE (flow_ends hS hr (Fl.lc_ok hr hk h ht hx)) ?_)
    rcases hj with ⟨rfl,e⟩ | ⟨y,hy,hyx,e,hz⟩
    · obtain ⟨rfl,rfl,rfl,rfl,rfl⟩:n=0/\a=0/\b=0/\c=0/\d=0:=by simpa using e
      refine M.o_bindE (M.i_opt (r:=false) (fun hc=>by simp at hc) (fun _=>rfl)) (M.o_t (by simp) (M.o_pure (.inr ⟨_,hx,by omega,rfl,fun z h1 h2=>?_⟩)))
      rw [show z=Fl.stLo M' ms (Fl.pd S r) by omega]
      exact Int.le_refl _
    · obtain ⟨e1,e2,e3,e4,e5⟩:n=Fl.fl S r (Fl.lc S M' ms r y)/\a=(Fl.lc S M' ms r y).up/\b=(Fl.lc S M' ms r y).down/\c=(Fl.lc S M' ms r y).roughup/\d=(Fl.lc S M' ms r y).roughdown:=by simpa only [Prod.mk.injEq] using e
      rw [e1,e2,e3,e4,e5]
      have hd:decide ((⟨(Fl.lc S M' ms r y).up,(Fl.lc S M' ms r y).down,(Fl.lc S M' ms r y).roughup,(Fl.lc S M' ms r y).roughdown⟩:Cas)=⟨0,0,0,0⟩)=false:=decide_eq_false (fun e=>by
        have:(Fl.lc S M' ms r y).roughup=0:=congrArg Cas.roughup e
        have e2:(Fl.lc S M' ms r y).roughup=r.hi:=rfl
        omega)
      refine M.o_bindE (M.i_opt (r:=decide (Fl.fl S r (Fl.lc S M' ms r x)<Fl.fl S r (Fl.lc S M' ms r y))) (fun _=>by unfold zbz; exact M.i_pure) (fun hc=>by rw [hd] at hc; cases hc)) ?_
      refine M.o_if (fun hc=>?_) (fun hc=>?_)
      · rw [hd,Bool.false_or] at hc
        have hc:=of_decide_eq_true hc
        refine M.o_pure (.inr ⟨x,hx,by omega,rfl,fun z h1 h2=>?_⟩)
        by_cases e:z<x
        · have:=hz z h1 e
          omega
        · rw [show z=x by omega]
          exact Int.le_refl _
      · rw [hd,Bool.false_or] at hc
        have hc:=of_decide_eq_false hc
        refine M.o_pure (.inr ⟨y,hy,by omega,rfl,fun z h1 h2=>?_⟩)
        by_cases e:z<x
        · exact hz z h1 e
        · rw [show z=x by omega]
          omega
  · intro s hs
    cases s with
    | inr _=>exact hs.elim
    | inl s =>
      rcases hs with ⟨e,_⟩ | ⟨y,hy,_,rfl,hz⟩
      · have:=hne.2
        omega
      · exact M.o_pure ⟨y,hy,rfl,rfl,fun z hz'=>hz z hz'.1 (by have:=hz'.2; omega)⟩
theorem best83_out (hS:Fl.Secs S) (hr:Fl.Rok S r) (hk:∀ x∈M',Fl.Mok x) (h:Fl.Ixs M' ms) (ht:Fl.Tog M' ms) :
    (zaS S M' R' ms r).Out (fun x=>Fl.IsHigh S M' ms r ⟨x.1,x.2.1,x.2.2.1,x.2.2.2.1⟩ x.2.2.2.2):=by
  have hne:=Fl.Dn.ne hS hr hk h ht
  have b1:=Fl.stLo_nn (M:=M') (p:=Fl.pd S r) ms
  have b2:=Fl.stHi_le (M:=M') (p:=Fl.pu S r) ms
  have hlo:=hr.l1
  have hlh:=hr.lh
  unfold zaS
  have h0:=hr.u0
  have h1:=hr.ud
  have h2:=hr.d1
  refine M.o_bindE (stages_ends h (by omega) (by omega)) (M.o_bindE (stages_ends h (by omega) (by omega)) (M.o_bindE (a:=true) (by unfold zbg; exact M.i_pure) (M.o_f rfl (M.o_bindE (least_ends _ _) (M.o_bindE (by unfold zbx; exact M.i_pure) ?_)))))
  dsimp only
  refine M.o_bind (nums_out (lo:=Fl.stLo M' ms (Fl.pd S r)) (hi:=min (Fl.stHi M' ms (Fl.pd S r)) (Fl.stHi M' ms (Fl.pu S r))) (fun x (s:Int × Int × Int × Int × Int)=>(x=Fl.stLo M' ms (Fl.pd S r)/\s=(0,0,0,0,0))∨∃ y,Fl.Dn S M' ms r y/\y<x/\s=(Fl.fl S r (Fl.hc S M' ms r y),(Fl.hc S M' ms r y).up,(Fl.hc S M' ms r y).down,(Fl.hc S M' ms r y).roughup,(Fl.hc S M' ms r y).roughdown)/\∀ z,Fl.stLo M' ms (Fl.pd S r)<=z->z<x->Fl.fl S r (Fl.hc S M' ms r z)<=Fl.fl S r (Fl.hc S M' ms r y)) (by have:=hne.2; omega) (by omega) (by have:=hne.1; omega) (.inl ⟨rfl,rfl⟩) ?_) ?_
  · rintro x ⟨n,a,b,c,d⟩ hx1 hx2 hj
    have hx:Fl.Dn S M' ms r x:=⟨hx1,hx2⟩
    simp only [zav]
    refine M.o_t rfl (M.o_bindE (flow_ends hS hr (Fl.hc_ok hr hx)) ?_)
    rcases hj with ⟨rfl,e⟩ | ⟨y,hy,hyx,e,hz⟩
    · obtain ⟨rfl,rfl,rfl,rfl,rfl⟩:n=0/\a=0/\b=0/\c=0/\d=0:=by simpa using e
      refine M.o_bindE (M.i_opt (r:=false) (fun hc=>by simp at hc) (fun _=>rfl)) (M.o_t (by simp) (M.o_pure (.inr ⟨_,hx,by omega,rfl,fun z h1 h2=>?_⟩)))
      rw [show z=Fl.stLo M' ms (Fl.pd S r) by omega]
      exact Int.le_refl _
    · obtain ⟨e1,e2,e3,e4,e5⟩:n=Fl.fl S r (Fl.hc S M' ms r y)/\a=(Fl.hc S M' ms r y).up/\b=(Fl.hc S M' ms r y).down/\c=(Fl.hc S M' ms r y).roughup/\d=(Fl.hc S M' ms r y).roughdown:=by simpa only [Prod.mk.injEq] using e
      rw [e1,e2,e3,e4,e5]
      have hd:decide ((⟨(Fl.hc S M' ms r y).up,(Fl.hc S M' ms r y).down,(Fl.hc S M' ms r y).roughup,(Fl.hc S M' ms r y).roughdown⟩:Cas)=⟨0,0,0,0⟩)=false:=decide_eq_false (fun e=>by
        have:(Fl.hc S M' ms r y).roughup=0:=congrArg Cas.roughup e
        have e2:(Fl.hc S M' ms r y).roughup=r.lo:=rfl
        omega)
      refine M.o_bindE (M.i_opt (r:=decide (Fl.fl S r (Fl.hc S M' ms r y)<Fl.fl S r (Fl.hc S M' ms r x))) (fun _=>by unfold zbg; exact M.i_pure) (fun hc=>by rw [hd] at hc; cases hc)) ?_
      refine M.o_if (fun hc=>?_) (fun hc=>?_)
      · rw [hd,Bool.false_or] at hc
        have hc:=of_decide_eq_true hc
        refine M.o_pure (.inr ⟨x,hx,by omega,rfl,fun z h1 h2=>?_⟩)
        by_cases e:z<x
        · have:=hz z h1 e
          omega
        · rw [show z=x by omega]
          exact Int.le_refl _
      · rw [hd,Bool.false_or] at hc
        have hc:=of_decide_eq_false hc
        refine M.o_pure (.inr ⟨y,hy,by omega,rfl,fun z h1 h2=>?_⟩)
        by_cases e:z<x
        · exact hz z h1 e
        · rw [show z=x by omega]
          omega
  · intro s hs
    cases s with
    | inr _=>exact hs.elim
    | inl s =>
      rcases hs with ⟨e,_⟩ | ⟨y,hy,_,rfl,hz⟩
      · have:=hne.2
        omega
      · exact M.o_pure ⟨y,hy,rfl,rfl,fun z hz'=>hz z hz'.1 (by have:=hz'.2; omega)⟩
theorem peak_out (hS:Fl.Secs S) (hr:Fl.Rok S r) (hk:∀ x∈M',Fl.Mok x) (h:Fl.Ixs M' ms) (ht:Fl.Tog M' ms) :
    (zcq S M' R' ms r).Out (fun x=>(∃ c,Fl.IsLow S M' ms r c x.1)/\∃ c,Fl.IsHigh S M' ms r c x.2):=by
  unfold zcq
  refine M.o_bindE (by unfold zdr; exact M.i_pure) (M.o_bind (best82_out hS hr hk h ht) ?_)
  rintro ⟨a,b,c,d,n⟩ h1
  refine M.o_bindE (by unfold zcK; exact M.i_pure) (M.o_bind (best83_out hS hr hk h ht) ?_)
  rintro ⟨a',b',c',d',n'⟩ h2
  exact M.o_pure ⟨⟨_,h1⟩,⟨_,h2⟩⟩
end
end Go.Proofs.YtnncijcapdnlgaaGreat
-- libD/GE.lean
namespace Go.Nm
namespace Fl
theorem Rows.cle {l:List FRow} (h:Rows l) {i j:Nat} (hij:i<=j) (hj:j<l.length):(l.getD i default).carry<=(l.getD j default).carry:=by
  induction j with
  | zero=>rw [show i=0 by omega]; exact Int.le_refl _
  | succ j ih =>
    rcases Nat.lt_or_eq_of_le hij with e | rfl
    · have:=ih (by omega) (by omega)
      have:=h.cm j hj
      omega
    · exact Int.le_refl _
/-- Marks, one behind the other. -/
def Inc (M:List Mrk) (ms:List Int):Prop:=ms.Pairwise (· < ·)/\Ixs M ms
end Fl
end Go.Nm
namespace Go.Proofs.YtnncijcapdnlgaaGreat
open Go Go.Nm
theorem in_true {n a b:Int} (h1:a<=n) (h2:n<=b):(zab n a b).Ends true:=by
  have:(zab n a b).Ends (decide (a<=n)&&decide (n<=b)):=M.i_pure
  rwa [gA2 h1 h2] at this
theorem every_sect (l:List Sect) (so:Sect->M Bool) (h:∀ t∈l,(so t).Ends true):(zb7 l so).Ends true:=by
  unfold zb7 zcO zde
  refine M.i_bind (a:=false) (M.i_bind (a:=-1) (M.i_bind (a:=(.inr ():Int ⊕ Unit)) ?_ M.i_pure) M.i_pure) M.i_pure
  refine M.i_for (fun i=>i) l.length (fun i hi=>?_) ?_
  · simp only [zbL]
    have hm:l.getD i default∈l:=by rw [getD_el l hi]; exact List.getElem_mem hi
    refine M.i_t (decide_eq_true (by omega)) (M.i_grd (decide_eq_true (by omega)) (M.i_bind (a:=false) ?_ (M.i_f rfl M.i_pure)))
    unfold zbS
    exact M.i_bind (h _ hm) M.i_pure
  · simp only [zbL]
    exact M.i_f (decide_eq_false (by omega)) M.i_pure
theorem every_mark (l:List Mrk) (so:Mrk->M Bool) (h:∀ t∈l,(so t).Ends true):(zbT l so).Ends true:=by
  unfold zbT zcY zdg
  refine M.i_bind (a:=false) (M.i_bind (a:=-1) (M.i_bind (a:=(.inr ():Int ⊕ Unit)) ?_ M.i_pure) M.i_pure) M.i_pure
  refine M.i_for (fun i=>i) l.length (fun i hi=>?_) ?_
  · simp only [zbq]
    have hm:l.getD i default∈l:=by rw [getD_el l hi]; exact List.getElem_mem hi
    refine M.i_t (decide_eq_true (by omega)) (M.i_grd (decide_eq_true (by omega)) (M.i_bind (a:=false) ?_ (M.i_f rfl M.i_pure)))
    unfold zb0
    exact M.i_bind (h _ hm) M.i_pure
  · simp only [zbq]
    exact M.i_f (decide_eq_false (by omega)) M.i_pure
theorem every_reach (l:List Rch) (so:Rch->M Bool) (h:∀ t∈l,(so t).Ends true):(zbP l so).Ends true:=by
  unfold zbP zcX zdc
  refine M.i_bind (a:=false) (M.i_bind (a:=-1) (M.i_bind (a:=(.inr ():Int ⊕ Unit)) ?_ M.i_pure) M.i_pure) M.i_pure
  refine M.i_for (fun i=>i) l.length (fun i hi=>?_) ?_
  · simp only [zaZ]
    have hm:l.getD i default∈l:=by rw [getD_el l hi]; exact List.getElem_mem hi
    refine M.i_t (decide_eq_true (by omega)) (M.i_grd (decide_eq_true (by omega)) (M.i_bind (a:=false) ?_ (M.i_f rfl M.i_pure)))
    unfold zcA
    exact M.i_bind (h _ hm) M.i_pure
  · simp only [zaZ]
    exact M.i_f (decide_eq_false (by omega)) M.i_pure
theorem every_int (l:List Int) (so:Int->M Bool) (h:∀ t∈l,(so t).Ends true):(zaw l so).Ends true:=by
  unfold zaw zcE zcT
  refine M.i_bind (a:=false) (M.i_bind (a:=-1) (M.i_bind (a:=(.inr ():Int ⊕ Unit)) ?_ M.i_pure) M.i_pure) M.i_pure
  refine M.i_for (fun i=>i) l.length (fun i hi=>?_) ?_
  · simp only [zbh]
    have hm:l.getD i 0∈l:=by rw [getD_el l hi]; exact List.getElem_mem hi
    refine M.i_t (decide_eq_true (by omega)) (M.i_grd (decide_eq_true (by omega)) (M.i_bind (a:=false) ?_ (M.i_f rfl M.i_pure)))
    unfold zb3
    exact M.i_bind (h _ hm) M.i_pure
  · simp only [zbh]
    exact M.i_f (decide_eq_false (by omega)) M.i_pure
theorem sright_ends {x:Sect} (hr:Fl.Rows x.rows) (h0:0<=x.place) (h1:x.place<=10000):(zck x).Ends true:=by
  refine M.Out.ends ?_
  unfold zck
  refine M.o_bind (P:=fun z=>match z with | .inl _=>False | .inr (_:Int × Int)=>True) ?_ ?_
  · refine M.o_for x.rows.length (fun i (s:Int × Int × Nat)=>s.2.2=i/\-1<=s.1/\s.1<=2000/\(∀ j,i<=j->j<x.rows.length->s.1<(x.rows.getD j default).stage)/\∀ j,i<=j->j<x.rows.length->s.2.1<=(x.rows.getD j default).carry) ?_ ?_ (s:=(-1,0,0)) ⟨rfl,by decide,by decide,fun j _ hj=>by have:=hr.el j hj; dsimp only; omega,fun j _ hj=>by have:=hr.el j hj; dsimp only; omega⟩
    · rintro i ⟨a,b,_⟩ hi ⟨rfl,h2,h3,h4,h5⟩
      dsimp only at hi h2 h3 h4 h5 ⊢
      have e:=hr.el _ hi
      have k1:=h4 _ (Nat.le_refl _) hi
      have k2:=h5 _ (Nat.le_refl _) hi
      simp only [za3]
      refine M.o_t (decide_eq_true (by omega)) (M.o_grd (decide_eq_true (by omega)) (M.o_grd (gA2 (by omega) (by omega)) (M.o_bindE (in_true (by omega) (by omega)) (M.o_bindE (M.i_opt (fun _=>in_true (by omega) (by omega)) (fun h=>by cases h)) (M.o_f rfl (M.o_pure ⟨rfl,by dsimp only; omega,by dsimp only; omega,fun j hj hj'=>hr.lt hj hj',fun j hj hj'=>hr.cle (by omega) hj'⟩))))))
    · rintro ⟨a,b,_⟩ ⟨rfl,_⟩
      simp only [za3]
      exact M.o_f (decide_eq_false (by omega)) (M.o_pure trivial)
  · intro z hz
    cases z with
    | inl _=>exact hz.elim
    | inr _=>exact M.o_bindE (in_true h0 h1) (M.o_pure rfl)
theorem mright_ends {m:Mrk} (h:Fl.Mok m):(zba m).Ends true:=by
  obtain ⟨h1,h2,h3,h4,h5⟩:=h
  unfold zba zbu
  exact M.i_bind (in_true h1 h2) (M.i_bind (M.i_opt (fun _=>M.i_bind (in_true h3 (by dsimp only; omega)) (M.i_bind (M.i_opt (fun _=>in_true h4 h5) (fun h=>by cases h)) M.i_pure)) (fun h=>by cases h)) M.i_pure)
theorem rright_ends {S:List Sect} {r:Rch} (hn:S.length<=6) (h:Fl.Rok S r):(zcu r (S.length:Int)).Ends true:=by
  obtain ⟨h1,h2,h3,h4,h5,h6⟩:=h
  unfold zcu zbu
  refine M.i_grd (gA2 (by omega) (by omega)) (M.i_bind (in_true h1 (by omega)) (M.i_grd (gOr2 (by omega) (by omega)) (M.i_bind (M.i_opt (fun _=>in_true (by omega) (by omega)) (fun h=>by cases h)) (M.i_bind (M.i_opt (fun _=>M.i_bind (in_true h4 (by dsimp only; omega)) (M.i_bind (M.i_opt (fun _=>in_true h5 h6) (fun h=>by cases h)) M.i_pure)) (fun h=>by cases h)) M.i_pure))))
section
variable {S:List Sect} {M':List Mrk} {R':List Rch} {ms:List Int} {r:Rch}
theorem check_ends (h:Fl.Site S M' R'):(zbZ S M' R').Ends 0:=by
  obtain ⟨hS,hm,hr,hmk,hrk⟩:=h
  obtain ⟨hn,hrows,hpl,hup⟩:=hS
  unfold zbZ
  refine M.i_bind (in_true (by omega) (by omega)) (M.i_bind (M.i_opt (fun _=>in_true (by omega) (by omega)) (fun h=>by cases h)) (M.i_bind (M.i_opt (fun _=>in_true (by omega) (by omega)) (fun h=>by cases h)) (M.i_bind (M.i_opt (fun _=>every_sect _ _ fun x hx=>?_) (fun h=>by cases h)) (M.i_f rfl ?_))))
  · obtain ⟨i,hi,rfl⟩:=mem_getD hx default
    unfold zbU
    have:=hrows i hi
    exact M.i_bind (in_true (by omega) (by omega)) M.i_pure
  · refine M.Out.ends (M.o_bind (P:=fun z=>match z with | .inl _=>False | .inr (_:Unit)=>True) ?_ ?_)
    · refine M.o_for S.length (fun i (s:Int × Nat)=>s.2=i/\∀ j,i<=j->j<S.length->s.1<(S.getD j default).place) ?_ ?_ (s:=(-1,0)) ⟨rfl,fun j _ hj=>by have:=hpl j hj; dsimp only; omega⟩
      · rintro i ⟨a,_⟩ hi ⟨rfl,h2⟩
        dsimp only at hi h2 ⊢
        have e:=hpl _ hi
        have k1:=h2 _ (Nat.le_refl _) hi
        simp only [zbA]
        exact M.o_t (decide_eq_true (by omega)) (M.o_grd (decide_eq_true (by omega)) (M.o_bindE (sright_ends (hrows _ hi).1 e.1 e.2) (M.o_f (decide_eq_false (p:=(S.getD _ default).place<=a) (by omega)) (M.o_pure ⟨rfl,fun j hj hj'=>hup _ _ hj hj'⟩))))
      · rintro ⟨a,_⟩ ⟨rfl,_⟩
        simp only [zbA]
        exact M.o_f (decide_eq_false (by omega)) (M.o_pure trivial)
    · intro z hz
      cases z with
      | inl _=>exact hz.elim
      | inr _ =>
        refine M.o_bindE (every_mark _ _ fun x hx=>mright_ends (hmk x hx)) (M.o_bindE (M.i_opt (fun _=>every_reach _ _ fun x hx=>?_) (fun h=>by cases h)) (M.o_f rfl (M.o_pure rfl)))
        unfold zco
        exact M.i_bind (rright_ends hn.2 (hrk x hx)) M.i_pure
theorem opened_ends (h:Fl.Site S M' R'):(zar S M' R').Ends (.inr 0):=by
  unfold zar
  exact M.i_bind (check_ends h) (M.i_f rfl M.i_pure)
theorem chosen_ends (h:Fl.Site S M' R') (hc:Fl.Inc M' ms):(za4 S M' R' ms).Ends (.inr 0):=by
  unfold za4
  refine M.i_bind (opened_ends h) (M.i_bind (a:=0) (M.Out.ends ?_) M.i_pure)
  have hm:=h.m
  refine M.o_for ms.length (fun i (s:Int × Int × Nat)=>s.1=0/\s.2.2=i/\-1<=s.2.1/\s.2.1<=16/\∀ j,i<=j->j<ms.length->s.2.1<ms.getD j 0) ?_ ?_ (s:=(0,-1,0)) ⟨rfl,rfl,by decide,by decide,fun j _ hj=>by have:=hc.2 (ms.getD j 0) (by rw [getD_el ms hj]; exact List.getElem_mem hj); dsimp only; omega⟩
  · rintro i ⟨_,a,_⟩ hi ⟨rfl,rfl,h2,h3,h4⟩
    dsimp only at hi h2 h3 h4 ⊢
    have e:=hc.2 (ms.getD _ 0) (by rw [getD_el ms hi]; exact List.getElem_mem hi)
    have k1:=h4 _ (Nat.le_refl _) hi
    simp only [zbp]
    refine M.o_t (decide_eq_true (by omega)) (M.o_grd (decide_eq_true (by omega)) (M.o_grd (gOr2 (by omega) (by omega)) (M.o_bindE (M.i_opt (fun _=>in_true (by omega) (by omega)) (fun h=>by cases h)) (M.o_f rfl (M.o_pure ⟨rfl,rfl,by dsimp only; omega,by dsimp only; omega,fun j hj hj'=>?_⟩)))))
    rw [getD_el ms hi,getD_el ms hj']
    exact List.pairwise_iff_getElem.1 hc.1 _ _ hi hj' hj
  · rintro ⟨_,a,_⟩ ⟨rfl,rfl,_⟩
    simp only [zbp]
    exact M.o_f (decide_eq_false (by omega)) (M.o_pure rfl)
theorem asked_ends (h:Fl.Site S M' R') (hc:Fl.Inc M' ms) {i:Int} (h0:0<=i) (h1:i<R'.length) :
    (zbY S M' R' ms i).Ends (.inr ((R'.getD (Int.toNat i) default).up,(R'.getD (Int.toNat i) default).down,(R'.getD (Int.toNat i) default).lo,(R'.getD (Int.toNat i) default).hi,(R'.getD (Int.toNat i) default).narrow,0)):=by
  unfold zbY
  exact M.i_bind (chosen_ends h hc) (M.i_bind (M.i_opt (fun _=>in_true h0 (by omega)) (fun h=>by cases h)) (M.i_f rfl (M.i_f rfl (M.i_grd (gA2 h0 h1) M.i_pure))))
theorem ahead_ends {a b:Int} (ha:0<=a/\a<M'.length) (hb:0<=b/\b<M'.length) :
    (zaj S M' R' a b).Ends (decide ((M'.getD (Int.toNat a) default).place<=(M'.getD (Int.toNat b) default).place)&&decide ((M'.getD (Int.toNat a) default).hi<(M'.getD (Int.toNat b) default).lo)):=by
  unfold zaj
  exact M.i_grd (gA2 ha.1 ha.2) (M.i_grd (gA2 hb.1 hb.2) M.i_pure)
theorem ahead_false {a b:Int} (hx:Fl.Ixs M' ms) (ht:Fl.Tog M' ms) (ha:a∈ms) (hb:b∈ms):(zaj S M' R' a b).Ends false:=by
  have:=ahead_ends (S:=S) (R':=R') (hx a ha) (hx b hb)
  rwa [show (decide ((M'.getD (Int.toNat a) default).place<=(M'.getD (Int.toNat b) default).place)&&decide ((M'.getD (Int.toNat a) default).hi<(M'.getD (Int.toNat b) default).lo))=false by
    rw [Bool.and_eq_false_iff,decide_eq_false_iff_not,decide_eq_false_iff_not]
    have:=ht a ha b hb
    omega] at this
theorem together_ends (hx:Fl.Ixs M' ms) (ht:Fl.Tog M' ms):(zbf S M' R' ms).Ends true:=by
  unfold zbf
  refine M.i_bind (every_int _ _ fun a ha=>?_) M.i_pure
  unfold zbQ
  refine M.i_bind (every_int _ _ fun b hb=>?_) M.i_pure
  unfold zb2
  exact M.i_bind (ahead_false hx ht ha hb) M.i_pure
theorem Peak_out (h:Fl.Site S M' R') (hc:Fl.Inc M' ms) (ht:Fl.Tog M' ms) {i:Int} (h0:0<=i) (h1:i<R'.length) :
    (zaz S M' R' ms i).Out (fun x=>x.2.2=0/\(∃ c,Fl.IsLow S M' ms (R'.getD (Int.toNat i) default) c x.1)/\∃ c,Fl.IsHigh S M' ms (R'.getD (Int.toNat i) default) c x.2.1):=by
  have hl:Int.toNat i<R'.length:=by omega
  have hr:Fl.Rok S (R'.getD (Int.toNat i) default):=by rw [getD_el R' hl]; exact h.rks _ (List.getElem_mem hl)
  unfold zaz
  refine M.o_bindE (asked_ends h hc h0 h1) (M.o_f rfl (M.o_bindE (together_ends hc.2 ht) (M.o_f rfl (M.o_bind (peak_out h.s hr h.mks hc.2 ht) ?_))))
  rintro ⟨a,b⟩ hp
  exact M.o_pure ⟨rfl,hp⟩
theorem Flow_ends (h:Fl.Site S M' R') {i:Int} (h0:0<=i) (h1:i<R'.length) {c:Cas} (hc:Fl.Cok c) (k1:(R'.getD (Int.toNat i) default).lo<=c.roughup) (k2:c.roughup<=(R'.getD (Int.toNat i) default).hi) (k3:(R'.getD (Int.toNat i) default).lo<=c.roughdown) (k4:c.roughdown<=(R'.getD (Int.toNat i) default).hi) :
    (zbb S M' R' i c).Ends (Fl.fl S (R'.getD (Int.toNat i) default) c,0):=by
  have hl:Int.toNat i<R'.length:=by omega
  have hr:Fl.Rok S (R'.getD (Int.toNat i) default):=by rw [getD_el R' hl]; exact h.rks _ (List.getElem_mem hl)
  unfold zbb
  refine M.i_bind (opened_ends h) (M.i_f rfl (M.i_bind (in_true h0 (by omega)) (M.i_f rfl (M.i_grd (gA2 h0 h1) (M.i_bind (a:=true) ?_ (M.i_f rfl (M.i_bind (flow_ends h.s hr hc) M.i_pure)))))))
  obtain ⟨c1,c2,c3,_⟩:=hc
  unfold zda
  exact M.i_bind (in_true (by omega) c3) (M.i_bind (M.i_opt (fun _=>in_true c1 c2) (fun h=>by cases h)) (M.i_bind (M.i_opt (fun _=>in_true k1 k2) (fun h=>by cases h)) (M.i_bind (M.i_opt (fun _=>in_true k3 k4) (fun h=>by cases h)) M.i_pure)))
end
end Go.Proofs.YtnncijcapdnlgaaGreat
-- libD/GM.lean
namespace Go.Nm
namespace Fl
def ints (n:Nat):List Int:=(List.range n).map fun i:Nat=>(i:Int)
theorem ints_len (n:Nat):(ints n).length=n:=by simp [ints]
theorem ints_succ (n:Nat):ints (n+1)=ints n++[(n:Int)]:=by unfold ints; rw [List.range_succ,List.map_append]; rfl
end Fl
end Go.Nm
namespace Go.Proofs.YtnncijcapdnlgaaGreat
open Go Go.Nm
section
variable {S:List Sect} {M':List Mrk} {R':List Rch}
end
end Go.Proofs.YtnncijcapdnlgaaGreat
-- libD/GT.lean
namespace Go.Nm
namespace Fl
theorem Rows.snoc:∀ {l:List FRow} {a:FRow},Rows l->(∀ e∈l,e.stage<a.stage/\e.carry<=a.carry)->0<=a.stage->a.stage<=2000->0<=a.carry->a.carry<=100000->Rows (l++[a])
  | [],_,_,_,h1,h2,h3,h4=>⟨h1,h2,h3,h4⟩
  | [b],a,h,he,h1,h2,h3,h4=>by
    have:=he b (by simp)
    exact ⟨h.1,this.1,h.2.2.1,this.2,h1,h2,h3,h4⟩
  | b :: c :: r,a,h,he,h1,h2,h3,h4=>by
    obtain ⟨k1,k2,k3,k4,k5⟩:=h
    exact ⟨k1,k2,k3,k4,k5.snoc (fun e hh=>he e (by simp [List.mem_cons.1 hh])) h1 h2 h3 h4⟩
/-- A site with what really was: stages that fall downstream, marks about them, and roughness that is allowed. -/
structure Truth (S:List Sect) (M:List Mrk) (R:List Rch) (t ro:List Int):Prop where
  site:Site S M R
  m8:M.length<=8
  tl:t.length=S.length
  rl:ro.length=S.length
  tr:∀ i,i<S.length->0<=t.getD i 0/\t.getD i 0<=2000
  td:∀ i j,i<=j->j<S.length->t.getD j 0<=t.getD i 0
  gap:∀ i j,i<j->j<S.length->(S.getD i default).place+21<=(S.getD j default).place
  mt:∀ m∈M,∃ j,j<S.length/\(S.getD j default).place<=m.place/\m.place<=(S.getD j default).place+19/\m.lo<=t.getD j 0/\t.getD j 0<=m.hi
  ro0:∀ i,i<S.length->1<=ro.getD i 0/\ro.getD i 0<=400
  rt:∀ r∈R,r.lo<=ro.getD (Int.toNat r.up) 0/\r.lo<=ro.getD (Int.toNat r.down) 0/\ro.getD (Int.toNat r.up) 0<=r.hi/\ro.getD (Int.toNat r.down) 0<=r.hi
section
variable {S:List Sect} {M:List Mrk} {R:List Rch} {t ro:List Int} {ms:List Int}
theorem Truth.no (h:Truth S M R t ro) {a b:Mrk} (ha:a∈M) (hb:b∈M):¬(a.place<=b.place/\a.hi<b.lo):=by
  rintro ⟨h1,h2⟩
  obtain ⟨i,i1,i2,i3,i4,i5⟩:=h.mt a ha
  obtain ⟨j,j1,j2,j3,j4,j5⟩:=h.mt b hb
  by_cases e:i<=j
  · have:=h.td i j e j1
    omega
  · have:=h.gap j i (by omega) i1
    omega
theorem Truth.tog (h:Truth S M R t ro) (hx:Ixs M ms):Tog M ms:=fun a ha b hb=>by
  have h1:=hx a ha
  have h2:=hx b hb
  have l1:Int.toNat a<M.length:=by omega
  have l2:Int.toNat b<M.length:=by omega
  rw [getD_el M l1,getD_el M l2]
  exact h.no (List.getElem_mem l1) (List.getElem_mem l2)
/-- The stage that really was lies between what the marks leave. -/
theorem Truth.bet (h:Truth S M R t ro) (hx:Ixs M ms) {i:Nat} (hi:i<S.length):stLo M ms (S.getD i default).place<=t.getD i 0/\t.getD i 0<=stHi M ms (S.getD i default).place:=by
  have key:∀ k∈ms,∃ j,j<S.length/\(S.getD j default).place<=(M.getD (Int.toNat k) default).place/\(M.getD (Int.toNat k) default).place<=(S.getD j default).place+19/\(M.getD (Int.toNat k) default).lo<=t.getD j 0/\t.getD j 0<=(M.getD (Int.toNat k) default).hi:=fun k hk=>by
    have h1:=hx k hk
    have l1:Int.toNat k<M.length:=by omega
    rw [getD_el M l1]
    exact h.mt _ (List.getElem_mem l1)
  have ht:=h.tr i hi
  constructor
  · rcases stLo_ex (M:=M) (p:=(S.getD i default).place) ms with e | ⟨k,hk,hp,e⟩
    · omega
    · obtain ⟨j,j1,j2,j3,j4,j5⟩:=key k hk
      by_cases c:i<=j
      · have:=h.td i j c j1
        omega
      · have:=h.gap j i (by omega) hi
        omega
  · rcases stHi_ex (M:=M) (p:=(S.getD i default).place) ms with e | ⟨k,hk,hp,e⟩
    · omega
    · obtain ⟨j,j1,j2,j3,j4,j5⟩:=key k hk
      by_cases c:j<=i
      · have:=h.td j i c hi
        omega
      · have:=h.gap i j (by omega) j1
        omega
end
end Fl
end Go.Nm
-- libD/GS.lean
namespace Go.Nm
namespace Fl
theorem getD_app {α:Type} {l:List α} {x d:α} {j:Nat} (h:j<l.length):(l++[x]).getD j d=l.getD j d:=by
  simp [List.getD,List.getElem?_append_left h]
theorem getD_appE {α:Type} {l:List α} {x d:α} {j:Nat} (h:l.length=j):(l++[x]).getD j d=x:=by
  subst h
  simp [List.getD]
/-- A mark about what was. -/
def Mt (S:List Sect) (t:List Int) (m:Mrk):Prop:=Mok m/\∃ j,j<S.length/\(S.getD j default).place<=m.place/\m.place<=(S.getD j default).place+19/\m.lo<=t.getD j 0/\t.getD j 0<=m.hi
/-- What is made so far. -/
structure Mi (S:List Sect) (M:List Mrk) (t ro:List Int) (place stage:Int):Prop where
  tl:t.length=S.length
  rl:ro.length=S.length
  rows:∀ j,j<S.length->Rows (S.getD j default).rows/\2<=(S.getD j default).rows.length/\(S.getD j default).rows.length<=8
  pl:∀ j,j<S.length->0<=(S.getD j default).place/\(S.getD j default).place+21<=place
  gap:∀ i j,i<j->j<S.length->(S.getD i default).place+21<=(S.getD j default).place
  tr:∀ j,j<S.length->stage<=t.getD j 0/\t.getD j 0<=400
  td:∀ i j,i<=j->j<S.length->t.getD j 0<=t.getD i 0
  mt:∀ m∈M,Mt S t m
  m8:M.length<=8
  ro0:∀ j,j<S.length->30<=ro.getD j 0/\ro.getD j 0<=90
  p0:0<=place
  p1:place<=50+200*S.length
  s0:100<=stage+19*S.length
  s1:stage<=400
theorem Mt.app {S:List Sect} {t:List Int} {m:Mrk} {s:Sect} {v:Int} (hl:t.length=S.length) (h:Mt S t m):Mt (S++[s]) (t++[v]) m:=by
  obtain ⟨h0,j,h1,h2⟩:=h
  refine ⟨h0,j,by simp; omega,?_⟩
  rw [getD_app h1,getD_app (by omega)]
  exact h2
theorem Mi.step {S:List Sect} {M M':List Mrk} {t ro:List Int} {place stage p q r:Int} {rows:List FRow} (h:Mi S M t ro place stage) (hr:Rows rows) (h2:2<=rows.length) (h8:rows.length<=8) (hm:∀ m∈M',Mt (S++[⟨place,rows⟩]) (t++[stage]) m) (m8:M'.length<=8)
    (hp:21<=p/\p<=200) (hq:0<=q/\q<=19) (hro:30<=r/\r<=90):Mi (S++[⟨place,rows⟩]) M' (t++[stage]) (ro++[r]) (place+p) (stage-q):=by
  have e1:=h.tl
  have e2:=h.rl
  have p0:=h.p0
  have p1:=h.p1
  have s0:=h.s0
  have s1:=h.s1
  have split:∀ j,j<(S++[(⟨place,rows⟩:Sect)]).length->j<S.length∨j=S.length:=fun j hj=>by simp at hj; omega
  refine ⟨by simp [e1],by simp [e2],fun j hj=>?_,fun j hj=>?_,fun i j hij hj=>?_,fun j hj=>?_,fun i j hij hj=>?_,hm,m8,fun j hj=>?_,by omega,by simp; omega,by simp; omega,by omega⟩
  · rcases split j hj with e | rfl
    · rw [getD_app e]; exact h.rows j e
    · rw [getD_appE rfl]; exact ⟨hr,h2,h8⟩
  · rcases split j hj with e | rfl
    · rw [getD_app e]; have:=h.pl j e; omega
    · rw [getD_appE rfl]; dsimp only; omega
  · rcases split j hj with e | rfl
    · rw [getD_app e,getD_app (by omega)]; exact h.gap i j hij e
    · rw [getD_appE rfl,getD_app hij]; exact (h.pl i hij).2
  · rcases split j hj with e | rfl
    · rw [getD_app (by omega)]; have:=h.tr j e; omega
    · rw [getD_appE e1]; omega
  · rcases split j hj with e | rfl
    · rw [getD_app (by omega),getD_app (by omega)]; exact h.td i j hij e
    · rw [getD_appE e1]
      rcases Nat.lt_or_eq_of_le hij with e | rfl
      · rw [getD_app (by omega)]; exact (h.tr i e).1
      · rw [getD_appE e1]; exact Int.le_refl _
  · rcases split j hj with e | rfl
    · rw [getD_app (by omega)]; exact h.ro0 j e
    · rw [getD_appE e2]; exact hro
end Fl
end Go.Nm
namespace Go.Proofs.YtnncijcapdnlgaaGreat
open Go Go.Nm
theorem b6_out {b:List UInt8} {c u x a0 c0 K:Int} (hS:SOk c u x) (hc:c<=100000) (ha:0<=a0/\a0<=60) (hc0:0<=c0/\c0<=50) (hK:2<=K/\K<=4) :
    (M.iter (za8 b) (u,x,a0,c0,K,[])).Out (fun z=>SOk (c+10) z.1 z.2.1/\Fl.Rows z.2.2.2/\2<=z.2.2.2.length/\z.2.2.2.length<=8):=by
  refine M.o_iter (fun m (s:Int × Int × Int × Int × Int × List FRow)=>m=s.2.2.2.2.1.toNat/\0<=s.2.2.2.2.1/\s.2.2.2.2.1+s.2.2.2.2.2.length=K/\SOk (c+2*s.2.2.2.2.2.length) s.1 s.2.1/\Fl.Rows s.2.2.2.2.2/\(∀ e∈s.2.2.2.2.2,e.stage<s.2.2.1/\e.carry<=s.2.2.2.1)/\0<=s.2.2.1/\s.2.2.1<=60+200*s.2.2.2.2.2.length/\0<=s.2.2.2.1/\s.2.2.2.1<=50+2000*s.2.2.2.2.2.length) ?_ _ (u,x,a0,c0,K,[]) ⟨rfl,by dsimp only; omega,by simp,by simpa using hS,trivial,fun e he=>(List.not_mem_nil he).elim,ha.1,by simp; omega,hc0.1,by simp; omega⟩
  rintro m ⟨u,x,a,ca,k,l⟩ ⟨rfl,k0,kl,hS,hr,he,a1,a2,c1,c2⟩
  dsimp only at k0 kl hS hr he a1 a2 c1 c2 ⊢
  simp only [za8]
  refine M.o_if (fun hb=>?_) (fun hb=>?_)
  · have hb:=of_decide_eq_true hb
    refine M.o_grd (decide_eq_true (by simp; omega)) (M.o_bind (within_out hS (by omega) (by omega) (by omega) (by omega)) ?_)
    rintro ⟨r8,u8,x8⟩ ⟨k8,g8,g8'⟩
    dsimp only at k8 g8 g8' ⊢
    refine M.o_grd (gA2 (by omega) (by omega)) (M.o_bind (next_out k8 (by omega) (by omega)) ?_)
    rintro ⟨r9,u9,x9⟩ ⟨k9,g9,_⟩
    have g9:=g9 (by omega)
    dsimp only at k9 g9 ⊢
    refine M.o_grd (gA2 (by omega) (by omega)) (M.o_grd (gA2 (by omega) (by omega)) (M.o_pure ⟨(k-1).toNat,by omega,rfl,by dsimp only; omega,by simp; omega,k9.mono (by simp; omega),hr.snoc he a1 (by dsimp only; omega) c1 (by dsimp only; omega),fun e h=>?_,by dsimp only; omega,by simp; omega,by dsimp only; omega,by simp; omega⟩))
    rcases List.mem_append.1 h with h | h
    · have:=he e h
      dsimp only
      omega
    · rw [List.mem_singleton] at h
      subst h
      dsimp only
      omega
  · have hb:=of_decide_eq_false hb
    exact M.o_pure ⟨hS.mono (by omega),hr,by dsimp only; omega,by dsimp only; omega⟩
theorem b7_out {b:List UInt8} {c u x place stage k:Int} (P:Mrk->Prop) (hP:∀ d e f:Int,0<=d->d<=19->0<=e->e<=8->0<=f->f<=8->P ⟨place+d,max 0 (stage-e),stage+f⟩) (hS:SOk c u x) (hc:c<=100000) (hk:0<=k/\k<=2) (hp:0<=place/\place<=10000) (hs:0<=stage/\stage<=1000) {l:List Mrk} (hl:l.length<=8) (h0:∀ m∈l,P m) :
    (M.iter (zaO b 8 false place stage) (u,x,k,l)).Out (fun z=>SOk (c+8) z.1 z.2.1/\(∀ m∈z.2.2.2,P m)/\z.2.2.2.length<=8):=by
  refine M.o_iter (fun m (s:Int × Int × Int × List Mrk)=>m=s.2.2.1.toNat/\0<=s.2.2.1/\s.2.2.1<=2/\SOk (c+4*(2-s.2.2.1)) s.1 s.2.1/\(∀ m∈s.2.2.2,P m)/\s.2.2.2.length<=8) ?_ _ (u,x,k,l) ⟨rfl,hk.1,hk.2,hS.mono (by dsimp only; omega),h0,hl⟩
  rintro m ⟨u,x,k,l⟩ ⟨rfl,k0,k2,hS,hm,h8⟩
  dsimp only at k0 k2 hS hm h8 ⊢
  simp only [zaO]
  refine M.o_if (fun hb=>?_) (fun hb=>?_)
  · rw [Bool.and_eq_true,decide_eq_true_eq,decide_eq_true_eq] at hb
    refine M.o_bind (next_out hS (by omega) (by omega)) ?_
    rintro ⟨r1,u1,x1⟩ ⟨k1,g1,_⟩
    have g1:=g1 (by omega)
    dsimp only at k1 g1 ⊢
    refine M.o_bind (next_out k1 (by omega) (by omega)) ?_
    rintro ⟨r2,u2,x2⟩ ⟨kk2,g2,_⟩
    have g2:=g2 (by omega)
    dsimp only at kk2 g2 ⊢
    have hd:0<=r1*r2/\r1*r2<=19:=by
      rcases (by omega:r1=0∨r1=1) with rfl | rfl
      · simp
      · simp; omega
    generalize r1*r2=d at hd ⊢
    refine M.o_grd (gA2 (by omega) (by omega)) (M.o_grd (gA2 (by omega) (by omega)) (M.o_bind (next_out kk2 (by omega) (by omega)) ?_))
    rintro ⟨r3,u3,x3⟩ ⟨k3,g3,_⟩
    have g3:=g3 (by omega)
    dsimp only at k3 g3 ⊢
    refine M.o_grd (gA2 (by omega) (by omega)) (M.o_bind (next_out k3 (by omega) (by omega)) ?_)
    rintro ⟨r4,u4,x4⟩ ⟨k4,g4,_⟩
    have g4:=g4 (by omega)
    dsimp only at k4 g4 ⊢
    refine M.o_grd (gA2 (by omega) (by omega)) (M.o_f rfl (M.o_grd (decide_eq_true (by simp; omega)) (M.o_grd (gA2 (by omega) (by omega)) (M.o_pure ⟨(k-1).toNat,by omega,rfl,by dsimp only; omega,by dsimp only; omega,k4.mono (by dsimp only; omega),fun m h=>?_,by simp; omega⟩))))
    rcases List.mem_append.1 h with h | h
    · exact hm m h
    · rw [List.mem_singleton] at h
      subst h
      exact hP _ _ _ hd.1 hd.2 (by omega) (by omega) (by omega) (by omega)
  · exact M.o_pure ⟨hS.mono (by omega),hm,h8⟩
end Go.Proofs.YtnncijcapdnlgaaGreat
-- libD/GU.lean
namespace Go.Proofs.YtnncijcapdnlgaaGreat
open Go Go.Nm
theorem b9_out {b:List UInt8} {u x p s N:Int} (hS:SOk 3 u x) (hp:0<=p/\p<=50) (hs:100<=s/\s<=400) (hN:2<=N/\N<=5) :
    (M.iter (zaP b 8 false) (u,x,p,s,N,[],[],[],[])).Out (fun z=>∃ S M t ro place stage,z=(z.1,z.2.1,S,M,t,ro,ro,t,M,S)/\SOk 1000 z.1 z.2.1/\Fl.Mi S M t ro place stage/\2<=S.length/\S.length<=5):=by
  refine M.o_iter (fun m (z:Int × Int × Int × Int × Int × List Sect × List Mrk × List Int × List Int)=>m=z.2.2.2.2.1.toNat/\0<=z.2.2.2.2.1/\z.2.2.2.2.1+z.2.2.2.2.2.1.length=N/\SOk (3+100*z.2.2.2.2.2.1.length) z.1 z.2.1/\Fl.Mi z.2.2.2.2.2.1 z.2.2.2.2.2.2.1 z.2.2.2.2.2.2.2.1 z.2.2.2.2.2.2.2.2 z.2.2.1 z.2.2.2.1) ?_ _ (u,x,p,s,N,[],[],[],[]) ⟨rfl,by dsimp only; omega,by simp,by simpa using hS,?_⟩
  · rintro m ⟨u,x,place,stage,n,S,M1,t,ro⟩ ⟨rfl,n0,nl,hS,h⟩
    dsimp only at n0 nl hS h ⊢
    simp only [zaP]
    have e1:=h.tl
    have e2:=h.rl
    have p0:=h.p0
    have p1:=h.p1
    have s0:=h.s0
    have s1:=h.s1
    refine M.o_if (fun hb=>?_) (fun hb=>?_)
    · have hb:=of_decide_eq_true hb
      refine M.o_bind (next_out hS (by omega) (by omega)) ?_
      rintro ⟨r5,u5,x5⟩ ⟨k5,g5,_⟩
      have g5:=g5 (by omega)
      dsimp only at k5 g5 ⊢
      refine M.o_bind (next_out k5 (by omega) (by omega)) ?_
      rintro ⟨r6,u6,x6⟩ ⟨k6,g6,_⟩
      have g6:=g6 (by omega)
      dsimp only at k6 g6 ⊢
      refine M.o_bind (within_out k6 (by omega) (by omega) (by omega) (by omega)) ?_
      rintro ⟨r7,u7,x7⟩ ⟨k7,g7,g7'⟩
      dsimp only at k7 g7 g7' ⊢
      refine M.o_bind (b6_out k7 (by omega) (by omega) (by omega) ⟨g7,g7'⟩) ?_
      rintro ⟨u8,x8,l2,rows⟩ ⟨k8,hr,hr2,hr8⟩
      dsimp only at k8 hr hr2 hr8 ⊢
      refine M.o_grd (decide_eq_true (by simp; omega)) (M.o_grd (decide_eq_true (by simp; omega)) (M.o_bind (within_out k8 (by omega) (by omega) (by omega) (by omega)) ?_))
      rintro ⟨r10,u10,x10⟩ ⟨k10,g10,g10'⟩
      dsimp only at k10 g10 g10' ⊢
      refine M.o_grd (decide_eq_true (by simp; omega)) ?_
      unfold zcw
      refine M.o_bind (next_out k10 (by omega) (by omega)) ?_
      rintro ⟨r11,u11,x11⟩ ⟨k11,g11,_⟩
      have g11:=g11 (by omega)
      dsimp only at k11 g11 ⊢
      refine M.o_bind (b7_out (Fl.Mt (S++[⟨place,rows⟩]) (t++[stage])) (fun d e f d0 d1 e0 e1' f0 f1=>?_) k11 (by omega) (by omega) (by omega) (by omega) h.m8 (fun m hm=>(h.mt m hm).app e1)) ?_
      · refine ⟨⟨by dsimp only; omega,by dsimp only; omega,by dsimp only; omega,by dsimp only; omega,by dsimp only; omega⟩,S.length,by simp,?_⟩
        rw [Fl.getD_appE rfl,Fl.getD_appE e1]
        dsimp only
        omega
      rintro ⟨u12,x12,l5,M2⟩ ⟨k12,hm2,m8⟩
      dsimp only at k12 hm2 m8 ⊢
      refine M.o_bind (within_out k12 (by omega) (by omega) (by omega) (by omega)) ?_
      rintro ⟨r19,u19,x19⟩ ⟨k19,g19,g19'⟩
      dsimp only at k19 g19 g19' ⊢
      refine M.o_grd (gA2 (by omega) (by omega)) (M.o_bind (next_out k19 (by omega) (by omega)) ?_)
      rintro ⟨r20,u20,x20⟩ ⟨k20,g20,_⟩
      have g20:=g20 (by omega)
      dsimp only at k20 g20 ⊢
      exact M.o_grd (gA2 (by omega) (by omega)) (M.o_grd (gA2 (by omega) (by omega)) (M.o_pure ⟨(n-1).toNat,by omega,rfl,by dsimp only; omega,by simp; omega,k20.mono (by simp; omega),h.step hr hr2 hr8 hm2 m8 ⟨g19,g19'⟩ (by omega) ⟨g10,g10'⟩⟩))
    · have hb:=of_decide_eq_false hb
      exact M.o_pure ⟨S,M1,t,ro,place,stage,rfl,hS.mono (by omega),h,by omega,by omega⟩
  · refine ⟨rfl,rfl,fun j hj=>?_,fun j hj=>?_,fun i j _ hj=>?_,fun j hj=>?_,fun i j _ hj=>?_,fun m hm=>(List.not_mem_nil hm).elim,by simp,fun j hj=>?_,hp.1,by simp; omega,by simp; omega,hs.2⟩ <;> simp at hj
theorem b10_out {b:List UInt8} {u x N:Int} {S:List Sect} {ro:List Int} (hS:SOk 2000 u x) (hn:2<=S.length/\S.length<=5) (hl:ro.length=S.length) (hro:∀ j,j<S.length->30<=ro.getD j 0/\ro.getD j 0<=90) (hN:1<=N/\N<=4) :
    (M.iter (zaU b ro S) (u,x,N,[])).Out (fun z=>z.1=z.2.1/\1<=z.1.length/\z.1.length<=4/\∀ r∈z.1,Fl.Rok S r/\r.lo<=ro.getD (Int.toNat r.up) 0/\r.lo<=ro.getD (Int.toNat r.down) 0/\ro.getD (Int.toNat r.up) 0<=r.hi/\ro.getD (Int.toNat r.down) 0<=r.hi):=by
  refine M.o_iter (fun m (s:Int × Int × Int × List Rch)=>m=s.2.2.1.toNat/\0<=s.2.2.1/\s.2.2.1+s.2.2.2.length=N/\SOk (2000+10*s.2.2.2.length) s.1 s.2.1/\∀ r∈s.2.2.2,Fl.Rok S r/\r.lo<=ro.getD (Int.toNat r.up) 0/\r.lo<=ro.getD (Int.toNat r.down) 0/\ro.getD (Int.toNat r.up) 0<=r.hi/\ro.getD (Int.toNat r.down) 0<=r.hi) ?_ _ (u,x,N,[]) ⟨rfl,by dsimp only; omega,by simp,by simpa using hS,fun r hr=>(List.not_mem_nil hr).elim⟩
  rintro m ⟨u,x,n,l⟩ ⟨rfl,n0,nl,hS,hr⟩
  dsimp only at n0 nl hS hr ⊢
  simp only [zaU]
  refine M.o_if (fun hb=>?_) (fun hb=>?_)
  · have hb:=of_decide_eq_true hb
    refine M.o_bind (next_out hS (by omega) (by omega)) ?_
    rintro ⟨a,u1,x1⟩ ⟨k1,g1,_⟩
    have g1:=g1 (by omega)
    dsimp only at k1 g1 ⊢
    refine M.o_bind (next_out k1 (by omega) (by omega)) ?_
    rintro ⟨w,u2,x2⟩ ⟨k2,g2,_⟩
    dsimp only at k2 ⊢
    refine M.o_grd (gA2 (by omega) (by omega)) (M.o_bind (within_out k2 (by omega) (by omega) (by omega) (by omega)) ?_)
    rintro ⟨d,u3,x3⟩ ⟨k3,g3,g3'⟩
    dsimp only at k3 g3 g3' ⊢
    have ra:=hro (Int.toNat a) (by omega)
    have rb:=hro (Int.toNat (a+d)) (by omega)
    refine M.o_grd (gA2 (by omega) (by omega)) (M.o_grd (gA2 (by omega) (by omega)) (M.o_grd (gA2 (by omega) (by omega)) (M.o_bind (next_out k3 (by omega) (by omega)) ?_)))
    rintro ⟨e,u4,x4⟩ ⟨k4,g4,_⟩
    have g4:=g4 (by omega)
    dsimp only at k4 g4 ⊢
    refine M.o_grd (gA2 (by omega) (by omega)) (M.o_bind (next_out k4 (by omega) (by omega)) ?_)
    rintro ⟨f,u5,x5⟩ ⟨k5,g5,_⟩
    have g5:=g5 (by omega)
    dsimp only at k5 g5 ⊢
    refine M.o_grd (gA2 (by omega) (by omega)) (M.o_grd (decide_eq_true (by simp; omega)) (M.o_grd (gA2 (by omega) (by omega)) (M.o_pure ⟨(n-1).toNat,by omega,rfl,by dsimp only; omega,by simp; omega,k5.mono (by simp; omega),fun r h=>?_⟩)))
    rcases List.mem_append.1 h with h | h
    · exact hr r h
    · rw [List.mem_singleton] at h
      subst h
      dsimp only
      exact ⟨⟨by dsimp only; omega,by dsimp only; omega,by dsimp only; omega,by dsimp only; omega,by dsimp only; omega,by dsimp only; omega⟩,by omega,by omega,by omega,by omega⟩
  · have hb:=of_decide_eq_false hb
    exact M.o_pure ⟨rfl,by dsimp only; omega,by dsimp only; omega,hr⟩
theorem truth_of {S:List Sect} {M':List Mrk} {R:List Rch} {t ro:List Int} {place stage:Int} (h:Fl.Mi S M' t ro place stage) (hn:2<=S.length/\S.length<=5) (hm:1<=M'.length) (hr:1<=R.length/\R.length<=4)
    (hR:∀ r∈R,Fl.Rok S r/\r.lo<=ro.getD (Int.toNat r.up) 0/\r.lo<=ro.getD (Int.toNat r.down) 0/\ro.getD (Int.toNat r.up) 0<=r.hi/\ro.getD (Int.toNat r.down) 0<=r.hi):Fl.Truth S M' R t ro:=by
  have p1:=h.p1
  have s0:=h.s0
  have m8:=h.m8
  refine ⟨⟨⟨by omega,h.rows,fun i hi=>?_,fun i j hij hj=>?_⟩,by omega,by omega,fun m hm=>(h.mt m hm).1,fun r hr=>(hR r hr).1⟩,h.m8,h.tl,h.rl,fun i hi=>?_,h.td,h.gap,fun m hm=>(h.mt m hm).2,fun i hi=>?_,fun r hr=>(hR r hr).2⟩
  · have:=h.pl i hi; omega
  · have:=h.gap i j hij hj; omega
  · have:=h.tr i hi; omega
  · have:=h.ro0 i hi; omega
theorem j11_out {b:List UInt8} {u x:Int} {S:List Sect} {M':List Mrk} {t ro:List Int} {place stage:Int} (h:Fl.Mi S M' t ro place stage) (hn:2<=S.length/\S.length<=5) (hm:1<=M'.length) (hS:SOk 1000 u x) :
    (zaB b u x ro t S M').Out (fun z=>Fl.Truth z.1 z.2.1 z.2.2.1 z.2.2.2.1 z.2.2.2.2.1):=by
  unfold zaB
  refine M.o_bind (within_out hS (by omega) (by omega) (by omega) (by omega)) ?_
  rintro ⟨r,u1,x1⟩ ⟨k1,g1,g1'⟩
  dsimp only at k1 g1 g1' ⊢
  refine M.o_bind (b10_out (k1.mono (by omega)) hn h.rl h.ro0 ⟨g1,g1'⟩) ?_
  rintro ⟨l,l',u2,x2⟩ ⟨e,h1,h2,h3⟩
  dsimp only at e h1 h2 h3 ⊢
  subst e
  exact M.o_pure (truth_of h hn hm ⟨h1,h2⟩ h3)
theorem Made_out {b:List UInt8}:(zcg b 0 0 8 false).Out (fun z=>Fl.Truth z.1 z.2.1 z.2.2.1 z.2.2.2.1 z.2.2.2.2.1):=by
  unfold zcg
  refine M.o_bind (next_out SOk.zero (by omega) (by omega)) ?_
  rintro ⟨r2,u1,x1⟩ ⟨k1,g1,_⟩
  have g1:=g1 (by omega)
  dsimp only at k1 g1 ⊢
  refine M.o_bind (within_out k1 (by omega) (by omega) (by omega) (by omega)) ?_
  rintro ⟨r3,u2,x2⟩ ⟨k2,g2,g2'⟩
  dsimp only at k2 g2 g2' ⊢
  refine M.o_bind (within_out k2 (by omega) (by omega) (by omega) (by omega)) ?_
  rintro ⟨r4,u3,x3⟩ ⟨k3,g3,g3'⟩
  dsimp only at k3 g3 g3' ⊢
  refine M.o_bind (b9_out (k3.mono (by omega)) (by omega) ⟨g2,g2'⟩ ⟨g3,g3'⟩) ?_
  rintro ⟨u4,x4,z⟩ ⟨S,M',t,ro,place,stage,e,k4,h,n2,n5⟩
  obtain rfl:=(Prod.mk.inj (Prod.mk.inj e).2).2
  dsimp only at k4 ⊢
  have p1:=h.p1
  have s0:=h.s0
  refine M.o_if (fun hb=>?_) (fun hb=>?_)
  · rw [beq_iff_eq] at hb
    have hz:M'.length=0:=by omega
    have t0:=h.tr 0 (by omega)
    have p0:=h.pl 0 (by omega)
    have tl:=h.tl
    refine M.o_grd (decide_eq_true (by omega)) (M.o_grd (decide_eq_true (by omega)) (M.o_grd (gA2 (by omega) (by omega)) (M.o_grd (gA2 (by omega) (by omega)) (M.o_grd (decide_eq_true (by simp; omega)) (j11_out (place:=place) (stage:=stage) ?_ ⟨n2,n5⟩ (by simp) k4)))))
    have hm:Fl.Mt S t ⟨(S.getD 0 default).place,t.getD 0 0-5,t.getD 0 0+5⟩:=⟨⟨by dsimp only; omega,by dsimp only; omega,by dsimp only; omega,by dsimp only; omega,by dsimp only; omega⟩,0,by omega,by dsimp only; omega⟩
    exact ⟨h.tl,h.rl,h.rows,h.pl,h.gap,h.tr,h.td,fun m hmm=>by
      rcases List.mem_append.1 hmm with hmm | hmm
      · exact h.mt m hmm
      · rw [List.mem_singleton] at hmm
        subst hmm
        exact hm,by simp; omega,h.ro0,h.p0,h.p1,h.s0,h.s1⟩
  · rw [beq_eq_false_iff_ne] at hb
    exact j11_out h ⟨n2,n5⟩ (by omega) k4
end Go.Proofs.YtnncijcapdnlgaaGreat
-- libD/GW.lean
namespace Go.Proofs.YtnncijcapdnlgaaGreat
open Go Go.Nm
set_option maxRecDepth 100000 in
theorem awake_ends:zaD.Ends true:=⟨400,by kernel_rfl⟩
end Go.Proofs.YtnncijcapdnlgaaGreat
-- libD/GP.lean
namespace Go.Nm
namespace Fl
section
variable {S:List Sect} {M:List Mrk} {R:List Rch} {t ro ms:List Int} {r:Rch}
theorem pk (hS:Secs S) (hr:Rok S r) (hk:∀ x∈M,Mok x) (hx:Ixs M ms) (ht:Tog M ms) {c c1 c2:Cas} {a b:Int} (ha:IsLow S M ms r c1 a) (hb:IsHigh S M ms r c2 b) (hc:Cok c)
    (hd:Dn S M ms r c.down) (h0:stLo M ms (pu S r)<=c.up) (h1:c.up<=stHi M ms (pu S r)) (k1:r.lo<=c.roughup) (k2:c.roughup<=r.hi) (k3:r.lo<=c.roughdown) (k4:c.roughdown<=r.hi) :
    0<=a/\a<=fl S r c/\fl S r c<=b:=by
  obtain ⟨x,_,_,e1,m1⟩:=ha
  obtain ⟨y,_,_,e2,m2⟩:=hb
  have q1:=m1 _ hd
  have q2:=m2 _ hd
  have du:=hc.du
  refine ⟨by rw [e1]; exact fl_nn _,Int.le_trans q1 (fl_mono hS hr (lc_ok hr hk hx ht hd) hc rfl ?_ k2 k4),Int.le_trans (fl_mono hS hr hc (hc_ok hr hd) rfl h1 k1 k3) q2⟩
  show max (stLo M ms (pu S r)) c.down<=c.up
  omega
theorem Truth.rok (h:Truth S M R t ro) {i:Nat} (hi:i<R.length):Rok S (R.getD i default):=by
  rw [getD_el R hi]
  exact h.site.rks _ (List.getElem_mem hi)
theorem ints_ix (M:List Mrk):Ixs M (ints M.length):=fun k hk=>by
  unfold ints at hk
  obtain ⟨i,hi,rfl⟩:=List.mem_map.1 hk
  have:=List.mem_range.1 hi
  omega
theorem ints_inc (M:List Mrk):Inc M (ints M.length):=by
  refine ⟨?_,ints_ix M⟩
  unfold ints
  rw [List.pairwise_map]
  exact List.Pairwise.imp (fun h=>by omega) List.pairwise_lt_range
end
end Fl
end Go.Nm
namespace Go.Proofs.YtnncijcapdnlgaaGreat
open Go Go.Nm
section
variable {S:List Sect} {M':List Mrk} {R':List Rch} {t ro:List Int}
theorem every_ends (hn:M'.length<=16):(zct S M' R').Ends (Fl.ints M'.length):=by
  unfold zct
  refine M.i_bind (a:=(Fl.ints M'.length,Fl.ints M'.length)) ?_ M.i_pure
  refine M.i_for (fun i=>(i,Fl.ints i)) M'.length (fun i hi=>?_) ?_
  · simp only [za0]
    refine M.i_t (decide_eq_true (by omega)) (M.i_grd (decide_eq_true (by rw [Fl.ints_len]; simp; omega)) ?_)
    rw [Fl.ints_succ]
    exact M.i_pure
  · simp only [za0]
    exact M.i_f (decide_eq_false (by omega)) M.i_pure
end
end Go.Proofs.YtnncijcapdnlgaaGreat
namespace Go.Proofs.YtnncijcapdnlgaaGreat
open Go Go.Nm
theorem zec (numbers gaugings:List UInt8) (at_:Int):(zc3 numbers gaugings at_).Ends true:=by
  refine M.Out.ends ?_
  unfold zc3
  refine M.o_bindE (by unfold zbe; exact M.i_pure) (M.o_bind Made_out ?_)
  rintro ⟨S,M',R',t,ro,u,x⟩ h
  dsimp only at h ⊢
  refine M.o_bindE (by unfold zbe; exact M.i_pure) ?_
  have hm:=h.site.m
  have hi:0<R'.length:=by have:=h.site.r; omega
  have hr:=h.rok hi
  have ix:=Fl.ints_ix M'
  have inc:=Fl.ints_inc M'
  have tog:=h.tog ix
  have hk:=h.site.mks
  have hrt:=h.rt (R'.getD 0 default) (by rw [getD_el R' hi]; exact List.getElem_mem hi)
  have cu:=h.bet ix hr.iu
  have cd:=h.bet ix hr.id
  have tu:=h.tr _ hr.iu
  have tdn:=h.tr _ hr.id
  have u0:=hr.u0
  have ud:=hr.ud
  have d1:=hr.d1
  have tt:=h.td (Int.toNat (R'.getD 0 default).up) (Int.toNat (R'.getD 0 default).down) (by omega) hr.id
  have ru:=h.ro0 _ hr.iu
  have rd:=h.ro0 _ hr.id
  have dn:Fl.Dn S M' (Fl.ints M'.length) (R'.getD 0 default) (t.getD (Int.toNat (R'.getD 0 default).down) 0):=⟨cd.1,by have:=cd.2; have:=cu.2; unfold Fl.pd Fl.pu; omega⟩
  have ok:Fl.Cok ⟨t.getD (Int.toNat (R'.getD 0 default).up) 0,t.getD (Int.toNat (R'.getD 0 default).down) 0,ro.getD (Int.toNat (R'.getD 0 default).up) 0,ro.getD (Int.toNat (R'.getD 0 default).down) 0⟩:=⟨tdn.1,tt,tu.2,ru.1,rd.1,ru.2,rd.2⟩
  have fe:=Flow_ends (i:=0) h.site (by omega) (by omega) ok hrt.1 hrt.2.2.1 hrt.2.1 hrt.2.2.2
  refine M.o_grd (decide_eq_true (by omega)) (M.o_grd (gA2 (by omega) (by rw [h.tl]; omega)) (M.o_grd (gA2 (by omega) (by rw [h.tl]; omega)) (M.o_grd (gA2 (by omega) (by rw [h.rl]; omega)) (M.o_grd (gA2 (by omega) (by rw [h.rl]; omega)) (M.o_bindE fe (M.o_bindE (every_ends hm.2) (M.o_bind (Peak_out h.site inc tog (i:=0) (by omega) (by omega)) ?_)))))))
  rintro ⟨a,b,_⟩ ⟨rfl,⟨c1,ha⟩,c2,hb⟩
  dsimp only at ha hb ⊢
  have kp:=Fl.pk h.site.s hr hk ix tog ha hb ok dn cu.1 cu.2 hrt.1 hrt.2.2.1 hrt.2.1 hrt.2.2.2
  exact j6_out awake_ends tu kp.1 kp.2.1 kp.2.2
end Go.Proofs.YtnncijcapdnlgaaGreat
