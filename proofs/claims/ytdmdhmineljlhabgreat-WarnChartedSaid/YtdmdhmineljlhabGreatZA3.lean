/- Part 3 of the texts on which the proof rests. Conditions: none. -/
import Derived.Test.YtdmdhmineljlhabGreatZA2
set_option linter.unusedVariables false
set_option linter.unusedSimpArgs false
set_option linter.unusedSectionVars false
section
set_option maxRecDepth 100000
set_option maxHeartbeats 16000000
namespace Go.Proofs.YtdmdhmineljlhabGreat
open Go Go.Nm
attribute [local irreducible] gd execOp SL SLD SLT WR
def zaE (s_bytes:List UInt8) (stop:Bool) (r2 r3 r4 r5 r6:Int):(Int × Int × Int × Int × Int × (List CMk) × (List Int) × (List Int) × (List Int))->M ((Int × Int × Int × Int × Int × (List CMk) × (List Int) × (List Int) × (List Int)) ⊕ (Int × Int × (List CMk) × (List Int) × (List Int) × (List Int) × (List Int) × (List Int) × (List Int) × (List CMk))):=fun (s2,s3,place,time,n,l,l2,l3,l4) =>
  bif decide (0<n) then (
  bif decide (0<(l.length:Int)) then (
  M.bind (zag s_bytes s2 s3 1 30) fun (r9,ap,aq) =>
  M.grd (decide ((-9223372036854775808:Int)<=(place+r9))&&decide ((place+r9)<=(9223372036854775807:Int))) <|
  M.grd (decide ((-9223372036854775808:Int)<=(r2*r9))&&decide ((r2*r9)<=(9223372036854775807:Int))) <|
  M.grd (decide ((-9223372036854775808:Int)<=((r2+r6)*r9))&&decide (((r2+r6)*r9)<=(9223372036854775807:Int))) <|
  M.bind (zag s_bytes ap aq (r2*r9) ((r2+r6)*r9)) fun (ab,ak,al) =>
  M.grd (decide ((-9223372036854775808:Int)<=(time+ab))&&decide ((time+ab)<=(9223372036854775807:Int))) <|
  bif stop then (
  M.bind (zac s_bytes ak al 5) fun (au,am,ao) =>
  bif (stop&&(au==0)) then (
  M.grd (decide ((-9223372036854775808:Int)<=((l.length:Int)-1))&&decide (((l.length:Int)-1)<=(9223372036854775807:Int))) <|
  M.grd (decide ((l4.length+([((l.length:Int)-1:Int)]).length)*8<=140737488355328)) <|
  M.bind (zac s_bytes am ao 400) fun (aj,av,aw) =>
  M.grd (decide ((-9223372036854775808:Int)<=((time+ab)+aj))&&decide (((time+ab)+aj)<=(9223372036854775807:Int))) <|
  M.bind (zac s_bytes av aw 60) fun (aa,ae,ag) =>
  M.grd (decide ((-9223372036854775808:Int)<=(r4*aa))&&decide ((r4*aa)<=(9223372036854775807:Int))) <|
  M.grd (decide ((-9223372036854775808:Int)<=(r3+(r4*aa)))&&decide ((r3+(r4*aa))<=(9223372036854775807:Int))) <|
  M.grd (decide ((-9223372036854775808:Int)<=((r3+(r4*aa))-r5))&&decide (((r3+(r4*aa))-r5)<=(9223372036854775807:Int))) <|
  M.grd (decide ((-9223372036854775808:Int)<=((r3+(r4*aa))+r5))&&decide (((r3+(r4*aa))+r5)<=(9223372036854775807:Int))) <|
  M.grd (decide ((l.length+([(⟨(place+r9:Int),(aa:Int)⟩:CMk)]).length)*16<=140737488355328)) <|
  M.grd (decide ((l2.length+([((time+ab)+aj:Int)]).length)*8<=140737488355328)) <|
  M.bind (zag s_bytes ae ag ((r3+(r4*aa))-r5) ((r3+(r4*aa))+r5)) fun (ac,ah,ai) =>
  M.grd (decide ((l3.length+([(ac:Int)]).length)*8<=140737488355328)) <|
  M.grd (decide ((-9223372036854775808:Int)<=(n-1))&&decide ((n-1)<=(9223372036854775807:Int))) <|
  M.pure (.inl (ah,ai,place+r9,(time+ab)+aj,n-1,l++([(⟨(place+r9:Int),(aa:Int)⟩:CMk)]),l2++([((time+ab)+aj:Int)]),l3++([(ac:Int)]),l4++([((l.length:Int)-1:Int)]))))
  else (
  M.bind (zac s_bytes am ao 60) fun (aa,ae,ag) =>
  M.grd (decide ((-9223372036854775808:Int)<=(r4*aa))&&decide ((r4*aa)<=(9223372036854775807:Int))) <|
  M.grd (decide ((-9223372036854775808:Int)<=(r3+(r4*aa)))&&decide ((r3+(r4*aa))<=(9223372036854775807:Int))) <|
  M.grd (decide ((-9223372036854775808:Int)<=((r3+(r4*aa))-r5))&&decide (((r3+(r4*aa))-r5)<=(9223372036854775807:Int))) <|
  M.grd (decide ((-9223372036854775808:Int)<=((r3+(r4*aa))+r5))&&decide (((r3+(r4*aa))+r5)<=(9223372036854775807:Int))) <|
  M.grd (decide ((l.length+([(⟨(place+r9:Int),(aa:Int)⟩:CMk)]).length)*16<=140737488355328)) <|
  M.grd (decide ((l2.length+([(time+ab:Int)]).length)*8<=140737488355328)) <|
  M.bind (zag s_bytes ae ag ((r3+(r4*aa))-r5) ((r3+(r4*aa))+r5)) fun (ac,ah,ai) =>
  M.grd (decide ((l3.length+([(ac:Int)]).length)*8<=140737488355328)) <|
  M.grd (decide ((-9223372036854775808:Int)<=(n-1))&&decide ((n-1)<=(9223372036854775807:Int))) <|
  M.pure (.inl (ah,ai,place+r9,time+ab,n-1,l++([(⟨(place+r9:Int),(aa:Int)⟩:CMk)]),l2++([(time+ab:Int)]),l3++([(ac:Int)]),l4))))
  else (
  M.bind (zac s_bytes ak al 60) fun (aa,ae,ag) =>
  M.grd (decide ((-9223372036854775808:Int)<=(r4*aa))&&decide ((r4*aa)<=(9223372036854775807:Int))) <|
  M.grd (decide ((-9223372036854775808:Int)<=(r3+(r4*aa)))&&decide ((r3+(r4*aa))<=(9223372036854775807:Int))) <|
  M.grd (decide ((-9223372036854775808:Int)<=((r3+(r4*aa))-r5))&&decide (((r3+(r4*aa))-r5)<=(9223372036854775807:Int))) <|
  M.grd (decide ((-9223372036854775808:Int)<=((r3+(r4*aa))+r5))&&decide (((r3+(r4*aa))+r5)<=(9223372036854775807:Int))) <|
  M.grd (decide ((l.length+([(⟨(place+r9:Int),(aa:Int)⟩:CMk)]).length)*16<=140737488355328)) <|
  M.grd (decide ((l2.length+([(time+ab:Int)]).length)*8<=140737488355328)) <|
  M.bind (zag s_bytes ae ag ((r3+(r4*aa))-r5) ((r3+(r4*aa))+r5)) fun (ac,ah,ai) =>
  M.grd (decide ((l3.length+([(ac:Int)]).length)*8<=140737488355328)) <|
  M.grd (decide ((-9223372036854775808:Int)<=(n-1))&&decide ((n-1)<=(9223372036854775807:Int))) <|
  M.pure (.inl (ah,ai,place+r9,time+ab,n-1,l++([(⟨(place+r9:Int),(aa:Int)⟩:CMk)]),l2++([(time+ab:Int)]),l3++([(ac:Int)]),l4))))
  else (
  M.bind (zac s_bytes s2 s3 60) fun (aa,ae,ag) =>
  M.grd (decide ((-9223372036854775808:Int)<=(r4*aa))&&decide ((r4*aa)<=(9223372036854775807:Int))) <|
  M.grd (decide ((-9223372036854775808:Int)<=(r3+(r4*aa)))&&decide ((r3+(r4*aa))<=(9223372036854775807:Int))) <|
  M.grd (decide ((-9223372036854775808:Int)<=((r3+(r4*aa))-r5))&&decide (((r3+(r4*aa))-r5)<=(9223372036854775807:Int))) <|
  M.grd (decide ((-9223372036854775808:Int)<=((r3+(r4*aa))+r5))&&decide (((r3+(r4*aa))+r5)<=(9223372036854775807:Int))) <|
  M.grd (decide ((l.length+([(⟨(place:Int),(aa:Int)⟩:CMk)]).length)*16<=140737488355328)) <|
  M.grd (decide ((l2.length+([(time:Int)]).length)*8<=140737488355328)) <|
  M.bind (zag s_bytes ae ag ((r3+(r4*aa))-r5) ((r3+(r4*aa))+r5)) fun (ac,ah,ai) =>
  M.grd (decide ((l3.length+([(ac:Int)]).length)*8<=140737488355328)) <|
  M.grd (decide ((-9223372036854775808:Int)<=(n-1))&&decide ((n-1)<=(9223372036854775807:Int))) <|
  M.pure (.inl (ah,ai,place,time,n-1,l++([(⟨(place:Int),(aa:Int)⟩:CMk)]),l2++([(time:Int)]),l3++([(ac:Int)]),l4))))
  else (
  M.pure (.inr (s2,s3,l,l2,l3,l4,l4,l3,l2,l)))
def zaB (s_bytes:List UInt8) (aa ab:List Int) (al:List CMk):(Int × Int × Nat × (List CNt))->M ((Int × Int × Nat × (List CNt)) ⊕ (Int × Int × (List CNt) × (List CNt))):=fun (s6,s7,i,ac) =>
  bif ((decide ((i:Int)<(al.length:Int)))&&(decide ((ac.length:Int)<20))) then (
  M.bind (zac s_bytes s6 s7 2) fun (am,aj,ak) =>
  bif am==0 then (
  M.grd (decide ((i:Int)<(ab.length:Int))) <|
  M.grd (decide ((i:Int)<(aa.length:Int))) <|
  M.bind (zac s_bytes aj ak 40) fun (ae,ao,ap) =>
  M.grd (decide ((-9223372036854775808:Int)<=((ab.getD i 0)-ae))&&decide (((ab.getD i 0)-ae)<=(9223372036854775807:Int))) <|
  M.bind (zac s_bytes ao ap 40) fun (ag,aq,au) =>
  M.grd (decide ((-9223372036854775808:Int)<=((ab.getD i 0)+ag))&&decide (((ab.getD i 0)+ag)<=(9223372036854775807:Int))) <|
  M.bind (zac s_bytes aq au 9) fun (ah,av,aw) =>
  M.grd (decide ((-9223372036854775808:Int)<=((aa.getD i 0)-ah))&&decide (((aa.getD i 0)-ah)<=(9223372036854775807:Int))) <|
  M.bind (zac s_bytes av aw 9) fun (ai,ax,ay) =>
  M.grd (decide ((-9223372036854775808:Int)<=((aa.getD i 0)+ai))&&decide (((aa.getD i 0)+ai)<=(9223372036854775807:Int))) <|
  M.grd (decide ((ac.length+([(⟨(i:Int),(max 0 ((ab.getD i 0)-ae):Int),((ab.getD i 0)+ag:Int),((aa.getD i 0)-ah:Int),((aa.getD i 0)+ai:Int)⟩:CNt)]).length)*40<=140737488355328)) <|
  M.grd (decide ((-9223372036854775808:Int)<=((i:Int)+1))&&decide (((i:Int)+1)<=(9223372036854775807:Int))) <|
  M.pure (.inl (ax,ay,i+1,ac++([(⟨(i:Int),(max 0 ((ab.getD i 0)-ae):Int),((ab.getD i 0)+ag:Int),((aa.getD i 0)-ah:Int),((aa.getD i 0)+ai:Int)⟩:CNt)]))))
  else (
  M.grd (decide ((-9223372036854775808:Int)<=((i:Int)+1))&&decide (((i:Int)+1)<=(9223372036854775807:Int))) <|
  M.pure (.inl (aj,ak,i+1,ac))))
  else (
  M.pure (.inr (s6,s7,ac,ac)))
def zay (s_bytes:List UInt8):(Int × Int × (List CNt) × Int)->M ((Int × Int × (List CNt) × Int) ⊕ ((List CNt) × (List CNt) × Int × Int)):=fun (ac,ae,aa,i2) =>
  bif decide (0<i2) then (
  M.grd (decide ((-9223372036854775808:Int)<=(i2+1))&&decide ((i2+1)<=(9223372036854775807:Int))) <|
  M.bind (zac s_bytes ac ae (i2+1)) fun (ab,ag,ah) =>
  M.grd (decide ((0:Int)<=ab)&&decide (ab<(aa.length:Int))) <|
  M.grd (decide ((0:Int)<=i2)&&decide (i2<(aa.length:Int))) <|
  M.grd (decide ((0:Int)<=ab)&&decide (ab<((aa.set (Int.toNat i2) (aa.getD (Int.toNat ab) default)).length:Int))) <|
  M.grd (decide ((-9223372036854775808:Int)<=(i2-1))&&decide ((i2-1)<=(9223372036854775807:Int))) <|
  M.pure (.inl (ag,ah,(aa.set (Int.toNat i2) (aa.getD (Int.toNat ab) default)).set (Int.toNat ab) (aa.getD (Int.toNat i2) default),i2-1)))
  else (
  M.pure (.inr (aa,aa,ac,ae)))
def zbB (s_bytes:List UInt8) (s_used s_mix marks:Int) (stop:Bool):M (Int × Int × Int × Int × Int × (List CMk) × (List CNt) × (List Int) × (List Int) × (List Int) × Int × Int) :=
  M.bind (zag s_bytes s_used s_mix 1 12) fun (r2,q1,q2) =>
  M.bind (zag s_bytes q1 q2 (-50) 400) fun (r3,ag,ah) =>
  M.bind (zac s_bytes ag ah 12) fun (r4,ai,aj) =>
  M.bind (zac s_bytes ai aj 9) fun (r5,ak,al) =>
  M.bind (zac s_bytes ak al 6) fun (r6,am,ao) =>
  M.grd (decide ((-9223372036854775808:Int)<=(r2+r6))&&decide ((r2+r6)<=(9223372036854775807:Int))) <|
  M.bind (zac s_bytes am ao 300) fun (r7,ap,aq) =>
  M.bind (zag s_bytes ap aq 1 marks) fun (r8,au,av) =>
  M.bind (M.iter (zaE s_bytes stop r2 r3 r4 r5 r6) (au,av,0,r7,r8,[],[],[],[])) fun (s4,s5,l5,l6,l7,l8,l9,aa,ab,ac) =>
  M.bind (M.iter (zaB s_bytes aa ab ac) (s4,s5,0,[])) fun (s8,s9,az,ae) =>
  M.bind (M.iter (zay s_bytes) (s8,s9,ae,(ae.length:Int)-1)) fun (aA,aw,ax,ay) =>
  M.pure (r2,(r2+r6),r3,r4,r5,ac,aw,ab,aa,l9,ax,ay)
theorem zei {R:List Chunk} {ah:Nat} {bX:Cells} {aC:Value} (s_bytes:List UInt8) (s_used:Int) (s_mix:Int) (marks:Int) (stop:Bool) (au:Reads R bX) (av:Sl bX aC s_bytes) {r:(Int × Int × Int × Int × Int × (List CMk) × (List CNt) × (List Int) × (List Int) × (List Int) × Int × Int)} (hM:(zbB s_bytes s_used s_mix marks stop).Ends r) (w:World) (H:St w w [cBlk ah [aC,I s_used,I s_mix] 61] R):Ret Tryz.prog 4 #[Pq ah,I marks,B stop] w fun v w'=>∃ (y0:Int) (y1:Int) (y2:Int) (y3:Int) (y4:Int) (y5:List CMk) (y6:List CNt) (y7:List Int) (y8:List Int) (y9:List Int) (bY:Int) (bZ:Int) (u0:Value) (u1:Value) (u2:Value) (u3:Value) (u4:Value),(y0,y1,y2,y3,y4,y5,y6,y7,y8,y9,bY,bZ)=r/\v = .tuple #[.agg #[I y0,I y1,I y2,I y3,I y4,u0,u1],.agg #[u2,u3,u4]]/\St w w' [cOwn (α:=CMk) 57 u0 y5,cOwn (α:=CNt) 59 u1 y6,cOwn (α:=Int) 3 u2 y7,cOwn (α:=Int) 3 u3 y8,cOwn (α:=Int) 3 u4 y9,cBlk ah [aC,I bY,I bZ] 61] R:=by
 refine ret_of_W Tryz.func4 rfl rfl rfl ?_;refine kg 2 ?_;refine t_alloc (cs:=[I 0,I 0,I 0,I 0,I 0,.slice none 0 0,.slice none 0 0]) H Al28 rfl ?_;intro aw el H;refine t_alloc (cs:=[.slice none 0 0,.slice none 0 0,.slice none 0 0]) H Al31 rfl ?_;intro ax em H;refine kg 4 ?_;obtain ⟨eo,cm,hM⟩:=M.e_bind hM;refine s_call cf6 [Pq ah,I 1,I 12] rfl (zad s_bytes s_used s_mix 1 12 (au.app _) av cm _ ((H.pk [2,0,1]).gt 2)) ?_
 rintro vq ep ⟨r2,q1,q2,rfl,hvq,ae⟩
 subst vq;(try dsimp only at hM)
 replace H:=H.pk [2,0,1] |>.bk ae
 clear ae;refine s_val (x_bld (ps:=[(0,I r2)]) (zs:=[I 0,I 0]) (L':=[I r2,I 0]) rfl Tryz.underlying24 Al24 rfl (Bd24 Tryz.underlying24) (.cons (cs:=[I r2]) rfl rfl rfl rfl rfl<|.nil)) ?_;refine kg 1 ?_;obtain ⟨eq,cn,hM⟩:=M.e_bind hM;refine s_call cf6 [Pq ah,I (-50),I 400] rfl (zad s_bytes q1 q2 (-50) 400 (au.app _) av cn _ (H.gt 2)) ?_
 rintro vq er ⟨r3,co,cp,rfl,hvq,ae⟩
 subst vq;(try dsimp only at hM);replace H:=H.bk ae;clear ae;refine kg 1 ?_;obtain ⟨eu,cq,hM⟩:=M.e_bind hM;refine s_call cf7 [Pq ah,I 12] rfl (zab s_bytes co cp 12 (au.app _) av cq _ (H.gt 2)) ?_
 rintro vq ew ⟨r4,cr,ct,rfl,hvq,ae⟩
 subst vq;(try dsimp only at hM);replace H:=H.bk ae;clear ae;refine kg 1 ?_;obtain ⟨ey,cu,hM⟩:=M.e_bind hM;refine s_call cf7 [Pq ah,I 9] rfl (zab s_bytes cr ct 9 (au.app _) av cu _ (H.gt 2)) ?_
 rintro vq ez ⟨r5,cv,cw,rfl,hvq,ae⟩
 subst vq;(try dsimp only at hM);replace H:=H.bk ae;clear ae;refine s_val (x_bld (ps:=[(0,.agg #[I r2,I 0]),(1,I r3),(2,I r4),(3,I r5)]) (zs:=[I 0,I 0,I 0,I 0,I 0,.slice none 0 0,.slice none 0 0]) (L':=[I r2,I 0,I r3,I r4,I r5,.slice none 0 0,.slice none 0 0]) rfl Tryz.underlying28 Al28 rfl (Bd28 Tryz.underlying28) (.cons (cs:=[I r2,I 0]) rfl rfl rfl rfl rfl<|.cons (cs:=[I r3]) rfl rfl rfl rfl rfl<|.cons (cs:=[I r4]) rfl rfl rfl rfl rfl<|.cons (cs:=[I r5]) rfl rfl rfl rfl rfl<|.nil)) ?_;refine t_alloc (cs:=[I 0,I 0,I 0,I 0,I 0,.slice none 0 0,.slice none 0 0]) H Al28 rfl ?_;intro aj eA H;refine t_sw 0 0 [I r2,I 0,I r3,I r4,I r5,.slice none 0 0,.slice none 0 0] (.agg #[I r2,I 0,I r3,I r4,I r5,.slice none 0 0,.slice none 0 0]) H rfl rfl Sz28 rfl rfl rfl rfl ?_;intro eB H;refine kg 2 ?_;refine W.drawTS (fun W=>St w W [cBlk aj [I r2,I 0,I r3,I r4,I r5,.slice none 0 0,.slice none 0 0] 28,cBlk ax [.slice none 0 0,.slice none 0 0,.slice none 0 0] 31,cBlk aw [I 0,I 0,I 0,I 0,I 0,.slice none 0 0,.slice none 0 0] 28] R) (.q 0 (.q 1 (.q 2 (.q 3 (.l 4 (.q 5 (.q 6 (.q 7 .nil)))))))) 8 [8] mixed (by decide +kernel) rfl ?_;intro eC ay;replace H:=H.ext ay;clear ay
 refine ⟨(H.pk [0,2,3]),?_⟩
 refine ts_q rfl (fun w' H=>x_fa (v:=Pq aj) rfl (fa_blk (o:=0) Fd28_0 Sz24)) ?_;refine ts_q rfl (fun w' H=>x_fa (v:=Pq aj) rfl (fa_blk (o:=0) Fd24_0 Sz3)) ?_;refine ts_q rfl (fun w' H=>x_ld (v:=I r2) rfl (ldb_sc Sc3 (H.bl 0) rfl)) ?_;refine ts_q rfl (fun w' H=>x_mv (v:=Pq ah) rfl) ?_;refine ts_l rfl ?_;obtain ⟨eD,cx,hM⟩:=M.e_bind hM;refine s_call cf7 [Pq ah,I 6] rfl (zab s_bytes cv cw 6 (au.app _) av cx _ ((H.pk [1,0,2,3]).gt 3)) ?_
 rintro vq eE ⟨r6,cy,cz,rfl,hvq,ae⟩
 subst vq;(try dsimp only at hM)
 replace H:=H.pk [1,0,2,3] |>.bk ae
 clear ae
 refine s_nil ⟨(H.pk [1,2,3]),?_⟩
 obtain ⟨eF,hM⟩:=M.e_gd hM;refine ts_q rfl (fun w' H=>x_ari (r:=r2+r6) rfl rfl rfl (by omega)) ?_;refine ts_q rfl (fun w' H=>x_fa (v:=Pq aj) rfl (fa_blk (o:=0) Fd28_0 Sz24)) ?_;refine ts_q rfl (fun w' H=>x_fa (v:=Oq aj 1) rfl (fa_blk (o:=0) Fd24_1 Sz3)) ?_;refine ts_nil ?_;refine sr_l rfl ?_;refine t_sw 1 1 [I (r2+r6)] (I (r2+r6)) H rfl rfl Sz3 rfl rfl rfl rfl ?_;intro eG H
 refine s_nil ⟨trivial,?_⟩
 refine sr_nil ?_;refine kg 2 ?_;refine t_alloc (cs:=[.slice none 0 0,.slice none 0 0,.slice none 0 0]) H Al31 rfl ?_;intro aq eH H;refine kg 4 ?_;obtain ⟨eI,cA,hM⟩:=M.e_bind hM;refine s_call cf7 [Pq ah,I 300] rfl (zab s_bytes cy cz 300 (au.app _) av cA _ ((H.pk [1,0,2,3,4]).gt 4)) ?_
 rintro vq eJ ⟨r7,cB,cC,rfl,hvq,ae⟩
 subst vq;(try dsimp only at hM)
 replace H:=H.pk [1,0,2,3,4] |>.bk ae
 clear ae;refine kg 8 ?_;obtain ⟨eK,cD,hM⟩:=M.e_bind hM;refine s_call cf6 [Pq ah,I 1,I marks] rfl (zad s_bytes cB cC 1 marks (au.app _) av cD _ (H.gt 4)) ?_
 rintro vq eL ⟨r8,cE,cF,rfl,hvq,ae⟩
 subst vq;(try dsimp only at hM);replace H:=H.bk ae;clear ae;refine kg 3 ?_
 replace H:=H.nilOwn (α:=CMk) 57
 replace H:=H.nilOwn (α:=Int) 3
 replace H:=H.nilOwn (α:=Int) 3
 replace H:=H.nilOwn (α:=Int) 3
 obtain ⟨cG,a8,cH⟩:=M.e_bind hM
 obtain ⟨b3,a8⟩:=M.e_iter a8
 refine W.loop (fun m σ W=>∃ (s2:Int) (s3:Int) (place:Int) (time:Int) (n:Int) (l:List CMk) (l2:List Int) (l3:List Int) (l4:List Int) (ao:Value) (al:Value) (am:Value) (ak:Value) (ρ:Env),σ=upds ρ [(0,Pq ah),(2,B stop),(6,Pq aw),(7,Pq ax),(8,Pq aj),(9,Pq aq),(10,I place),(11,I time),(12,I n)]/\M.iterN (zaE s_bytes stop r2 r3 r4 r5 r6) m (s2,s3,place,time,n,l,l2,l3,l4)=some cG/\St w W [cOwn (α:=Int) 3 ak l4,cOwn (α:=Int) 3 am l3,cOwn (α:=Int) 3 al l2,cOwn (α:=CMk) 57 ao l,cBlk ah [aC,I s2,I s3] 61,cBlk aq [al,am,ak] 31,cBlk aj [I r2,I (r2+r6),I r3,I r4,I r5,ao,.slice none 0 0] 28,cBlk ax [.slice none 0 0,.slice none 0 0,.slice none 0 0] 31,cBlk aw [I 0,I 0,I 0,I 0,I 0,.slice none 0 0,.slice none 0 0] 28] R) ?_ ?_
 ·exact ⟨_,cE,cF,0,r7,r8,[],[],[],[],(.slice none 0 0),(.slice none 0 0),(.slice none 0 0),(.slice none 0 0),_,upds_of _ _ ⟨rfl,rfl,rfl,rfl,rfl,rfl,rfl,rfl,rfl,trivial⟩,a8,H⟩
 rintro eM σ eN ⟨s2,s3,place,time,n,l,l2,l3,l4,ao,al,am,ak,ρ,rfl,b4,H⟩
 obtain ⟨aM,aN,eO,hM,aI⟩:=M.e_iterN b4
 simp only [zaE] at hM
 clear b4;refine kg 6 ?_
 refine W.cond (decide (0<n)) rfl (fun aP=>?_) (fun aP=>?_)
 ·replace hM:=M.e_t hM aP
  replace aP:=dI aP
  have eP:=((H.os 3)).len_le
  refine kg 11 ?_
  refine W.cond (decide (0<(l.length:Int))) rfl (fun aQ=>?_) (fun aQ=>?_)
  ·replace hM:=M.e_t hM aQ
   replace aQ:=dI aQ
   refine kg 3 ?_;obtain ⟨eQ,cI,hM⟩:=M.e_bind hM;refine s_call cf6 [Pq ah,I 1,I 30] rfl (zad s_bytes s2 s3 1 30 (au.app _) av cI _ ((H.pk [4,0,1,2,3,5,6,7,8]).gt 8)) ?_
   rintro vq eR ⟨r9,cJ,cK,rfl,hvq,ae⟩
   subst vq;(try dsimp only at hM)
   replace H:=H.pk [4,0,1,2,3,5,6,7,8] |>.bk ae
   clear ae;obtain ⟨eS,hM⟩:=M.e_gd hM;obtain ⟨eT,hM⟩:=M.e_gd hM;obtain ⟨eU,hM⟩:=M.e_gd hM;refine kg 23 ?_;obtain ⟨eV,cL,hM⟩:=M.e_bind hM;refine s_call cf6 [Pq ah,I (r2*r9),I ((r2+r6)*r9)] rfl (zad s_bytes cJ cK (r2*r9) ((r2+r6)*r9) (au.app _) av cL _ (H.gt 8)) ?_
   rintro vq eW ⟨ai,b6,b7,rfl,hvq,ae⟩
   subst vq;(try dsimp only at hM);replace H:=H.bk ae;clear ae;obtain ⟨eX,hM⟩:=M.e_gd hM;refine kg 8 ?_
   refine g_splitV stop (I 0) (gy_t rfl) (fun a7=>?_) (fun a7=>?_)
   ·replace hM:=M.e_t hM a7;obtain ⟨eY,cM,hM⟩:=M.e_bind hM;refine s_call cf7 [Pq ah,I 5] (lst2 (gd_of (c:=stop) a7 (Pq ah)) rfl) (zab s_bytes b6 b7 5 (au.app _) av cM _ (H.gt 8)) ?_
    rintro vq eZ ⟨cN,b8,b9,rfl,hvq,ae⟩
    subst vq;(try dsimp only at hM);replace H:=H.bk ae;clear ae;refine kg 3 ?_
    refine W.cond (stop&&(cN==0)) rfl (fun ba=>?_) (fun ba=>?_)
    ·replace hM:=M.e_t hM ba
     have e5:=((H.os 4)).len_le
     obtain ⟨e6,hM⟩:=M.e_gd hM;refine kg 8 ?_;refine t_bs (α:=Int) T29 [I ((l.length:Int)-1)] [((l.length:Int)-1:Int)] H rfl (.cons rfl (Flat.rep_enc _ ((l.length:Int)-1:Int))<|.nil) rfl rfl rfl ?_;intro ca e7 H;obtain ⟨e8,hM⟩:=M.e_gd hM;refine t_app (α:=Int) (k:=2) (l:=l4) (l2:=[((l.length:Int)-1:Int)]) (l':=l4++([((l.length:Int)-1:Int)])) (vy:=ca) T29 rfl H rfl rfl rfl (H.os 0) (H.ol 0) (rfl) (by first | omega | (simp only [List.length_nil] at *; omega)) ?_;intro aR e9 H;replace H:=H.nf;refine kg 1 ?_;refine t_sw 6 2 [aR] aR H rfl rfl Sz29 (Sl.cells (H.os 2)) rfl rfl (by simp only [List.all_cons,List.all_nil,Bool.true_and,Bool.and_true,Sl.oc (H.os 2)]; try rfl) ?_;intro fa H;refine kg 4 ?_;obtain ⟨fb,cO,hM⟩:=M.e_bind hM;refine s_call cf7 [Pq ah,I 400] rfl (zab s_bytes b8 b9 400 (au.app _) av cO _ ((H.pk [1,0,2,3,4,5,6,7,8,9]).gt 9)) ?_
     rintro vq fd ⟨aB,cP,cQ,rfl,hvq,ae⟩
     subst vq;(try dsimp only at hM)
     replace H:=H.pk [1,0,2,3,4,5,6,7,8,9] |>.bk ae
     clear ae;obtain ⟨fe,hM⟩:=M.e_gd hM;refine kg 7 ?_;obtain ⟨ff,cR,hM⟩:=M.e_bind hM;refine s_call cf7 [Pq ah,I 60] rfl (zab s_bytes cP cQ 60 (au.app _) av cR _ (H.gt 9)) ?_
     rintro vq fg ⟨ab,aF,aG,rfl,hvq,ae⟩
     subst vq;(try dsimp only at hM);replace H:=H.bk ae;clear ae;refine s_val (x_bld (ps:=[(0,I (place+r9)),(1,I ab)]) (zs:=[I 0,I 0]) (L':=[I (place+r9),I ab]) rfl Tryz.underlying57 Al57 rfl (Bd57 Tryz.underlying57) (.cons (cs:=[I (place+r9)]) rfl rfl rfl rfl rfl<|.cons (cs:=[I ab]) rfl rfl rfl rfl rfl<|.nil)) ?_;refine t_alloc (cs:=[I 0,I 0]) H Al57 rfl ?_;intro aS fh H;refine t_sw 0 0 [I (place+r9),I ab] (.agg #[I (place+r9),I ab]) H rfl rfl Sz57 rfl rfl rfl rfl ?_;intro fi H;obtain ⟨fj,hM⟩:=M.e_gd hM;obtain ⟨fk,hM⟩:=M.e_gd hM;refine kg 13 ?_;refine W.drawTS (fun W=>St w W [cBlk aS [I (place+r9),I ab] 57,cOwn (α:=Int) 3 ca ([((l.length:Int)-1:Int)]),cOwn (α:=Int) 3 aR (l4++([((l.length:Int)-1:Int)])),cBlk aq [al,am,aR] 31,cBlk aj [I r2,I (r2+r6),I r3,I r4,I r5,ao,.slice none 0 0] 28,cBlk ax [.slice none 0 0,.slice none 0 0,.slice none 0 0] 31,cBlk aw [I 0,I 0,I 0,I 0,I 0,.slice none 0 0,.slice none 0 0] 28] R) (.q 0 (.q 1 (.q 2 (.q 5 (.q 6 (.q 7 (.q 10 (.q 11 (.q 12 (.q 13 (.q 14 (.q 15 (.q 16 (.q 17 (.q 18 (.q 19 (.q 20 (.l2 3 (.l2 4 (.q 24 (.l 8 (.l 9 (.l 21 (.l 22 (.l 23 .nil)))))) 8 (.l 4 (.q 24 (.l 9 (.l 21 (.l 22 (.l 23 .nil))))))) 8 (.l 3 (.l 4 (.q 24 (.l 9 (.l 21 (.l 22 (.l 23 .nil))))))))))))))))))))))))) 25 [25,26,27,28,29] mixed (by decide +kernel) rfl ?_;intro fm ay;replace H:=H.ext ay;clear ay
     refine ⟨(H.pk [0,2,3,7,8,9,10]),?_⟩
     refine ts_q rfl (fun w' H=>x_fa (v:=Oq aj 5) rfl (fa_blk (o:=0) Fd28_4 Sz25)) ?_;refine ts_q rfl (fun w' H=>x_ld (v:=ao) rfl (ldb_sc Sc25 (H.bl 4) rfl)) ?_;refine ts_q rfl (fun w' H=>x_ld (v:=.agg #[I (place+r9),I ab]) rfl (ldb_ag (ds:=[I (place+r9),I ab]) Ag57 Sz57 (H.bl 0) rfl rfl)) ?_;refine ts_q rfl (fun w' H=>x_fa (v:=Pq aq) rfl (fa_blk (o:=0) Fd31_0 Sz29)) ?_;refine ts_q rfl (fun w' H=>x_ld (v:=al) rfl (ldb_sc Sc29 (H.bl 3) rfl)) ?_;refine ts_q rfl (fun w' H=>x_mv (v:=I ((time+ai)+aB)) rfl) ?_;refine ts_q rfl (fun w' H=>x_fa (v:=Oq aq 1) rfl (fa_blk (o:=0) Fd31_1 Sz29)) ?_;refine ts_q rfl (fun w' H=>x_ld (v:=am) rfl (ldb_sc Sc29 (H.bl 3) rfl)) ?_;refine ts_q rfl (fun w' H=>x_mv (v:=Pq ah) rfl) ?_;refine ts_q rfl (fun w' H=>x_mv (v:=I (r3+(r4*ab))) rfl) ?_;refine ts_q rfl (fun w' H=>x_fa (v:=Oq aj 4) rfl (fa_blk (o:=0) Fd28_3 Sz3)) ?_;refine ts_q rfl (fun w' H=>x_ld (v:=I r5) rfl (ldb_sc Sc3 (H.bl 4) rfl)) ?_;obtain ⟨fo,hM⟩:=M.e_gd hM;refine ts_q rfl (fun w' H=>x_ari (r:=(r3+(r4*ab))-r5) rfl rfl rfl (by omega)) ?_;refine ts_q rfl (fun w' H=>x_mv (v:=I (r3+(r4*ab))) rfl) ?_;refine ts_q rfl (fun w' H=>x_fa (v:=Oq aj 4) rfl (fa_blk (o:=0) Fd28_3 Sz3)) ?_;refine ts_q rfl (fun w' H=>x_ld (v:=I r5) rfl (ldb_sc Sc3 (H.bl 4) rfl)) ?_;obtain ⟨fp,hM⟩:=M.e_gd hM;refine ts_q rfl (fun w' H=>x_ari (r:=(r3+(r4*ab))+r5) rfl rfl rfl (by omega)) ?_;refine ts_l2 rfl rfl ?_ ?_
     ·skip
      refine t_bs (α:=CMk) T25 [.agg #[I (place+r9),I ab]] [(⟨(place+r9:Int),(ab:Int)⟩:CMk)] H rfl (.cons rfl (Flat.rep_enc _ (⟨(place+r9:Int),(ab:Int)⟩:CMk))<|.nil) rfl rfl rfl ?_;intro cb fq H
      have fu:=Sl.cells (H.os 0)
      have fv:=Sl.oc (H.os 0)
      have fw:=Sl.cells (H.os 5)
      have fx:=Sl.oc (H.os 5)
      have fy:=Sl.cells (H.os 6)
      have fA:=Sl.oc (H.os 6)
      have fB:=Sl.cells (H.os 7)
      have fC:=Sl.oc (H.os 7)
      refine s_nil ⟨(H.pk [1,3,4,8,9,10,11]),?_⟩
      refine ts_l2 rfl rfl ?_ ?_
      ·skip
       obtain ⟨fD,hM⟩:=M.e_gd hM;refine t_app (α:=CMk) (k:=7) (l:=l) (l2:=[(⟨(place+r9:Int),(ab:Int)⟩:CMk)]) (l':=l++([(⟨(place+r9:Int),(ab:Int)⟩:CMk)])) (vy:=cb) T25 rfl H rfl rfl rfl (H.os 0) (H.ol 0) (rfl) (by first | omega | (simp only [List.length_nil] at *; omega)) ?_;intro bb fE H;replace H:=H.nf
       have fF:=Sl.cells (H.os 7)
       have fG:=Sl.oc (H.os 7)
       refine s_nil ⟨(H.pk [1,3,4,8,9,10,11]),?_⟩
       refine ts_q rfl (fun w' H=>x_fa (v:=Oq aj 5) rfl (fa_blk (o:=0) Fd28_4 Sz25)) ?_;refine ts_l rfl ?_;refine t_bs (α:=Int) T29 [I ((time+ai)+aB)] [((time+ai)+aB:Int)] H rfl (.cons rfl (Flat.rep_enc _ ((time+ai)+aB:Int))<|.nil) rfl rfl rfl ?_;intro cS fH H
       have fI:=Sl.cells (H.os 0)
       have fJ:=Sl.oc (H.os 0)
       refine s_nil ⟨(H.pk [2,4,5,9,10,11,12]),?_⟩
       refine ts_l rfl ?_;obtain ⟨fK,hM⟩:=M.e_gd hM;refine t_app (α:=Int) (k:=7) (l:=l2) (l2:=[((time+ai)+aB:Int)]) (l':=l2++([((time+ai)+aB:Int)])) (vy:=cS) T29 rfl H rfl rfl rfl (H.os 0) (H.ol 0) (rfl) (by first | omega | (simp only [List.length_nil] at *; omega)) ?_;intro bc fL H;replace H:=H.nf
       have fM:=Sl.cells (H.os 7)
       have fN:=Sl.oc (H.os 7)
       refine s_nil ⟨(H.pk [2,4,5,9,10,11,12]),?_⟩
       refine ts_l rfl ?_;obtain ⟨fO,cT,hM⟩:=M.e_bind hM;refine s_call cf6 [Pq ah,I ((r3+(r4*ab))-r5),I ((r3+(r4*ab))+r5)] rfl (zad s_bytes aF aG ((r3+(r4*ab))-r5) ((r3+(r4*ab))+r5) (au.app _) av cT _ ((H.pk [3,0,1,2,4,5,6,7,8,9,10,11,12]).gt 12)) ?_
       rintro vq fP ⟨ag,az,aA,rfl,hvq,ae⟩
       subst vq;(try dsimp only at hM)
       replace H:=H.pk [3,0,1,2,4,5,6,7,8,9,10,11,12] |>.bk ae
       clear ae
       refine s_nil ⟨(H.pk [3,4,5,9,10,11,12]),?_⟩
       refine ts_l rfl ?_;refine t_bs (α:=Int) T29 [I ag] [(ag:Int)] H rfl (.cons rfl (Flat.rep_enc _ (ag:Int))<|.nil) rfl rfl rfl ?_;intro cU fQ H
       have fR:=Sl.cells (H.os 0)
       have fS:=Sl.oc (H.os 0)
       refine s_nil ⟨(H.pk [4,5,6,10,11,12,13]),?_⟩
       refine ts_l rfl ?_;obtain ⟨fT,hM⟩:=M.e_gd hM;refine t_app (α:=Int) (k:=7) (l:=l3) (l2:=[(ag:Int)]) (l':=l3++([(ag:Int)])) (vy:=cU) T29 rfl H rfl rfl rfl (H.os 0) (H.ol 0) (rfl) (by first | omega | (simp only [List.length_nil] at *; omega)) ?_;intro bf fU H;replace H:=H.nf
       have fV:=Sl.cells (H.os 7)
       have fW:=Sl.oc (H.os 7)
       refine s_nil ⟨(H.pk [4,5,6,10,11,12,13]),?_⟩
       refine ts_nil ?_;refine sr_l rfl ?_;refine t_sw 11 5 [bb] bb H rfl rfl Sz25 (Sl.cells (H.os 9)) rfl rfl (by simp only [List.all_cons,List.all_nil,Bool.true_and,Bool.and_true,Sl.oc (H.os 9)]; try rfl) ?_;intro fX H
       refine s_nil ⟨trivial,?_⟩
       refine sr_l rfl ?_;refine kg 1 ?_
       refine s_nil ⟨trivial,?_⟩
       refine sr_l rfl ?_;refine t_sw 10 0 [bc] bc H rfl rfl Sz29 (Sl.cells (H.os 8)) rfl rfl (by simp only [List.all_cons,List.all_nil,Bool.true_and,Bool.and_true,Sl.oc (H.os 8)]; try rfl) ?_;intro fY H
       refine s_nil ⟨trivial,?_⟩
       refine sr_l rfl ?_;refine kg 1 ?_
       refine s_nil ⟨trivial,?_⟩
       refine sr_l rfl ?_;refine t_sw 10 1 [bf] bf H rfl rfl Sz29 (Sl.cells (H.os 7)) rfl rfl (by simp only [List.all_cons,List.all_nil,Bool.true_and,Bool.and_true,Sl.oc (H.os 7)]; try rfl) ?_;intro fZ H
       refine s_nil ⟨trivial,?_⟩
       refine sr_nil ?_;replace H:=H.pk [1,6,7,8,9,10,11,12,13];obtain ⟨f0,hM⟩:=M.e_gd hM;refine kg 5 ?_
       exact ⟨aM,aN,az,aA,place+r9,(time+ai)+aB,n-1,l++([(⟨(place+r9:Int),(ab:Int)⟩:CMk)]),l2++([((time+ai)+aB:Int)]),l3++([(ag:Int)]),l4++([((l.length:Int)-1:Int)]),bb,bc,bf,aR,_,upds_of _ _ ⟨rfl,rfl,rfl,rfl,rfl,rfl,rfl,rfl,rfl,trivial⟩,M.e_inl hM aI,(H.pk [1,2,3,4,0,5,6,7,8])⟩
      skip
      refine t_bs (α:=Int) T29 [I ((time+ai)+aB)] [((time+ai)+aB:Int)] H rfl (.cons rfl (Flat.rep_enc _ ((time+ai)+aB:Int))<|.nil) rfl rfl rfl ?_;intro cV f6 H
      have f9:=Sl.cells (H.os 0)
      have gc:=Sl.oc (H.os 0)
      refine s_nil ⟨(H.pk [2,4,5,9,10,11,12]),?_⟩
      refine ts_l rfl ?_;obtain ⟨gf,hM⟩:=M.e_gd hM;refine t_app (α:=CMk) (k:=8) (l:=l) (l2:=[(⟨(place+r9:Int),(ab:Int)⟩:CMk)]) (l':=l++([(⟨(place+r9:Int),(ab:Int)⟩:CMk)])) (vy:=cb) T25 rfl H rfl rfl rfl (H.os 1) (H.ol 1) (rfl) (by first | omega | (simp only [List.length_nil] at *; omega)) ?_;intro bg gg H;replace H:=H.nf
      have gh:=Sl.cells (H.os 8)
      have gi:=Sl.oc (H.os 8)
      refine s_nil ⟨(H.pk [2,4,5,9,10,11,12]),?_⟩
      refine ts_q rfl (fun w' H=>x_fa (v:=Oq aj 5) rfl (fa_blk (o:=0) Fd28_4 Sz25)) ?_;refine ts_l rfl ?_;obtain ⟨gj,hM⟩:=M.e_gd hM;refine t_app (α:=Int) (k:=7) (l:=l2) (l2:=[((time+ai)+aB:Int)]) (l':=l2++([((time+ai)+aB:Int)])) (vy:=cV) T29 rfl H rfl rfl rfl (H.os 0) (H.ol 0) (rfl) (by first | omega | (simp only [List.length_nil] at *; omega)) ?_;intro bh gk H;replace H:=H.nf
      have gl:=Sl.cells (H.os 7)
      have gm:=Sl.oc (H.os 7)
      refine s_nil ⟨(H.pk [2,4,5,9,10,11,12]),?_⟩
      refine ts_l rfl ?_;obtain ⟨gn,cW,hM⟩:=M.e_bind hM;refine s_call cf6 [Pq ah,I ((r3+(r4*ab))-r5),I ((r3+(r4*ab))+r5)] rfl (zad s_bytes aF aG ((r3+(r4*ab))-r5) ((r3+(r4*ab))+r5) (au.app _) av cW _ ((H.pk [3,0,1,2,4,5,6,7,8,9,10,11,12]).gt 12)) ?_
      rintro vq gp ⟨ag,az,aA,rfl,hvq,ae⟩
      subst vq;(try dsimp only at hM)
      replace H:=H.pk [3,0,1,2,4,5,6,7,8,9,10,11,12] |>.bk ae
      clear ae
      refine s_nil ⟨(H.pk [3,4,5,9,10,11,12]),?_⟩
      refine ts_l rfl ?_;refine t_bs (α:=Int) T29 [I ag] [(ag:Int)] H rfl (.cons rfl (Flat.rep_enc _ (ag:Int))<|.nil) rfl rfl rfl ?_;intro cX gq H
      have gr:=Sl.cells (H.os 0)
      have gw:=Sl.oc (H.os 0)
      refine s_nil ⟨(H.pk [4,5,6,10,11,12,13]),?_⟩
      refine ts_l rfl ?_;obtain ⟨gx,hM⟩:=M.e_gd hM;refine t_app (α:=Int) (k:=7) (l:=l3) (l2:=[(ag:Int)]) (l':=l3++([(ag:Int)])) (vy:=cX) T29 rfl H rfl rfl rfl (H.os 0) (H.ol 0) (rfl) (by first | omega | (simp only [List.length_nil] at *; omega)) ?_;intro bi gy H;replace H:=H.nf
      have gz:=Sl.cells (H.os 7)
      have gA:=Sl.oc (H.os 7)
      refine s_nil ⟨(H.pk [4,5,6,10,11,12,13]),?_⟩
      refine ts_nil ?_;refine sr_l rfl ?_;refine t_sw 11 5 [bg] bg H rfl rfl Sz25 (Sl.cells (H.os 9)) rfl rfl (by simp only [List.all_cons,List.all_nil,Bool.true_and,Bool.and_true,Sl.oc (H.os 9)]; try rfl) ?_;intro gB H
      refine s_nil ⟨trivial,?_⟩
      refine sr_l rfl ?_;refine kg 1 ?_
      refine s_nil ⟨trivial,?_⟩
      refine sr_l rfl ?_;refine t_sw 10 0 [bh] bh H rfl rfl Sz29 (Sl.cells (H.os 8)) rfl rfl (by simp only [List.all_cons,List.all_nil,Bool.true_and,Bool.and_true,Sl.oc (H.os 8)]; try rfl) ?_;intro gC H
      refine s_nil ⟨trivial,?_⟩
      refine sr_l rfl ?_;refine kg 1 ?_
      refine s_nil ⟨trivial,?_⟩
      refine sr_l rfl ?_;refine t_sw 10 1 [bi] bi H rfl rfl Sz29 (Sl.cells (H.os 7)) rfl rfl (by simp only [List.all_cons,List.all_nil,Bool.true_and,Bool.and_true,Sl.oc (H.os 7)]; try rfl) ?_;intro gD H
      refine s_nil ⟨trivial,?_⟩
      refine sr_nil ?_;replace H:=H.pk [1,6,7,8,9,10,11,12,13];obtain ⟨gE,hM⟩:=M.e_gd hM;refine kg 5 ?_
      exact ⟨aM,aN,az,aA,place+r9,(time+ai)+aB,n-1,l++([(⟨(place+r9:Int),(ab:Int)⟩:CMk)]),l2++([((time+ai)+aB:Int)]),l3++([(ag:Int)]),l4++([((l.length:Int)-1:Int)]),bg,bh,bi,aR,_,upds_of _ _ ⟨rfl,rfl,rfl,rfl,rfl,rfl,rfl,rfl,rfl,trivial⟩,M.e_inl hM aI,(H.pk [1,2,3,4,0,5,6,7,8])⟩
     skip
     refine t_bs (α:=Int) T29 [I ((time+ai)+aB)] [((time+ai)+aB:Int)] H rfl (.cons rfl (Flat.rep_enc _ ((time+ai)+aB:Int))<|.nil) rfl rfl rfl ?_;intro cY gF H
     have gG:=Sl.cells (H.os 0)
     have gH:=Sl.oc (H.os 0)
     have gI:=Sl.cells (H.os 5)
     have gJ:=Sl.oc (H.os 5)
     have gK:=Sl.cells (H.os 6)
     have gL:=Sl.oc (H.os 6)
     have gM:=Sl.cells (H.os 7)
     have gN:=Sl.oc (H.os 7)
     refine s_nil ⟨(H.pk [1,3,4,8,9,10,11]),?_⟩
     refine ts_l rfl ?_;refine t_bs (α:=CMk) T25 [.agg #[I (place+r9),I ab]] [(⟨(place+r9:Int),(ab:Int)⟩:CMk)] H rfl (.cons rfl (Flat.rep_enc _ (⟨(place+r9:Int),(ab:Int)⟩:CMk))<|.nil) rfl rfl rfl ?_;intro cZ gO H
     have gP:=Sl.cells (H.os 0)
     have gQ:=Sl.oc (H.os 0)
     refine s_nil ⟨(H.pk [2,4,5,9,10,11,12]),?_⟩
     refine ts_l rfl ?_;obtain ⟨gR,hM⟩:=M.e_gd hM;refine t_app (α:=CMk) (k:=8) (l:=l) (l2:=[(⟨(place+r9:Int),(ab:Int)⟩:CMk)]) (l':=l++([(⟨(place+r9:Int),(ab:Int)⟩:CMk)])) (vy:=cZ) T25 rfl H rfl rfl rfl (H.os 0) (H.ol 0) (rfl) (by first | omega | (simp only [List.length_nil] at *; omega)) ?_;intro bj gS H;replace H:=H.nf
     have gT:=Sl.cells (H.os 8)
     have gU:=Sl.oc (H.os 8)
     refine s_nil ⟨(H.pk [2,4,5,9,10,11,12]),?_⟩
     refine ts_q rfl (fun w' H=>x_fa (v:=Oq aj 5) rfl (fa_blk (o:=0) Fd28_4 Sz25)) ?_;refine ts_l rfl ?_;obtain ⟨gV,hM⟩:=M.e_gd hM;refine t_app (α:=Int) (k:=7) (l:=l2) (l2:=[((time+ai)+aB:Int)]) (l':=l2++([((time+ai)+aB:Int)])) (vy:=cY) T29 rfl H rfl rfl rfl (H.os 1) (H.ol 1) (rfl) (by first | omega | (simp only [List.length_nil] at *; omega)) ?_;intro bm gW H;replace H:=H.nf
     have gX:=Sl.cells (H.os 7)
     have gY:=Sl.oc (H.os 7)
     refine s_nil ⟨(H.pk [2,4,5,9,10,11,12]),?_⟩
     refine ts_l rfl ?_;obtain ⟨gZ,c6,hM⟩:=M.e_bind hM;refine s_call cf6 [Pq ah,I ((r3+(r4*ab))-r5),I ((r3+(r4*ab))+r5)] rfl (zad s_bytes aF aG ((r3+(r4*ab))-r5) ((r3+(r4*ab))+r5) (au.app _) av c6 _ ((H.pk [3,0,1,2,4,5,6,7,8,9,10,11,12]).gt 12)) ?_
     rintro vq g0 ⟨ag,az,aA,rfl,hvq,ae⟩
     subst vq;(try dsimp only at hM)
     replace H:=H.pk [3,0,1,2,4,5,6,7,8,9,10,11,12] |>.bk ae
     clear ae
     refine s_nil ⟨(H.pk [3,4,5,9,10,11,12]),?_⟩
     refine ts_l rfl ?_;refine t_bs (α:=Int) T29 [I ag] [(ag:Int)] H rfl (.cons rfl (Flat.rep_enc _ (ag:Int))<|.nil) rfl rfl rfl ?_;intro c7 g6 H
     have g7:=Sl.cells (H.os 0)
     have g8:=Sl.oc (H.os 0)
     refine s_nil ⟨(H.pk [4,5,6,10,11,12,13]),?_⟩
     refine ts_l rfl ?_;obtain ⟨g9,hM⟩:=M.e_gd hM;refine t_app (α:=Int) (k:=7) (l:=l3) (l2:=[(ag:Int)]) (l':=l3++([(ag:Int)])) (vy:=c7) T29 rfl H rfl rfl rfl (H.os 0) (H.ol 0) (rfl) (by first | omega | (simp only [List.length_nil] at *; omega)) ?_;intro bn hJ H;replace H:=H.nf
     have hO:=Sl.cells (H.os 7)
     have hP:=Sl.oc (H.os 7)
     refine s_nil ⟨(H.pk [4,5,6,10,11,12,13]),?_⟩
     refine ts_nil ?_;refine sr_l rfl ?_;refine t_sw 11 5 [bj] bj H rfl rfl Sz25 (Sl.cells (H.os 9)) rfl rfl (by simp only [List.all_cons,List.all_nil,Bool.true_and,Bool.and_true,Sl.oc (H.os 9)]; try rfl) ?_;intro hZ H
     refine s_nil ⟨trivial,?_⟩
     refine sr_l rfl ?_;refine kg 1 ?_
     refine s_nil ⟨trivial,?_⟩
     refine sr_l rfl ?_;refine t_sw 10 0 [bm] bm H rfl rfl Sz29 (Sl.cells (H.os 8)) rfl rfl (by simp only [List.all_cons,List.all_nil,Bool.true_and,Bool.and_true,Sl.oc (H.os 8)]; try rfl) ?_;intro h9 H
     refine s_nil ⟨trivial,?_⟩
     refine sr_l rfl ?_;refine kg 1 ?_
     refine s_nil ⟨trivial,?_⟩
     refine sr_l rfl ?_;refine t_sw 10 1 [bn] bn H rfl rfl Sz29 (Sl.cells (H.os 7)) rfl rfl (by simp only [List.all_cons,List.all_nil,Bool.true_and,Bool.and_true,Sl.oc (H.os 7)]; try rfl) ?_;intro ia H
     refine s_nil ⟨trivial,?_⟩
     refine sr_nil ?_;replace H:=H.pk [1,6,7,8,9,10,11,12,13];obtain ⟨ib,hM⟩:=M.e_gd hM;refine kg 5 ?_
     exact ⟨aM,aN,az,aA,place+r9,(time+ai)+aB,n-1,l++([(⟨(place+r9:Int),(ab:Int)⟩:CMk)]),l2++([((time+ai)+aB:Int)]),l3++([(ag:Int)]),l4++([((l.length:Int)-1:Int)]),bj,bm,bn,aR,_,upds_of _ _ ⟨rfl,rfl,rfl,rfl,rfl,rfl,rfl,rfl,rfl,trivial⟩,M.e_inl hM aI,(H.pk [1,2,3,4,0,5,6,7,8])⟩
    replace hM:=M.e_f hM ba;refine kg 5 ?_;obtain ⟨ic,c8,hM⟩:=M.e_bind hM;refine s_call cf7 [Pq ah,I 60] rfl (zab s_bytes b8 b9 60 (au.app _) av c8 _ (H.gt 8)) ?_
    rintro vq ie ⟨ab,aF,aG,rfl,hvq,ae⟩
    subst vq;(try dsimp only at hM);replace H:=H.bk ae;clear ae;refine s_val (x_bld (ps:=[(0,I (place+r9)),(1,I ab)]) (zs:=[I 0,I 0]) (L':=[I (place+r9),I ab]) rfl Tryz.underlying57 Al57 rfl (Bd57 Tryz.underlying57) (.cons (cs:=[I (place+r9)]) rfl rfl rfl rfl rfl<|.cons (cs:=[I ab]) rfl rfl rfl rfl rfl<|.nil)) ?_;refine t_alloc (cs:=[I 0,I 0]) H Al57 rfl ?_;intro aS ig H;refine t_sw 0 0 [I (place+r9),I ab] (.agg #[I (place+r9),I ab]) H rfl rfl Sz57 rfl rfl rfl rfl ?_;intro ii H;obtain ⟨ij,hM⟩:=M.e_gd hM;obtain ⟨ik,hM⟩:=M.e_gd hM;refine kg 13 ?_;refine W.drawTS (fun W=>St w W [cBlk aS [I (place+r9),I ab] 57,cOwn (α:=Int) 3 ak l4,cBlk aq [al,am,ak] 31,cBlk aj [I r2,I (r2+r6),I r3,I r4,I r5,ao,.slice none 0 0] 28,cBlk ax [.slice none 0 0,.slice none 0 0,.slice none 0 0] 31,cBlk aw [I 0,I 0,I 0,I 0,I 0,.slice none 0 0,.slice none 0 0] 28] R) (.q 0 (.q 1 (.q 2 (.q 5 (.q 6 (.q 7 (.q 10 (.q 11 (.q 12 (.q 13 (.q 14 (.q 15 (.q 16 (.q 17 (.q 18 (.q 19 (.q 20 (.l2 3 (.l2 4 (.q 24 (.l 8 (.l 9 (.l 21 (.l 22 (.l 23 .nil)))))) 8 (.l 4 (.q 24 (.l 9 (.l 21 (.l 22 (.l 23 .nil))))))) 8 (.l 3 (.l 4 (.q 24 (.l 9 (.l 21 (.l 22 (.l 23 .nil))))))))))))))))))))))))) 25 [25,26,27,28,29] mixed (by decide +kernel) rfl ?_;intro il ay;replace H:=H.ext ay;clear ay
    refine ⟨(H.pk [0,2,6,7,8,9]),?_⟩
    refine ts_q rfl (fun w' H=>x_fa (v:=Oq aj 5) rfl (fa_blk (o:=0) Fd28_4 Sz25)) ?_;refine ts_q rfl (fun w' H=>x_ld (v:=ao) rfl (ldb_sc Sc25 (H.bl 3) rfl)) ?_;refine ts_q rfl (fun w' H=>x_ld (v:=.agg #[I (place+r9),I ab]) rfl (ldb_ag (ds:=[I (place+r9),I ab]) Ag57 Sz57 (H.bl 0) rfl rfl)) ?_;refine ts_q rfl (fun w' H=>x_fa (v:=Pq aq) rfl (fa_blk (o:=0) Fd31_0 Sz29)) ?_;refine ts_q rfl (fun w' H=>x_ld (v:=al) rfl (ldb_sc Sc29 (H.bl 2) rfl)) ?_;refine ts_q rfl (fun w' H=>x_mv (v:=I (time+ai)) rfl) ?_;refine ts_q rfl (fun w' H=>x_fa (v:=Oq aq 1) rfl (fa_blk (o:=0) Fd31_1 Sz29)) ?_;refine ts_q rfl (fun w' H=>x_ld (v:=am) rfl (ldb_sc Sc29 (H.bl 2) rfl)) ?_;refine ts_q rfl (fun w' H=>x_mv (v:=Pq ah) rfl) ?_;refine ts_q rfl (fun w' H=>x_mv (v:=I (r3+(r4*ab))) rfl) ?_;refine ts_q rfl (fun w' H=>x_fa (v:=Oq aj 4) rfl (fa_blk (o:=0) Fd28_3 Sz3)) ?_;refine ts_q rfl (fun w' H=>x_ld (v:=I r5) rfl (ldb_sc Sc3 (H.bl 3) rfl)) ?_;obtain ⟨im,hM⟩:=M.e_gd hM;refine ts_q rfl (fun w' H=>x_ari (r:=(r3+(r4*ab))-r5) rfl rfl rfl (by omega)) ?_;refine ts_q rfl (fun w' H=>x_mv (v:=I (r3+(r4*ab))) rfl) ?_;refine ts_q rfl (fun w' H=>x_fa (v:=Oq aj 4) rfl (fa_blk (o:=0) Fd28_3 Sz3)) ?_;refine ts_q rfl (fun w' H=>x_ld (v:=I r5) rfl (ldb_sc Sc3 (H.bl 3) rfl)) ?_;obtain ⟨io,hM⟩:=M.e_gd hM;refine ts_q rfl (fun w' H=>x_ari (r:=(r3+(r4*ab))+r5) rfl rfl rfl (by omega)) ?_;refine ts_l2 rfl rfl ?_ ?_
    ·skip
     refine t_bs (α:=CMk) T25 [.agg #[I (place+r9),I ab]] [(⟨(place+r9:Int),(ab:Int)⟩:CMk)] H rfl (.cons rfl (Flat.rep_enc _ (⟨(place+r9:Int),(ab:Int)⟩:CMk))<|.nil) rfl rfl rfl ?_;intro cc ip H
     have iq:=Sl.cells (H.os 0)
     have ir:=Sl.oc (H.os 0)
     have iu:=Sl.cells (H.os 4)
     have iw:=Sl.oc (H.os 4)
     have iy:=Sl.cells (H.os 5)
     have iz:=Sl.oc (H.os 5)
     have iA:=Sl.cells (H.os 6)
     have iB:=Sl.oc (H.os 6)
     refine s_nil ⟨(H.pk [1,3,7,8,9,10]),?_⟩
     refine ts_l2 rfl rfl ?_ ?_
     ·skip
      obtain ⟨iC,hM⟩:=M.e_gd hM;refine t_app (α:=CMk) (k:=6) (l:=l) (l2:=[(⟨(place+r9:Int),(ab:Int)⟩:CMk)]) (l':=l++([(⟨(place+r9:Int),(ab:Int)⟩:CMk)])) (vy:=cc) T25 rfl H rfl rfl rfl (H.os 0) (H.ol 0) (rfl) (by first | omega | (simp only [List.length_nil] at *; omega)) ?_;intro bo iD H;replace H:=H.nf
      have iE:=Sl.cells (H.os 6)
      have iF:=Sl.oc (H.os 6)
      refine s_nil ⟨(H.pk [1,3,7,8,9,10]),?_⟩
      refine ts_q rfl (fun w' H=>x_fa (v:=Oq aj 5) rfl (fa_blk (o:=0) Fd28_4 Sz25)) ?_;refine ts_l rfl ?_;refine t_bs (α:=Int) T29 [I (time+ai)] [(time+ai:Int)] H rfl (.cons rfl (Flat.rep_enc _ (time+ai:Int))<|.nil) rfl rfl rfl ?_;intro c9 iG H
      have iH:=Sl.cells (H.os 0)
      have iI:=Sl.oc (H.os 0)
      refine s_nil ⟨(H.pk [2,4,8,9,10,11]),?_⟩
      refine ts_l rfl ?_;obtain ⟨iJ,hM⟩:=M.e_gd hM;refine t_app (α:=Int) (k:=6) (l:=l2) (l2:=[(time+ai:Int)]) (l':=l2++([(time+ai:Int)])) (vy:=c9) T29 rfl H rfl rfl rfl (H.os 0) (H.ol 0) (rfl) (by first | omega | (simp only [List.length_nil] at *; omega)) ?_;intro bp iK H;replace H:=H.nf
      have iL:=Sl.cells (H.os 6)
      have iM:=Sl.oc (H.os 6)
      refine s_nil ⟨(H.pk [2,4,8,9,10,11]),?_⟩
      refine ts_l rfl ?_;obtain ⟨iN,da,hM⟩:=M.e_bind hM;refine s_call cf6 [Pq ah,I ((r3+(r4*ab))-r5),I ((r3+(r4*ab))+r5)] rfl (zad s_bytes aF aG ((r3+(r4*ab))-r5) ((r3+(r4*ab))+r5) (au.app _) av da _ ((H.pk [3,0,1,2,4,5,6,7,8,9,10,11]).gt 11)) ?_
      rintro vq iO ⟨ag,az,aA,rfl,hvq,ae⟩
      subst vq;(try dsimp only at hM)
      replace H:=H.pk [3,0,1,2,4,5,6,7,8,9,10,11] |>.bk ae
      clear ae
      refine s_nil ⟨(H.pk [3,4,8,9,10,11]),?_⟩
      refine ts_l rfl ?_;refine t_bs (α:=Int) T29 [I ag] [(ag:Int)] H rfl (.cons rfl (Flat.rep_enc _ (ag:Int))<|.nil) rfl rfl rfl ?_;intro db iP H
      have iQ:=Sl.cells (H.os 0)
      have iR:=Sl.oc (H.os 0)
      refine s_nil ⟨(H.pk [4,5,9,10,11,12]),?_⟩
      refine ts_l rfl ?_;obtain ⟨iS,hM⟩:=M.e_gd hM;refine t_app (α:=Int) (k:=6) (l:=l3) (l2:=[(ag:Int)]) (l':=l3++([(ag:Int)])) (vy:=db) T29 rfl H rfl rfl rfl (H.os 0) (H.ol 0) (rfl) (by first | omega | (simp only [List.length_nil] at *; omega)) ?_;intro br iT H;replace H:=H.nf
      have iU:=Sl.cells (H.os 6)
      have iV:=Sl.oc (H.os 6)
      refine s_nil ⟨(H.pk [4,5,9,10,11,12]),?_⟩
      refine ts_nil ?_;refine sr_l rfl ?_;refine t_sw 10 5 [bo] bo H rfl rfl Sz25 (Sl.cells (H.os 8)) rfl rfl (by simp only [List.all_cons,List.all_nil,Bool.true_and,Bool.and_true,Sl.oc (H.os 8)]; try rfl) ?_;intro iW H
      refine s_nil ⟨trivial,?_⟩
      refine sr_l rfl ?_;refine kg 1 ?_
      refine s_nil ⟨trivial,?_⟩
      refine sr_l rfl ?_;refine t_sw 9 0 [bp] bp H rfl rfl Sz29 (Sl.cells (H.os 7)) rfl rfl (by simp only [List.all_cons,List.all_nil,Bool.true_and,Bool.and_true,Sl.oc (H.os 7)]; try rfl) ?_;intro iX H
      refine s_nil ⟨trivial,?_⟩
      refine sr_l rfl ?_;refine kg 1 ?_
      refine s_nil ⟨trivial,?_⟩
      refine sr_l rfl ?_;refine t_sw 9 1 [br] br H rfl rfl Sz29 (Sl.cells (H.os 6)) rfl rfl (by simp only [List.all_cons,List.all_nil,Bool.true_and,Bool.and_true,Sl.oc (H.os 6)]; try rfl) ?_;intro iY H
      refine s_nil ⟨trivial,?_⟩
      refine sr_nil ?_;replace H:=H.pk [1,5,6,7,8,9,10,11,12];obtain ⟨iZ,hM⟩:=M.e_gd hM;refine kg 5 ?_
      exact ⟨aM,aN,az,aA,place+r9,time+ai,n-1,l++([(⟨(place+r9:Int),(ab:Int)⟩:CMk)]),l2++([(time+ai:Int)]),l3++([(ag:Int)]),l4,bo,bp,br,ak,_,upds_of _ _ ⟨rfl,rfl,rfl,rfl,rfl,rfl,rfl,rfl,rfl,trivial⟩,M.e_inl hM aI,(H.pk [1,2,3,4,0,5,6,7,8])⟩
     skip
     refine t_bs (α:=Int) T29 [I (time+ai)] [(time+ai:Int)] H rfl (.cons rfl (Flat.rep_enc _ (time+ai:Int))<|.nil) rfl rfl rfl ?_;intro dc i0 H
     have i1:=Sl.cells (H.os 0)
     have i5:=Sl.oc (H.os 0)
     refine s_nil ⟨(H.pk [2,4,8,9,10,11]),?_⟩
     refine ts_l rfl ?_;obtain ⟨i6,hM⟩:=M.e_gd hM;refine t_app (α:=CMk) (k:=7) (l:=l) (l2:=[(⟨(place+r9:Int),(ab:Int)⟩:CMk)]) (l':=l++([(⟨(place+r9:Int),(ab:Int)⟩:CMk)])) (vy:=cc) T25 rfl H rfl rfl rfl (H.os 1) (H.ol 1) (rfl) (by first | omega | (simp only [List.length_nil] at *; omega)) ?_;intro bt i7 H;replace H:=H.nf
     have i8:=Sl.cells (H.os 7)
     have i9:=Sl.oc (H.os 7)
     refine s_nil ⟨(H.pk [2,4,8,9,10,11]),?_⟩
     refine ts_q rfl (fun w' H=>x_fa (v:=Oq aj 5) rfl (fa_blk (o:=0) Fd28_4 Sz25)) ?_;refine ts_l rfl ?_;obtain ⟨ja,hM⟩:=M.e_gd hM;refine t_app (α:=Int) (k:=6) (l:=l2) (l2:=[(time+ai:Int)]) (l':=l2++([(time+ai:Int)])) (vy:=dc) T29 rfl H rfl rfl rfl (H.os 0) (H.ol 0) (rfl) (by first | omega | (simp only [List.length_nil] at *; omega)) ?_;intro bu jb H;replace H:=H.nf
     have jc:=Sl.cells (H.os 6)
     have jd:=Sl.oc (H.os 6)
     refine s_nil ⟨(H.pk [2,4,8,9,10,11]),?_⟩
     refine ts_l rfl ?_;obtain ⟨je,dd,hM⟩:=M.e_bind hM;refine s_call cf6 [Pq ah,I ((r3+(r4*ab))-r5),I ((r3+(r4*ab))+r5)] rfl (zad s_bytes aF aG ((r3+(r4*ab))-r5) ((r3+(r4*ab))+r5) (au.app _) av dd _ ((H.pk [3,0,1,2,4,5,6,7,8,9,10,11]).gt 11)) ?_
     rintro vq jf ⟨ag,az,aA,rfl,hvq,ae⟩
     subst vq;(try dsimp only at hM)
     replace H:=H.pk [3,0,1,2,4,5,6,7,8,9,10,11] |>.bk ae
     clear ae
     refine s_nil ⟨(H.pk [3,4,8,9,10,11]),?_⟩
     refine ts_l rfl ?_;refine t_bs (α:=Int) T29 [I ag] [(ag:Int)] H rfl (.cons rfl (Flat.rep_enc _ (ag:Int))<|.nil) rfl rfl rfl ?_;intro dg jg H
     have jh:=Sl.cells (H.os 0)
     have ji:=Sl.oc (H.os 0)
     refine s_nil ⟨(H.pk [4,5,9,10,11,12]),?_⟩
     refine ts_l rfl ?_;obtain ⟨jj,hM⟩:=M.e_gd hM;refine t_app (α:=Int) (k:=6) (l:=l3) (l2:=[(ag:Int)]) (l':=l3++([(ag:Int)])) (vy:=dg) T29 rfl H rfl rfl rfl (H.os 0) (H.ol 0) (rfl) (by first | omega | (simp only [List.length_nil] at *; omega)) ?_;intro bv jk H;replace H:=H.nf
     have jl:=Sl.cells (H.os 6)
     have jm:=Sl.oc (H.os 6)
     refine s_nil ⟨(H.pk [4,5,9,10,11,12]),?_⟩
     refine ts_nil ?_;refine sr_l rfl ?_;refine t_sw 10 5 [bt] bt H rfl rfl Sz25 (Sl.cells (H.os 8)) rfl rfl (by simp only [List.all_cons,List.all_nil,Bool.true_and,Bool.and_true,Sl.oc (H.os 8)]; try rfl) ?_;intro jn H
     refine s_nil ⟨trivial,?_⟩
     refine sr_l rfl ?_;refine kg 1 ?_
     refine s_nil ⟨trivial,?_⟩
     refine sr_l rfl ?_;refine t_sw 9 0 [bu] bu H rfl rfl Sz29 (Sl.cells (H.os 7)) rfl rfl (by simp only [List.all_cons,List.all_nil,Bool.true_and,Bool.and_true,Sl.oc (H.os 7)]; try rfl) ?_;intro jo H
     refine s_nil ⟨trivial,?_⟩
     refine sr_l rfl ?_;refine kg 1 ?_
     refine s_nil ⟨trivial,?_⟩
     refine sr_l rfl ?_;refine t_sw 9 1 [bv] bv H rfl rfl Sz29 (Sl.cells (H.os 6)) rfl rfl (by simp only [List.all_cons,List.all_nil,Bool.true_and,Bool.and_true,Sl.oc (H.os 6)]; try rfl) ?_;intro jp H
     refine s_nil ⟨trivial,?_⟩
     refine sr_nil ?_;replace H:=H.pk [1,5,6,7,8,9,10,11,12];obtain ⟨jq,hM⟩:=M.e_gd hM;refine kg 5 ?_
     exact ⟨aM,aN,az,aA,place+r9,time+ai,n-1,l++([(⟨(place+r9:Int),(ab:Int)⟩:CMk)]),l2++([(time+ai:Int)]),l3++([(ag:Int)]),l4,bt,bu,bv,ak,_,upds_of _ _ ⟨rfl,rfl,rfl,rfl,rfl,rfl,rfl,rfl,rfl,trivial⟩,M.e_inl hM aI,(H.pk [1,2,3,4,0,5,6,7,8])⟩
    skip
    refine t_bs (α:=Int) T29 [I (time+ai)] [(time+ai:Int)] H rfl (.cons rfl (Flat.rep_enc _ (time+ai:Int))<|.nil) rfl rfl rfl ?_;intro di jr H
    have js:=Sl.cells (H.os 0)
    have jt:=Sl.oc (H.os 0)
    have ju:=Sl.cells (H.os 4)
    have jv:=Sl.oc (H.os 4)
    have jw:=Sl.cells (H.os 5)
    have jx:=Sl.oc (H.os 5)
    have jy:=Sl.cells (H.os 6)
    have jz:=Sl.oc (H.os 6)
    refine s_nil ⟨(H.pk [1,3,7,8,9,10]),?_⟩
    refine ts_l rfl ?_;refine t_bs (α:=CMk) T25 [.agg #[I (place+r9),I ab]] [(⟨(place+r9:Int),(ab:Int)⟩:CMk)] H rfl (.cons rfl (Flat.rep_enc _ (⟨(place+r9:Int),(ab:Int)⟩:CMk))<|.nil) rfl rfl rfl ?_;intro dj jA H
    have jC:=Sl.cells (H.os 0)
    have jD:=Sl.oc (H.os 0)
    refine s_nil ⟨(H.pk [2,4,8,9,10,11]),?_⟩
    refine ts_l rfl ?_;obtain ⟨jF,hM⟩:=M.e_gd hM;refine t_app (α:=CMk) (k:=7) (l:=l) (l2:=[(⟨(place+r9:Int),(ab:Int)⟩:CMk)]) (l':=l++([(⟨(place+r9:Int),(ab:Int)⟩:CMk)])) (vy:=dj) T25 rfl H rfl rfl rfl (H.os 0) (H.ol 0) (rfl) (by first | omega | (simp only [List.length_nil] at *; omega)) ?_;intro bw jH H;replace H:=H.nf
    have jI:=Sl.cells (H.os 7)
    have jJ:=Sl.oc (H.os 7)
    refine s_nil ⟨(H.pk [2,4,8,9,10,11]),?_⟩
    refine ts_q rfl (fun w' H=>x_fa (v:=Oq aj 5) rfl (fa_blk (o:=0) Fd28_4 Sz25)) ?_;refine ts_l rfl ?_;obtain ⟨jK,hM⟩:=M.e_gd hM;refine t_app (α:=Int) (k:=6) (l:=l2) (l2:=[(time+ai:Int)]) (l':=l2++([(time+ai:Int)])) (vy:=di) T29 rfl H rfl rfl rfl (H.os 1) (H.ol 1) (rfl) (by first | omega | (simp only [List.length_nil] at *; omega)) ?_;intro bx jM H;replace H:=H.nf
    have jN:=Sl.cells (H.os 6)
    have jP:=Sl.oc (H.os 6)
    refine s_nil ⟨(H.pk [2,4,8,9,10,11]),?_⟩
    refine ts_l rfl ?_;obtain ⟨jQ,dk,hM⟩:=M.e_bind hM;refine s_call cf6 [Pq ah,I ((r3+(r4*ab))-r5),I ((r3+(r4*ab))+r5)] rfl (zad s_bytes aF aG ((r3+(r4*ab))-r5) ((r3+(r4*ab))+r5) (au.app _) av dk _ ((H.pk [3,0,1,2,4,5,6,7,8,9,10,11]).gt 11)) ?_
    rintro vq jR ⟨ag,az,aA,rfl,hvq,ae⟩
    subst vq;(try dsimp only at hM)
    replace H:=H.pk [3,0,1,2,4,5,6,7,8,9,10,11] |>.bk ae
    clear ae
    refine s_nil ⟨(H.pk [3,4,8,9,10,11]),?_⟩
    refine ts_l rfl ?_;refine t_bs (α:=Int) T29 [I ag] [(ag:Int)] H rfl (.cons rfl (Flat.rep_enc _ (ag:Int))<|.nil) rfl rfl rfl ?_;intro dm jT H
    have jW:=Sl.cells (H.os 0)
    have jX:=Sl.oc (H.os 0)
    refine s_nil ⟨(H.pk [4,5,9,10,11,12]),?_⟩
    refine ts_l rfl ?_;obtain ⟨jY,hM⟩:=M.e_gd hM;refine t_app (α:=Int) (k:=6) (l:=l3) (l2:=[(ag:Int)]) (l':=l3++([(ag:Int)])) (vy:=dm) T29 rfl H rfl rfl rfl (H.os 0) (H.ol 0) (rfl) (by first | omega | (simp only [List.length_nil] at *; omega)) ?_;intro bz jZ H;replace H:=H.nf
    have j0:=Sl.cells (H.os 6)
    have j1:=Sl.oc (H.os 6)
    refine s_nil ⟨(H.pk [4,5,9,10,11,12]),?_⟩
    refine ts_nil ?_;refine sr_l rfl ?_;refine t_sw 10 5 [bw] bw H rfl rfl Sz25 (Sl.cells (H.os 8)) rfl rfl (by simp only [List.all_cons,List.all_nil,Bool.true_and,Bool.and_true,Sl.oc (H.os 8)]; try rfl) ?_;intro j3 H
    refine s_nil ⟨trivial,?_⟩
    refine sr_l rfl ?_;refine kg 1 ?_
    refine s_nil ⟨trivial,?_⟩
    refine sr_l rfl ?_;refine t_sw 9 0 [bx] bx H rfl rfl Sz29 (Sl.cells (H.os 7)) rfl rfl (by simp only [List.all_cons,List.all_nil,Bool.true_and,Bool.and_true,Sl.oc (H.os 7)]; try rfl) ?_;intro j4 H
    refine s_nil ⟨trivial,?_⟩
    refine sr_l rfl ?_;refine kg 1 ?_
    refine s_nil ⟨trivial,?_⟩
    refine sr_l rfl ?_;refine t_sw 9 1 [bz] bz H rfl rfl Sz29 (Sl.cells (H.os 6)) rfl rfl (by simp only [List.all_cons,List.all_nil,Bool.true_and,Bool.and_true,Sl.oc (H.os 6)]; try rfl) ?_;intro j5 H
    refine s_nil ⟨trivial,?_⟩
    refine sr_nil ?_;replace H:=H.pk [1,5,6,7,8,9,10,11,12];obtain ⟨j6,hM⟩:=M.e_gd hM;refine kg 5 ?_
    exact ⟨aM,aN,az,aA,place+r9,time+ai,n-1,l++([(⟨(place+r9:Int),(ab:Int)⟩:CMk)]),l2++([(time+ai:Int)]),l3++([(ag:Int)]),l4,bw,bx,bz,ak,_,upds_of _ _ ⟨rfl,rfl,rfl,rfl,rfl,rfl,rfl,rfl,rfl,trivial⟩,M.e_inl hM aI,(H.pk [1,2,3,4,0,5,6,7,8])⟩
   replace hM:=M.e_f hM a7;refine g_val (v:=B false) stop (gy_t rfl) (fun hg=>Bool.noConfusion (a7.symm.trans hg))<|s_val (x_pand0 (b:=stop) rfl (fun hb=>gd_of (c:=stop) (by first | exact hb | (rw [hb]; rfl) | simp_all) (B false)) rfl)<|s_nil ?_
   refine W.cond false rfl (fun cd=>?_) (fun cd=>?_)
   ·skip
    exact absurd cd (by decide)
   skip
   refine kg 5 ?_;obtain ⟨j7,dp,hM⟩:=M.e_bind hM;refine s_call cf7 [Pq ah,I 60] rfl (zab s_bytes b6 b7 60 (au.app _) av dp _ (H.gt 8)) ?_
   rintro vq j8 ⟨ab,aF,aG,rfl,hvq,ae⟩
   subst vq;(try dsimp only at hM);replace H:=H.bk ae;clear ae;refine s_val (x_bld (ps:=[(0,I (place+r9)),(1,I ab)]) (zs:=[I 0,I 0]) (L':=[I (place+r9),I ab]) rfl Tryz.underlying57 Al57 rfl (Bd57 Tryz.underlying57) (.cons (cs:=[I (place+r9)]) rfl rfl rfl rfl rfl<|.cons (cs:=[I ab]) rfl rfl rfl rfl rfl<|.nil)) ?_;refine t_alloc (cs:=[I 0,I 0]) H Al57 rfl ?_;intro aS j9 H;refine t_sw 0 0 [I (place+r9),I ab] (.agg #[I (place+r9),I ab]) H rfl rfl Sz57 rfl rfl rfl rfl ?_;intro ke H;obtain ⟨kh,hM⟩:=M.e_gd hM;obtain ⟨ki,hM⟩:=M.e_gd hM;refine kg 13 ?_;refine W.drawTS (fun W=>St w W [cBlk aS [I (place+r9),I ab] 57,cOwn (α:=Int) 3 ak l4,cBlk aq [al,am,ak] 31,cBlk aj [I r2,I (r2+r6),I r3,I r4,I r5,ao,.slice none 0 0] 28,cBlk ax [.slice none 0 0,.slice none 0 0,.slice none 0 0] 31,cBlk aw [I 0,I 0,I 0,I 0,I 0,.slice none 0 0,.slice none 0 0] 28] R) (.q 0 (.q 1 (.q 2 (.q 5 (.q 6 (.q 7 (.q 10 (.q 11 (.q 12 (.q 13 (.q 14 (.q 15 (.q 16 (.q 17 (.q 18 (.q 19 (.q 20 (.l2 3 (.l2 4 (.q 24 (.l 8 (.l 9 (.l 21 (.l 22 (.l 23 .nil)))))) 8 (.l 4 (.q 24 (.l 9 (.l 21 (.l 22 (.l 23 .nil))))))) 8 (.l 3 (.l 4 (.q 24 (.l 9 (.l 21 (.l 22 (.l 23 .nil))))))))))))))))))))))))) 25 [25,26,27,28,29] mixed (by decide +kernel) rfl ?_;intro kj ay;replace H:=H.ext ay;clear ay
   refine ⟨(H.pk [0,2,6,7,8,9]),?_⟩
   refine ts_q rfl (fun w' H=>x_fa (v:=Oq aj 5) rfl (fa_blk (o:=0) Fd28_4 Sz25)) ?_;refine ts_q rfl (fun w' H=>x_ld (v:=ao) rfl (ldb_sc Sc25 (H.bl 3) rfl)) ?_;refine ts_q rfl (fun w' H=>x_ld (v:=.agg #[I (place+r9),I ab]) rfl (ldb_ag (ds:=[I (place+r9),I ab]) Ag57 Sz57 (H.bl 0) rfl rfl)) ?_;refine ts_q rfl (fun w' H=>x_fa (v:=Pq aq) rfl (fa_blk (o:=0) Fd31_0 Sz29)) ?_;refine ts_q rfl (fun w' H=>x_ld (v:=al) rfl (ldb_sc Sc29 (H.bl 2) rfl)) ?_;refine ts_q rfl (fun w' H=>x_mv (v:=I (time+ai)) rfl) ?_;refine ts_q rfl (fun w' H=>x_fa (v:=Oq aq 1) rfl (fa_blk (o:=0) Fd31_1 Sz29)) ?_;refine ts_q rfl (fun w' H=>x_ld (v:=am) rfl (ldb_sc Sc29 (H.bl 2) rfl)) ?_;refine ts_q rfl (fun w' H=>x_mv (v:=Pq ah) rfl) ?_;refine ts_q rfl (fun w' H=>x_mv (v:=I (r3+(r4*ab))) rfl) ?_;refine ts_q rfl (fun w' H=>x_fa (v:=Oq aj 4) rfl (fa_blk (o:=0) Fd28_3 Sz3)) ?_;refine ts_q rfl (fun w' H=>x_ld (v:=I r5) rfl (ldb_sc Sc3 (H.bl 3) rfl)) ?_;obtain ⟨kl,hM⟩:=M.e_gd hM;refine ts_q rfl (fun w' H=>x_ari (r:=(r3+(r4*ab))-r5) rfl rfl rfl (by omega)) ?_;refine ts_q rfl (fun w' H=>x_mv (v:=I (r3+(r4*ab))) rfl) ?_;refine ts_q rfl (fun w' H=>x_fa (v:=Oq aj 4) rfl (fa_blk (o:=0) Fd28_3 Sz3)) ?_;refine ts_q rfl (fun w' H=>x_ld (v:=I r5) rfl (ldb_sc Sc3 (H.bl 3) rfl)) ?_;obtain ⟨km,hM⟩:=M.e_gd hM;refine ts_q rfl (fun w' H=>x_ari (r:=(r3+(r4*ab))+r5) rfl rfl rfl (by omega)) ?_;refine ts_l2 rfl rfl ?_ ?_
   ·skip
    refine t_bs (α:=CMk) T25 [.agg #[I (place+r9),I ab]] [(⟨(place+r9:Int),(ab:Int)⟩:CMk)] H rfl (.cons rfl (Flat.rep_enc _ (⟨(place+r9:Int),(ab:Int)⟩:CMk))<|.nil) rfl rfl rfl ?_;intro ce kn H
    have ko:=Sl.cells (H.os 0)
    have kq:=Sl.oc (H.os 0)
    have kr:=Sl.cells (H.os 4)
    have kw:=Sl.oc (H.os 4)
    have kx:=Sl.cells (H.os 5)
    have ky:=Sl.oc (H.os 5)
    have kz:=Sl.cells (H.os 6)
    have kA:=Sl.oc (H.os 6)
    refine s_nil ⟨(H.pk [1,3,7,8,9,10]),?_⟩
    refine ts_l2 rfl rfl ?_ ?_
    ·skip
     obtain ⟨kB,hM⟩:=M.e_gd hM;refine t_app (α:=CMk) (k:=6) (l:=l) (l2:=[(⟨(place+r9:Int),(ab:Int)⟩:CMk)]) (l':=l++([(⟨(place+r9:Int),(ab:Int)⟩:CMk)])) (vy:=ce) T25 rfl H rfl rfl rfl (H.os 0) (H.ol 0) (rfl) (by first | omega | (simp only [List.length_nil] at *; omega)) ?_;intro bA kC H;replace H:=H.nf
     have kD:=Sl.cells (H.os 6)
     have kE:=Sl.oc (H.os 6)
     refine s_nil ⟨(H.pk [1,3,7,8,9,10]),?_⟩
     refine ts_q rfl (fun w' H=>x_fa (v:=Oq aj 5) rfl (fa_blk (o:=0) Fd28_4 Sz25)) ?_;refine ts_l rfl ?_;refine t_bs (α:=Int) T29 [I (time+ai)] [(time+ai:Int)] H rfl (.cons rfl (Flat.rep_enc _ (time+ai:Int))<|.nil) rfl rfl rfl ?_;intro dq kF H
     have kG:=Sl.cells (H.os 0)
     have kH:=Sl.oc (H.os 0)
     refine s_nil ⟨(H.pk [2,4,8,9,10,11]),?_⟩
     refine ts_l rfl ?_;obtain ⟨kI,hM⟩:=M.e_gd hM;refine t_app (α:=Int) (k:=6) (l:=l2) (l2:=[(time+ai:Int)]) (l':=l2++([(time+ai:Int)])) (vy:=dq) T29 rfl H rfl rfl rfl (H.os 0) (H.ol 0) (rfl) (by first | omega | (simp only [List.length_nil] at *; omega)) ?_;intro bB kJ H;replace H:=H.nf
     have kK:=Sl.cells (H.os 6)
     have kL:=Sl.oc (H.os 6)
     refine s_nil ⟨(H.pk [2,4,8,9,10,11]),?_⟩
     refine ts_l rfl ?_;obtain ⟨kM,dr,hM⟩:=M.e_bind hM;refine s_call cf6 [Pq ah,I ((r3+(r4*ab))-r5),I ((r3+(r4*ab))+r5)] rfl (zad s_bytes aF aG ((r3+(r4*ab))-r5) ((r3+(r4*ab))+r5) (au.app _) av dr _ ((H.pk [3,0,1,2,4,5,6,7,8,9,10,11]).gt 11)) ?_
     rintro vq kN ⟨ag,az,aA,rfl,hvq,ae⟩
     subst vq;(try dsimp only at hM)
     replace H:=H.pk [3,0,1,2,4,5,6,7,8,9,10,11] |>.bk ae
     clear ae
     refine s_nil ⟨(H.pk [3,4,8,9,10,11]),?_⟩
     refine ts_l rfl ?_;refine t_bs (α:=Int) T29 [I ag] [(ag:Int)] H rfl (.cons rfl (Flat.rep_enc _ (ag:Int))<|.nil) rfl rfl rfl ?_;intro dt kO H
     have kP:=Sl.cells (H.os 0)
     have kQ:=Sl.oc (H.os 0)
     refine s_nil ⟨(H.pk [4,5,9,10,11,12]),?_⟩
     refine ts_l rfl ?_;obtain ⟨kR,hM⟩:=M.e_gd hM;refine t_app (α:=Int) (k:=6) (l:=l3) (l2:=[(ag:Int)]) (l':=l3++([(ag:Int)])) (vy:=dt) T29 rfl H rfl rfl rfl (H.os 0) (H.ol 0) (rfl) (by first | omega | (simp only [List.length_nil] at *; omega)) ?_;intro bC kS H;replace H:=H.nf
     have kT:=Sl.cells (H.os 6)
     have kU:=Sl.oc (H.os 6)
     refine s_nil ⟨(H.pk [4,5,9,10,11,12]),?_⟩
     refine ts_nil ?_;refine sr_l rfl ?_;refine t_sw 10 5 [bA] bA H rfl rfl Sz25 (Sl.cells (H.os 8)) rfl rfl (by simp only [List.all_cons,List.all_nil,Bool.true_and,Bool.and_true,Sl.oc (H.os 8)]; try rfl) ?_;intro kV H
     refine s_nil ⟨trivial,?_⟩
     refine sr_l rfl ?_;refine kg 1 ?_
     refine s_nil ⟨trivial,?_⟩
     refine sr_l rfl ?_;refine t_sw 9 0 [bB] bB H rfl rfl Sz29 (Sl.cells (H.os 7)) rfl rfl (by simp only [List.all_cons,List.all_nil,Bool.true_and,Bool.and_true,Sl.oc (H.os 7)]; try rfl) ?_;intro kW H
     refine s_nil ⟨trivial,?_⟩
     refine sr_l rfl ?_;refine kg 1 ?_
     refine s_nil ⟨trivial,?_⟩
     refine sr_l rfl ?_;refine t_sw 9 1 [bC] bC H rfl rfl Sz29 (Sl.cells (H.os 6)) rfl rfl (by simp only [List.all_cons,List.all_nil,Bool.true_and,Bool.and_true,Sl.oc (H.os 6)]; try rfl) ?_;intro kX H
     refine s_nil ⟨trivial,?_⟩
     refine sr_nil ?_;replace H:=H.pk [1,5,6,7,8,9,10,11,12];obtain ⟨kY,hM⟩:=M.e_gd hM;refine kg 5 ?_
     exact ⟨aM,aN,az,aA,place+r9,time+ai,n-1,l++([(⟨(place+r9:Int),(ab:Int)⟩:CMk)]),l2++([(time+ai:Int)]),l3++([(ag:Int)]),l4,bA,bB,bC,ak,_,upds_of _ _ ⟨rfl,rfl,rfl,rfl,rfl,rfl,rfl,rfl,rfl,trivial⟩,M.e_inl hM aI,(H.pk [1,2,3,4,0,5,6,7,8])⟩
    skip
    refine t_bs (α:=Int) T29 [I (time+ai)] [(time+ai:Int)] H rfl (.cons rfl (Flat.rep_enc _ (time+ai:Int))<|.nil) rfl rfl rfl ?_;intro du kZ H
    have k0:=Sl.cells (H.os 0)
    have lb:=Sl.oc (H.os 0)
    refine s_nil ⟨(H.pk [2,4,8,9,10,11]),?_⟩
    refine ts_l rfl ?_;obtain ⟨lc,hM⟩:=M.e_gd hM;refine t_app (α:=CMk) (k:=7) (l:=l) (l2:=[(⟨(place+r9:Int),(ab:Int)⟩:CMk)]) (l':=l++([(⟨(place+r9:Int),(ab:Int)⟩:CMk)])) (vy:=ce) T25 rfl H rfl rfl rfl (H.os 1) (H.ol 1) (rfl) (by first | omega | (simp only [List.length_nil] at *; omega)) ?_;intro bD lg H;replace H:=H.nf
    have lh:=Sl.cells (H.os 7)
    have li:=Sl.oc (H.os 7)
    refine s_nil ⟨(H.pk [2,4,8,9,10,11]),?_⟩
    refine ts_q rfl (fun w' H=>x_fa (v:=Oq aj 5) rfl (fa_blk (o:=0) Fd28_4 Sz25)) ?_;refine ts_l rfl ?_;obtain ⟨lj,hM⟩:=M.e_gd hM;refine t_app (α:=Int) (k:=6) (l:=l2) (l2:=[(time+ai:Int)]) (l':=l2++([(time+ai:Int)])) (vy:=du) T29 rfl H rfl rfl rfl (H.os 0) (H.ol 0) (rfl) (by first | omega | (simp only [List.length_nil] at *; omega)) ?_;intro bE lk H;replace H:=H.nf
    have ll:=Sl.cells (H.os 6)
    have lm:=Sl.oc (H.os 6)
    refine s_nil ⟨(H.pk [2,4,8,9,10,11]),?_⟩
    refine ts_l rfl ?_;obtain ⟨ln,dv,hM⟩:=M.e_bind hM;refine s_call cf6 [Pq ah,I ((r3+(r4*ab))-r5),I ((r3+(r4*ab))+r5)] rfl (zad s_bytes aF aG ((r3+(r4*ab))-r5) ((r3+(r4*ab))+r5) (au.app _) av dv _ ((H.pk [3,0,1,2,4,5,6,7,8,9,10,11]).gt 11)) ?_
    rintro vq lp ⟨ag,az,aA,rfl,hvq,ae⟩
    subst vq;(try dsimp only at hM)
    replace H:=H.pk [3,0,1,2,4,5,6,7,8,9,10,11] |>.bk ae
    clear ae
    refine s_nil ⟨(H.pk [3,4,8,9,10,11]),?_⟩
    refine ts_l rfl ?_;refine t_bs (α:=Int) T29 [I ag] [(ag:Int)] H rfl (.cons rfl (Flat.rep_enc _ (ag:Int))<|.nil) rfl rfl rfl ?_;intro dw lq H
    have lr:=Sl.cells (H.os 0)
    have ls:=Sl.oc (H.os 0)
    refine s_nil ⟨(H.pk [4,5,9,10,11,12]),?_⟩
    refine ts_l rfl ?_;obtain ⟨lu,hM⟩:=M.e_gd hM;refine t_app (α:=Int) (k:=6) (l:=l3) (l2:=[(ag:Int)]) (l':=l3++([(ag:Int)])) (vy:=dw) T29 rfl H rfl rfl rfl (H.os 0) (H.ol 0) (rfl) (by first | omega | (simp only [List.length_nil] at *; omega)) ?_;intro bF lv H;replace H:=H.nf
    have lw:=Sl.cells (H.os 6)
    have lx:=Sl.oc (H.os 6)
    refine s_nil ⟨(H.pk [4,5,9,10,11,12]),?_⟩
    refine ts_nil ?_;refine sr_l rfl ?_;refine t_sw 10 5 [bD] bD H rfl rfl Sz25 (Sl.cells (H.os 8)) rfl rfl (by simp only [List.all_cons,List.all_nil,Bool.true_and,Bool.and_true,Sl.oc (H.os 8)]; try rfl) ?_;intro ly H
    refine s_nil ⟨trivial,?_⟩
    refine sr_l rfl ?_;refine kg 1 ?_
    refine s_nil ⟨trivial,?_⟩
    refine sr_l rfl ?_;refine t_sw 9 0 [bE] bE H rfl rfl Sz29 (Sl.cells (H.os 7)) rfl rfl (by simp only [List.all_cons,List.all_nil,Bool.true_and,Bool.and_true,Sl.oc (H.os 7)]; try rfl) ?_;intro lz H
    refine s_nil ⟨trivial,?_⟩
    refine sr_l rfl ?_;refine kg 1 ?_
    refine s_nil ⟨trivial,?_⟩
    refine sr_l rfl ?_;refine t_sw 9 1 [bF] bF H rfl rfl Sz29 (Sl.cells (H.os 6)) rfl rfl (by simp only [List.all_cons,List.all_nil,Bool.true_and,Bool.and_true,Sl.oc (H.os 6)]; try rfl) ?_;intro lA H
    refine s_nil ⟨trivial,?_⟩
    refine sr_nil ?_;replace H:=H.pk [1,5,6,7,8,9,10,11,12];obtain ⟨lB,hM⟩:=M.e_gd hM;refine kg 5 ?_
    exact ⟨aM,aN,az,aA,place+r9,time+ai,n-1,l++([(⟨(place+r9:Int),(ab:Int)⟩:CMk)]),l2++([(time+ai:Int)]),l3++([(ag:Int)]),l4,bD,bE,bF,ak,_,upds_of _ _ ⟨rfl,rfl,rfl,rfl,rfl,rfl,rfl,rfl,rfl,trivial⟩,M.e_inl hM aI,(H.pk [1,2,3,4,0,5,6,7,8])⟩
   skip
   refine t_bs (α:=Int) T29 [I (time+ai)] [(time+ai:Int)] H rfl (.cons rfl (Flat.rep_enc _ (time+ai:Int))<|.nil) rfl rfl rfl ?_;intro dx lC H
   have lD:=Sl.cells (H.os 0)
   have lE:=Sl.oc (H.os 0)
   have lF:=Sl.cells (H.os 4)
   have lG:=Sl.oc (H.os 4)
   have lH:=Sl.cells (H.os 5)
   have lI:=Sl.oc (H.os 5)
   have lJ:=Sl.cells (H.os 6)
   have lK:=Sl.oc (H.os 6)
   refine s_nil ⟨(H.pk [1,3,7,8,9,10]),?_⟩
   refine ts_l rfl ?_;refine t_bs (α:=CMk) T25 [.agg #[I (place+r9),I ab]] [(⟨(place+r9:Int),(ab:Int)⟩:CMk)] H rfl (.cons rfl (Flat.rep_enc _ (⟨(place+r9:Int),(ab:Int)⟩:CMk))<|.nil) rfl rfl rfl ?_;intro dz lL H
   have lM:=Sl.cells (H.os 0)
   have lN:=Sl.oc (H.os 0)
   refine s_nil ⟨(H.pk [2,4,8,9,10,11]),?_⟩
   refine ts_l rfl ?_;obtain ⟨lO,hM⟩:=M.e_gd hM;refine t_app (α:=CMk) (k:=7) (l:=l) (l2:=[(⟨(place+r9:Int),(ab:Int)⟩:CMk)]) (l':=l++([(⟨(place+r9:Int),(ab:Int)⟩:CMk)])) (vy:=dz) T25 rfl H rfl rfl rfl (H.os 0) (H.ol 0) (rfl) (by first | omega | (simp only [List.length_nil] at *; omega)) ?_;intro bG lP H;replace H:=H.nf
   have lQ:=Sl.cells (H.os 7)
   have lR:=Sl.oc (H.os 7)
   refine s_nil ⟨(H.pk [2,4,8,9,10,11]),?_⟩
   refine ts_q rfl (fun w' H=>x_fa (v:=Oq aj 5) rfl (fa_blk (o:=0) Fd28_4 Sz25)) ?_;refine ts_l rfl ?_;obtain ⟨lS,hM⟩:=M.e_gd hM;refine t_app (α:=Int) (k:=6) (l:=l2) (l2:=[(time+ai:Int)]) (l':=l2++([(time+ai:Int)])) (vy:=dx) T29 rfl H rfl rfl rfl (H.os 1) (H.ol 1) (rfl) (by first | omega | (simp only [List.length_nil] at *; omega)) ?_;intro bH lT H;replace H:=H.nf
   have lU:=Sl.cells (H.os 6)
   have lV:=Sl.oc (H.os 6)
   refine s_nil ⟨(H.pk [2,4,8,9,10,11]),?_⟩
   refine ts_l rfl ?_;obtain ⟨lW,dA,hM⟩:=M.e_bind hM;refine s_call cf6 [Pq ah,I ((r3+(r4*ab))-r5),I ((r3+(r4*ab))+r5)] rfl (zad s_bytes aF aG ((r3+(r4*ab))-r5) ((r3+(r4*ab))+r5) (au.app _) av dA _ ((H.pk [3,0,1,2,4,5,6,7,8,9,10,11]).gt 11)) ?_
   rintro vq lX ⟨ag,az,aA,rfl,hvq,ae⟩
   subst vq;(try dsimp only at hM)
   replace H:=H.pk [3,0,1,2,4,5,6,7,8,9,10,11] |>.bk ae
   clear ae
   refine s_nil ⟨(H.pk [3,4,8,9,10,11]),?_⟩
   refine ts_l rfl ?_;refine t_bs (α:=Int) T29 [I ag] [(ag:Int)] H rfl (.cons rfl (Flat.rep_enc _ (ag:Int))<|.nil) rfl rfl rfl ?_;intro dB lY H
   have lZ:=Sl.cells (H.os 0)
   have l0:=Sl.oc (H.os 0)
   refine s_nil ⟨(H.pk [4,5,9,10,11,12]),?_⟩
   refine ts_l rfl ?_;obtain ⟨ma,hM⟩:=M.e_gd hM;refine t_app (α:=Int) (k:=6) (l:=l3) (l2:=[(ag:Int)]) (l':=l3++([(ag:Int)])) (vy:=dB) T29 rfl H rfl rfl rfl (H.os 0) (H.ol 0) (rfl) (by first | omega | (simp only [List.length_nil] at *; omega)) ?_;intro bI mb H;replace H:=H.nf
   have mc:=Sl.cells (H.os 6)
   have me:=Sl.oc (H.os 6)
   refine s_nil ⟨(H.pk [4,5,9,10,11,12]),?_⟩
   refine ts_nil ?_;refine sr_l rfl ?_;refine t_sw 10 5 [bG] bG H rfl rfl Sz25 (Sl.cells (H.os 8)) rfl rfl (by simp only [List.all_cons,List.all_nil,Bool.true_and,Bool.and_true,Sl.oc (H.os 8)]; try rfl) ?_;intro mf H
   refine s_nil ⟨trivial,?_⟩
   refine sr_l rfl ?_;refine kg 1 ?_
   refine s_nil ⟨trivial,?_⟩
   refine sr_l rfl ?_;refine t_sw 9 0 [bH] bH H rfl rfl Sz29 (Sl.cells (H.os 7)) rfl rfl (by simp only [List.all_cons,List.all_nil,Bool.true_and,Bool.and_true,Sl.oc (H.os 7)]; try rfl) ?_;intro mg H
   refine s_nil ⟨trivial,?_⟩
   refine sr_l rfl ?_;refine kg 1 ?_
   refine s_nil ⟨trivial,?_⟩
   refine sr_l rfl ?_;refine t_sw 9 1 [bI] bI H rfl rfl Sz29 (Sl.cells (H.os 6)) rfl rfl (by simp only [List.all_cons,List.all_nil,Bool.true_and,Bool.and_true,Sl.oc (H.os 6)]; try rfl) ?_;intro mh H
   refine s_nil ⟨trivial,?_⟩
   refine sr_nil ?_;replace H:=H.pk [1,5,6,7,8,9,10,11,12];obtain ⟨mi,hM⟩:=M.e_gd hM;refine kg 5 ?_
   exact ⟨aM,aN,az,aA,place+r9,time+ai,n-1,l++([(⟨(place+r9:Int),(ab:Int)⟩:CMk)]),l2++([(time+ai:Int)]),l3++([(ag:Int)]),l4,bG,bH,bI,ak,_,upds_of _ _ ⟨rfl,rfl,rfl,rfl,rfl,rfl,rfl,rfl,rfl,trivial⟩,M.e_inl hM aI,(H.pk [1,2,3,4,0,5,6,7,8])⟩
  replace hM:=M.e_f hM aQ
  replace aQ:=dI aQ
  refine kg 5 ?_;obtain ⟨mj,dC,hM⟩:=M.e_bind hM;refine s_call cf7 [Pq ah,I 60] rfl (zab s_bytes s2 s3 60 (au.app _) av dC _ ((H.pk [4,0,1,2,3,5,6,7,8]).gt 8)) ?_
  rintro vq ml ⟨ab,aF,aG,rfl,hvq,ae⟩
  subst vq;(try dsimp only at hM)
  replace H:=H.pk [4,0,1,2,3,5,6,7,8] |>.bk ae
  clear ae;refine s_val (x_bld (ps:=[(0,I place),(1,I ab)]) (zs:=[I 0,I 0]) (L':=[I place,I ab]) rfl Tryz.underlying57 Al57 rfl (Bd57 Tryz.underlying57) (.cons (cs:=[I place]) rfl rfl rfl rfl rfl<|.cons (cs:=[I ab]) rfl rfl rfl rfl rfl<|.nil)) ?_;refine t_alloc (cs:=[I 0,I 0]) H Al57 rfl ?_;intro aS mm H;refine t_sw 0 0 [I place,I ab] (.agg #[I place,I ab]) H rfl rfl Sz57 rfl rfl rfl rfl ?_;intro mn H;obtain ⟨mo,hM⟩:=M.e_gd hM;obtain ⟨mq,hM⟩:=M.e_gd hM;refine kg 13 ?_;refine W.drawTS (fun W=>St w W [cBlk aS [I place,I ab] 57,cOwn (α:=Int) 3 ak l4,cBlk aq [al,am,ak] 31,cBlk aj [I r2,I (r2+r6),I r3,I r4,I r5,ao,.slice none 0 0] 28,cBlk ax [.slice none 0 0,.slice none 0 0,.slice none 0 0] 31,cBlk aw [I 0,I 0,I 0,I 0,I 0,.slice none 0 0,.slice none 0 0] 28] R) (.q 0 (.q 1 (.q 2 (.q 5 (.q 6 (.q 7 (.q 10 (.q 11 (.q 12 (.q 13 (.q 14 (.q 15 (.q 16 (.q 17 (.q 18 (.q 19 (.q 20 (.l2 3 (.l2 4 (.q 24 (.l 8 (.l 9 (.l 21 (.l 22 (.l 23 .nil)))))) 8 (.l 4 (.q 24 (.l 9 (.l 21 (.l 22 (.l 23 .nil))))))) 8 (.l 3 (.l 4 (.q 24 (.l 9 (.l 21 (.l 22 (.l 23 .nil))))))))))))))))))))))))) 25 [25,26,27,28,29] mixed (by decide +kernel) rfl ?_;intro mr ay;replace H:=H.ext ay;clear ay
  refine ⟨(H.pk [0,2,6,7,8,9]),?_⟩
  refine ts_q rfl (fun w' H=>x_fa (v:=Oq aj 5) rfl (fa_blk (o:=0) Fd28_4 Sz25)) ?_;refine ts_q rfl (fun w' H=>x_ld (v:=ao) rfl (ldb_sc Sc25 (H.bl 3) rfl)) ?_;refine ts_q rfl (fun w' H=>x_ld (v:=.agg #[I place,I ab]) rfl (ldb_ag (ds:=[I place,I ab]) Ag57 Sz57 (H.bl 0) rfl rfl)) ?_;refine ts_q rfl (fun w' H=>x_fa (v:=Pq aq) rfl (fa_blk (o:=0) Fd31_0 Sz29)) ?_;refine ts_q rfl (fun w' H=>x_ld (v:=al) rfl (ldb_sc Sc29 (H.bl 2) rfl)) ?_;refine ts_q rfl (fun w' H=>x_mv (v:=I time) rfl) ?_;refine ts_q rfl (fun w' H=>x_fa (v:=Oq aq 1) rfl (fa_blk (o:=0) Fd31_1 Sz29)) ?_;refine ts_q rfl (fun w' H=>x_ld (v:=am) rfl (ldb_sc Sc29 (H.bl 2) rfl)) ?_;refine ts_q rfl (fun w' H=>x_mv (v:=Pq ah) rfl) ?_;refine ts_q rfl (fun w' H=>x_mv (v:=I (r3+(r4*ab))) rfl) ?_;refine ts_q rfl (fun w' H=>x_fa (v:=Oq aj 4) rfl (fa_blk (o:=0) Fd28_3 Sz3)) ?_;refine ts_q rfl (fun w' H=>x_ld (v:=I r5) rfl (ldb_sc Sc3 (H.bl 3) rfl)) ?_;obtain ⟨mt,hM⟩:=M.e_gd hM;refine ts_q rfl (fun w' H=>x_ari (r:=(r3+(r4*ab))-r5) rfl rfl rfl (by omega)) ?_;refine ts_q rfl (fun w' H=>x_mv (v:=I (r3+(r4*ab))) rfl) ?_;refine ts_q rfl (fun w' H=>x_fa (v:=Oq aj 4) rfl (fa_blk (o:=0) Fd28_3 Sz3)) ?_;refine ts_q rfl (fun w' H=>x_ld (v:=I r5) rfl (ldb_sc Sc3 (H.bl 3) rfl)) ?_;obtain ⟨mu,hM⟩:=M.e_gd hM;refine ts_q rfl (fun w' H=>x_ari (r:=(r3+(r4*ab))+r5) rfl rfl rfl (by omega)) ?_;refine ts_l2 rfl rfl ?_ ?_
  ·skip
   refine t_bs (α:=CMk) T25 [.agg #[I place,I ab]] [(⟨(place:Int),(ab:Int)⟩:CMk)] H rfl (.cons rfl (Flat.rep_enc _ (⟨(place:Int),(ab:Int)⟩:CMk))<|.nil) rfl rfl rfl ?_;intro cf mv H
   have mw:=Sl.cells (H.os 0)
   have my:=Sl.oc (H.os 0)
   have mz:=Sl.cells (H.os 4)
   have mC:=Sl.oc (H.os 4)
   have mD:=Sl.cells (H.os 5)
   have mE:=Sl.oc (H.os 5)
   have mF:=Sl.cells (H.os 6)
   have mG:=Sl.oc (H.os 6)
   refine s_nil ⟨(H.pk [1,3,7,8,9,10]),?_⟩
   refine ts_l2 rfl rfl ?_ ?_
   ·skip
    obtain ⟨mH,hM⟩:=M.e_gd hM;refine t_app (α:=CMk) (k:=6) (l:=l) (l2:=[(⟨(place:Int),(ab:Int)⟩:CMk)]) (l':=l++([(⟨(place:Int),(ab:Int)⟩:CMk)])) (vy:=cf) T25 rfl H rfl rfl rfl (H.os 0) (H.ol 0) (rfl) (by first | omega | (simp only [List.length_nil] at *; omega)) ?_;intro bJ mI H;replace H:=H.nf
    have mJ:=Sl.cells (H.os 6)
    have mK:=Sl.oc (H.os 6)
    refine s_nil ⟨(H.pk [1,3,7,8,9,10]),?_⟩
    refine ts_q rfl (fun w' H=>x_fa (v:=Oq aj 5) rfl (fa_blk (o:=0) Fd28_4 Sz25)) ?_;refine ts_l rfl ?_;refine t_bs (α:=Int) T29 [I time] [(time:Int)] H rfl (.cons rfl (Flat.rep_enc _ (time:Int))<|.nil) rfl rfl rfl ?_;intro dD mL H
    have mM:=Sl.cells (H.os 0)
    have mN:=Sl.oc (H.os 0)
    refine s_nil ⟨(H.pk [2,4,8,9,10,11]),?_⟩
    refine ts_l rfl ?_;obtain ⟨mO,hM⟩:=M.e_gd hM;refine t_app (α:=Int) (k:=6) (l:=l2) (l2:=[(time:Int)]) (l':=l2++([(time:Int)])) (vy:=dD) T29 rfl H rfl rfl rfl (H.os 0) (H.ol 0) (rfl) (by first | omega | (simp only [List.length_nil] at *; omega)) ?_;intro bK mP H;replace H:=H.nf
    have mQ:=Sl.cells (H.os 6)
    have mR:=Sl.oc (H.os 6)
    refine s_nil ⟨(H.pk [2,4,8,9,10,11]),?_⟩
    refine ts_l rfl ?_;obtain ⟨mS,dE,hM⟩:=M.e_bind hM;refine s_call cf6 [Pq ah,I ((r3+(r4*ab))-r5),I ((r3+(r4*ab))+r5)] rfl (zad s_bytes aF aG ((r3+(r4*ab))-r5) ((r3+(r4*ab))+r5) (au.app _) av dE _ ((H.pk [3,0,1,2,4,5,6,7,8,9,10,11]).gt 11)) ?_
    rintro vq mT ⟨ag,az,aA,rfl,hvq,ae⟩
    subst vq;(try dsimp only at hM)
    replace H:=H.pk [3,0,1,2,4,5,6,7,8,9,10,11] |>.bk ae
    clear ae
    refine s_nil ⟨(H.pk [3,4,8,9,10,11]),?_⟩
    refine ts_l rfl ?_;refine t_bs (α:=Int) T29 [I ag] [(ag:Int)] H rfl (.cons rfl (Flat.rep_enc _ (ag:Int))<|.nil) rfl rfl rfl ?_;intro dF mU H
    have mV:=Sl.cells (H.os 0)
    have mW:=Sl.oc (H.os 0)
    refine s_nil ⟨(H.pk [4,5,9,10,11,12]),?_⟩
    refine ts_l rfl ?_;obtain ⟨mX,hM⟩:=M.e_gd hM;refine t_app (α:=Int) (k:=6) (l:=l3) (l2:=[(ag:Int)]) (l':=l3++([(ag:Int)])) (vy:=dF) T29 rfl H rfl rfl rfl (H.os 0) (H.ol 0) (rfl) (by first | omega | (simp only [List.length_nil] at *; omega)) ?_;intro bL mY H;replace H:=H.nf
    have mZ:=Sl.cells (H.os 6)
    have m4:=Sl.oc (H.os 6)
    refine s_nil ⟨(H.pk [4,5,9,10,11,12]),?_⟩
    refine ts_nil ?_;refine sr_l rfl ?_;refine t_sw 10 5 [bJ] bJ H rfl rfl Sz25 (Sl.cells (H.os 8)) rfl rfl (by simp only [List.all_cons,List.all_nil,Bool.true_and,Bool.and_true,Sl.oc (H.os 8)]; try rfl) ?_;intro m5 H
    refine s_nil ⟨trivial,?_⟩
    refine sr_l rfl ?_;refine kg 1 ?_
    refine s_nil ⟨trivial,?_⟩
    refine sr_l rfl ?_;refine t_sw 9 0 [bK] bK H rfl rfl Sz29 (Sl.cells (H.os 7)) rfl rfl (by simp only [List.all_cons,List.all_nil,Bool.true_and,Bool.and_true,Sl.oc (H.os 7)]; try rfl) ?_;intro m6 H
    refine s_nil ⟨trivial,?_⟩
    refine sr_l rfl ?_;refine kg 1 ?_
    refine s_nil ⟨trivial,?_⟩
    refine sr_l rfl ?_;refine t_sw 9 1 [bL] bL H rfl rfl Sz29 (Sl.cells (H.os 6)) rfl rfl (by simp only [List.all_cons,List.all_nil,Bool.true_and,Bool.and_true,Sl.oc (H.os 6)]; try rfl) ?_;intro m7 H
    refine s_nil ⟨trivial,?_⟩
    refine sr_nil ?_;replace H:=H.pk [1,5,6,7,8,9,10,11,12];obtain ⟨m8,hM⟩:=M.e_gd hM;refine kg 5 ?_
    exact ⟨aM,aN,az,aA,place,time,n-1,l++([(⟨(place:Int),(ab:Int)⟩:CMk)]),l2++([(time:Int)]),l3++([(ag:Int)]),l4,bJ,bK,bL,ak,_,upds_of _ _ ⟨rfl,rfl,rfl,rfl,rfl,rfl,rfl,rfl,rfl,trivial⟩,M.e_inl hM aI,(H.pk [1,2,3,4,0,5,6,7,8])⟩
   skip
   refine t_bs (α:=Int) T29 [I time] [(time:Int)] H rfl (.cons rfl (Flat.rep_enc _ (time:Int))<|.nil) rfl rfl rfl ?_;intro dG m9 H
   have na:=Sl.cells (H.os 0)
   have nc:=Sl.oc (H.os 0)
   refine s_nil ⟨(H.pk [2,4,8,9,10,11]),?_⟩
   refine ts_l rfl ?_;obtain ⟨ng,hM⟩:=M.e_gd hM;refine t_app (α:=CMk) (k:=7) (l:=l) (l2:=[(⟨(place:Int),(ab:Int)⟩:CMk)]) (l':=l++([(⟨(place:Int),(ab:Int)⟩:CMk)])) (vy:=cf) T25 rfl H rfl rfl rfl (H.os 1) (H.ol 1) (rfl) (by first | omega | (simp only [List.length_nil] at *; omega)) ?_;intro bM nh H;replace H:=H.nf
   have ni:=Sl.cells (H.os 7)
   have nj:=Sl.oc (H.os 7)
   refine s_nil ⟨(H.pk [2,4,8,9,10,11]),?_⟩
   refine ts_q rfl (fun w' H=>x_fa (v:=Oq aj 5) rfl (fa_blk (o:=0) Fd28_4 Sz25)) ?_;refine ts_l rfl ?_;obtain ⟨nk,hM⟩:=M.e_gd hM;refine t_app (α:=Int) (k:=6) (l:=l2) (l2:=[(time:Int)]) (l':=l2++([(time:Int)])) (vy:=dG) T29 rfl H rfl rfl rfl (H.os 0) (H.ol 0) (rfl) (by first | omega | (simp only [List.length_nil] at *; omega)) ?_;intro bN nl H;replace H:=H.nf
   have nm:=Sl.cells (H.os 6)
   have nn:=Sl.oc (H.os 6)
   refine s_nil ⟨(H.pk [2,4,8,9,10,11]),?_⟩
   refine ts_l rfl ?_;obtain ⟨np,dH,hM⟩:=M.e_bind hM;refine s_call cf6 [Pq ah,I ((r3+(r4*ab))-r5),I ((r3+(r4*ab))+r5)] rfl (zad s_bytes aF aG ((r3+(r4*ab))-r5) ((r3+(r4*ab))+r5) (au.app _) av dH _ ((H.pk [3,0,1,2,4,5,6,7,8,9,10,11]).gt 11)) ?_
   rintro vq nq ⟨ag,az,aA,rfl,hvq,ae⟩
   subst vq;(try dsimp only at hM)
   replace H:=H.pk [3,0,1,2,4,5,6,7,8,9,10,11] |>.bk ae
   clear ae
   refine s_nil ⟨(H.pk [3,4,8,9,10,11]),?_⟩
   refine ts_l rfl ?_;refine t_bs (α:=Int) T29 [I ag] [(ag:Int)] H rfl (.cons rfl (Flat.rep_enc _ (ag:Int))<|.nil) rfl rfl rfl ?_;intro dJ nr H
   have ns:=Sl.cells (H.os 0)
   have nu:=Sl.oc (H.os 0)
   refine s_nil ⟨(H.pk [4,5,9,10,11,12]),?_⟩
   refine ts_l rfl ?_;obtain ⟨nv,hM⟩:=M.e_gd hM;refine t_app (α:=Int) (k:=6) (l:=l3) (l2:=[(ag:Int)]) (l':=l3++([(ag:Int)])) (vy:=dJ) T29 rfl H rfl rfl rfl (H.os 0) (H.ol 0) (rfl) (by first | omega | (simp only [List.length_nil] at *; omega)) ?_;intro bO nw H;replace H:=H.nf
   have ny:=Sl.cells (H.os 6)
   have nz:=Sl.oc (H.os 6)
   refine s_nil ⟨(H.pk [4,5,9,10,11,12]),?_⟩
   refine ts_nil ?_;refine sr_l rfl ?_;refine t_sw 10 5 [bM] bM H rfl rfl Sz25 (Sl.cells (H.os 8)) rfl rfl (by simp only [List.all_cons,List.all_nil,Bool.true_and,Bool.and_true,Sl.oc (H.os 8)]; try rfl) ?_;intro nA H
   refine s_nil ⟨trivial,?_⟩
   refine sr_l rfl ?_;refine kg 1 ?_
   refine s_nil ⟨trivial,?_⟩
   refine sr_l rfl ?_;refine t_sw 9 0 [bN] bN H rfl rfl Sz29 (Sl.cells (H.os 7)) rfl rfl (by simp only [List.all_cons,List.all_nil,Bool.true_and,Bool.and_true,Sl.oc (H.os 7)]; try rfl) ?_;intro nB H
   refine s_nil ⟨trivial,?_⟩
   refine sr_l rfl ?_;refine kg 1 ?_
   refine s_nil ⟨trivial,?_⟩
   refine sr_l rfl ?_;refine t_sw 9 1 [bO] bO H rfl rfl Sz29 (Sl.cells (H.os 6)) rfl rfl (by simp only [List.all_cons,List.all_nil,Bool.true_and,Bool.and_true,Sl.oc (H.os 6)]; try rfl) ?_;intro nC H
   refine s_nil ⟨trivial,?_⟩
   refine sr_nil ?_;replace H:=H.pk [1,5,6,7,8,9,10,11,12];obtain ⟨nD,hM⟩:=M.e_gd hM;refine kg 5 ?_
   exact ⟨aM,aN,az,aA,place,time,n-1,l++([(⟨(place:Int),(ab:Int)⟩:CMk)]),l2++([(time:Int)]),l3++([(ag:Int)]),l4,bM,bN,bO,ak,_,upds_of _ _ ⟨rfl,rfl,rfl,rfl,rfl,rfl,rfl,rfl,rfl,trivial⟩,M.e_inl hM aI,(H.pk [1,2,3,4,0,5,6,7,8])⟩
  skip
  refine t_bs (α:=Int) T29 [I time] [(time:Int)] H rfl (.cons rfl (Flat.rep_enc _ (time:Int))<|.nil) rfl rfl rfl ?_;intro dK nE H
  have nF:=Sl.cells (H.os 0)
  have nG:=Sl.oc (H.os 0)
  have nH:=Sl.cells (H.os 4)
  have nI:=Sl.oc (H.os 4)
  have nJ:=Sl.cells (H.os 5)
  have nK:=Sl.oc (H.os 5)
  have nL:=Sl.cells (H.os 6)
  have nM:=Sl.oc (H.os 6)
  refine s_nil ⟨(H.pk [1,3,7,8,9,10]),?_⟩
  refine ts_l rfl ?_;refine t_bs (α:=CMk) T25 [.agg #[I place,I ab]] [(⟨(place:Int),(ab:Int)⟩:CMk)] H rfl (.cons rfl (Flat.rep_enc _ (⟨(place:Int),(ab:Int)⟩:CMk))<|.nil) rfl rfl rfl ?_;intro dL nN H
  have nO:=Sl.cells (H.os 0)
  have nP:=Sl.oc (H.os 0)
  refine s_nil ⟨(H.pk [2,4,8,9,10,11]),?_⟩
  refine ts_l rfl ?_;obtain ⟨nQ,hM⟩:=M.e_gd hM;refine t_app (α:=CMk) (k:=7) (l:=l) (l2:=[(⟨(place:Int),(ab:Int)⟩:CMk)]) (l':=l++([(⟨(place:Int),(ab:Int)⟩:CMk)])) (vy:=dL) T25 rfl H rfl rfl rfl (H.os 0) (H.ol 0) (rfl) (by first | omega | (simp only [List.length_nil] at *; omega)) ?_;intro bP nR H;replace H:=H.nf
  have nS:=Sl.cells (H.os 7)
  have nT:=Sl.oc (H.os 7)
  refine s_nil ⟨(H.pk [2,4,8,9,10,11]),?_⟩
  refine ts_q rfl (fun w' H=>x_fa (v:=Oq aj 5) rfl (fa_blk (o:=0) Fd28_4 Sz25)) ?_;refine ts_l rfl ?_;obtain ⟨nU,hM⟩:=M.e_gd hM;refine t_app (α:=Int) (k:=6) (l:=l2) (l2:=[(time:Int)]) (l':=l2++([(time:Int)])) (vy:=dK) T29 rfl H rfl rfl rfl (H.os 1) (H.ol 1) (rfl) (by first | omega | (simp only [List.length_nil] at *; omega)) ?_;intro bQ nV H;replace H:=H.nf
  have nW:=Sl.cells (H.os 6)
  have nX:=Sl.oc (H.os 6)
  refine s_nil ⟨(H.pk [2,4,8,9,10,11]),?_⟩
  refine ts_l rfl ?_;obtain ⟨nY,dM,hM⟩:=M.e_bind hM;refine s_call cf6 [Pq ah,I ((r3+(r4*ab))-r5),I ((r3+(r4*ab))+r5)] rfl (zad s_bytes aF aG ((r3+(r4*ab))-r5) ((r3+(r4*ab))+r5) (au.app _) av dM _ ((H.pk [3,0,1,2,4,5,6,7,8,9,10,11]).gt 11)) ?_
  rintro vq nZ ⟨ag,az,aA,rfl,hvq,ae⟩
  subst vq;(try dsimp only at hM)
  replace H:=H.pk [3,0,1,2,4,5,6,7,8,9,10,11] |>.bk ae
  clear ae
  refine s_nil ⟨(H.pk [3,4,8,9,10,11]),?_⟩
  refine ts_l rfl ?_;refine t_bs (α:=Int) T29 [I ag] [(ag:Int)] H rfl (.cons rfl (Flat.rep_enc _ (ag:Int))<|.nil) rfl rfl rfl ?_;intro dN n0 H
  have n3:=Sl.cells (H.os 0)
  have n4:=Sl.oc (H.os 0)
  refine s_nil ⟨(H.pk [4,5,9,10,11,12]),?_⟩
  refine ts_l rfl ?_;obtain ⟨n7,hM⟩:=M.e_gd hM;refine t_app (α:=Int) (k:=6) (l:=l3) (l2:=[(ag:Int)]) (l':=l3++([(ag:Int)])) (vy:=dN) T29 rfl H rfl rfl rfl (H.os 0) (H.ol 0) (rfl) (by first | omega | (simp only [List.length_nil] at *; omega)) ?_;intro bR n8 H;replace H:=H.nf
  have n9:=Sl.cells (H.os 6)
  have oa:=Sl.oc (H.os 6)
  refine s_nil ⟨(H.pk [4,5,9,10,11,12]),?_⟩
  refine ts_nil ?_;refine sr_l rfl ?_;refine t_sw 10 5 [bP] bP H rfl rfl Sz25 (Sl.cells (H.os 8)) rfl rfl (by simp only [List.all_cons,List.all_nil,Bool.true_and,Bool.and_true,Sl.oc (H.os 8)]; try rfl) ?_;intro ob H
  refine s_nil ⟨trivial,?_⟩
  refine sr_l rfl ?_;refine kg 1 ?_
  refine s_nil ⟨trivial,?_⟩
  refine sr_l rfl ?_;refine t_sw 9 0 [bQ] bQ H rfl rfl Sz29 (Sl.cells (H.os 7)) rfl rfl (by simp only [List.all_cons,List.all_nil,Bool.true_and,Bool.and_true,Sl.oc (H.os 7)]; try rfl) ?_;intro od H
  refine s_nil ⟨trivial,?_⟩
  refine sr_l rfl ?_;refine kg 1 ?_
  refine s_nil ⟨trivial,?_⟩
  refine sr_l rfl ?_;refine t_sw 9 1 [bR] bR H rfl rfl Sz29 (Sl.cells (H.os 6)) rfl rfl (by simp only [List.all_cons,List.all_nil,Bool.true_and,Bool.and_true,Sl.oc (H.os 6)]; try rfl) ?_;intro oe H
  refine s_nil ⟨trivial,?_⟩
  refine sr_nil ?_;replace H:=H.pk [1,5,6,7,8,9,10,11,12];obtain ⟨og,hM⟩:=M.e_gd hM;refine kg 5 ?_
  exact ⟨aM,aN,az,aA,place,time,n-1,l++([(⟨(place:Int),(ab:Int)⟩:CMk)]),l2++([(time:Int)]),l3++([(ag:Int)]),l4,bP,bQ,bR,ak,_,upds_of _ _ ⟨rfl,rfl,rfl,rfl,rfl,rfl,rfl,rfl,rfl,trivial⟩,M.e_inl hM aI,(H.pk [1,2,3,4,0,5,6,7,8])⟩
 replace hM:=M.e_f hM aP
 replace aP:=dI aP
 refine W.exit ?_
 have dO:=M.e_inr hM aI
 subst dO;replace hM:=cH;(try dsimp only at hM);refine kg 6 ?_
 replace H:=H.nilOwn (α:=CNt) 59
 obtain ⟨dP,bS,dQ⟩:=M.e_bind hM
 obtain ⟨b3,bS⟩:=M.e_iter bS
 refine W.loop (fun m σ W=>∃ (s6:Int) (s7:Int) (i:Nat) (aO:List CNt) (aT:Value) (ρ:Env),σ=upds ρ [(0,Pq ah),(6,Pq aw),(7,Pq ax),(8,Pq aj),(9,Pq aq),(16,I (i:Int))]/\M.iterN (zaB s_bytes l3 l2 l) m (s6,s7,i,aO)=some dP/\St w W [cOwn (α:=CNt) 59 aT aO,cOwn (α:=Int) 3 ak l4,cOwn (α:=Int) 3 am l3,cOwn (α:=Int) 3 al l2,cOwn (α:=CMk) 57 ao l,cBlk ah [aC,I s6,I s7] 61,cBlk aq [al,am,ak] 31,cBlk aj [I r2,I (r2+r6),I r3,I r4,I r5,ao,aT] 28,cBlk ax [.slice none 0 0,.slice none 0 0,.slice none 0 0] 31,cBlk aw [I 0,I 0,I 0,I 0,I 0,.slice none 0 0,.slice none 0 0] 28] R) ?_ ?_
 ·exact ⟨_,s2,s3,0,[],(.slice none 0 0),_,upds_of _ _ ⟨rfl,rfl,rfl,rfl,rfl,rfl,trivial⟩,bS,H⟩
 rintro oh σ om ⟨s6,s7,i,aO,aT,ρ,rfl,cg,H⟩
 obtain ⟨ch,ci,oo,hM,bT⟩:=M.e_iterN cg
 simp only [zaB] at hM
 clear cg
 have oq:=((H.os 4)).len_le
 refine kg 15 ?_
 refine W.cond ((decide ((i:Int)<(l.length:Int)))&&(decide ((aO.length:Int)<20))) rfl (fun bU=>?_) (fun bU=>?_)
 ·replace hM:=M.e_t hM bU;refine kg 6 ?_;obtain ⟨ot,dR,hM⟩:=M.e_bind hM;refine s_call cf7 [Pq ah,I 2] rfl (zab s_bytes s6 s7 2 (au.app _) av dR _ ((H.pk [5,0,1,2,3,4,6,7,8,9]).gt 9)) ?_
  rintro vq ou ⟨dS,cj,ck,rfl,hvq,ae⟩
  subst vq;(try dsimp only at hM)
  replace H:=H.pk [5,0,1,2,3,4,6,7,8,9] |>.bk ae
  clear ae;refine kg 2 ?_
  refine W.cond (dS==0) rfl (fun aU=>?_) (fun aU=>?_)
  ·replace hM:=M.e_t hM aU
   replace aU:=dI aU
   refine W.drawTS (fun W=>St w W [cOwn (α:=Int) 3 ak l4,cOwn (α:=Int) 3 am l3,cOwn (α:=Int) 3 al l2,cOwn (α:=CMk) 57 ao l,cBlk aq [al,am,ak] 31,cBlk aj [I r2,I (r2+r6),I r3,I r4,I r5,ao,aT] 28,cBlk ax [.slice none 0 0,.slice none 0 0,.slice none 0 0] 31,cBlk aw [I 0,I 0,I 0,I 0,I 0,.slice none 0 0,.slice none 0 0] 28] R) (.q 0 (.q 1 (.q 2 (.q 3 (.q 4 (.q 5 (.q 6 (.q 7 (.q 8 (.q 12 (.q 13 (.q 14 (.q 15 (.q 16 (.q 17 (.q 21 (.q 22 (.q 23 (.q 24 (.q 25 (.q 26 (.q 29 (.q 30 (.q 31 (.q 32 (.q 33 (.q 34 (.l 9 (.q 10 (.q 11 (.l 18 (.q 19 (.q 20 (.l 27 (.q 28 (.l 35 (.q 36 (.q 37 (.q 38 (.l 39 (.l 40 (.q 41 .nil)))))))))))))))))))))))))))))))))))))))))) 42 [42] mixed (by decide +kernel) rfl ?_;intro ov ay;replace H:=H.ext ay;clear ay
   refine ⟨(H.pk [2,3,4,5,6,7,8,9]),?_⟩
   refine ts_q rfl (fun w' H=>x_fa (v:=Oq aj 6) rfl (fa_blk (o:=0) Fd28_5 Sz26)) ?_;refine ts_q rfl (fun w' H=>x_ld (v:=aT) rfl (ldb_sc Sc26 (H.bl 5) rfl)) ?_;refine ts_q rfl (fun w' H=>x_mv (v:=I (i:Int)) rfl) ?_;refine ts_q rfl (fun w' H=>x_fa (v:=Pq aq) rfl (fa_blk (o:=0) Fd31_0 Sz29)) ?_;refine ts_q rfl (fun w' H=>x_ld (v:=al) rfl (ldb_sc Sc29 (H.bl 4) rfl)) ?_;refine ts_q rfl (fun w' H=>x_mv (v:=I (i:Int)) rfl) ?_;obtain ⟨ow,hM⟩:=M.e_gd hM;refine ts_q rfl (fun w' H=>x_ix (v:=vat al 1 (Int.toNat (i:Int))) rfl rfl (Sl.ix (α:=Int) T29.und T29.size (H.os 2) (by omega) (by omega))) ?_;refine ts_q rfl (fun w' H=>x_ld (v:=I (l2.getD i 0)) rfl (ld_sc Sc3 (At.mono (Int_at (H.os 2) (i:=(i:Int)) (by omega) (by omega)) (H.ol 2)))) ?_;refine ts_q rfl (fun w' H=>x_mv (v:=Pq ah) rfl) ?_;refine ts_q rfl (fun w' H=>x_fa (v:=Pq aq) rfl (fa_blk (o:=0) Fd31_0 Sz29)) ?_;refine ts_q rfl (fun w' H=>x_ld (v:=al) rfl (ldb_sc Sc29 (H.bl 4) rfl)) ?_;refine ts_q rfl (fun w' H=>x_mv (v:=I (i:Int)) rfl) ?_;refine ts_q rfl (fun w' H=>x_ix (v:=vat al 1 (Int.toNat (i:Int))) rfl rfl (Sl.ix (α:=Int) T29.und T29.size (H.os 2) (by omega) (by omega))) ?_;refine ts_q rfl (fun w' H=>x_ld (v:=I (l2.getD i 0)) rfl (ld_sc Sc3 (At.mono (Int_at (H.os 2) (i:=(i:Int)) (by omega) (by omega)) (H.ol 2)))) ?_;refine ts_q rfl (fun w' H=>x_mv (v:=Pq ah) rfl) ?_;refine ts_q rfl (fun w' H=>x_fa (v:=Oq aq 1) rfl (fa_blk (o:=0) Fd31_1 Sz29)) ?_;refine ts_q rfl (fun w' H=>x_ld (v:=am) rfl (ldb_sc Sc29 (H.bl 4) rfl)) ?_;refine ts_q rfl (fun w' H=>x_mv (v:=I (i:Int)) rfl) ?_;obtain ⟨ox,hM⟩:=M.e_gd hM;refine ts_q rfl (fun w' H=>x_ix (v:=vat am 1 (Int.toNat (i:Int))) rfl rfl (Sl.ix (α:=Int) T29.und T29.size (H.os 1) (by omega) (by omega))) ?_;refine ts_q rfl (fun w' H=>x_ld (v:=I (l3.getD i 0)) rfl (ld_sc Sc3 (At.mono (Int_at (H.os 1) (i:=(i:Int)) (by omega) (by omega)) (H.ol 1)))) ?_;refine ts_q rfl (fun w' H=>x_mv (v:=Pq ah) rfl) ?_;refine ts_q rfl (fun w' H=>x_fa (v:=Oq aq 1) rfl (fa_blk (o:=0) Fd31_1 Sz29)) ?_;refine ts_q rfl (fun w' H=>x_ld (v:=am) rfl (ldb_sc Sc29 (H.bl 4) rfl)) ?_;refine ts_q rfl (fun w' H=>x_mv (v:=I (i:Int)) rfl) ?_;refine ts_q rfl (fun w' H=>x_ix (v:=vat am 1 (Int.toNat (i:Int))) rfl rfl (Sl.ix (α:=Int) T29.und T29.size (H.os 1) (by omega) (by omega))) ?_;refine ts_q rfl (fun w' H=>x_ld (v:=I (l3.getD i 0)) rfl (ld_sc Sc3 (At.mono (Int_at (H.os 1) (i:=(i:Int)) (by omega) (by omega)) (H.ol 1)))) ?_;refine ts_q rfl (fun w' H=>x_mv (v:=Pq ah) rfl) ?_;refine ts_l rfl ?_;obtain ⟨oy,dU,hM⟩:=M.e_bind hM;refine s_call cf7 [Pq ah,I 40] rfl (zab s_bytes cj ck 40 (au.app _) av dU _ (H.gt 9)) ?_
   rintro vq oz ⟨aH,dV,dW,rfl,hvq,ae⟩
   subst vq;(try dsimp only at hM);replace H:=H.bk ae;clear ae
   have oA:=Sl.cells (H.os 1)
   have oB:=Sl.oc (H.os 1)
   refine s_nil ⟨(H.pk [2,3,4,5,6,7,8,9]),?_⟩
   obtain ⟨oC,hM⟩:=M.e_gd hM;refine ts_q rfl (fun w' H=>x_ari (r:=(l2.getD i 0)-aH) rfl rfl rfl (by omega)) ?_;refine ts_q rfl (fun w' H=>x_max (kd:=.i64) (a:=0) (b:=(l2.getD i 0)-aH) rfl rfl) ?_;refine ts_l rfl ?_;obtain ⟨oD,dX,hM⟩:=M.e_bind hM;refine s_call cf7 [Pq ah,I 40] rfl (zab s_bytes dV dW 40 (au.app _) av dX _ (H.gt 9)) ?_
   rintro vq oE ⟨aJ,dY,dZ,rfl,hvq,ae⟩
   subst vq;(try dsimp only at hM);replace H:=H.bk ae;clear ae
   refine s_nil ⟨(H.pk [2,3,4,5,6,7,8,9]),?_⟩
   obtain ⟨oF,hM⟩:=M.e_gd hM;refine ts_q rfl (fun w' H=>x_ari (r:=(l2.getD i 0)+aJ) rfl rfl rfl (by omega)) ?_;refine ts_q rfl (fun w' H=>x_bld (ps:=[(0,I (max 0 ((l2.getD i 0)-aH))),(1,I ((l2.getD i 0)+aJ))]) (zs:=[I 0,I 0]) (L':=[I (max 0 ((l2.getD i 0)-aH)),I ((l2.getD i 0)+aJ)]) rfl Tryz.underlying24 Al24 rfl (Bd24 Tryz.underlying24) (.cons (cs:=[I (max 0 ((l2.getD i 0)-aH))]) rfl rfl rfl rfl rfl<|.cons (cs:=[I ((l2.getD i 0)+aJ)]) rfl rfl rfl rfl rfl<|.nil)) ?_;refine ts_l rfl ?_;obtain ⟨oG,d4,hM⟩:=M.e_bind hM;refine s_call cf7 [Pq ah,I 9] rfl (zab s_bytes dY dZ 9 (au.app _) av d4 _ (H.gt 9)) ?_
   rintro vq oH ⟨aK,d5,d6,rfl,hvq,ae⟩
   subst vq;(try dsimp only at hM);replace H:=H.bk ae;clear ae
   refine s_nil ⟨(H.pk [2,3,4,5,6,7,8,9]),?_⟩
   obtain ⟨oI,hM⟩:=M.e_gd hM;refine ts_q rfl (fun w' H=>x_ari (r:=(l3.getD i 0)-aK) rfl rfl rfl (by omega)) ?_;refine ts_l rfl ?_;obtain ⟨oJ,d7,hM⟩:=M.e_bind hM;refine s_call cf7 [Pq ah,I 9] rfl (zab s_bytes d5 d6 9 (au.app _) av d7 _ (H.gt 9)) ?_
   rintro vq oK ⟨aL,d8,d9,rfl,hvq,ae⟩
   subst vq;(try dsimp only at hM);replace H:=H.bk ae;clear ae
   refine s_nil ⟨(H.pk [2,3,4,5,6,7,8,9]),?_⟩
   obtain ⟨oL,hM⟩:=M.e_gd hM;refine ts_q rfl (fun w' H=>x_ari (r:=(l3.getD i 0)+aL) rfl rfl rfl (by omega)) ?_;refine ts_q rfl (fun w' H=>x_bld (ps:=[(0,I ((l3.getD i 0)-aK)),(1,I ((l3.getD i 0)+aL))]) (zs:=[I 0,I 0]) (L':=[I ((l3.getD i 0)-aK),I ((l3.getD i 0)+aL)]) rfl Tryz.underlying24 Al24 rfl (Bd24 Tryz.underlying24) (.cons (cs:=[I ((l3.getD i 0)-aK)]) rfl rfl rfl rfl rfl<|.cons (cs:=[I ((l3.getD i 0)+aL)]) rfl rfl rfl rfl rfl<|.nil)) ?_;refine ts_q rfl (fun w' H=>x_bld (ps:=[(0,I (i:Int)),(1,.agg #[I (max 0 ((l2.getD i 0)-aH)),I ((l2.getD i 0)+aJ)]),(2,.agg #[I ((l3.getD i 0)-aK),I ((l3.getD i 0)+aL)])]) (zs:=[I 0,I 0,I 0,I 0,I 0]) (L':=[I (i:Int),I (max 0 ((l2.getD i 0)-aH)),I ((l2.getD i 0)+aJ),I ((l3.getD i 0)-aK),I ((l3.getD i 0)+aL)]) rfl Tryz.underlying59 Al59 rfl (Bd59 Tryz.underlying59) (.cons (cs:=[I (i:Int)]) rfl rfl rfl rfl rfl<|.cons (cs:=[I (max 0 ((l2.getD i 0)-aH)),I ((l2.getD i 0)+aJ)]) rfl rfl rfl rfl rfl<|.cons (cs:=[I ((l3.getD i 0)-aK),I ((l3.getD i 0)+aL)]) rfl rfl rfl rfl rfl<|.nil)) ?_;refine ts_l rfl ?_;refine t_bs (α:=CNt) T26 [.agg #[I (i:Int),I (max 0 ((l2.getD i 0)-aH)),I ((l2.getD i 0)+aJ),I ((l3.getD i 0)-aK),I ((l3.getD i 0)+aL)]] [(⟨(i:Int),(max 0 ((l2.getD i 0)-aH):Int),((l2.getD i 0)+aJ:Int),((l3.getD i 0)-aK:Int),((l3.getD i 0)+aL:Int)⟩:CNt)] H rfl (.cons rfl (Flat.rep_enc _ (⟨(i:Int),(max 0 ((l2.getD i 0)-aH):Int),((l2.getD i 0)+aJ:Int),((l3.getD i 0)-aK:Int),((l3.getD i 0)+aL:Int)⟩:CNt))<|.nil) rfl rfl rfl ?_;intro ea oM H
   have oN:=Sl.cells (H.os 0)
   have oO:=Sl.oc (H.os 0)
   refine s_nil ⟨(H.pk [3,4,5,6,7,8,9,10]),?_⟩
   refine ts_l rfl ?_;obtain ⟨oP,hM⟩:=M.e_gd hM;refine t_app (α:=CNt) (k:=2) (l:=aO) (l2:=[(⟨(i:Int),(max 0 ((l2.getD i 0)-aH):Int),((l2.getD i 0)+aJ:Int),((l3.getD i 0)-aK:Int),((l3.getD i 0)+aL:Int)⟩:CNt)]) (l':=aO++([(⟨(i:Int),(max 0 ((l2.getD i 0)-aH):Int),((l2.getD i 0)+aJ:Int),((l3.getD i 0)-aK:Int),((l3.getD i 0)+aL:Int)⟩:CNt)])) (vy:=ea) T26 rfl H rfl rfl rfl (H.os 0) (H.ol 0) (rfl) (by first | omega | (simp only [List.length_nil] at *; omega)) ?_;intro bV oQ H;replace H:=H.nf
   have oR:=Sl.cells (H.os 2)
   have oS:=Sl.oc (H.os 2)
   refine s_nil ⟨(H.pk [3,4,5,6,7,8,9,10]),?_⟩
   refine ts_q rfl (fun w' H=>x_fa (v:=Oq aj 6) rfl (fa_blk (o:=0) Fd28_5 Sz26)) ?_;refine ts_nil ?_;refine sr_l rfl ?_;refine t_sw 8 6 [bV] bV H rfl rfl Sz26 (Sl.cells (H.os 2)) rfl rfl (by simp only [List.all_cons,List.all_nil,Bool.true_and,Bool.and_true,Sl.oc (H.os 2)]; try rfl) ?_;intro oT H
   refine s_nil ⟨trivial,?_⟩
   refine sr_nil ?_;obtain ⟨oU,hM⟩:=M.e_gd hM;refine kg 5 ?_
   exact ⟨ch,ci,d8,d9,i+1,aO++([(⟨(i:Int),(max 0 ((l2.getD i 0)-aH):Int),((l2.getD i 0)+aJ:Int),((l3.getD i 0)-aK:Int),((l3.getD i 0)+aL:Int)⟩:CNt)]),bV,_,upds_of _ _ ⟨rfl,rfl,rfl,rfl,rfl,rfl,trivial⟩,M.e_inl hM bT,(H.pk [2,3,4,5,6,1,7,8,9,10])⟩
  replace hM:=M.e_f hM aU
  replace aU:=dI aU
  obtain ⟨oV,hM⟩:=M.e_gd hM;refine kg 6 ?_
  exact ⟨ch,ci,cj,ck,i+1,aO,aT,_,upds_of _ _ ⟨rfl,rfl,rfl,rfl,rfl,rfl,trivial⟩,M.e_inl hM bT,(H.pk [1,2,3,4,5,0,6,7,8,9])⟩
 replace hM:=M.e_f hM bU;refine W.exit ?_
 have eb:=M.e_inr hM bT
 subst eb;replace hM:=dQ;(try dsimp only at hM)
 have oW:=((H.os 0)).len_le
 refine kg 10 ?_;obtain ⟨ec,bW,ed⟩:=M.e_bind hM
 obtain ⟨b3,bW⟩:=M.e_iter bW
 refine W.loop (fun m σ W=>∃ (aX:Int) (aY:Int) (aa:List CNt) (i2:Int) (ap:Value) (ρ:Env),σ=upds ρ [(0,Pq ah),(6,Pq aw),(7,Pq ax),(8,Pq aj),(9,Pq aq),(17,I i2)]/\M.iterN (zay s_bytes) m (aX,aY,aa,i2)=some ec/\St w W [cOwn (α:=CNt) 59 ap aa,cOwn (α:=Int) 3 ak l4,cOwn (α:=Int) 3 am l3,cOwn (α:=Int) 3 al l2,cOwn (α:=CMk) 57 ao l,cBlk ah [aC,I aX,I aY] 61,cBlk aq [al,am,ak] 31,cBlk aj [I r2,I (r2+r6),I r3,I r4,I r5,ao,ap] 28,cBlk ax [.slice none 0 0,.slice none 0 0,.slice none 0 0] 31,cBlk aw [I 0,I 0,I 0,I 0,I 0,.slice none 0 0,.slice none 0 0] 28] R) ?_ ?_
 ·exact ⟨_,s6,s7,aO,(aO.length:Int)-1,aT,_,upds_of _ _ ⟨rfl,rfl,rfl,rfl,rfl,rfl,trivial⟩,bW,H⟩
 rintro oX σ oY ⟨aX,aY,aa,i2,ap,ρ,rfl,cl,H⟩
 obtain ⟨aZ,a6,oZ,hM,aV⟩:=M.e_iterN cl
 simp only [zay] at hM
 clear cl;refine kg 6 ?_
 refine W.cond (decide (0<i2)) rfl (fun aW=>?_) (fun aW=>?_)
 ·replace hM:=M.e_t hM aW
  replace aW:=dI aW
  obtain ⟨o0,hM⟩:=M.e_gd hM;refine kg 8 ?_;obtain ⟨o1,ef,hM⟩:=M.e_bind hM;refine s_call cf7 [Pq ah,I (i2+1)] rfl (zab s_bytes aX aY (i2+1) (au.app _) av ef _ ((H.pk [5,0,1,2,3,4,6,7,8,9]).gt 9)) ?_
  rintro vq o4 ⟨ac,aD,aE,rfl,hvq,ae⟩
  subst vq;(try dsimp only at hM)
  replace H:=H.pk [5,0,1,2,3,4,6,7,8,9] |>.bk ae
  clear ae;refine kg 2 ?_;refine W.drawTS (fun W=>St w W [cBlk ah [aC,I aD,I aE] 61,cOwn (α:=Int) 3 ak l4,cOwn (α:=Int) 3 am l3,cOwn (α:=Int) 3 al l2,cOwn (α:=CMk) 57 ao l,cBlk aq [al,am,ak] 31,cBlk aj [I r2,I (r2+r6),I r3,I r4,I r5,ao,ap] 28,cBlk ax [.slice none 0 0,.slice none 0 0,.slice none 0 0] 31,cBlk aw [I 0,I 0,I 0,I 0,I 0,.slice none 0 0,.slice none 0 0] 28] R) (.q 0 (.q 1 (.q 2 (.q 3 (.q 4 (.q 5 (.q 6 (.q 7 (.q 8 (.q 11 (.q 12 (.q 13 (.l2 9 (.l2 10 (.l 14 (.l 15 (.l 16 (.l 17 (.l 18 .nil))))) 14 (.l2 10 (.l 15 (.l 16 (.l 17 (.l 18 .nil)))) 15 (.l 10 (.l 16 (.l 17 (.l 18 .nil)))))) 14 (.l2 9 (.l2 10 (.l 15 (.l 16 (.l 17 (.l 18 .nil)))) 15 (.l 10 (.l 16 (.l 17 (.l 18 .nil))))) 15 (.l 9 (.l 10 (.l 16 (.l 17 (.l 18 .nil))))))))))))))))))) 19 [19] mixed (by decide +kernel) rfl ?_;intro o5 ay;replace H:=H.ext ay;clear ay
  refine ⟨(H.pk [0,2,3,4,5,6,7,8,9]),?_⟩
  refine ts_q rfl (fun w' H=>x_fa (v:=Oq aj 6) rfl (fa_blk (o:=0) Fd28_5 Sz26)) ?_;refine ts_q rfl (fun w' H=>x_ld (v:=ap) rfl (ldb_sc Sc26 (H.bl 6) rfl)) ?_;refine ts_q rfl (fun w' H=>x_mv (v:=I i2) rfl) ?_;refine ts_q rfl (fun w' H=>x_fa (v:=Oq aj 6) rfl (fa_blk (o:=0) Fd28_5 Sz26)) ?_;refine ts_q rfl (fun w' H=>x_ld (v:=ap) rfl (ldb_sc Sc26 (H.bl 6) rfl)) ?_;refine ts_q rfl (fun w' H=>x_mv (v:=I ac) rfl) ?_;refine ts_q rfl (fun w' H=>x_fa (v:=Oq aj 6) rfl (fa_blk (o:=0) Fd28_5 Sz26)) ?_;refine ts_q rfl (fun w' H=>x_ld (v:=ap) rfl (ldb_sc Sc26 (H.bl 6) rfl)) ?_;refine ts_q rfl (fun w' H=>x_mv (v:=I ac) rfl) ?_;refine ts_q rfl (fun w' H=>x_fa (v:=Oq aj 6) rfl (fa_blk (o:=0) Fd28_5 Sz26)) ?_;refine ts_q rfl (fun w' H=>x_ld (v:=ap) rfl (ldb_sc Sc26 (H.bl 6) rfl)) ?_;refine ts_q rfl (fun w' H=>x_mv (v:=I i2) rfl) ?_;obtain ⟨o6,hM⟩:=M.e_gd hM;obtain ⟨o7,hM⟩:=M.e_gd hM;obtain ⟨o8,hM⟩:=M.e_gd hM;refine ts_l2 rfl rfl ?_ ?_
  ·skip
   refine kg 1 ?_
   have o9:=Sl.cells (H.os 1)
   have pa:=Sl.oc (H.os 1)
   refine s_nil ⟨(H.pk [0,2,3,4,5,6,7,8,9]),?_⟩
   refine ts_l2 rfl rfl ?_ ?_
   ·skip
    refine s_val (x_ld (v:=.agg #[I ((aa.getD (Int.toNat ac) default).mark),I ((aa.getD (Int.toNat ac) default).tlo),I ((aa.getD (Int.toNat ac) default).thi),I ((aa.getD (Int.toNat ac) default).slo),I ((aa.getD (Int.toNat ac) default).shi)]) rfl (ld_ag Ag59 Sz59 (At.mono (CNt_atA (H.os 1) (i:=ac) (by omega) (by omega)) (H.ol 1)))) ?_
    refine s_nil ⟨(H.pk [0,2,3,4,5,6,7,8,9]),?_⟩
    refine ts_l rfl ?_;refine kg 1 ?_
    refine s_nil ⟨(H.pk [0,2,3,4,5,6,7,8,9]),?_⟩
    refine ts_l rfl<|s_val (x_ld (v:=.agg #[I ((aa.getD (Int.toNat i2) default).mark),I ((aa.getD (Int.toNat i2) default).tlo),I ((aa.getD (Int.toNat i2) default).thi),I ((aa.getD (Int.toNat i2) default).slo),I ((aa.getD (Int.toNat i2) default).shi)]) rfl (ld_ag Ag59 Sz59 (At.mono (CNt_atA (H.os 1) (i:=i2) (by omega) (by omega)) (H.ol 1)))) ?_
    refine s_nil ⟨(H.pk [0,2,3,4,5,6,7,8,9]),?_⟩
    refine ts_l rfl ?_;refine kg 1 ?_
    refine s_nil ⟨(H.pk [0,2,3,4,5,6,7,8,9]),?_⟩
    refine ts_l rfl ?_;refine t_ost (k:=1) (i:=i2) (l:=aa) (l':=aa.set (Int.toNat i2) (aa.getD (Int.toNat ac) default)) (val:=.agg #[I ((aa.getD (Int.toNat ac) default).mark),I ((aa.getD (Int.toNat ac) default).tlo),I ((aa.getD (Int.toNat ac) default).thi),I ((aa.getD (Int.toNat ac) default).slo),I ((aa.getD (Int.toNat ac) default).shi)]) (L':=[cBlk ah [aC,I aD,I aE] 61,cOwn (α:=CNt) 59 ap (aa.set (Int.toNat i2) (aa.getD (Int.toNat ac) default)),cOwn (α:=Int) 3 ak l4,cOwn (α:=Int) 3 am l3,cOwn (α:=Int) 3 al l2,cOwn (α:=CMk) 57 ao l,cBlk aq [al,am,ak] 31,cBlk aj [I r2,I (r2+r6),I r3,I r4,I r5,ao,ap] 28,cBlk ax [.slice none 0 0,.slice none 0 0,.slice none 0 0] 31,cBlk aw [I 0,I 0,I 0,I 0,I 0,.slice none 0 0,.slice none 0 0] 28]) H rfl Sz59 (by omega) (by omega) (aa.getD (Int.toNat ac) default) rfl rfl rfl rfl rfl ?_;intro pb H
    refine s_nil ⟨(H.pk [0,2,3,4,5,6,7,8,9]),?_⟩
    refine ts_l rfl ?_;refine kg 1 ?_
    refine s_nil ⟨(H.pk [0,2,3,4,5,6,7,8,9]),?_⟩
    refine ts_nil ?_;refine sr_l rfl ?_;refine t_ost (k:=1) (i:=ac) (l:=aa.set (Int.toNat i2) (aa.getD (Int.toNat ac) default)) (l':=(aa.set (Int.toNat i2) (aa.getD (Int.toNat ac) default)).set (Int.toNat ac) (aa.getD (Int.toNat i2) default)) (val:=.agg #[I ((aa.getD (Int.toNat i2) default).mark),I ((aa.getD (Int.toNat i2) default).tlo),I ((aa.getD (Int.toNat i2) default).thi),I ((aa.getD (Int.toNat i2) default).slo),I ((aa.getD (Int.toNat i2) default).shi)]) (L':=[cBlk ah [aC,I aD,I aE] 61,cOwn (α:=CNt) 59 ap ((aa.set (Int.toNat i2) (aa.getD (Int.toNat ac) default)).set (Int.toNat ac) (aa.getD (Int.toNat i2) default)),cOwn (α:=Int) 3 ak l4,cOwn (α:=Int) 3 am l3,cOwn (α:=Int) 3 al l2,cOwn (α:=CMk) 57 ao l,cBlk aq [al,am,ak] 31,cBlk aj [I r2,I (r2+r6),I r3,I r4,I r5,ao,ap] 28,cBlk ax [.slice none 0 0,.slice none 0 0,.slice none 0 0] 31,cBlk aw [I 0,I 0,I 0,I 0,I 0,.slice none 0 0,.slice none 0 0] 28]) H rfl Sz59 (by omega) (by omega) (aa.getD (Int.toNat i2) default) rfl rfl rfl rfl rfl ?_;intro pc H
    refine s_nil ⟨trivial,?_⟩
    refine sr_nil ?_;obtain ⟨pe,hM⟩:=M.e_gd hM;refine kg 5 ?_
    exact ⟨aZ,a6,aD,aE,(aa.set (Int.toNat i2) (aa.getD (Int.toNat ac) default)).set (Int.toNat ac) (aa.getD (Int.toNat i2) default),i2-1,ap,_,upds_of _ _ ⟨rfl,rfl,rfl,rfl,rfl,rfl,trivial⟩,M.e_inl hM aV,(H.pk [1,2,3,4,5,0,6,7,8,9])⟩
   skip
   refine kg 1 ?_
   refine s_nil ⟨(H.pk [0,2,3,4,5,6,7,8,9]),?_⟩
   refine ts_l2 rfl rfl ?_ ?_
   ·skip
    refine s_val (x_ld (v:=.agg #[I ((aa.getD (Int.toNat ac) default).mark),I ((aa.getD (Int.toNat ac) default).tlo),I ((aa.getD (Int.toNat ac) default).thi),I ((aa.getD (Int.toNat ac) default).slo),I ((aa.getD (Int.toNat ac) default).shi)]) rfl (ld_ag Ag59 Sz59 (At.mono (CNt_atA (H.os 1) (i:=ac) (by omega) (by omega)) (H.ol 1)))) ?_
    refine s_nil ⟨(H.pk [0,2,3,4,5,6,7,8,9]),?_⟩
    refine ts_l rfl<|s_val (x_ld (v:=.agg #[I ((aa.getD (Int.toNat i2) default).mark),I ((aa.getD (Int.toNat i2) default).tlo),I ((aa.getD (Int.toNat i2) default).thi),I ((aa.getD (Int.toNat i2) default).slo),I ((aa.getD (Int.toNat i2) default).shi)]) rfl (ld_ag Ag59 Sz59 (At.mono (CNt_atA (H.os 1) (i:=i2) (by omega) (by omega)) (H.ol 1)))) ?_
    refine s_nil ⟨(H.pk [0,2,3,4,5,6,7,8,9]),?_⟩
    refine ts_l rfl ?_;refine kg 1 ?_
    refine s_nil ⟨(H.pk [0,2,3,4,5,6,7,8,9]),?_⟩
    refine ts_l rfl ?_;refine t_ost (k:=1) (i:=i2) (l:=aa) (l':=aa.set (Int.toNat i2) (aa.getD (Int.toNat ac) default)) (val:=.agg #[I ((aa.getD (Int.toNat ac) default).mark),I ((aa.getD (Int.toNat ac) default).tlo),I ((aa.getD (Int.toNat ac) default).thi),I ((aa.getD (Int.toNat ac) default).slo),I ((aa.getD (Int.toNat ac) default).shi)]) (L':=[cBlk ah [aC,I aD,I aE] 61,cOwn (α:=CNt) 59 ap (aa.set (Int.toNat i2) (aa.getD (Int.toNat ac) default)),cOwn (α:=Int) 3 ak l4,cOwn (α:=Int) 3 am l3,cOwn (α:=Int) 3 al l2,cOwn (α:=CMk) 57 ao l,cBlk aq [al,am,ak] 31,cBlk aj [I r2,I (r2+r6),I r3,I r4,I r5,ao,ap] 28,cBlk ax [.slice none 0 0,.slice none 0 0,.slice none 0 0] 31,cBlk aw [I 0,I 0,I 0,I 0,I 0,.slice none 0 0,.slice none 0 0] 28]) H rfl Sz59 (by omega) (by omega) (aa.getD (Int.toNat ac) default) rfl rfl rfl rfl rfl ?_;intro pf H
    refine s_nil ⟨(H.pk [0,2,3,4,5,6,7,8,9]),?_⟩
    refine ts_l rfl ?_;refine kg 1 ?_
    refine s_nil ⟨(H.pk [0,2,3,4,5,6,7,8,9]),?_⟩
    refine ts_nil ?_;refine sr_l rfl ?_;refine t_ost (k:=1) (i:=ac) (l:=aa.set (Int.toNat i2) (aa.getD (Int.toNat ac) default)) (l':=(aa.set (Int.toNat i2) (aa.getD (Int.toNat ac) default)).set (Int.toNat ac) (aa.getD (Int.toNat i2) default)) (val:=.agg #[I ((aa.getD (Int.toNat i2) default).mark),I ((aa.getD (Int.toNat i2) default).tlo),I ((aa.getD (Int.toNat i2) default).thi),I ((aa.getD (Int.toNat i2) default).slo),I ((aa.getD (Int.toNat i2) default).shi)]) (L':=[cBlk ah [aC,I aD,I aE] 61,cOwn (α:=CNt) 59 ap ((aa.set (Int.toNat i2) (aa.getD (Int.toNat ac) default)).set (Int.toNat ac) (aa.getD (Int.toNat i2) default)),cOwn (α:=Int) 3 ak l4,cOwn (α:=Int) 3 am l3,cOwn (α:=Int) 3 al l2,cOwn (α:=CMk) 57 ao l,cBlk aq [al,am,ak] 31,cBlk aj [I r2,I (r2+r6),I r3,I r4,I r5,ao,ap] 28,cBlk ax [.slice none 0 0,.slice none 0 0,.slice none 0 0] 31,cBlk aw [I 0,I 0,I 0,I 0,I 0,.slice none 0 0,.slice none 0 0] 28]) H rfl Sz59 (by omega) (by omega) (aa.getD (Int.toNat i2) default) rfl rfl rfl rfl rfl ?_;intro pg H
    refine s_nil ⟨trivial,?_⟩
    refine sr_nil ?_;obtain ⟨pi,hM⟩:=M.e_gd hM;refine kg 5 ?_
    exact ⟨aZ,a6,aD,aE,(aa.set (Int.toNat i2) (aa.getD (Int.toNat ac) default)).set (Int.toNat ac) (aa.getD (Int.toNat i2) default),i2-1,ap,_,upds_of _ _ ⟨rfl,rfl,rfl,rfl,rfl,rfl,trivial⟩,M.e_inl hM aV,(H.pk [1,2,3,4,5,0,6,7,8,9])⟩
   skip
   refine s_val (x_ld (v:=.agg #[I ((aa.getD (Int.toNat i2) default).mark),I ((aa.getD (Int.toNat i2) default).tlo),I ((aa.getD (Int.toNat i2) default).thi),I ((aa.getD (Int.toNat i2) default).slo),I ((aa.getD (Int.toNat i2) default).shi)]) rfl (ld_ag Ag59 Sz59 (At.mono (CNt_atA (H.os 1) (i:=i2) (by omega) (by omega)) (H.ol 1)))) ?_
   refine s_nil ⟨(H.pk [0,2,3,4,5,6,7,8,9]),?_⟩
   refine ts_l rfl<|s_val (x_ld (v:=.agg #[I ((aa.getD (Int.toNat ac) default).mark),I ((aa.getD (Int.toNat ac) default).tlo),I ((aa.getD (Int.toNat ac) default).thi),I ((aa.getD (Int.toNat ac) default).slo),I ((aa.getD (Int.toNat ac) default).shi)]) rfl (ld_ag Ag59 Sz59 (At.mono (CNt_atA (H.os 1) (i:=ac) (by omega) (by omega)) (H.ol 1)))) ?_
   refine s_nil ⟨(H.pk [0,2,3,4,5,6,7,8,9]),?_⟩
   refine ts_l rfl ?_;refine kg 1 ?_
   refine s_nil ⟨(H.pk [0,2,3,4,5,6,7,8,9]),?_⟩
   refine ts_l rfl ?_;refine t_ost (k:=1) (i:=i2) (l:=aa) (l':=aa.set (Int.toNat i2) (aa.getD (Int.toNat ac) default)) (val:=.agg #[I ((aa.getD (Int.toNat ac) default).mark),I ((aa.getD (Int.toNat ac) default).tlo),I ((aa.getD (Int.toNat ac) default).thi),I ((aa.getD (Int.toNat ac) default).slo),I ((aa.getD (Int.toNat ac) default).shi)]) (L':=[cBlk ah [aC,I aD,I aE] 61,cOwn (α:=CNt) 59 ap (aa.set (Int.toNat i2) (aa.getD (Int.toNat ac) default)),cOwn (α:=Int) 3 ak l4,cOwn (α:=Int) 3 am l3,cOwn (α:=Int) 3 al l2,cOwn (α:=CMk) 57 ao l,cBlk aq [al,am,ak] 31,cBlk aj [I r2,I (r2+r6),I r3,I r4,I r5,ao,ap] 28,cBlk ax [.slice none 0 0,.slice none 0 0,.slice none 0 0] 31,cBlk aw [I 0,I 0,I 0,I 0,I 0,.slice none 0 0,.slice none 0 0] 28]) H rfl Sz59 (by omega) (by omega) (aa.getD (Int.toNat ac) default) rfl rfl rfl rfl rfl ?_;intro pj H
   refine s_nil ⟨(H.pk [0,2,3,4,5,6,7,8,9]),?_⟩
   refine ts_l rfl ?_;refine kg 1 ?_
   refine s_nil ⟨(H.pk [0,2,3,4,5,6,7,8,9]),?_⟩
   refine ts_nil ?_;refine sr_l rfl ?_;refine t_ost (k:=1) (i:=ac) (l:=aa.set (Int.toNat i2) (aa.getD (Int.toNat ac) default)) (l':=(aa.set (Int.toNat i2) (aa.getD (Int.toNat ac) default)).set (Int.toNat ac) (aa.getD (Int.toNat i2) default)) (val:=.agg #[I ((aa.getD (Int.toNat i2) default).mark),I ((aa.getD (Int.toNat i2) default).tlo),I ((aa.getD (Int.toNat i2) default).thi),I ((aa.getD (Int.toNat i2) default).slo),I ((aa.getD (Int.toNat i2) default).shi)]) (L':=[cBlk ah [aC,I aD,I aE] 61,cOwn (α:=CNt) 59 ap ((aa.set (Int.toNat i2) (aa.getD (Int.toNat ac) default)).set (Int.toNat ac) (aa.getD (Int.toNat i2) default)),cOwn (α:=Int) 3 ak l4,cOwn (α:=Int) 3 am l3,cOwn (α:=Int) 3 al l2,cOwn (α:=CMk) 57 ao l,cBlk aq [al,am,ak] 31,cBlk aj [I r2,I (r2+r6),I r3,I r4,I r5,ao,ap] 28,cBlk ax [.slice none 0 0,.slice none 0 0,.slice none 0 0] 31,cBlk aw [I 0,I 0,I 0,I 0,I 0,.slice none 0 0,.slice none 0 0] 28]) H rfl Sz59 (by omega) (by omega) (aa.getD (Int.toNat i2) default) rfl rfl rfl rfl rfl ?_;intro pm H
   refine s_nil ⟨trivial,?_⟩
   refine sr_nil ?_;obtain ⟨pn,hM⟩:=M.e_gd hM;refine kg 5 ?_
   exact ⟨aZ,a6,aD,aE,(aa.set (Int.toNat i2) (aa.getD (Int.toNat ac) default)).set (Int.toNat ac) (aa.getD (Int.toNat i2) default),i2-1,ap,_,upds_of _ _ ⟨rfl,rfl,rfl,rfl,rfl,rfl,trivial⟩,M.e_inl hM aV,(H.pk [1,2,3,4,5,0,6,7,8,9])⟩
  skip
  refine kg 1 ?_
  have po:=Sl.cells (H.os 1)
  have pp:=Sl.oc (H.os 1)
  refine s_nil ⟨(H.pk [0,2,3,4,5,6,7,8,9]),?_⟩
  refine ts_l2 rfl rfl ?_ ?_
  ·skip
   refine kg 1 ?_
   refine s_nil ⟨(H.pk [0,2,3,4,5,6,7,8,9]),?_⟩
   refine ts_l2 rfl rfl ?_ ?_
   ·skip
    refine s_val (x_ld (v:=.agg #[I ((aa.getD (Int.toNat ac) default).mark),I ((aa.getD (Int.toNat ac) default).tlo),I ((aa.getD (Int.toNat ac) default).thi),I ((aa.getD (Int.toNat ac) default).slo),I ((aa.getD (Int.toNat ac) default).shi)]) rfl (ld_ag Ag59 Sz59 (At.mono (CNt_atA (H.os 1) (i:=ac) (by omega) (by omega)) (H.ol 1)))) ?_
    refine s_nil ⟨(H.pk [0,2,3,4,5,6,7,8,9]),?_⟩
    refine ts_l rfl<|s_val (x_ld (v:=.agg #[I ((aa.getD (Int.toNat i2) default).mark),I ((aa.getD (Int.toNat i2) default).tlo),I ((aa.getD (Int.toNat i2) default).thi),I ((aa.getD (Int.toNat i2) default).slo),I ((aa.getD (Int.toNat i2) default).shi)]) rfl (ld_ag Ag59 Sz59 (At.mono (CNt_atA (H.os 1) (i:=i2) (by omega) (by omega)) (H.ol 1)))) ?_
    refine s_nil ⟨(H.pk [0,2,3,4,5,6,7,8,9]),?_⟩
    refine ts_l rfl ?_;refine kg 1 ?_
    refine s_nil ⟨(H.pk [0,2,3,4,5,6,7,8,9]),?_⟩
    refine ts_l rfl ?_;refine t_ost (k:=1) (i:=i2) (l:=aa) (l':=aa.set (Int.toNat i2) (aa.getD (Int.toNat ac) default)) (val:=.agg #[I ((aa.getD (Int.toNat ac) default).mark),I ((aa.getD (Int.toNat ac) default).tlo),I ((aa.getD (Int.toNat ac) default).thi),I ((aa.getD (Int.toNat ac) default).slo),I ((aa.getD (Int.toNat ac) default).shi)]) (L':=[cBlk ah [aC,I aD,I aE] 61,cOwn (α:=CNt) 59 ap (aa.set (Int.toNat i2) (aa.getD (Int.toNat ac) default)),cOwn (α:=Int) 3 ak l4,cOwn (α:=Int) 3 am l3,cOwn (α:=Int) 3 al l2,cOwn (α:=CMk) 57 ao l,cBlk aq [al,am,ak] 31,cBlk aj [I r2,I (r2+r6),I r3,I r4,I r5,ao,ap] 28,cBlk ax [.slice none 0 0,.slice none 0 0,.slice none 0 0] 31,cBlk aw [I 0,I 0,I 0,I 0,I 0,.slice none 0 0,.slice none 0 0] 28]) H rfl Sz59 (by omega) (by omega) (aa.getD (Int.toNat ac) default) rfl rfl rfl rfl rfl ?_;intro pq H
    refine s_nil ⟨(H.pk [0,2,3,4,5,6,7,8,9]),?_⟩
    refine ts_l rfl ?_;refine kg 1 ?_
    refine s_nil ⟨(H.pk [0,2,3,4,5,6,7,8,9]),?_⟩
    refine ts_nil ?_;refine sr_l rfl ?_;refine t_ost (k:=1) (i:=ac) (l:=aa.set (Int.toNat i2) (aa.getD (Int.toNat ac) default)) (l':=(aa.set (Int.toNat i2) (aa.getD (Int.toNat ac) default)).set (Int.toNat ac) (aa.getD (Int.toNat i2) default)) (val:=.agg #[I ((aa.getD (Int.toNat i2) default).mark),I ((aa.getD (Int.toNat i2) default).tlo),I ((aa.getD (Int.toNat i2) default).thi),I ((aa.getD (Int.toNat i2) default).slo),I ((aa.getD (Int.toNat i2) default).shi)]) (L':=[cBlk ah [aC,I aD,I aE] 61,cOwn (α:=CNt) 59 ap ((aa.set (Int.toNat i2) (aa.getD (Int.toNat ac) default)).set (Int.toNat ac) (aa.getD (Int.toNat i2) default)),cOwn (α:=Int) 3 ak l4,cOwn (α:=Int) 3 am l3,cOwn (α:=Int) 3 al l2,cOwn (α:=CMk) 57 ao l,cBlk aq [al,am,ak] 31,cBlk aj [I r2,I (r2+r6),I r3,I r4,I r5,ao,ap] 28,cBlk ax [.slice none 0 0,.slice none 0 0,.slice none 0 0] 31,cBlk aw [I 0,I 0,I 0,I 0,I 0,.slice none 0 0,.slice none 0 0] 28]) H rfl Sz59 (by omega) (by omega) (aa.getD (Int.toNat i2) default) rfl rfl rfl rfl rfl ?_;intro pt H
    refine s_nil ⟨trivial,?_⟩
    refine sr_nil ?_;obtain ⟨pu,hM⟩:=M.e_gd hM;refine kg 5 ?_
    exact ⟨aZ,a6,aD,aE,(aa.set (Int.toNat i2) (aa.getD (Int.toNat ac) default)).set (Int.toNat ac) (aa.getD (Int.toNat i2) default),i2-1,ap,_,upds_of _ _ ⟨rfl,rfl,rfl,rfl,rfl,rfl,trivial⟩,M.e_inl hM aV,(H.pk [1,2,3,4,5,0,6,7,8,9])⟩
   skip
   refine s_val (x_ld (v:=.agg #[I ((aa.getD (Int.toNat i2) default).mark),I ((aa.getD (Int.toNat i2) default).tlo),I ((aa.getD (Int.toNat i2) default).thi),I ((aa.getD (Int.toNat i2) default).slo),I ((aa.getD (Int.toNat i2) default).shi)]) rfl (ld_ag Ag59 Sz59 (At.mono (CNt_atA (H.os 1) (i:=i2) (by omega) (by omega)) (H.ol 1)))) ?_
   refine s_nil ⟨(H.pk [0,2,3,4,5,6,7,8,9]),?_⟩
   refine ts_l rfl<|s_val (x_ld (v:=.agg #[I ((aa.getD (Int.toNat ac) default).mark),I ((aa.getD (Int.toNat ac) default).tlo),I ((aa.getD (Int.toNat ac) default).thi),I ((aa.getD (Int.toNat ac) default).slo),I ((aa.getD (Int.toNat ac) default).shi)]) rfl (ld_ag Ag59 Sz59 (At.mono (CNt_atA (H.os 1) (i:=ac) (by omega) (by omega)) (H.ol 1)))) ?_
   refine s_nil ⟨(H.pk [0,2,3,4,5,6,7,8,9]),?_⟩
   refine ts_l rfl ?_;refine kg 1 ?_
   refine s_nil ⟨(H.pk [0,2,3,4,5,6,7,8,9]),?_⟩
   refine ts_l rfl ?_;refine t_ost (k:=1) (i:=i2) (l:=aa) (l':=aa.set (Int.toNat i2) (aa.getD (Int.toNat ac) default)) (val:=.agg #[I ((aa.getD (Int.toNat ac) default).mark),I ((aa.getD (Int.toNat ac) default).tlo),I ((aa.getD (Int.toNat ac) default).thi),I ((aa.getD (Int.toNat ac) default).slo),I ((aa.getD (Int.toNat ac) default).shi)]) (L':=[cBlk ah [aC,I aD,I aE] 61,cOwn (α:=CNt) 59 ap (aa.set (Int.toNat i2) (aa.getD (Int.toNat ac) default)),cOwn (α:=Int) 3 ak l4,cOwn (α:=Int) 3 am l3,cOwn (α:=Int) 3 al l2,cOwn (α:=CMk) 57 ao l,cBlk aq [al,am,ak] 31,cBlk aj [I r2,I (r2+r6),I r3,I r4,I r5,ao,ap] 28,cBlk ax [.slice none 0 0,.slice none 0 0,.slice none 0 0] 31,cBlk aw [I 0,I 0,I 0,I 0,I 0,.slice none 0 0,.slice none 0 0] 28]) H rfl Sz59 (by omega) (by omega) (aa.getD (Int.toNat ac) default) rfl rfl rfl rfl rfl ?_;intro pv H
   refine s_nil ⟨(H.pk [0,2,3,4,5,6,7,8,9]),?_⟩
   refine ts_l rfl ?_;refine kg 1 ?_
   refine s_nil ⟨(H.pk [0,2,3,4,5,6,7,8,9]),?_⟩
   refine ts_nil ?_;refine sr_l rfl ?_;refine t_ost (k:=1) (i:=ac) (l:=aa.set (Int.toNat i2) (aa.getD (Int.toNat ac) default)) (l':=(aa.set (Int.toNat i2) (aa.getD (Int.toNat ac) default)).set (Int.toNat ac) (aa.getD (Int.toNat i2) default)) (val:=.agg #[I ((aa.getD (Int.toNat i2) default).mark),I ((aa.getD (Int.toNat i2) default).tlo),I ((aa.getD (Int.toNat i2) default).thi),I ((aa.getD (Int.toNat i2) default).slo),I ((aa.getD (Int.toNat i2) default).shi)]) (L':=[cBlk ah [aC,I aD,I aE] 61,cOwn (α:=CNt) 59 ap ((aa.set (Int.toNat i2) (aa.getD (Int.toNat ac) default)).set (Int.toNat ac) (aa.getD (Int.toNat i2) default)),cOwn (α:=Int) 3 ak l4,cOwn (α:=Int) 3 am l3,cOwn (α:=Int) 3 al l2,cOwn (α:=CMk) 57 ao l,cBlk aq [al,am,ak] 31,cBlk aj [I r2,I (r2+r6),I r3,I r4,I r5,ao,ap] 28,cBlk ax [.slice none 0 0,.slice none 0 0,.slice none 0 0] 31,cBlk aw [I 0,I 0,I 0,I 0,I 0,.slice none 0 0,.slice none 0 0] 28]) H rfl Sz59 (by omega) (by omega) (aa.getD (Int.toNat i2) default) rfl rfl rfl rfl rfl ?_;intro pw H
   refine s_nil ⟨trivial,?_⟩
   refine sr_nil ?_;obtain ⟨px,hM⟩:=M.e_gd hM;refine kg 5 ?_
   exact ⟨aZ,a6,aD,aE,(aa.set (Int.toNat i2) (aa.getD (Int.toNat ac) default)).set (Int.toNat ac) (aa.getD (Int.toNat i2) default),i2-1,ap,_,upds_of _ _ ⟨rfl,rfl,rfl,rfl,rfl,rfl,trivial⟩,M.e_inl hM aV,(H.pk [1,2,3,4,5,0,6,7,8,9])⟩
  skip
  refine s_val (x_ld (v:=.agg #[I ((aa.getD (Int.toNat i2) default).mark),I ((aa.getD (Int.toNat i2) default).tlo),I ((aa.getD (Int.toNat i2) default).thi),I ((aa.getD (Int.toNat i2) default).slo),I ((aa.getD (Int.toNat i2) default).shi)]) rfl (ld_ag Ag59 Sz59 (At.mono (CNt_atA (H.os 1) (i:=i2) (by omega) (by omega)) (H.ol 1)))) ?_
  refine s_nil ⟨(H.pk [0,2,3,4,5,6,7,8,9]),?_⟩
  refine ts_l rfl ?_;refine kg 1 ?_
  refine s_nil ⟨(H.pk [0,2,3,4,5,6,7,8,9]),?_⟩
  refine ts_l rfl<|s_val (x_ld (v:=.agg #[I ((aa.getD (Int.toNat ac) default).mark),I ((aa.getD (Int.toNat ac) default).tlo),I ((aa.getD (Int.toNat ac) default).thi),I ((aa.getD (Int.toNat ac) default).slo),I ((aa.getD (Int.toNat ac) default).shi)]) rfl (ld_ag Ag59 Sz59 (At.mono (CNt_atA (H.os 1) (i:=ac) (by omega) (by omega)) (H.ol 1)))) ?_
  refine s_nil ⟨(H.pk [0,2,3,4,5,6,7,8,9]),?_⟩
  refine ts_l rfl ?_;refine kg 1 ?_
  refine s_nil ⟨(H.pk [0,2,3,4,5,6,7,8,9]),?_⟩
  refine ts_l rfl ?_;refine t_ost (k:=1) (i:=i2) (l:=aa) (l':=aa.set (Int.toNat i2) (aa.getD (Int.toNat ac) default)) (val:=.agg #[I ((aa.getD (Int.toNat ac) default).mark),I ((aa.getD (Int.toNat ac) default).tlo),I ((aa.getD (Int.toNat ac) default).thi),I ((aa.getD (Int.toNat ac) default).slo),I ((aa.getD (Int.toNat ac) default).shi)]) (L':=[cBlk ah [aC,I aD,I aE] 61,cOwn (α:=CNt) 59 ap (aa.set (Int.toNat i2) (aa.getD (Int.toNat ac) default)),cOwn (α:=Int) 3 ak l4,cOwn (α:=Int) 3 am l3,cOwn (α:=Int) 3 al l2,cOwn (α:=CMk) 57 ao l,cBlk aq [al,am,ak] 31,cBlk aj [I r2,I (r2+r6),I r3,I r4,I r5,ao,ap] 28,cBlk ax [.slice none 0 0,.slice none 0 0,.slice none 0 0] 31,cBlk aw [I 0,I 0,I 0,I 0,I 0,.slice none 0 0,.slice none 0 0] 28]) H rfl Sz59 (by omega) (by omega) (aa.getD (Int.toNat ac) default) rfl rfl rfl rfl rfl ?_;intro py H
  refine s_nil ⟨(H.pk [0,2,3,4,5,6,7,8,9]),?_⟩
  refine ts_l rfl ?_;refine kg 1 ?_
  refine s_nil ⟨(H.pk [0,2,3,4,5,6,7,8,9]),?_⟩
  refine ts_nil ?_;refine sr_l rfl ?_;refine t_ost (k:=1) (i:=ac) (l:=aa.set (Int.toNat i2) (aa.getD (Int.toNat ac) default)) (l':=(aa.set (Int.toNat i2) (aa.getD (Int.toNat ac) default)).set (Int.toNat ac) (aa.getD (Int.toNat i2) default)) (val:=.agg #[I ((aa.getD (Int.toNat i2) default).mark),I ((aa.getD (Int.toNat i2) default).tlo),I ((aa.getD (Int.toNat i2) default).thi),I ((aa.getD (Int.toNat i2) default).slo),I ((aa.getD (Int.toNat i2) default).shi)]) (L':=[cBlk ah [aC,I aD,I aE] 61,cOwn (α:=CNt) 59 ap ((aa.set (Int.toNat i2) (aa.getD (Int.toNat ac) default)).set (Int.toNat ac) (aa.getD (Int.toNat i2) default)),cOwn (α:=Int) 3 ak l4,cOwn (α:=Int) 3 am l3,cOwn (α:=Int) 3 al l2,cOwn (α:=CMk) 57 ao l,cBlk aq [al,am,ak] 31,cBlk aj [I r2,I (r2+r6),I r3,I r4,I r5,ao,ap] 28,cBlk ax [.slice none 0 0,.slice none 0 0,.slice none 0 0] 31,cBlk aw [I 0,I 0,I 0,I 0,I 0,.slice none 0 0,.slice none 0 0] 28]) H rfl Sz59 (by omega) (by omega) (aa.getD (Int.toNat i2) default) rfl rfl rfl rfl rfl ?_;intro pz H
  refine s_nil ⟨trivial,?_⟩
  refine sr_nil ?_;obtain ⟨pA,hM⟩:=M.e_gd hM;refine kg 5 ?_
  exact ⟨aZ,a6,aD,aE,(aa.set (Int.toNat i2) (aa.getD (Int.toNat ac) default)).set (Int.toNat ac) (aa.getD (Int.toNat i2) default),i2-1,ap,_,upds_of _ _ ⟨rfl,rfl,rfl,rfl,rfl,rfl,trivial⟩,M.e_inl hM aV,(H.pk [1,2,3,4,5,0,6,7,8,9])⟩
 replace hM:=M.e_f hM aW
 replace aW:=dI aW
 refine W.exit ?_
 have eg:=M.e_inr hM aV
 subst eg;replace hM:=ed;(try dsimp only at hM);refine W.seq ?_;refine W.draw (fun W=>St w W [cOwn (α:=CNt) 59 ap aa,cOwn (α:=Int) 3 ak l4,cOwn (α:=Int) 3 am l3,cOwn (α:=Int) 3 al l2,cOwn (α:=CMk) 57 ao l,cBlk ah [aC,I aX,I aY] 61,cBlk aq [al,am,ak] 31,cBlk aj [I r2,I (r2+r6),I r3,I r4,I r5,ao,ap] 28] R) [(0,true),(1,true),(2,false),(3,false)] mixed (by decide +kernel) rfl ?_;intro pB ay;replace H:=H.ext ay;clear ay
 refine ⟨(H.pk [0,1,2,3,4,5,6,7]),?_⟩
 refine kg 2 ?_;refine d_l rfl ?_;refine t_sw 9 0 [I r2,I (r2+r6),I r3,I r4,I r5,ao,ap] (.agg #[I r2,I (r2+r6),I r3,I r4,I r5,ao,ap]) H rfl rfl Sz28 rfl rfl rfl (by simp only [List.all_cons,List.all_nil,Bool.true_and,Bool.and_true,Sl.oc (H.os 4),Sl.oc (H.os 0)]; try rfl) ?_;intro pC H
 refine s_nil ⟨(H.pk [0,1,2,3,4,5,6,7]),?_⟩
 refine d_l rfl ?_;refine t_sw 8 0 [al,am,ak] (.agg #[al,am,ak]) H rfl rfl Sz31 rfl rfl rfl (by simp only [List.all_cons,List.all_nil,Bool.true_and,Bool.and_true,Sl.oc (H.os 3),Sl.oc (H.os 2),Sl.oc (H.os 1)]; try rfl) ?_;intro pD H
 refine s_nil ⟨(H.pk [0,1,2,3,4,5,6,7]),?_⟩
 refine d_nil ?_;replace H:=H.pk [0,1,2,3,4,5,8,9];refine W.ret ?_
 have eh:=(H.bl 7)
 have ei:=(H.bl 6)
 have ej:=M.e_pure hM
 exact ⟨_,(resE_ofn (vs:=[.agg #[I r2,I (r2+r6),I r3,I r4,I r5,ao,ap],.agg #[al,am,ak]]) rfl rfl (.cell (v:=.agg #[I r2,I (r2+r6),I r3,I r4,I r5,ao,ap]) rfl (run_loadVar_ag (ds:=[I r2,I (r2+r6),I r3,I r4,I r5,ao,ap]) Ag28 Sz28 eh rfl rfl)<|.cell (v:=.agg #[al,am,ak]) rfl (run_loadVar_ag (ds:=[al,am,ak]) Ag31 Sz31 ei rfl rfl)<|.nil)),⟨r2,(r2+r6),r3,r4,r5,l,aa,l2,l3,l4,aX,aY,ao,ap,al,am,ak,ej,rfl,(H.pk [4,0,3,2,1,5])⟩⟩

end Go.Proofs.YtdmdhmineljlhabGreat
end
namespace Go.Nm
open Go
theorem x_eqnilA {P:Program} {w:World} {σ:Env} {d:Nat} {ty:TypeId} {pos:String} {af:Array Edge} {g:Option (Nat × Bool)} {t e yt:TypeId} {x y:Operand} {a:Option Addr} {n c:Nat} (ht:P.underlying t=some (.slice e)) (hx:ev σ x = .slice a n c) (hy:ev σ y = .slice none 0 0) :
    (execOp (ev σ) ⟨some d,.binOp .eql t x y yt,ty,pos,af,g⟩).run P w = .ok (.value (.bool a.isNone)) w:=by
  simp [execOp,hx,hy,eqGuard,binOp,run_equal_slice_nil w t e a n c ht]
end Go.Nm
namespace Go.Proofs.YtdmdhmineljlhabGreat
open Go Go.Nm
set_option maxRecDepth 100000 in
theorem clone_any {R:List Chunk} {C_s:Cells} {v_s:Value} (s:List Int) (hC_s:Reads R C_s) (hs_s:Sl C_s v_s s) (hlen:s.length*8<=140737488355328) (w:World) (hsep:Sep w R) :
    Ret Tryz.prog 15 #[v_s] w fun v w'=>St w w' [cOwn (α:=Int) 3 v s] R:=by
 have H:St w w [] R:=St.refl hsep
 obtain ⟨a,c,hv,hc,hm,hk⟩:=hs_s.ex
 refine ret_of_W Tryz.func15 rfl rfl rfl ?_
 refine W.seq ?_
 refine W.region rfl ?_
 refine s_val (x_as (v:=.slice none 0 0) rfl) ?_
 refine s_nil ?_
 refine W.seq ?_
 refine W.seq ?_
 refine W.region rfl ?_
 refine s_val (x_mv (v:=v_s) rfl) ?_
 refine s_val (v:=B a.isNone) (x_eqnilA (a:=a) (n:=s.length) (c:=c) Tryz.underlying29 hv rfl) ?_
 refine s_nil ?_
 refine W.cond a.isNone rfl (fun h=>?_) (fun h=>?_)
 ·have e:s=[]:=by
   cases s with
   | nil=>rfl
   | cons x s =>
    obtain ⟨b,o,cs,ha,_⟩:=hk 0 x rfl
    subst ha
    cases h
  subst e
  refine W.seq ?_
  refine W.region rfl ?_
  refine s_val (x_as (v:=.slice none 0 0) rfl) ?_
  refine s_nil ?_
  refine W.ret ?_
  exact ⟨_,resE_tmp rfl,H.nilOwn (α:=Int) 3⟩
 ·refine W.skip ?_
  refine W.seq ?_
  refine W.region rfl ?_
  refine t_bs0 (α:=Int) T29 H ?_
  intro v3z w4z H
  refine s_val (x_mv (v:=v_s) rfl) ?_
  refine t_app (α:=Int) (k:=0) (l:=[]) (l2:=s) (l':=s) (vy:=v_s) T29 rfl H rfl rfl rfl hs_s (hC_s.at H) (List.nil_append _) (by simp only [List.length_nil]; omega) ?_
  intro v6z w7z H
  refine s_val (x_as (v:=v6z) rfl) ?_
  refine s_nil ?_
  refine W.ret ?_
  exact ⟨_,resE_tmp rfl,H⟩
end Go.Proofs.YtdmdhmineljlhabGreat
section
set_option maxRecDepth 100000
set_option maxHeartbeats 16000000
namespace Go.Proofs.YtdmdhmineljlhabGreat
open Go Go.Nm
attribute [local irreducible] gd execOp SL SLD SLT WR
def zao (ac:List Int) (ae:List Span) (ag:List Int) (ah:List Town) (aa ab:Int) (ai:List Flood) (station:Int):M (Int × Int × Int) :=
  M.pure (station,aa,ab)
theorem zaQ {R:List Chunk} {aj:Cells} {aa:Value} {ak:Cells} {ab:Value} {al:Cells} {ac:Value} {am:Cells} {ae:Value} {ao:Cells} {ag:Value} (ap:List Int) (aq:List Span) (au:List Int) (av:List Town) (ah:Int) (ai:Int) (aw:List Flood) (station:Int) (aC:Reads R aj) (aD:Sl aj aa ap) (aE:Reads R ak) (aF:Sl ak ab aq) (aG:Reads R al) (aH:Sl al ac au) (aI:Reads R am) (aJ:Sl am ae av) (aK:Reads R ao) (aL:Sl ao ag aw) {r:(Int × Int × Int)} (hM:(zao ap aq au av ah ai aw station).Ends r) (w:World) (H:St w w [] R):Ret Tryz.prog 34 #[.agg #[aa,ab,ac,ae,I ah,I ai,ag],I station] w fun v w'=>∃ (y0:Int) (y1:Int) (y2:Int) (ax:Nat) (ay:Nat),(y0,y1,y2)=r/\v = .func (.func 57) #[] #[Pq ax,Pq ay]/\St w w' [cBlk ax [I y0] 3,cBlk ay [aa,ab,ac,ae,I y1,I y2,ag] 40] R:=by
 refine ret_of_W Tryz.func34 rfl rfl rfl ?_;refine kg 2 ?_;refine t_bx [aa,ab,ac,ae,I ah,I ai,ag] H rfl ?_;intro az aM H;refine t_b1 (I station) H rfl rfl ?_;intro aA aN H;refine kg 4 ?_;refine s_val (x_mf (fs:=[]) (cs:=[Pq aA,Pq az]) rfl rfl) ?_;refine kg 2 ?_;refine W.ret ?_
 have aB:=M.e_pure hM
 exact ⟨_,resE_tmp rfl,⟨station,ah,ai,aA,az,aB,rfl,H⟩⟩

def zaH {T_:Type} (ab:T_->(Int × Int)->M (Bool × T_)) (aa:List Int):(Int × Nat × T_)->M ((Int × Nat × T_) ⊕ ((T_ × Int) ⊕ (T_ × Int))):=fun (s,s2,t2) =>
  bif ((s != (-1))&&(decide (s<(aa.length:Int)))) then (
  M.bind (ab t2 ((s2:Int),s)) fun (go,t) =>
  bif !go then (
  M.pure (.inr (.inl (t,s))))
  else (
  M.grd (decide ((0:Int)<=s)&&decide (s<(aa.length:Int))) <|
  M.grd (decide ((-9223372036854775808:Int)<=((s2:Int)+1))&&decide (((s2:Int)+1)<=(9223372036854775807:Int))) <|
  M.pure (.inl (aa.getD (Int.toNat s) 0,s2+1,t))))
  else (
  M.pure (.inr (.inr (t2,s))))
def zak {T_:Type} (aa:T_->(Int × Int)->M (Bool × T_)) (t_:T_) (ab:Int) (ac:List Int) (ae:List Span) (ag:List Int) (ah:List Town) (ai aj:Int) (ak:List Flood):M (T_ × Int) :=
  M.bind (M.iter (zaH aa ac) (ab,0,t_)) fun x_=>match x_ with
  | (.inl (t3,s3))=>(
  M.pure (t3,s3))
  | (.inr (t4,s4))=>(
  M.pure (t4,s4))
theorem zbb {R:List Chunk} {T_:Type} {Y_:T_->List Chunk->Prop} {ac:Value} {ae:List Chunk} {ab:Nat} {ag:Nat} {ap:Cells} {aq:Value} {au:Cells} {av:Value} {aw:Cells} {ax:Value} {ay:Cells} {az:Value} {aA:Cells} {aB:Value} (ah:T_->(Int × Int)->M (Bool × T_)) (t_:T_) (ai:Int) (aa:List Int) (aC:List Span) (aD:List Int) (aE:List Town) (aF:Int) (aG:Int) (aH:List Flood) (aM:YieldC Tryz.prog R arII Y_ ac ah) (aN:Y_ t_ ae) (aV:Reads R ap) (aO:Sl ap aq aa) (aW:Reads R au) (aX:Sl au av aC) (aY:Reads R aw) (aZ:Sl aw ax aD) (a6:Reads R ay) (a7:Sl ay az aE) (a8:Reads R aA) (ba:Sl aA aB aH) (bb:Has R (cBlk ag [aq,av,ax,az,I aF,I aG,aB] 40)) {r:(T_ × Int)} (hM:(zak ah t_ ai aa aC aD aE aF aG aH).Ends r) (w:World) (H:St w w [cAll ae,cBlk ab [I ai] 3] R):Ret Tryz.prog 57 #[ac,Pq ab,Pq ag] w fun v w'=>∃ (y0:T_) (y1:Int) (Ls0:List Chunk),(y0,y1)=r/\v = .tuple #[]/\St w w' [cAll Ls0,cBlk ab [I y1] 3] R/\Y_ y0 Ls0:=by
 refine ret_of_W Tryz.func57 rfl rfl rfl ?_;refine kg 5 ?_;obtain ⟨aP,aj,aI⟩:=M.e_bind hM
 obtain ⟨bc,aj⟩:=M.e_iter aj
 refine W.loop (fun m σ W=>∃ (s:Int) (s2:Nat) (t2:T_) (Ls_t2:List Chunk) (ρ:Env),σ=upds ρ [(0,ac),(1,Pq ab),(2,Pq ag),(4,I (s2:Int))]/\M.iterN (zaH ah aa) m (s,s2,t2)=some aP/\St w W [cAll Ls_t2,cBlk ab [I s] 3] R/\Y_ t2 Ls_t2) ?_ ?_
 ·exact ⟨_,ai,0,t_,ae,_,upds_of _ _ ⟨rfl,rfl,rfl,rfl,trivial⟩,aj,H,aN⟩
 rintro bf σ bg ⟨s,s2,t2,Ls_t2,ρ,rfl,aJ,H,hY_t2⟩
 obtain ⟨aQ,aR,bh,hM,ak⟩:=M.e_iterN aJ
 simp only [zaH] at hM
 clear aJ
 have bi:=(aO).len_le
 refine kg 13 ?_
 refine W.cond ((s != (-1))&&(decide (s<(aa.length:Int)))) rfl (fun al=>?_) (fun al=>?_)
 ·replace hM:=M.e_t hM al;refine kg 9 ?_
  obtain ⟨⟨go,t⟩,aS,hM⟩:=M.e_bind hM
  (try dsimp only at hM);refine t_yield (L:=[cBlk ab [I s] 3]) H aM hY_t2 rfl [I (s2:Int),I s] rfl ((s2:Int),s) Reads.none rfl aS ?_;intro aK bj aL H;replace H:=H.nf;refine kg 2 ?_
  refine W.cond (!go) rfl (fun am=>?_) (fun am=>?_)
  ·replace hM:=M.e_t hM am;refine W.ret ?_
   have aT:=M.e_inr hM ak
   subst aT;replace hM:=aI;(try dsimp only at hM)
   have ao:=M.e_pure hM
   exact ⟨_,resE_tmp0 rfl,⟨t,s,aK,ao,rfl,H,aL⟩⟩
  replace hM:=M.e_f hM am;obtain ⟨bm,hM⟩:=M.e_gd hM;refine kg 7 ?_;refine t_sw 1 0 [I (aa.getD (Int.toNat s) 0)] (I (aa.getD (Int.toNat s) 0)) H rfl rfl Sz3 rfl rfl rfl rfl ?_;intro bn H;obtain ⟨bo,hM⟩:=M.e_gd hM;refine kg 6 ?_
  exact ⟨aQ,aR,aa.getD (Int.toNat s) 0,s2+1,t,aK,_,upds_of _ _ ⟨rfl,rfl,rfl,rfl,trivial⟩,M.e_inl hM ak,H,aL⟩
 replace hM:=M.e_f hM al;refine W.exit ?_
 have aU:=M.e_inr hM ak
 subst aU;replace hM:=aI;(try dsimp only at hM)
 have ao:=M.e_pure hM
 exact ⟨_,resE_tmp0 rfl,⟨t2,s,Ls_t2,ao,rfl,H,hY_t2⟩⟩
theorem zee {T_:Type} {n_:Nat} {y y':T_->(Int × Int)->M (Bool × T_)} (h:∀ s a,M.LeN n_ (y s a) (y' s a)) (t_:T_) (aa:Int) (ab:List Int) (ac:List Span) (ae:List Int) (ag:List Town) (ah ai:Int) (aj:List Flood):M.LeN n_ (zak y t_ aa ab ac ae ag ah ai aj) (zak y' t_ aa ab ac ae ag ah ai aj):=by
  simp only [zak,zaH]
  repeat' (first | refine M.le_grd ?_ | refine M.le_if ?_ ?_ | refine M.le_bind ?_ (fun x=>?_) | refine M.le_opt ?_ | refine M.le_iter (fun x=>?_) _ | exact h _ _ | exact M.le_same _ _ | (rename_i x; cases x) | (rename_i x; obtain ⟨_,_⟩:=x))

def zbe (l:List Span):(Int × Int × Nat)->M ((Int × Int × Nat) ⊕ (Int × Int)):=fun (s,s2,s3) =>
  bif decide ((s3:Int)<(l.length:Int)) then (
  M.grd (decide ((s3:Int)<(l.length:Int))) <|
  M.grd (decide ((-9223372036854775808:Int)<=(s+((l.getD s3 default).lo)))&&decide ((s+((l.getD s3 default).lo))<=(9223372036854775807:Int))) <|
  M.grd (decide ((-9223372036854775808:Int)<=(s2+((l.getD s3 default).hi)))&&decide ((s2+((l.getD s3 default).hi))<=(9223372036854775807:Int))) <|
  M.pure (.inl (s+((l.getD s3 default).lo),s2+((l.getD s3 default).hi),s3+1)))
  else (
  M.pure (.inr (s,s2)))
def zaY (l:List Span):M (Int × Int) :=
  M.bind (M.iter (zbe l) (0,0,0)) fun (s4,s5) =>
  M.pure (s4,s5)
theorem zc5 {R:List Chunk} {ae:Cells} {ab:Value} (l:List Span) (aw:Reads R ae) (ak:Sl ae ab l) {r:(Int × Int)} (hM:(zaY l).Ends r) (w:World) (H:St w w [] R):Ret Tryz.prog 29 #[ab] w fun v w'=>∃ (y0:Int) (y1:Int),(y0,y1)=r/\v = .agg #[I y0,I y1]/\St w w' [] R:=by
 refine ret_of_W Tryz.func29 rfl rfl rfl ?_;refine kg 2 ?_;refine t_alloc (cs:=[I 0,I 0]) H Al24 rfl ?_;intro ag ax H;refine kg 3 ?_;refine t_alloc (cs:=[I 0,I 0]) H Al24 rfl ?_;intro ah ay H
 have az:=(ak).len_le
 refine kg 9 ?_;obtain ⟨al,ac,am⟩:=M.e_bind hM
 obtain ⟨aA,ac⟩:=M.e_iter ac
 refine W.loop (fun m σ W=>∃ (s:Int) (s2:Int) (s3:Nat) (ρ:Env),σ=upds ρ [(2,Pq ag),(3,Pq ah),(6,ab),(7,I (l.length:Int)),(8,I (s3:Int))]/\M.iterN (zbe l) m (s,s2,s3)=some al/\St w W [cBlk ah [I s,I s2] 24,cBlk ag [I 0,I 0] 24] R) ?_ ?_
 ·exact ⟨_,0,0,0,_,upds_of _ _ ⟨rfl,rfl,rfl,rfl,rfl,trivial⟩,ac,H⟩
 rintro aB σ aC ⟨s,s2,s3,ρ,rfl,ai,H⟩
 obtain ⟨ao,ap,aD,hM,aj⟩:=M.e_iterN ai
 simp only [zbe] at hM
 clear ai;refine kg 5 ?_
 refine W.cond (decide ((s3:Int)<(l.length:Int))) rfl (fun aa=>?_) (fun aa=>?_)
 ·replace hM:=M.e_t hM aa
  replace aa:=dI aa
  obtain ⟨aE,hM⟩:=M.e_gd hM;refine kg 7 ?_;refine t_alloc (cs:=[I 0,I 0]) H Al24 rfl ?_;intro aF aG H;refine t_sw 0 0 [I ((l.getD s3 default).lo),I ((l.getD s3 default).hi)] (.agg #[I ((l.getD s3 default).lo),I ((l.getD s3 default).hi)]) H rfl rfl Sz24 rfl rfl rfl rfl ?_;intro aH H;obtain ⟨aI,hM⟩:=M.e_gd hM;obtain ⟨aJ,hM⟩:=M.e_gd hM;refine kg 12 ?_;refine s_val (x_bld (ps:=[(0,I (s+((l.getD s3 default).lo))),(1,I (s2+((l.getD s3 default).hi)))]) (zs:=[I 0,I 0]) (L':=[I (s+((l.getD s3 default).lo)),I (s2+((l.getD s3 default).hi))]) rfl Tryz.underlying24 Al24 rfl (Bd24 Tryz.underlying24) (.cons (cs:=[I (s+((l.getD s3 default).lo))]) rfl rfl rfl rfl rfl<|.cons (cs:=[I (s2+((l.getD s3 default).hi))]) rfl rfl rfl rfl rfl<|.nil)) ?_;refine t_sw 1 0 [I (s+((l.getD s3 default).lo)),I (s2+((l.getD s3 default).hi))] (.agg #[I (s+((l.getD s3 default).lo)),I (s2+((l.getD s3 default).hi))]) H rfl rfl Sz24 rfl rfl rfl rfl ?_;intro aK H;refine kg 5 ?_
  exact ⟨ao,ap,s+((l.getD s3 default).lo),s2+((l.getD s3 default).hi),s3+1,_,upds_of _ _ ⟨rfl,rfl,rfl,rfl,rfl,trivial⟩,M.e_inl hM aj,(H.pk [1,2])⟩
 replace hM:=M.e_f hM aa
 replace aa:=dI aa
 refine W.exit ?_
 have aq:=M.e_inr hM aj
 subst aq;replace hM:=am;(try dsimp only at hM);refine kg 3 ?_;refine t_sw 1 0 [I s,I s2] (.agg #[I s,I s2]) H rfl rfl Sz24 rfl rfl rfl rfl ?_;intro aL H;refine s_nil ?_;refine W.ret ?_
 have au:=(H.bl 1)
 have av:=M.e_pure hM
 exact ⟨_,(resE_of1 (v:=.agg #[I s,I s2]) rfl (.cell (v:=.agg #[I s,I s2]) rfl (run_loadVar_ag (ds:=[I s,I s2]) Ag24 Sz24 au rfl rfl)<|.nil)),⟨s,s2,av,rfl,(H.pk [])⟩⟩

def zas (aa:List Span) (ab:Int):(List Span)->(Int × Int)->M ((List Span) ⊕ ((List Span) × (List Span) × Int × Int)):=fun l (x,x2) =>
  bif x2==ab then (
  M.bind (zaY l) fun (r0,r1) =>
  M.pure (.inr (l,l,r0,r1)))
  else (
  M.grd (decide ((0:Int)<=x2)&&decide (x2<(aa.length:Int))) <|
  M.grd (decide ((l.length+([(aa.getD (Int.toNat x2) default)]).length)*16<=140737488355328)) <|
  M.pure (.inl (l++([(aa.getD (Int.toNat x2) default)]))))
def zaw (ab:List Int) (aa:List Span) (ac:List Int) (ae:List Town) (ah ai:Int) (ag:List Flood) (aj ak:Int):M (Int × Int × Bool) :=
  M.bind (zao ab aa ac ae ah ai ag aj) fun (al,am,ao) =>
  M.bind (zak (M.yl (zas aa ak)) (.inl ([])) al ab aa ac ae am ao ag) fun x_=>match x_ with
  | (.inl l,q0)=>(
  M.pure (0,0,false))
  | (.inr (l2,l3,s,s2),q0)=>(
  M.pure (s,s2,true))
theorem zcG {R:List Chunk} {ao:Nat} {ba:Cells} {ah:Value} {bb:Cells} {ai:Value} {bc:Cells} {aj:Value} {bf:Cells} {ak:Value} {bg:Cells} {al:Value} {bj:Nat} (aH:List Int) (aa:List Span) (aI:List Int) (aJ:List Town) (aB:Int) (aC:Int) (aK:List Flood) (aL:Int) (ab:Int) (aM:Reads R ba) (aU:Sl ba ah aH) (aN:Reads R bb) (aV:Sl bb ai aa) (aO:Reads R bc) (aW:Sl bc aj aI) (aP:Reads R bf) (aX:Sl bf ak aJ) (aQ:Reads R bg) (aY:Sl bg al aK) (aZ:Has R (cBlk ao [ah,ai,aj,ak,I aB,I aC,al,.map (some bj)] 90)) {r:(Int × Int × Bool)} (hM:(zaw aH aa aI aJ aB aC aK aL ab).Ends r) (w:World) (H:St w w [] R):Ret Tryz.prog 28 #[Pq ao,I aL,I ab] w fun v w'=>∃ (y0:Int) (y1:Int) (y2:Bool),(y0,y1,y2)=r/\v = .tuple #[.agg #[I y0,I y1],B y2]/\St w w' [] R:=by
 refine ret_of_WD Tryz.func28 rfl rfl rfl ?_
 replace H:St w w [cMk ([])] R:=H.mk0
 have bE:=aU.len_le
 have bF:=aV.len_le
 have bG:=aW.len_le
 have bH:=aX.len_le
 have bI:=aY.len_le
 unfold zaw at hM
 refine WD.seq<|WD.of<|W.region rfl ?_;refine t_b1 (Pq ao) H rfl rfl ?_;intro ay bJ H;refine t_b1 (I ab) H rfl rfl ?_;intro az bK H;refine t_alloc (cs:=[I 0,I 0]) H Al24 rfl ?_;intro ac bL H;refine t_alloc (cs:=[B false]) H Al4 rfl ?_;intro ae bM H;refine s_nil<|WD.seq<|WD.of<|W.region rfl ?_;refine t_alloc (cs:=[.slice none 0 0]) H Al36 rfl ?_;intro am bN H;refine s_nil<|WD.seq<|WD.seq<|WD.of ?_;refine kg 4 ?_;refine s_val (x_ld (v:=.agg #[ah,ai,aj,ak,I aB,I aC,al]) rfl (ldb_ag (ds:=[ah,ai,aj,ak,I aB,I aC,al]) Ag40 Sz40 (aZ.blk H) rfl rfl)) ?_;refine kg 1 ?_;obtain ⟨bO,bm,hM⟩:=M.e_bind hM;refine s_call cf34 [.agg #[ah,ai,aj,ak,I aB,I aC,al],I aL] rfl (zaQ aH aa aI aJ aB aC aK aL (aM.app _) aU (aN.app _) aV (aO.app _) aW (aP.app _) aX (aQ.app _) aY bm _ (H.gt 6)) ?_
 rintro vq bP ⟨aR,ap,aq,aD,au,rfl,hvq,av⟩
 subst vq;(try dsimp only at hM);replace H:=H.bk av;clear av;refine s_nil<|WD.block ?_
 replace H:=H.nilOwn (α:=Span) 24
 obtain ⟨bQ,bn,hM⟩:=M.e_bind hM;refine WD.range (L:=[cOwn (α:=Span) 24 (.slice none 0 0) ([]),cBlk am [(.slice none 0 0)] 36,cBlk ae [B false] 4,cBlk ac [I 0,I 0] 24,cBlk au [ah,ai,aj,ak,I ap,I aq,al] 40,cBlk az [I ab] 3,cBlk ay [Pq ao] 62,cBlk aD [I aR] 3]) [Pq aD,Pq au] (H.pk [8,0,3,4,5,2,6,7,1]) rfl cf57 ?_;intro aS aT a6 bo a7 H
 have hYC:YieldC Tryz.prog ([cMk (aT :: ([])),cBlk au [ah,ai,aj,ak,I ap,I aq,al] 40,cBlk az [I ab] 3,cBlk ay [Pq ao] 62]++R) arII (yJ aS a6 (fun l aw=>∃ (ag:Value),aw=[cOwn (α:=Span) 24 ag l,cBlk am [ag] 36,cBlk ae [B false] 4,cBlk ac [I 0,I 0] 24]) (fun (l2,l3,s,s2) aw=>∃ (ax:Value),aw=[cOwn (α:=Span) 24 ax l3,cBlk am [ax] 36,cBlk ae [B true] 4,cBlk ac [I s,I s2] 24]) (fun _=>.ret)) (.func (.yield aS) #[] #[]) (M.yl (zas aa ab)):=by
  refine YieldC.mk a7 (fun l aw=>∃ (ag:Value),aw=[cOwn (α:=Span) 24 ag l,cBlk am [ag] 36,cBlk ae [B false] 4,cBlk ac [I 0,I 0] 24]) (fun (l2,l3,s,s2) aw=>∃ (ax:Value),aw=[cOwn (α:=Span) 24 ax l3,cBlk am [ax] 36,cBlk ae [B true] 4,cBlk ac [I s,I s2] 24]) (fun _=>.ret) (zas aa ab) (by rintro l _ h_; obtain ⟨_,rfl⟩:=h_; rfl) (by rintro ⟨l2,l3,s,s2⟩ _ h_; (obtain ⟨_,rfl⟩:=h_; rfl)) rfl (arII_len rfl) ?_;intro C_ bR x_ W_ bp
  obtain ⟨x,x2⟩:=x_
  obtain rfl:=bp
  refine kg 3 ?_
  refine ⟨rfl,rfl,?_⟩
  intro w R aE aw s_ r br hM H
  skip
  obtain ⟨l,bt⟩:∃ y_,y_=s_:=⟨_,rfl⟩
  subst bt
  obtain ⟨ag,rfl⟩:=br
  replace aM:=aM.sub aE
  replace aN:=aN.sub aE
  replace aO:=aO.sub aE
  replace aP:=aP.sub aE
  replace aQ:=aQ.sub aE
  replace aZ:=aZ.sub aE
  replace hM:(zas aa ab l (x,x2)).Ends r:=hM
  simp only [zas] at hM
  replace H:=H.pk [0,1,2,3,5,6,7,4];refine kg 8 ?_
  refine W.cond (x2==ab) rfl (fun aA=>?_) (fun aA=>?_)
  ·replace hM:=M.e_t hM aA
   replace aA:=dI aA
   refine kg 3 ?_;obtain ⟨bS,bu,hM⟩:=M.e_bind hM;refine s_call cf29 [ag] rfl (zc5 l (rdo 0) (H.os 0) bu _ (H.gt 8)) ?_
   rintro vq bT ⟨r0,r1,rfl,hvq,av⟩
   subst vq;(try dsimp only at hM);replace H:=H.bk av;clear av;refine t_sw 3 0 [I r0,I r1] (.agg #[I r0,I r1]) H rfl rfl Sz24 rfl rfl rfl rfl ?_;intro bU H;refine t_sw 2 0 [B true] (B true) H rfl rfl Sz4 rfl rfl rfl rfl ?_;intro bV H;refine s_nil ?_;refine W.ret ?_
   exact ⟨(l,l,r0,r1),[cOwn (α:=Span) 24 ag l,cBlk am [ag] 36,cBlk ae [B true] 4,cBlk ac [I r0,I r1] 24],(M.e_pure hM).symm,⟨ag,rfl⟩,H.pick [0,1,2,3,7,4,5,6] (by decide) rfl,rfl⟩
  replace hM:=M.e_f hM aA
  replace aA:=dI aA
  refine W.skip ?_;refine W.drawT (fun W=>St w W [cBlk ae [B false] 4,cBlk ac [I 0,I 0] 24,cBlk au [ah,ai,aj,ak,I ap,I aq,al] 40,cBlk az [I ab] 3,cBlk ay [Pq ao] 62,cMk (aT :: ([]))] R) (.q 1 (.q 2 (.q 3 (.q 4 (.q 5 (.q 6 (.q 7 (.q 8 (.l2 0 (.l 9 (.l 10 (.l 11 .nil))) 9 (.l 0 (.l 10 (.l 11 .nil)))))))))))) mixed (by decide +kernel) rfl ?_;intro bW bh;replace H:=H.ext bh;clear bh
  refine ⟨(H.pk [2,3,4,5,6,7]),?_⟩
  obtain ⟨bX,hM⟩:=M.e_gd hM;obtain ⟨bY,hM⟩:=M.e_gd hM;refine kg 8 ?_;refine t_l2 rfl rfl ?_ ?_
  ·skip
   refine kg 1 ?_
   have bZ:=Sl.cells (H.os 0)
   have b3:=Sl.oc (H.os 0)
   refine s_nil ⟨(H.pk [2,3,4,5,6,7]),?_⟩
   refine t_l rfl ?_;refine t_bs (α:=Span) T36 [.agg #[I ((aa.getD (Int.toNat x2) default).lo),I ((aa.getD (Int.toNat x2) default).hi)]] [(aa.getD (Int.toNat x2) default)] H rfl (.cons rfl (Flat.rep_enc _ (aa.getD (Int.toNat x2) default))<|.nil) rfl rfl rfl ?_;intro bv b4 H
   have b6:=Sl.cells (H.os 0)
   have b7:=Sl.oc (H.os 0)
   refine s_nil ⟨(H.pk [3,4,5,6,7,8]),?_⟩
   refine t_l rfl ?_;refine t_app (α:=Span) (k:=1) (l:=l) (l2:=[(aa.getD (Int.toNat x2) default)]) (l':=l++([(aa.getD (Int.toNat x2) default)])) (vy:=bv) T36 rfl H rfl rfl rfl (H.os 0) (H.ol 0) (rfl) (by first | omega | (simp only [List.length_nil] at *; omega)) ?_;intro aF b8 H;replace H:=H.nf
   have b9:=Sl.cells (H.os 1)
   have ca:=Sl.oc (H.os 1)
   refine s_nil ⟨(H.pk [3,4,5,6,7,8]),?_⟩
   refine t_l rfl ?_;refine t_sw 2 0 [aF] aF H rfl rfl Sz36 (Sl.cells (H.os 1)) rfl rfl (by simp only [List.all_cons,List.all_nil,Bool.true_and,Bool.and_true,Sl.oc (H.os 1)]; try rfl) ?_;intro cb H
   refine s_nil ⟨(H.pk [3,4,5,6,7,8]),?_⟩
   refine t_nil ?_
   exact ⟨l++([(aa.getD (Int.toNat x2) default)]),[cOwn (α:=Span) 24 aF (l++([(aa.getD (Int.toNat x2) default)])),cBlk am [aF] 36,cBlk ae [B false] 4,cBlk ac [I 0,I 0] 24],(M.e_pure hM).symm,⟨aF,rfl⟩,H.pick [1,2,3,4,8,5,6,7] (by decide) rfl⟩
  skip
  refine t_bs (α:=Span) T36 [.agg #[I ((aa.getD (Int.toNat x2) default).lo),I ((aa.getD (Int.toNat x2) default).hi)]] [(aa.getD (Int.toNat x2) default)] H rfl (.cons rfl (Flat.rep_enc _ (aa.getD (Int.toNat x2) default))<|.nil) rfl rfl rfl ?_;intro bw cc H
  have cd:=Sl.cells (H.os 0)
  have ce:=Sl.oc (H.os 0)
  have cf:=Sl.cells (H.os 1)
  have cg:=Sl.oc (H.os 1)
  refine s_nil ⟨(H.pk [3,4,5,6,7,8]),?_⟩
  refine t_l rfl ?_;refine kg 1 ?_
  refine s_nil ⟨(H.pk [3,4,5,6,7,8]),?_⟩
  refine t_l rfl ?_;refine t_app (α:=Span) (k:=1) (l:=l) (l2:=[(aa.getD (Int.toNat x2) default)]) (l':=l++([(aa.getD (Int.toNat x2) default)])) (vy:=bw) T36 rfl H rfl rfl rfl (H.os 0) (H.ol 0) (rfl) (by first | omega | (simp only [List.length_nil] at *; omega)) ?_;intro aG ch H;replace H:=H.nf
  have ci:=Sl.cells (H.os 1)
  have cj:=Sl.oc (H.os 1)
  refine s_nil ⟨(H.pk [3,4,5,6,7,8]),?_⟩
  refine t_l rfl ?_;refine t_sw 2 0 [aG] aG H rfl rfl Sz36 (Sl.cells (H.os 1)) rfl rfl (by simp only [List.all_cons,List.all_nil,Bool.true_and,Bool.and_true,Sl.oc (H.os 1)]; try rfl) ?_;intro ck H
  refine s_nil ⟨(H.pk [3,4,5,6,7,8]),?_⟩
  refine t_nil ?_
  exact ⟨l++([(aa.getD (Int.toNat x2) default)]),[cOwn (α:=Span) 24 aG (l++([(aa.getD (Int.toNat x2) default)])),cBlk am [aG] 36,cBlk ae [B false] 4,cBlk ac [I 0,I 0] 24],(M.e_pure hM).symm,⟨aG,rfl⟩,H.pick [1,2,3,4,8,5,6,7] (by decide) rfl⟩
 replace H:St w bo (cAll (cObj aS (.loop a6) :: [cOwn (α:=Span) 24 (.slice none 0 0) ([]),cBlk am [(.slice none 0 0)] 36,cBlk ae [B false] 4,cBlk ac [I 0,I 0] 24]) :: [cBlk aD [I aR] 3,cMk (aT :: ([])),cBlk au [ah,ai,aj,ak,I ap,I aq,al] 40,cBlk az [I ab] 3,cBlk ay [Pq ao] 62]) R:=St.bundleB (A:=cObj aS (.loop a6) :: [cOwn (α:=Span) 24 (.slice none 0 0) ([]),cBlk am [(.slice none 0 0)] 36,cBlk ae [B false] 4,cBlk ac [I 0,I 0] 24]) (T:=[cBlk aD [I aR] 3,cMk (aT :: ([])),cBlk au [ah,ai,aj,ak,I ap,I aq,al] 40,cBlk az [I ab] 3,cBlk ay [Pq ao] 62]) rfl (H.pk [0,2,3,4,5,9,1,6,7,8])
 refine (zbb (M.yl (zas aa ab)) (.inl ([])) aR aH aa aI aJ ap aq aK hYC ⟨_,rfl,⟨(.slice none 0 0),rfl⟩⟩ (aM.app _) aU (aN.app _) aV (aO.app _) aW (aP.app _) aX (aQ.app _) aY (Has.here (k:=1) rfl) bn _ (H.gt 4)).mono ?_
 rintro vq cl ⟨bx,q0,cm,rfl,hvq,av,bi⟩
 replace H:=H.back av rfl
 clear av hYC
 rcases bx with l | ⟨l2,l3,s,s2⟩
 ·(try dsimp only at hM)
  obtain ⟨_,rfl,ag,rfl⟩:=bi
  refine ⟨_,[cOwn (α:=Span) 24 ag l,cBlk am [ag] 36,cBlk ae [B false] 4,cBlk ac [I 0,I 0] 24,cBlk au [ah,ai,aj,ak,I ap,I aq,al] 40,cBlk az [I ab] 3,cBlk ay [Pq ao] 62,cBlk aD [I q0] 3],H.unbundle.pick [0,6,1,2,3,4,7,8,9,5] (by decide) rfl,a7.nb,?_⟩
  intro bz H
  rw [a7.pd]
  replace H:=H.nf
  try simp only []
  replace H:=H.pk [0,3,4];refine WD.seq<|WD.of<|W.region rfl<|s_val (x_bld (ps:=[]) (zs:=[I 0,I 0]) (L':=[I 0,I 0]) rfl Tryz.underlying24 Al24 rfl (Bd24 Tryz.underlying24) (.nil)) ?_;refine t_sw 2 0 [I 0,I 0] (.agg #[I 0,I 0]) H rfl rfl Sz24 rfl rfl rfl rfl ?_;intro cn H;refine t_sw 1 0 [B false] (B false) H rfl rfl Sz4 rfl rfl rfl rfl ?_;intro co H;refine s_nil<|WD.of ?_;refine W.ret ?_;refine bodyD_r (H.pk [0,1,2]) ?_;intro cp H;replace H:=H.nf
  have bA:=(H.bl 1)
  have bB:=(H.bl 0)
  have a8:=M.e_pure hM
  exact ⟨_,(resE_ofn (vs:=[.agg #[I 0,I 0],B false]) rfl rfl (.cell (v:=.agg #[I 0,I 0]) rfl (run_loadVar_ag (ds:=[I 0,I 0]) Ag24 Sz24 bA rfl rfl)<|.cell (v:=B false) rfl (run_loadVar_sc Sc4 bB rfl)<|.nil)),⟨0,0,false,a8,rfl,(H.pk [])⟩⟩
 (try dsimp only at hM)
 obtain ⟨_,rfl,ax,rfl⟩:=bi
 refine ⟨_,[cOwn (α:=Span) 24 ax l3,cBlk am [ax] 36,cBlk ae [B true] 4,cBlk ac [I s,I s2] 24,cBlk au [ah,ai,aj,ak,I ap,I aq,al] 40,cBlk az [I ab] 3,cBlk ay [Pq ao] 62,cBlk aD [I q0] 3],H.unbundle.pick [0,6,1,2,3,4,7,8,9,5] (by decide) rfl,nofun,?_⟩
 intro bz H
 show WD _ _ _ (.ret) _ _ _
 refine WD.of ?_;refine W.ret ?_;replace H:=H.nf;refine bodyD_r (H.pk [0,1,2,3,4,5,6,7,8]) ?_;intro cq H;replace H:=H.nf
 have bC:=(H.bl 3)
 have bD:=(H.bl 2)
 have a8:=M.e_pure hM
 exact ⟨_,(resE_ofn (vs:=[.agg #[I s,I s2],B true]) rfl rfl (.cell (v:=.agg #[I s,I s2]) rfl (run_loadVar_ag (ds:=[I s,I s2]) Ag24 Sz24 bC rfl rfl)<|.cell (v:=B true) rfl (run_loadVar_sc Sc4 bD rfl)<|.nil)),⟨s,s2,true,a8,rfl,(H.pk [])⟩⟩

def zax (ac:List Int) (ae:List Span) (ag:List Int) (aa:List Town) (ah ab:Int) (ai:List Flood) (d:Dem):(List Int)->(Int × Int)->M ((List Int) ⊕ Unit):=fun l (x,x2) =>
  M.bind (zaw ac ae ag aa ah ab ai x2 ((aa.getD (Int.toNat d.town) default).station)) fun (aj,ak,r1) =>
  M.grd ((!r1||(decide ((-9223372036854775808:Int)<=(((aa.getD (Int.toNat d.town) default).lead)+ab))&&decide ((((aa.getD (Int.toNat d.town) default).lead)+ab)<=(9223372036854775807:Int))))) <|
  bif (r1&&(decide ((((aa.getD (Int.toNat d.town) default).lead)+ab)<=aj))) then (
  M.grd (decide ((l.length+([(x2:Int)]).length)*8<=140737488355328)) <|
  M.pure (.inl (l++([(x2:Int)]))))
  else (
  M.pure (.inl l))
def zaa (ab:List Int) (ac:List Span) (ae:List Int) (aa:List Town) (ah ai:Int) (ag:List Flood) (d:Dem):M (List Int) :=
  M.grd (decide ((0:Int)<=d.town)&&decide (d.town<(aa.length:Int))) <|
  M.bind (zao ab ac ae aa ah ai ag d.spring) fun (aj,ak,al) =>
  M.bind (zak (M.yl (zax ab ac ae aa ah ai ag d)) (.inl ([])) aj ab ac ae aa ak al ag) fun x_=>match x_ with
  | (.inl l,q0)=>(
  M.pure l)
  | (.inr _,_)=>M.fail
theorem zbI {R:List Chunk} {ac:Nat} {bi:Cells} {aw:Value} {bj:Cells} {ax:Value} {bm:Cells} {ay:Value} {bn:Cells} {az:Value} {bo:Cells} {aA:Value} {aj:Nat} {ag:Base} (ap:List Int) (aq:List Span) (au:List Int) (aa:List Town) (ai:Int) (ah:Int) (av:List Flood) (d:Dem) (aJ:Reads R bi) (aQ:Sl bi aw ap) (aK:Reads R bj) (aR:Sl bj ax aq) (aL:Reads R bm) (aS:Sl bm ay au) (aG:Reads R bn) (aM:Sl bn az aa) (aN:Reads R bo) (aT:Sl bo aA av) (aU:Has R (cBlk ac [aw,ax,ay,az,I ai,I ah,aA,.map (some aj)] 90)) {r:(List Int)} (hM:(zaa ap aq au aa ai ah av d).Ends r) (w:World) (H:St w w [cMem encDm aj ag (zaa ap aq au aa ai ah av)] R):Ret Tryz.prog 16 #[Pq ac,.agg #[I d.spring,I d.town]] w fun v w'=>∃ (y0:List Int) (u0:Value) (bp:Base),y0=r/\v=u0/\St w w' [cMem encDm aj bp (zaa ap aq au aa ai ah av)] R/\Sl bp.cells u0 y0:=by
 refine ret_of_WD Tryz.func16 rfl rfl rfl ?_
 replace H:St w w [cMk ([]),cMem encDm aj ag (zaa ap aq au aa ai ah av)] R:=H.mk0
 have bK:=aQ.len_le
 have bL:=aR.len_le
 have bM:=aS.len_le
 have bN:=aM.len_le
 have bO:=aT.len_le
 unfold zaa at hM
 have hM0:=hM
 obtain ⟨ak,H,aZ⟩:=St.memOpen H (i:=1) rfl
 replace H:=H.nf
 cases a6:ak d with
 | none =>
  refine WD.seq<|WD.of<|W.region rfl ?_;refine t_b1 (Pq ac) H rfl rfl ?_;intro al bP H;refine t_bx [I d.spring,I d.town] H rfl ?_;intro am bQ H;refine kg 2 ?_;refine WD.seq<|WD.seq<|WD.of ?_;refine W.draw (fun W=>St w W [cBlk am [I d.spring,I d.town] 49,cBlk al [Pq ac] 62,cRx ag,cMk ([])] R) [(0,true),(1,true),(2,true),(3,true),(4,true),(5,false),(6,true),(7,true),(8,true),(9,true),(10,true)] mixed (by decide +kernel) rfl ?_;intro bR ae;replace H:=H.ext ae;clear ae
  refine ⟨(H.pk [0,1,3,4]),?_⟩
  refine kg 5 ?_;refine d_l rfl<|s_val (q_look (kenc:=encDm) (venc:=id) (f:=ak) (k:=d) (z:=.slice none 0 0) (v:=.tuple #[.slice none 0 0,B false]) keyDem Tryz.underlying88 (by kernel_rfl) rfl rfl (H.get (k:=2) rfl) true (by simp [a6])) ?_
  refine s_nil ⟨(H.pk [0,1,3,4]),?_⟩
  refine kg 6 ?_;refine WD.seq<|WD.of ?_;refine kg 3 ?_
  refine WD.cond false rfl (fun br=>?_) (fun br=>?_)
  ·skip
   exact absurd br (by decide)
  skip
  refine WD.of<|W.skip<|WD.seq<|WD.of<|W.region rfl ?_;refine t_alloc (cs:=[.slice none 0 0]) H Al29 rfl ?_;intro ao bS H;refine s_nil<|WD.seq<|WD.of ?_;refine W.draw (fun W=>St w W [cBlk ao [.slice none 0 0] 29,cBlk am [I d.spring,I d.town] 49,cBlk al [Pq ac] 62,cMap encDm id aj ak,cRx ag,cMk ([])] R) [(0,true),(1,true),(2,true),(3,true),(4,true),(5,true),(6,true),(7,true),(8,true),(9,false),(10,false)] mixed (by decide +kernel) rfl ?_;intro bT ae;replace H:=H.ext ae;clear ae
  refine ⟨(H.pk [0,1,2,3,4,5]),?_⟩
  obtain ⟨bU,hM⟩:=M.e_gd hM;refine kg 8 ?_;refine d_q rfl (fun w' H=>x_ld (v:=.agg #[I ((aa.getD (Int.toNat d.town) default).station),I ((aa.getD (Int.toNat d.town) default).lead),I ((aa.getD (Int.toNat d.town) default).alarm)]) rfl (ld_ag Ag44 Sz44 (At.mono (Town_atA aM (i:=d.town) (by omega) (by omega)) (aG.at H))))<|d_l rfl ?_;refine t_alloc (cs:=[I 0,I 0,I 0]) H Al44 rfl ?_;intro aC bV H
  refine s_nil ⟨(H.pk [1,2,3,4,5,6]),?_⟩
  refine d_l rfl ?_;refine t_sw 0 0 [I ((aa.getD (Int.toNat d.town) default).station),I ((aa.getD (Int.toNat d.town) default).lead),I ((aa.getD (Int.toNat d.town) default).alarm)] (.agg #[I ((aa.getD (Int.toNat d.town) default).station),I ((aa.getD (Int.toNat d.town) default).lead),I ((aa.getD (Int.toNat d.town) default).alarm)]) H rfl rfl Sz44 rfl rfl rfl rfl ?_;intro bW H
  refine s_nil ⟨(H.pk [1,2,3,4,5,6]),?_⟩
  refine d_nil<|WD.seq<|WD.seq<|WD.of ?_;refine W.draw (fun W=>St w W [cBlk aC [I ((aa.getD (Int.toNat d.town) default).station),I ((aa.getD (Int.toNat d.town) default).lead),I ((aa.getD (Int.toNat d.town) default).alarm)] 44,cBlk ao [.slice none 0 0] 29,cBlk am [I d.spring,I d.town] 49,cBlk al [Pq ac] 62,cMap encDm id aj ak,cRx ag,cMk ([])] R) [(0,true),(1,true),(2,true),(3,true),(4,true),(5,true),(6,false)] mixed (by decide +kernel) rfl ?_;intro bX ae;replace H:=H.ext ae;clear ae
  refine ⟨(H.pk [0,1,2,3,4,5,6]),?_⟩
  refine kg 3 ?_;refine d_q rfl (fun w' H=>x_ld (v:=.agg #[aw,ax,ay,az,I ai,I ah,aA]) rfl (ldb_ag (ds:=[aw,ax,ay,az,I ai,I ah,aA]) Ag40 Sz40 (aU.blk H) rfl rfl)) ?_;refine kg 2 ?_;refine d_l rfl ?_;obtain ⟨bY,bv,hM⟩:=M.e_bind hM;refine s_call cf34 [.agg #[aw,ax,ay,az,I ai,I ah,aA],I d.spring] rfl (zaQ ap aq au aa ai ah av d.spring (aJ.app _) aQ (aK.app _) aR (aL.app _) aS (aG.app _) aM (aN.app _) aT bv _ (H.gt 7)) ?_
  rintro vq bZ ⟨aV,aD,aE,aO,aF,rfl,hvq,aB⟩
  subst vq;(try dsimp only at hM);replace H:=H.bk aB;clear aB
  refine s_nil ⟨(H.pk [2,3,4,5,6,7,8]),?_⟩
  refine d_nil<|WD.block ?_
  replace H:=H.nilOwn (α:=Int) 3
  obtain ⟨b3,bw,hM⟩:=M.e_bind hM;refine WD.range (L:=[cOwn (α:=Int) 3 (.slice none 0 0) ([]),cBlk ao [(.slice none 0 0)] 29,cBlk aF [aw,ax,ay,az,I aD,I aE,aA] 40,cBlk aC [I ((aa.getD (Int.toNat d.town) default).station),I ((aa.getD (Int.toNat d.town) default).lead),I ((aa.getD (Int.toNat d.town) default).alarm)] 44,cBlk am [I d.spring,I d.town] 49,cBlk al [Pq ac] 62,cMap encDm id aj ak,cRx ag,cBlk aO [I aV] 3]) [Pq aO,Pq aF] (H.pk [9,0,4,2,3,5,6,7,8,1]) rfl cf57 ?_;intro aW aH a7 bx a8 H
  have hYC:YieldC Tryz.prog ([cMk (aH :: ([])),cBlk aF [aw,ax,ay,az,I aD,I aE,aA] 40,cBlk aC [I ((aa.getD (Int.toNat d.town) default).station),I ((aa.getD (Int.toNat d.town) default).lead),I ((aa.getD (Int.toNat d.town) default).alarm)] 44,cBlk am [I d.spring,I d.town] 49,cBlk al [Pq ac] 62,cMap encDm id aj ak,cRx ag]++R) arII (yJ aW a7 (fun l aX=>∃ (ab:Value),aX=[cOwn (α:=Int) 3 ab l,cBlk ao [ab] 29]) (fun (_:Unit) _=>False) (fun _=>.ret)) (.func (.yield aW) #[] #[]) (M.yl (zax ap aq au aa ai ah av d)):=by
   refine YieldC.mk a8 (fun l aX=>∃ (ab:Value),aX=[cOwn (α:=Int) 3 ab l,cBlk ao [ab] 29]) (fun (_:Unit) _=>False) (fun _=>.ret) (zax ap aq au aa ai ah av d) (by rintro l _ h_; obtain ⟨_,rfl⟩:=h_; rfl) (fun _ _ h_=>h_.elim) rfl (arII_len rfl) ?_;intro C_ b4 x_ W_ bz
   obtain ⟨x,x2⟩:=x_
   obtain rfl:=bz
   refine kg 3 ?_
   refine ⟨rfl,rfl,?_⟩
   intro w R aI aX s_ r bA hM H
   skip
   obtain ⟨l,bB⟩:∃ y_,y_=s_:=⟨_,rfl⟩
   subst bB
   obtain ⟨ab,rfl⟩:=bA
   replace aJ:=aJ.sub aI
   replace aK:=aK.sub aI
   replace aL:=aL.sub aI
   replace aG:=aG.sub aI
   replace aN:=aN.sub aI
   replace aU:=aU.sub aI
   replace hM:(zax ap aq au aa ai ah av d l (x,x2)).Ends r:=hM
   simp only [zax] at hM
   replace H:=H.pk [0,1,3,4,5,6,7,8,2];refine kg 7 ?_;obtain ⟨b6,bC,hM⟩:=M.e_bind hM;refine s_call cf28 [Pq ac,I x2,I ((aa.getD (Int.toNat d.town) default).station)] rfl (zcG ap aq au aa ai ah av x2 ((aa.getD (Int.toNat d.town) default).station) (aJ.app _) aQ (aK.app _) aR (aL.app _) aS (aG.app _) aM (aN.app _) aT (aU.app _) bC _ (H.gt 9)) ?_
   rintro vq b7 ⟨aY,ba,r1,rfl,hvq,aB⟩
   subst vq;(try dsimp only at hM);replace H:=H.bk aB;clear aB;refine kg 3 ?_;refine t_alloc (cs:=[I 0,I 0]) H Al24 rfl ?_;intro bD b8 H;refine t_sw 0 0 [I aY,I ba] (.agg #[I aY,I ba]) H rfl rfl Sz24 rfl rfl rfl rfl ?_;intro b9 H;refine kg 3 ?_;refine W.draw (fun W=>St w W [cBlk bD [I aY,I ba] 24,cOwn (α:=Int) 3 ab l,cBlk ao [ab] 29,cBlk aF [aw,ax,ay,az,I aD,I aE,aA] 40,cBlk aC [I ((aa.getD (Int.toNat d.town) default).station),I ((aa.getD (Int.toNat d.town) default).lead),I ((aa.getD (Int.toNat d.town) default).alarm)] 44,cBlk am [I d.spring,I d.town] 49,cBlk al [Pq ac] 62,cMap encDm id aj ak,cRx ag,cMk (aH :: ([]))] R) [(0,true),(1,true),(2,true),(3,true),(4,true),(5,true),(6,true),(7,true),(8,true),(9,true),(10,true),(11,true),(12,true),(13,true),(14,true)] mixed (by decide +kernel) rfl ?_;intro ca ae;replace H:=H.ext ae;clear ae
   refine ⟨(H.pk [0,1,2,3,4,5,6,7,8,9]),?_⟩
   obtain ⟨bb,hM⟩:=M.e_grd hM
   replace bb:=M.imp_of bb
   simp only [Bool.and_eq_true,decide_eq_true_eq] at bb
   refine kg 16 ?_
   refine W.cond (r1&&(decide ((((aa.getD (Int.toNat d.town) default).lead)+ah)<=aY))) rfl (fun bc=>?_) (fun bc=>?_)
   ·replace hM:=M.e_t hM bc;refine kg 3 ?_;refine t_bs (α:=Int) T29 [I x2] [(x2:Int)] H rfl (.cons rfl (Flat.rep_enc _ (x2:Int))<|.nil) rfl rfl rfl ?_;intro bE cb H;obtain ⟨cc,hM⟩:=M.e_gd hM;refine t_app (α:=Int) (k:=2) (l:=l) (l2:=[(x2:Int)]) (l':=l++([(x2:Int)])) (vy:=bE) T29 rfl H rfl rfl rfl (H.os 0) (H.ol 0) (rfl) (by first | omega | (simp only [List.length_nil] at *; omega)) ?_;intro aP cd H;replace H:=H.nf;refine t_sw 3 0 [aP] aP H rfl rfl Sz29 (Sl.cells (H.os 2)) rfl rfl (by simp only [List.all_cons,List.all_nil,Bool.true_and,Bool.and_true,Sl.oc (H.os 2)]; try rfl) ?_;intro ce H;refine s_nil ?_
    exact ⟨l++([(x2:Int)]),[cOwn (α:=Int) 3 aP (l++([(x2:Int)])),cBlk ao [aP] 29],(M.e_pure hM).symm,⟨aP,rfl⟩,H.pick [2,3,10,4,5,6,7,8,9] (by decide) rfl⟩
   replace hM:=M.e_f hM bc;refine W.skip ?_
   exact ⟨l,[cOwn (α:=Int) 3 ab l,cBlk ao [ab] 29],(M.e_pure hM).symm,⟨ab,rfl⟩,H.pick [1,2,9,3,4,5,6,7,8] (by decide) rfl⟩
  replace H:St w bx (cAll (cObj aW (.loop a7) :: [cOwn (α:=Int) 3 (.slice none 0 0) ([]),cBlk ao [(.slice none 0 0)] 29]) :: [cBlk aO [I aV] 3,cMk (aH :: ([])),cBlk aF [aw,ax,ay,az,I aD,I aE,aA] 40,cBlk aC [I ((aa.getD (Int.toNat d.town) default).station),I ((aa.getD (Int.toNat d.town) default).lead),I ((aa.getD (Int.toNat d.town) default).alarm)] 44,cBlk am [I d.spring,I d.town] 49,cBlk al [Pq ac] 62,cMap encDm id aj ak,cRx ag]) R:=St.bundleB (A:=cObj aW (.loop a7) :: [cOwn (α:=Int) 3 (.slice none 0 0) ([]),cBlk ao [(.slice none 0 0)] 29]) (T:=[cBlk aO [I aV] 3,cMk (aH :: ([])),cBlk aF [aw,ax,ay,az,I aD,I aE,aA] 40,cBlk aC [I ((aa.getD (Int.toNat d.town) default).station),I ((aa.getD (Int.toNat d.town) default).lead),I ((aa.getD (Int.toNat d.town) default).alarm)] 44,cBlk am [I d.spring,I d.town] 49,cBlk al [Pq ac] 62,cMap encDm id aj ak,cRx ag]) rfl (H.pk [0,2,3,10,1,4,5,6,7,8,9])
  refine (zbb (M.yl (zax ap aq au aa ai ah av d)) (.inl ([])) aV ap aq au aa aD aE av hYC ⟨_,rfl,⟨(.slice none 0 0),rfl⟩⟩ (aJ.app _) aQ (aK.app _) aR (aL.app _) aS (aG.app _) aM (aN.app _) aT (Has.here (k:=1) rfl) bw _ (H.gt 7)).mono ?_
  rintro vq cf ⟨bF,q0,cg,rfl,hvq,aB,bt⟩
  replace H:=H.back aB rfl
  clear aB hYC
  rcases bF with l | _
  ·(try dsimp only at hM)
   obtain ⟨_,rfl,ab,rfl⟩:=bt
   refine ⟨_,[cOwn (α:=Int) 3 ab l,cBlk ao [ab] 29,cBlk aF [aw,ax,ay,az,I aD,I aE,aA] 40,cBlk aC [I ((aa.getD (Int.toNat d.town) default).station),I ((aa.getD (Int.toNat d.town) default).lead),I ((aa.getD (Int.toNat d.town) default).alarm)] 44,cBlk am [I d.spring,I d.town] 49,cBlk al [Pq ac] 62,cMap encDm id aj ak,cRx ag,cBlk aO [I q0] 3],H.unbundle.pick [0,4,1,2,5,6,7,8,9,10,3] (by decide) rfl,a8.nb,?_⟩
   intro ch H
   rw [a8.pd]
   replace H:=H.nf
   try simp only []
   replace H:=H.pk [0,1,2,5,6,7,8];refine WD.seq<|WD.of ?_;refine W.draw (fun W=>St w W [cMk (aH :: ([])),cOwn (α:=Int) 3 ab l,cBlk ao [ab] 29,cBlk am [I d.spring,I d.town] 49,cBlk al [Pq ac] 62,cRx ag] R) [(0,true),(1,true),(2,true),(3,true),(4,true),(5,true),(6,false)] mixed (by decide +kernel) rfl ?_;intro ci ae;replace H:=H.ext ae;clear ae
   refine ⟨(H.pk [0,1,2,3,4,6]),?_⟩
   refine kg 6 ?_;refine d_l rfl ?_;refine t_mapu (i:=5) (kenc:=encDm) (venc:=id) (f:=ak) (k:=d) (v:=ab) (L':=[cMk (aH :: ([])),cOwn (α:=Int) 3 ab l,cBlk ao [ab] 29,cBlk am [I d.spring,I d.town] 49,cBlk al [Pq ac] 62,cMap encDm id aj (updF ak d ab),cRx ag]) keyDem Tryz.underlying88 H rfl rfl rfl rfl rfl ?_;intro cj H
   refine s_nil ⟨(H.pk [0,1,2,3,4,6]),?_⟩
   refine d_nil ?_;replace H:=H.pk [0,1,2,5,6];refine WD.seq<|WD.of ?_;refine kg 4 ?_;refine WD.of ?_;refine W.ret ?_;refine bodyD_r (H.pk [0,1,2,3,4]) ?_;intro ck H;replace H:=H.nf
   obtain ⟨bG,cl,bH,H⟩:=St.memShut1 (H.pk [2,3,0,1]) aZ (by rw [M.e_pure hM]; exact hM0)
   replace H:=H.nf
   have bf:=M.e_pure hM
   exact ⟨_,resE_tmp rfl,⟨l,ab,bG,bf,rfl,(H.pk [0]),bH⟩⟩
  obtain ⟨_,_,h_⟩:=bt; exact h_.elim
 | some bg =>
  obtain ⟨bh,bI,bJ⟩:=aZ d bg a6
  obtain rfl:=M.Ends.det bI hM0
  replace hM:(M.pure bh).Ends bh:=M.i_pure
  refine WD.seq<|WD.of<|W.region rfl ?_;refine t_b1 (Pq ac) H rfl rfl ?_;intro al cm H;refine t_bx [I d.spring,I d.town] H rfl ?_;intro am cn H;refine kg 2 ?_;refine WD.seq<|WD.seq<|WD.of ?_;refine W.draw (fun W=>St w W [cBlk am [I d.spring,I d.town] 49,cBlk al [Pq ac] 62,cRx ag,cMk ([])] R) [(0,true),(1,true),(2,true),(3,true),(4,true),(5,false),(6,true),(7,true),(8,true),(9,true),(10,true)] mixed (by decide +kernel) rfl ?_;intro co ae;replace H:=H.ext ae;clear ae
  refine ⟨(H.pk [0,1,3,4]),?_⟩
  refine kg 5 ?_;refine d_l rfl<|s_val (q_look (kenc:=encDm) (venc:=id) (f:=ak) (k:=d) (z:=.slice none 0 0) (v:=.tuple #[bg,B true]) keyDem Tryz.underlying88 (by kernel_rfl) rfl rfl (H.get (k:=2) rfl) true (by simp [a6])) ?_
  refine s_nil ⟨(H.pk [0,1,3,4]),?_⟩
  refine kg 6 ?_;refine WD.seq<|WD.of ?_;refine kg 3 ?_
  refine WD.cond true rfl (fun bu=>?_) (fun bu=>?_)
  ·skip
   refine WD.seq<|WD.of ?_;refine kg 4 ?_;replace H:=H.pk [2,3,4];refine WD.of ?_;refine W.ret ?_;refine bodyD_r (H.pk [2,0,1]) ?_;intro cp H;replace H:=H.nf
   replace H:=St.memShut (H.pk [0,1]) aZ
   replace H:=H.nf
   have bf:=M.e_pure hM
   exact ⟨_,resE_tmp rfl,⟨bh,bg,ag,bf,rfl,H,bJ⟩⟩
  skip
  exact absurd bu (by decide)

def zaz (lo hi:Int):M (Int × Int) :=
  M.pure (lo,hi)
theorem zbn {R:List Chunk}  (lo:Int) (hi:Int)  {r:(Int × Int)} (hM:(zaz lo hi).Ends r) (w:World) (H:St w w [] R):Ret Tryz.prog 20 #[I lo,I hi] w fun v w'=>∃ (y0:Int) (y1:Int),(y0,y1)=r/\v = .agg #[I y0,I y1]/\St w w' [] R:=by
 refine ret_of_W Tryz.func20 rfl rfl rfl ?_;refine kg 2 ?_;refine t_alloc (cs:=[I 0,I 0]) H Al24 rfl ?_;intro ac ae H;refine kg 5 ?_;refine s_val (x_bld (ps:=[(0,I lo),(1,I hi)]) (zs:=[I 0,I 0]) (L':=[I lo,I hi]) rfl Tryz.underlying24 Al24 rfl (Bd24 Tryz.underlying24) (.cons (cs:=[I lo]) rfl rfl rfl rfl rfl<|.cons (cs:=[I hi]) rfl rfl rfl rfl rfl<|.nil)) ?_;refine t_sw 0 0 [I lo,I hi] (.agg #[I lo,I hi]) H rfl rfl Sz24 rfl rfl rfl rfl ?_;intro ag H;refine s_nil ?_;refine W.ret ?_
 have aa:=(H.bl 0)
 have ab:=M.e_pure hM
 exact ⟨_,(resE_of1 (v:=.agg #[I lo,I hi]) rfl (.cell (v:=.agg #[I lo,I hi]) rfl (run_loadVar_ag (ds:=[I lo,I hi]) Ag24 Sz24 aa rfl rfl)<|.nil)),⟨lo,hi,ab,rfl,(H.pk [])⟩⟩

def zae (lead:Int):M ((List Int) × (List Span) × (List Int) × (List Town) × Int × Int × (List Flood)) :=
  M.bind (zaz 5 6) fun (r0,r1) =>
  M.bind (zaz 2 4) fun (aa,ab) =>
  M.bind (zaz 3 5) fun (ac,ae) =>
  M.bind (zaz 1 2) fun (ag,ah) =>
  M.pure (([(2:Int),(2:Int),(3:Int),(-1:Int)]),([(⟨(r0:Int),(r1:Int)⟩:Span),(⟨(aa:Int),(ab:Int)⟩:Span),(⟨(ac:Int),(ae:Int)⟩:Span),(⟨(0:Int),(0:Int)⟩:Span)]),([(0:Int),(1:Int)]),([(⟨(3:Int),(lead:Int),(300:Int)⟩:Town)]),ag,ah,([(⟨(0:Int),([(200:Int),(250:Int),(310:Int)])⟩:Flood),(⟨(1:Int),([(280:Int),(240:Int),(290:Int)])⟩:Flood),(⟨(0:Int),([(100:Int),(260:Int),(300:Int)])⟩:Flood)]))
theorem zah {R:List Chunk}  (lead:Int)  {r:((List Int) × (List Span) × (List Int) × (List Town) × Int × Int × (List Flood))} (hM:(zae lead).Ends r) (w:World) (H:St w w [] R):Ret Tryz.prog 17 #[I lead] w fun v w'=>∃ (y0:List Int) (y1:List Span) (y2:List Int) (y3:List Town) (y4:Int) (y5:Int) (y6:List Flood) (u0:Value) (u1:Value) (u2:Value) (u3:Value) (u4:Value) (rr5:List (Raw 1)) (aC:Base),(y0,y1,y2,y3,y4,y5,y6)=r/\v = .agg #[u0,u1,u2,u3,I y4,I y5,u4]/\St w w' [cOwn (α:=Int) 3 u0 y0,cOwn (α:=Span) 24 u1 y1,cOwn (α:=Int) 3 u2 y2,cOwn (α:=Town) 44 u3 y3,cOwn (α:=Raw 1) 99 u4 rr5,cRo aC] R/\RepR (α:=Flood) aC.cells rr5 y6:=by
 refine ret_of_W Tryz.func17 rfl rfl rfl ?_;refine kg 2 ?_;refine t_alloc (cs:=[.slice none 0 0,.slice none 0 0,.slice none 0 0,.slice none 0 0,I 0,I 0,.slice none 0 0]) H Al40 rfl ?_;intro aV aW H;refine kg 3 ?_;refine t_bs (α:=Int) T29 [I 2,I 2,I 3,I (-1)] [(2:Int),(2:Int),(3:Int),(-1:Int)] H rfl (.cons rfl (Flat.rep_enc _ (2:Int))<|.cons rfl (Flat.rep_enc _ (2:Int))<|.cons rfl (Flat.rep_enc _ (3:Int))<|.cons rfl (Flat.rep_enc _ (-1:Int))<|.nil) rfl rfl rfl ?_;intro ab aX H;obtain ⟨aY,aI,hM⟩:=M.e_bind hM;refine s_call cf20 [I 5,I 6] rfl (zbn 5 6 aI _ (H.gt 2)) ?_
 rintro vq aZ ⟨r0,r1,rfl,hvq,aa⟩
 subst vq;(try dsimp only at hM);replace H:=H.bk aa;clear aa;obtain ⟨a6,aJ,hM⟩:=M.e_bind hM;refine s_call cf20 [I 2,I 4] rfl (zbn 2 4 aJ _ (H.gt 2)) ?_
 rintro vq a7 ⟨aw,ax,rfl,hvq,aa⟩
 subst vq;(try dsimp only at hM);replace H:=H.bk aa;clear aa;obtain ⟨a8,aK,hM⟩:=M.e_bind hM;refine s_call cf20 [I 3,I 5] rfl (zbn 3 5 aK _ (H.gt 2)) ?_
 rintro vq ba ⟨ay,az,rfl,hvq,aa⟩
 subst vq;(try dsimp only at hM);replace H:=H.bk aa;clear aa;refine s_val (x_bld (ps:=[]) (zs:=[I 0,I 0]) (L':=[I 0,I 0]) rfl Tryz.underlying24 Al24 rfl (Bd24 Tryz.underlying24) (.nil)) ?_;refine t_bs (α:=Span) T36 [.agg #[I r0,I r1],.agg #[I aw,I ax],.agg #[I ay,I az],.agg #[I 0,I 0]] [(⟨(r0:Int),(r1:Int)⟩:Span),(⟨(aw:Int),(ax:Int)⟩:Span),(⟨(ay:Int),(az:Int)⟩:Span),(⟨(0:Int),(0:Int)⟩:Span)] H rfl (.cons rfl (Flat.rep_enc _ (⟨(r0:Int),(r1:Int)⟩:Span))<|.cons rfl (Flat.rep_enc _ (⟨(aw:Int),(ax:Int)⟩:Span))<|.cons rfl (Flat.rep_enc _ (⟨(ay:Int),(az:Int)⟩:Span))<|.cons rfl (Flat.rep_enc _ (⟨(0:Int),(0:Int)⟩:Span))<|.nil) rfl rfl rfl ?_;intro ac bb H;refine t_bs (α:=Int) T29 [I 0,I 1] [(0:Int),(1:Int)] H rfl (.cons rfl (Flat.rep_enc _ (0:Int))<|.cons rfl (Flat.rep_enc _ (1:Int))<|.nil) rfl rfl rfl ?_;intro ae bc H;refine kg 1 ?_;refine s_val (x_bld (ps:=[(0,I 3),(1,I lead),(2,I 300)]) (zs:=[I 0,I 0,I 0]) (L':=[I 3,I lead,I 300]) rfl Tryz.underlying44 Al44 rfl (Bd44 Tryz.underlying44) (.cons (cs:=[I 3]) rfl rfl rfl rfl rfl<|.cons (cs:=[I lead]) rfl rfl rfl rfl rfl<|.cons (cs:=[I 300]) rfl rfl rfl rfl rfl<|.nil)) ?_;refine t_bs (α:=Town) T37 [.agg #[I 3,I lead,I 300]] [(⟨(3:Int),(lead:Int),(300:Int)⟩:Town)] H rfl (.cons rfl (Flat.rep_enc _ (⟨(3:Int),(lead:Int),(300:Int)⟩:Town))<|.nil) rfl rfl rfl ?_;intro ag bf H;obtain ⟨bg,aL,hM⟩:=M.e_bind hM;refine s_call cf20 [I 1,I 2] rfl (zbn 1 2 aL _ (H.gt 5)) ?_
 rintro vq bh ⟨ah,ai,rfl,hvq,aa⟩
 subst vq;(try dsimp only at hM);replace H:=H.bk aa;clear aa;refine t_bs (α:=Int) T29 [I 200,I 250,I 310] [(200:Int),(250:Int),(310:Int)] H rfl (.cons rfl (Flat.rep_enc _ (200:Int))<|.cons rfl (Flat.rep_enc _ (250:Int))<|.cons rfl (Flat.rep_enc _ (310:Int))<|.nil) rfl rfl rfl ?_;intro al bi H;refine s_val (x_bld (ps:=[(0,I 0),(1,al)]) (zs:=[I 0,.slice none 0 0]) (L':=[I 0,al]) rfl Tryz.underlying99 Al99 rfl (Bd99 Tryz.underlying99) (.cons (cs:=[I 0]) rfl rfl rfl rfl rfl<|.cons (cs:=[al]) (Sl.cells (H.os 0)) rfl rfl rfl rfl<|.nil)) ?_;refine t_bs (α:=Int) T29 [I 280,I 240,I 290] [(280:Int),(240:Int),(290:Int)] H rfl (.cons rfl (Flat.rep_enc _ (280:Int))<|.cons rfl (Flat.rep_enc _ (240:Int))<|.cons rfl (Flat.rep_enc _ (290:Int))<|.nil) rfl rfl rfl ?_;intro am bj H;refine s_val (x_bld (ps:=[(0,I 1),(1,am)]) (zs:=[I 0,.slice none 0 0]) (L':=[I 1,am]) rfl Tryz.underlying99 Al99 rfl (Bd99 Tryz.underlying99) (.cons (cs:=[I 1]) rfl rfl rfl rfl rfl<|.cons (cs:=[am]) (Sl.cells (H.os 0)) rfl rfl rfl rfl<|.nil)) ?_;refine t_bs (α:=Int) T29 [I 100,I 260,I 300] [(100:Int),(260:Int),(300:Int)] H rfl (.cons rfl (Flat.rep_enc _ (100:Int))<|.cons rfl (Flat.rep_enc _ (260:Int))<|.cons rfl (Flat.rep_enc _ (300:Int))<|.nil) rfl rfl rfl ?_;intro ao bm H;refine s_val (x_bld (ps:=[(0,I 0),(1,ao)]) (zs:=[I 0,.slice none 0 0]) (L':=[I 0,ao]) rfl Tryz.underlying99 Al99 rfl (Bd99 Tryz.underlying99) (.cons (cs:=[I 0]) rfl rfl rfl rfl rfl<|.cons (cs:=[ao]) (Sl.cells (H.os 0)) rfl rfl rfl rfl<|.nil)) ?_
 obtain ⟨bn,H⟩:=H.emptyE
 obtain ⟨bo,H,aM⟩:=H.freezeE (k:=3) rfl
 replace H:=H.nf
 have ak:=aM
 obtain ⟨bp,H,br,aN⟩:=H.joinE (i:=0) (j:=3) rfl rfl
 replace ak:=ak.mono aN
 obtain ⟨bt,H,aO⟩:=H.freezeE (k:=3) rfl
 replace H:=H.nf
 have ap:=aO
 obtain ⟨bu,H,aP,aQ⟩:=H.joinE (i:=0) (j:=3) rfl rfl
 replace ak:=ak.mono aP
 replace ap:=ap.mono aQ
 obtain ⟨bv,H,aR⟩:=H.freezeE (k:=3) rfl
 replace H:=H.nf
 have aA:=aR
 obtain ⟨aD,H,aE,aS⟩:=H.joinE (i:=0) (j:=3) rfl rfl
 replace ak:=ak.mono aE
 replace ap:=ap.mono aE
 replace aA:=aA.mono aS
 obtain ⟨aq,aF⟩:∃ r:Raw 1,r.cs=[I 0,al]:=⟨Raw.of [I 0,al] rfl (by simp only [List.all_cons,List.all_nil,Bool.true_and,Bool.and_true,Sl.oc ak]; try rfl),rfl⟩
 obtain ⟨au,aG⟩:∃ r:Raw 1,r.cs=[I 1,am]:=⟨Raw.of [I 1,am] rfl (by simp only [List.all_cons,List.all_nil,Bool.true_and,Bool.and_true,Sl.oc ap]; try rfl),rfl⟩
 obtain ⟨av,aH⟩:∃ r:Raw 1,r.cs=[I 0,ao]:=⟨Raw.of [I 0,ao] rfl (by simp only [List.all_cons,List.all_nil,Bool.true_and,Bool.and_true,Sl.oc aA]; try rfl),rfl⟩
 have aB:RepR (α:=Flood) aD.cells [aq,au,av] [(⟨(0:Int),([(200:Int),(250:Int),(310:Int)])⟩:Flood),(⟨(1:Int),([(280:Int),(240:Int),(290:Int)])⟩:Flood),(⟨(0:Int),([(100:Int),(260:Int),(300:Int)])⟩:Flood)]:=.cons (by rw [aF]; exact ⟨_,rfl,ak⟩)<|.cons (by rw [aG]; exact ⟨_,rfl,ap⟩)<|.cons (by rw [aH]; exact ⟨_,rfl,aA⟩)<|.nil
 refine t_bs (α:=Raw 1) T38 [.agg #[I 0,al],.agg #[I 1,am],.agg #[I 0,ao]] [aq,au,av] H rfl (.cons (by rw [show (Flat.enc aq:List Value)=aq.cs from rfl,aF]; rfl) (Flat.rep_enc _ _)<|.cons (by rw [show (Flat.enc au:List Value)=au.cs from rfl,aG]; rfl) (Flat.rep_enc _ _)<|.cons (by rw [show (Flat.enc av:List Value)=av.cs from rfl,aH]; rfl) (Flat.rep_enc _ _)<|.nil) rfl rfl rfl ?_;intro aj bw H;replace H:=H.nf;refine s_val (x_bld (ps:=[(0,ab),(1,ac),(2,ae),(3,ag),(4,.agg #[I ah,I ai]),(5,aj)]) (zs:=[.slice none 0 0,.slice none 0 0,.slice none 0 0,.slice none 0 0,I 0,I 0,.slice none 0 0]) (L':=[ab,ac,ae,ag,I ah,I ai,aj]) rfl Tryz.underlying40 Al40 rfl (Bd40 Tryz.underlying40) (.cons (cs:=[ab]) (Sl.cells (H.os 11)) rfl rfl rfl rfl<|.cons (cs:=[ac]) (Sl.cells (H.os 10)) rfl rfl rfl rfl<|.cons (cs:=[ae]) (Sl.cells (H.os 9)) rfl rfl rfl rfl<|.cons (cs:=[ag]) (Sl.cells (H.os 8)) rfl rfl rfl rfl<|.cons (cs:=[I ah,I ai]) rfl rfl rfl rfl rfl<|.cons (cs:=[aj]) (Sl.cells (rowSl rfl (H.get (k:=0) rfl) (roLe _ (H.get (k:=1) rfl)) aB)) rfl rfl rfl rfl<|.nil)) ?_;refine t_sw 12 0 [ab,ac,ae,ag,I ah,I ai,aj] (.agg #[ab,ac,ae,ag,I ah,I ai,aj]) H rfl rfl Sz40 rfl rfl rfl (by simp only [List.all_cons,List.all_nil,Bool.true_and,Bool.and_true,Sl.oc (H.os 11),Sl.oc (H.os 10),Sl.oc (H.os 9),Sl.oc (H.os 8),Sl.oc (rowSl rfl (H.get (k:=0) rfl) (roLe _ (H.get (k:=1) rfl)) aB)]; try rfl) ?_;intro bx H;refine s_nil ?_;replace H:=H.pk [0,1,8,9,10,11,12];refine W.ret ?_
 have aT:=(H.bl 6)
 have aU:=M.e_pure hM
 exact ⟨_,(resE_of1 (v:=.agg #[ab,ac,ae,ag,I ah,I ai,aj]) rfl (.cell (v:=.agg #[ab,ac,ae,ag,I ah,I ai,aj]) rfl (run_loadVar_ag (ds:=[ab,ac,ae,ag,I ah,I ai,aj]) Ag40 Sz40 aT rfl rfl)<|.nil)),⟨([(2:Int),(2:Int),(3:Int),(-1:Int)]),([(⟨(r0:Int),(r1:Int)⟩:Span),(⟨(aw:Int),(ax:Int)⟩:Span),(⟨(ay:Int),(az:Int)⟩:Span),(⟨(0:Int),(0:Int)⟩:Span)]),([(0:Int),(1:Int)]),([(⟨(3:Int),(lead:Int),(300:Int)⟩:Town)]),ah,ai,([(⟨(0:Int),([(200:Int),(250:Int),(310:Int)])⟩:Flood),(⟨(1:Int),([(280:Int),(240:Int),(290:Int)])⟩:Flood),(⟨(0:Int),([(100:Int),(260:Int),(300:Int)])⟩:Flood)]),ab,ac,ae,ag,aj,[aq,au,av],aD,aU,rfl,(H.pk [5,4,3,2,0,1]),aB⟩⟩

def zaf (n aa greatest:Int):M Bool :=
  M.pure ((decide (aa<=n))&&(decide (n<=greatest)))
theorem zaj {R:List Chunk}  (n:Int) (aa:Int) (greatest:Int)  {r:Bool} (hM:(zaf n aa greatest).Ends r) (w:World) (H:St w w [] R):Ret Tryz.prog 27 #[I n,I aa,I greatest] w fun v w'=>∃ (y0:Bool),y0=r/\v=B y0/\St w w' [] R:=by
 refine ret_of_W Tryz.func27 rfl rfl rfl ?_;refine kg 16 ?_;refine W.ret ?_
 have ab:=M.e_pure hM
 exact ⟨_,resE_tmp rfl,⟨((decide (aa<=n))&&(decide (n<=greatest))),ab,rfl,H⟩⟩

def zbh (s:Span):M Bool :=
  M.bind (zaf s.lo 0 s.hi) fun r2 =>
  M.bind (M.opt r2 (zaf s.hi 0 1000) false) fun r3 =>
  M.pure (r2&&r3)
theorem zdi {R:List Chunk}  (s:Span)  {r:Bool} (hM:(zbh s).Ends r) (w:World) (H:St w w [] R):Ret Tryz.prog 49 #[.agg #[I s.lo,I s.hi]] w fun v w'=>∃ (y0:Bool),y0=r/\v=B y0/\St w w' [] R:=by
 refine ret_of_W Tryz.func49 rfl rfl rfl ?_;refine kg 2 ?_;refine t_bx [I s.lo,I s.hi] H rfl ?_;intro ah ai H;refine kg 8 ?_;obtain ⟨aj,ac,hM⟩:=M.e_bind hM;refine s_call cf27 [I s.lo,I 0,I s.hi] rfl (zaj s.lo 0 s.hi ac _ (H.gt 1)) ?_
 rintro vq ak ⟨r2,rfl,hvq,ab⟩
 subst vq;(try dsimp only at hM);replace H:=H.bk ab;clear ab;refine kg 3 ?_;obtain ⟨r3,ae,hM⟩:=M.e_bind hM;refine t_gcall r2 (gy_t rfl) cf27 (B r3) (fun _=>[I s.hi,I 0,I 1000]) (fun hg=>lst3 (gd_of hg (I s.hi)) rfl rfl) H (fun hg=>(zaj s.hi 0 1000 (M.e_opt ae hg) _ (H.give (A:=[]) rfl)).mono fun v_ w_ ⟨y_,aa,ag,H_⟩=>by subst aa; exact ⟨ag,H.via H_⟩) ?_;intro al H;refine kg 3 ?_;refine W.ret ?_
 have aa:=M.e_pure hM
 exact ⟨_,resE_tmp rfl,⟨(r2&&r3),aa,rfl,(H.pk [])⟩⟩

def zaW (l:List Int) (aa:Int):(Int × Nat)->M ((Int × Nat) ⊕ (Unit ⊕ Unit)):=fun (last,s) =>
  bif decide ((s:Int)<(l.length:Int)) then (
  M.grd (decide ((s:Int)<(l.length:Int))) <|
  M.grd (decide ((-9223372036854775808:Int)<=(last+1))&&decide ((last+1)<=(9223372036854775807:Int))) <|
  M.grd (decide ((-9223372036854775808:Int)<=(aa-1))&&decide ((aa-1)<=(9223372036854775807:Int))) <|
  M.bind (zaf (l.getD s 0) (last+1) (aa-1)) fun r2 =>
  bif !r2 then (
  M.pure (.inr (.inl ())))
  else (
  M.pure (.inl (l.getD s 0,s+1))))
  else (
  M.pure (.inr (.inr ())))
def zaG (l:List Int) (aa:Int):M Bool :=
  M.bind (M.iter (zaW l aa) (-1,0)) fun x_=>match x_ with
  | (.inl (_:Unit))=>(
  M.pure false)
  | (.inr (_:Unit))=>(
  M.pure true)
theorem zcM {R:List Chunk} {aj:Cells} {ac:Value} (l:List Int) (ab:Int) (ay:Reads R aj) (ao:Sl aj ac l) {r:Bool} (hM:(zaG l ab).Ends r) (w:World) (H:St w w [] R):Ret Tryz.prog 50 #[ac,I ab] w fun v w'=>∃ (y0:Bool),y0=r/\v=B y0/\St w w' [] R:=by
 refine ret_of_W Tryz.func50 rfl rfl rfl ?_
 have az:=(ao).len_le
 refine kg 16 ?_;obtain ⟨ap,ae,ak⟩:=M.e_bind hM
 obtain ⟨aA,ae⟩:=M.e_iter ae
 refine W.loop (fun m σ W=>∃ (last:Int) (s:Nat) (ρ:Env),σ=upds ρ [(1,I ab),(5,I last),(8,ac),(9,I (l.length:Int)),(10,I (s:Int))]/\M.iterN (zaW l ab) m (last,s)=some ap/\St w W [] R) ?_ ?_
 ·exact ⟨_,-1,0,_,upds_of _ _ ⟨rfl,rfl,rfl,rfl,rfl,trivial⟩,ae,H⟩
 rintro aB σ aC ⟨last,s,ρ,rfl,al,H⟩
 obtain ⟨aq,au,aD,hM,ag⟩:=M.e_iterN al
 simp only [zaW] at hM
 clear al;refine kg 5 ?_
 refine W.cond (decide ((s:Int)<(l.length:Int))) rfl (fun aa=>?_) (fun aa=>?_)
 ·replace hM:=M.e_t hM aa
  replace aa:=dI aa
  obtain ⟨aE,hM⟩:=M.e_gd hM;obtain ⟨aF,hM⟩:=M.e_gd hM;obtain ⟨aG,hM⟩:=M.e_gd hM;refine kg 17 ?_;obtain ⟨aH,av,hM⟩:=M.e_bind hM;refine s_call cf27 [I (l.getD s 0),I (last+1),I (ab-1)] rfl (zaj (l.getD s 0) (last+1) (ab-1) av _ (H.gt 0)) ?_
  rintro vq aI ⟨r2,rfl,hvq,am⟩
  subst vq;(try dsimp only at hM);replace H:=H.bk am;clear am;refine kg 2 ?_
  refine W.cond (!r2) rfl (fun ah=>?_) (fun ah=>?_)
  ·replace hM:=M.e_t hM ah;refine kg 4 ?_;refine W.ret ?_
   have aw:=M.e_inr hM ag
   subst aw;replace hM:=ak;(try dsimp only at hM)
   have ai:=M.e_pure hM
   exact ⟨_,resE_tmp rfl,⟨false,ai,rfl,H⟩⟩
  replace hM:=M.e_f hM ah;refine kg 9 ?_
  exact ⟨aq,au,l.getD s 0,s+1,_,upds_of _ _ ⟨rfl,rfl,rfl,rfl,rfl,trivial⟩,M.e_inl hM ag,H⟩
 replace hM:=M.e_f hM aa
 replace aa:=dI aa
 refine W.exit ?_
 have ax:=M.e_inr hM ag
 subst ax;replace hM:=ak;(try dsimp only at hM);refine kg 4 ?_;refine W.ret ?_
 have ai:=M.e_pure hM
 exact ⟨_,resE_tmp rfl,⟨true,ai,rfl,H⟩⟩

def zbp (s:List Town) (f:Town->M Bool):Nat->M (Nat ⊕ (Int ⊕ Unit)):=fun s2 =>
  bif decide ((s2:Int)<(s.length:Int)) then (
  M.grd (decide ((s2:Int)<(s.length:Int))) <|
  M.bind (f (s.getD s2 default)) fun r2 =>
  bif r2 then (
  M.pure (.inr (.inl (s2:Int))))
  else (
  M.pure (.inl (s2+1))))
  else (
  M.pure (.inr (.inr ())))
def zci (s:List Town) (f:Town->M Bool):M Int :=
  M.bind (M.iter (zbp s f) 0) fun x_=>match x_ with
  | (.inl s3)=>(
  M.pure s3)
  | (.inr (_:Unit))=>(
  M.pure (-1))
theorem zeq {R:List Chunk} {aj:Cells} {ab:Value} {ac:Value} (s:List Town) (f:Town->M Bool) (ao:Reads R aj) (ak:Sl aj ab s) (ap:FnM Tryz.prog R ac f) {r:Int} (hM:(zci s f).Ends r) (w:World) (H:St w w [] R):Ret Tryz.prog 82 #[ab,ac] w fun v w'=>∃ (y0:Int),y0=r/\v=I y0/\St w w' [] R:=by
 refine ret_of_W Tryz.func82 rfl rfl rfl ?_
 have az:=(ak).len_le
 refine kg 12 ?_;obtain ⟨aq,ae,al⟩:=M.e_bind hM
 obtain ⟨aA,ae⟩:=M.e_iter ae
 refine W.loop (fun m σ W=>∃ (s2:Nat) (ρ:Env),σ=upds ρ [(0,ab),(1,ac),(7,I (s.length:Int)),(8,I (s2:Int))]/\M.iterN (zbp s f) m s2=some aq/\St w W [] R) ?_ ?_
 ·exact ⟨_,0,_,upds_of _ _ ⟨rfl,rfl,rfl,rfl,trivial⟩,ae,H⟩
 rintro aB σ aC ⟨s2,ρ,rfl,am,H⟩
 obtain ⟨au,av,aD,hM,ag⟩:=M.e_iterN am
 simp only [zbp] at hM
 clear am;refine kg 5 ?_
 refine W.cond (decide ((s2:Int)<(s.length:Int))) rfl (fun aa=>?_) (fun aa=>?_)
 ·replace hM:=M.e_t hM aa
  replace aa:=dI aa
  obtain ⟨aE,hM⟩:=M.e_gd hM;refine kg 14 ?_;refine s_val (x_ld (v:=.agg #[I ((s.getD s2 default).station),I ((s.getD s2 default).lead),I ((s.getD s2 default).alarm)]) rfl (ld_ag Ag44 Sz44 (At.mono (Town_atA ak (i:=(s2:Int)) (by omega) (by omega)) (ao.at H)))) ?_;obtain ⟨r2,aw,hM⟩:=M.e_bind hM;refine t_callM H ap rfl rfl (s.getD s2 default) Reads.none ⟨_,rfl,rfl⟩ aw ?_;intro aF H;refine s_nil ?_
  refine W.cond r2 rfl (fun ah=>?_) (fun ah=>?_)
  ·replace hM:=M.e_t hM ah;refine kg 5 ?_;refine W.ret ?_
   have ax:=M.e_inr hM ag
   subst ax;replace hM:=al;(try dsimp only at hM)
   have ai:=M.e_pure hM
   exact ⟨_,resE_tmp rfl,⟨(s2:Int),ai,rfl,H⟩⟩
  replace hM:=M.e_f hM ah;refine kg 5 ?_
  exact ⟨au,av,s2+1,_,upds_of _ _ ⟨rfl,rfl,rfl,rfl,trivial⟩,M.e_inl hM ag,H⟩
 replace hM:=M.e_f hM aa
 replace aa:=dI aa
 refine W.exit ?_
 have ay:=M.e_inr hM ag
 subst ay;replace hM:=al;(try dsimp only at hM);refine kg 4 ?_;refine W.ret ?_
 have ai:=M.e_pure hM
 exact ⟨_,resE_tmp rfl,⟨(-1),ai,rfl,H⟩⟩

def zaU (s:List Town) (f:Town->M Bool):M Bool :=
  M.bind (zci s f) fun r2 =>
  M.pure (decide (0<=r2))
theorem zcz {R:List Chunk} {ac:Cells} {aa:Value} {ab:Value} (s:List Town) (f:Town->M Bool) (ag:Reads R ac) (ah:Sl ac aa s) (ai:FnM Tryz.prog R ab f) {r:Bool} (hM:(zaU s f).Ends r) (w:World) (H:St w w [] R):Ret Tryz.prog 65 #[aa,ab] w fun v w'=>∃ (y0:Bool),y0=r/\v=B y0/\St w w' [] R:=by
 refine ret_of_W Tryz.func65 rfl rfl rfl ?_;refine kg 8 ?_;obtain ⟨al,aj,hM⟩:=M.e_bind hM;refine s_call cf82 [aa,ab] rfl (zeq s f (ag.app _) ah (ai.app _) aj _ (H.gt 0)) ?_
 rintro vq am ⟨r2,rfl,hvq,ae⟩
 subst vq;(try dsimp only at hM);replace H:=H.bk ae;clear ae;refine kg 3 ?_;refine W.ret ?_
 have ak:=M.e_pure hM
 exact ⟨_,resE_tmp rfl,⟨(decide (0<=r2)),ak,rfl,H⟩⟩

def zbO (x:Town) (aa:Town->M Bool):M Bool :=
  M.bind (aa x) fun r2 =>
  M.pure (!r2)
theorem zdX {R:List Chunk} {aa:Nat} {ab:Value} (x:Town) (ac:Town->M Bool) (ae:FnM Tryz.prog R ab ac) (ai:Has R (cBlk aa [ab] 123)) {r:Bool} (hM:(zbO x ac).Ends r) (w:World) (H:St w w [] R):Ret Tryz.prog 76 #[.agg #[I x.station,I x.lead,I x.alarm],Pq aa] w fun v w'=>∃ (y0:Bool),y0=r/\v=B y0/\St w w' [] R:=by
 refine ret_of_W Tryz.func76 rfl rfl rfl ?_;refine kg 2 ?_;refine t_bx [I x.station,I x.lead,I x.alarm] H rfl ?_;intro aj ak H;refine kg 6 ?_;obtain ⟨r2,ag,hM⟩:=M.e_bind hM;refine t_callM H ae rfl rfl x Reads.none ⟨_,rfl,rfl⟩ ag ?_;intro al H;refine kg 3 ?_;refine W.ret ?_
 have ah:=M.e_pure hM
 exact ⟨_,resE_tmp rfl,⟨(!r2),ah,rfl,(H.pk [])⟩⟩

def zbq (l:List Town) (so:Town->M Bool):M Bool :=
  M.bind (zaU l (fun aa=>zbO aa so)) fun r2 =>
  M.pure (!r2)
theorem zc6 {R:List Chunk} {ag:Cells} {ab:Value} {aa:Value} (l:List Town) (so:Town->M Bool) (ak:Reads R ag) (al:Sl ag ab l) (ah:FnM Tryz.prog R aa so) {r:Bool} (hM:(zbq l so).Ends r) (w:World) (H:St w w [] R):Ret Tryz.prog 51 #[ab,aa] w fun v w'=>∃ (y0:Bool),y0=r/\v=B y0/\St w w' [] R:=by
 refine ret_of_W Tryz.func51 rfl rfl rfl ?_;refine kg 2 ?_;refine t_box (v:=aa) (cs:=[aa]) H rfl (FnM.cells ah) ?_;intro ac az H;refine kg 5 ?_;refine s_val (x_mf (fs:=[]) (cs:=[Pq ac]) rfl rfl) ?_;obtain ⟨aA,am,hM⟩:=M.e_bind hM;refine s_call cf65 [ab,.func (.func 76) #[] #[Pq ac]] rfl (zcz l (fun ae=>zbO ae so) (ak.app _) al ⟨76,[Pq ac],rfl,cf76,fun ai aB aC ao ae aD ap aE aq au=>by obtain rfl:=Town_arg aq; exact (zdX ae so (FnM.app (ah.app _) _) (Has.app (Has.here (k:=0) rfl) _) au ai (St.refl ap)).mono fun ao ai ⟨aF,av,aw,ax⟩=>by subst av; exact ⟨aw,ax⟩⟩ am _ (H.gt 1)) ?_
 rintro vq aG ⟨r2,rfl,hvq,aj⟩
 subst vq;(try dsimp only at hM);replace H:=H.bk aj;clear aj;refine kg 3 ?_;refine W.ret ?_
 have ay:=M.e_pure hM
 exact ⟨_,resE_tmp rfl,⟨(!r2),ay,rfl,(H.pk [])⟩⟩

def zaM (n:Int):M Bool :=
  M.bind (zaf n 0 2000) fun r2 =>
  M.pure r2
theorem zde {R:List Chunk}  (n:Int)  {r:Bool} (hM:(zaM n).Ends r) (w:World) (H:St w w [] R):Ret Tryz.prog 55 #[I n] w fun v w'=>∃ (y0:Bool),y0=r/\v=B y0/\St w w' [] R:=by
 refine ret_of_W Tryz.func55 rfl rfl rfl ?_;refine kg 7 ?_;obtain ⟨ae,ab,hM⟩:=M.e_bind hM;refine s_call cf27 [I n,I 0,I 2000] rfl (zaj n 0 2000 ab _ (H.gt 0)) ?_
 rintro vq ag ⟨r2,rfl,hvq,aa⟩
 subst vq;(try dsimp only at hM);replace H:=H.bk aa;clear aa;refine kg 2 ?_;refine W.ret ?_
 have ac:=M.e_pure hM
 exact ⟨_,resE_tmp rfl,⟨r2,ac,rfl,H⟩⟩

def zbx (t:Town):M Bool :=
  M.bind (zaf t.lead 0 1000) fun r2 =>
  M.bind (M.opt r2 (zaM t.alarm) false) fun r3 =>
  M.pure (r2&&r3)
theorem zdz {R:List Chunk}  (t:Town)  {r:Bool} (hM:(zbx t).Ends r) (w:World) (H:St w w [] R):Ret Tryz.prog 52 #[.agg #[I t.station,I t.lead,I t.alarm]] w fun v w'=>∃ (y0:Bool),y0=r/\v=B y0/\St w w' [] R:=by
 refine ret_of_W Tryz.func52 rfl rfl rfl ?_;refine kg 2 ?_;refine t_bx [I t.station,I t.lead,I t.alarm] H rfl ?_;intro ah ai H;refine kg 6 ?_;obtain ⟨aj,ac,hM⟩:=M.e_bind hM;refine s_call cf27 [I t.lead,I 0,I 1000] rfl (zaj t.lead 0 1000 ac _ (H.gt 1)) ?_
 rintro vq ak ⟨r2,rfl,hvq,ab⟩
 subst vq;(try dsimp only at hM);replace H:=H.bk ab;clear ab;refine kg 3 ?_;obtain ⟨r3,ae,hM⟩:=M.e_bind hM;refine t_gcall r2 (gy_t rfl) cf55 (B r3) (fun _=>[I t.alarm]) (fun hg=>lst1 (gd_of hg (I t.alarm))) H (fun hg=>(zde t.alarm (M.e_opt ae hg) _ (H.give (A:=[]) rfl)).mono fun v_ w_ ⟨y_,aa,ag,H_⟩=>by subst aa; exact ⟨ag,H.via H_⟩) ?_;intro al H;refine kg 3 ?_;refine W.ret ?_
 have aa:=M.e_pure hM
 exact ⟨_,resE_tmp rfl,⟨(r2&&r3),aa,rfl,(H.pk [])⟩⟩

def zb6 (t:Town) (aa:Int):M Bool :=
  M.grd (decide ((-9223372036854775808:Int)<=(aa-1))&&decide ((aa-1)<=(9223372036854775807:Int))) <|
  M.bind (zaf t.station 0 (aa-1)) fun r2 =>
  M.pure r2
theorem zel {R:List Chunk} {ab:Nat} (t:Town) (aa:Int) (ah:Has R (cBlk ab [I aa] 3)) {r:Bool} (hM:(zb6 t aa).Ends r) (w:World) (H:St w w [] R):Ret Tryz.prog 53 #[.agg #[I t.station,I t.lead,I t.alarm],Pq ab] w fun v w'=>∃ (y0:Bool),y0=r/\v=B y0/\St w w' [] R:=by
 refine ret_of_W Tryz.func53 rfl rfl rfl ?_;refine kg 2 ?_;refine t_bx [I t.station,I t.lead,I t.alarm] H rfl ?_;intro ai aj H;obtain ⟨ak,hM⟩:=M.e_gd hM;refine kg 8 ?_;obtain ⟨al,ae,hM⟩:=M.e_bind hM;refine s_call cf27 [I t.station,I 0,I (aa-1)] rfl (zaj t.station 0 (aa-1) ae _ (H.gt 1)) ?_
 rintro vq am ⟨r2,rfl,hvq,ac⟩
 subst vq;(try dsimp only at hM);replace H:=H.bk ac;clear ac;refine kg 2 ?_;refine W.ret ?_
 have ag:=M.e_pure hM
 exact ⟨_,resE_tmp rfl,⟨r2,ag,rfl,(H.pk [])⟩⟩

def za3 (s:List Int) (v:Int):Nat->M (Nat ⊕ (Int ⊕ Unit)):=fun s2 =>
  bif decide ((s2:Int)<(s.length:Int)) then (
  M.grd (decide ((s2:Int)<(s.length:Int))) <|
  bif v==(s.getD s2 0) then (
  M.pure (.inr (.inl (s2:Int))))
  else (
  M.pure (.inl (s2+1))))
  else (
  M.pure (.inr (.inr ())))
def zbD (s:List Int) (v:Int):M Int :=
  M.bind (M.iter (za3 s v) 0) fun x_=>match x_ with
  | (.inl s3)=>(
  M.pure s3)
  | (.inr (_:Unit))=>(
  M.pure (-1))
theorem zcW {R:List Chunk} {ai:Cells} {ac:Value} (s:List Int) (v:Int) (av:Reads R ai) (al:Sl ai ac s) {r:Int} (hM:(zbD s v).Ends r) (w:World) (H:St w w [] R):Ret Tryz.prog 43 #[ac,I v] w fun v w'=>∃ (y0:Int),y0=r/\v=I y0/\St w w' [] R:=by
 refine ret_of_W Tryz.func43 rfl rfl rfl ?_
 have aw:=(al).len_le
 refine kg 12 ?_;obtain ⟨am,ae,aj⟩:=M.e_bind hM
 obtain ⟨ax,ae⟩:=M.e_iter ae
 refine W.loop (fun m σ W=>∃ (s2:Nat) (ρ:Env),σ=upds ρ [(0,ac),(1,I v),(7,I (s.length:Int)),(8,I (s2:Int))]/\M.iterN (za3 s v) m s2=some am/\St w W [] R) ?_ ?_
 ·exact ⟨_,0,_,upds_of _ _ ⟨rfl,rfl,rfl,rfl,trivial⟩,ae,H⟩
 rintro ay σ az ⟨s2,ρ,rfl,ak,H⟩
 obtain ⟨ao,ap,aA,hM,ag⟩:=M.e_iterN ak
 simp only [za3] at hM
 clear ak;refine kg 5 ?_
 refine W.cond (decide ((s2:Int)<(s.length:Int))) rfl (fun aa=>?_) (fun aa=>?_)
 ·replace hM:=M.e_t hM aa
  replace aa:=dI aa
  obtain ⟨aB,hM⟩:=M.e_gd hM;refine kg 17 ?_
  refine W.cond (v==(s.getD s2 0)) rfl (fun ab=>?_) (fun ab=>?_)
  ·replace hM:=M.e_t hM ab
   replace ab:=dI ab
   refine kg 5 ?_;refine W.ret ?_
   have aq:=M.e_inr hM ag
   subst aq;replace hM:=aj;(try dsimp only at hM)
   have ah:=M.e_pure hM
   exact ⟨_,resE_tmp rfl,⟨(s2:Int),ah,rfl,H⟩⟩
  replace hM:=M.e_f hM ab
  replace ab:=dI ab
  refine kg 5 ?_
  exact ⟨ao,ap,s2+1,_,upds_of _ _ ⟨rfl,rfl,rfl,rfl,trivial⟩,M.e_inl hM ag,H⟩
 replace hM:=M.e_f hM aa
 replace aa:=dI aa
 refine W.exit ?_
 have au:=M.e_inr hM ag
 subst au;replace hM:=aj;(try dsimp only at hM);refine kg 4 ?_;refine W.ret ?_
 have ah:=M.e_pure hM
 exact ⟨_,resE_tmp rfl,⟨(-1),ah,rfl,H⟩⟩

def zbU (s:List Int) (v:Int):M Bool :=
  M.bind (zbD s v) fun r2 =>
  M.pure (decide (0<=r2))
theorem zd3 {R:List Chunk} {ab:Cells} {aa:Value} (s:List Int) (v:Int) (ae:Reads R ab) (ag:Sl ab aa s) {r:Bool} (hM:(zbU s v).Ends r) (w:World) (H:St w w [] R):Ret Tryz.prog 54 #[aa,I v] w fun v w'=>∃ (y0:Bool),y0=r/\v=B y0/\St w w' [] R:=by
 refine ret_of_W Tryz.func54 rfl rfl rfl ?_;refine kg 8 ?_;obtain ⟨aj,ah,hM⟩:=M.e_bind hM;refine s_call cf43 [aa,I v] rfl (zcW s v (ae.app _) ag ah _ (H.gt 0)) ?_
 rintro vq ak ⟨r2,rfl,hvq,ac⟩
 subst vq;(try dsimp only at hM);replace H:=H.bk ac;clear ac;refine kg 3 ?_;refine W.ret ?_
 have ai:=M.e_pure hM
 exact ⟨_,resE_tmp rfl,⟨(decide (0<=r2)),ai,rfl,H⟩⟩

def zbc (s:List Int) (f:Int->M Bool):Nat->M (Nat ⊕ (Int ⊕ Unit)):=fun s2 =>
  bif decide ((s2:Int)<(s.length:Int)) then (
  M.grd (decide ((s2:Int)<(s.length:Int))) <|
  M.bind (f (s.getD s2 0)) fun r2 =>
  bif r2 then (
  M.pure (.inr (.inl (s2:Int))))
  else (
  M.pure (.inl (s2+1))))
  else (
  M.pure (.inr (.inr ())))
def zcV (s:List Int) (f:Int->M Bool):M Int :=
  M.bind (M.iter (zbc s f) 0) fun x_=>match x_ with
  | (.inl s3)=>(
  M.pure s3)
  | (.inr (_:Unit))=>(
  M.pure (-1))
theorem zef {R:List Chunk} {aj:Cells} {ab:Value} {ac:Value} (s:List Int) (f:Int->M Bool) (ay:Reads R aj) (am:Sl aj ab s) (ao:FnM Tryz.prog R ac f) {r:Int} (hM:(zcV s f).Ends r) (w:World) (H:St w w [] R):Ret Tryz.prog 83 #[ab,ac] w fun v w'=>∃ (y0:Int),y0=r/\v=I y0/\St w w' [] R:=by
 refine ret_of_W Tryz.func83 rfl rfl rfl ?_
 have az:=(am).len_le
 refine kg 12 ?_;obtain ⟨ap,ae,ak⟩:=M.e_bind hM
 obtain ⟨aA,ae⟩:=M.e_iter ae
 refine W.loop (fun m σ W=>∃ (s2:Nat) (ρ:Env),σ=upds ρ [(0,ab),(1,ac),(7,I (s.length:Int)),(8,I (s2:Int))]/\M.iterN (zbc s f) m s2=some ap/\St w W [] R) ?_ ?_
 ·exact ⟨_,0,_,upds_of _ _ ⟨rfl,rfl,rfl,rfl,trivial⟩,ae,H⟩
 rintro aB σ aC ⟨s2,ρ,rfl,al,H⟩
 obtain ⟨aq,au,aD,hM,ag⟩:=M.e_iterN al
 simp only [zbc] at hM
 clear al;refine kg 5 ?_
 refine W.cond (decide ((s2:Int)<(s.length:Int))) rfl (fun aa=>?_) (fun aa=>?_)
 ·replace hM:=M.e_t hM aa
  replace aa:=dI aa
  obtain ⟨aE,hM⟩:=M.e_gd hM;refine kg 15 ?_;obtain ⟨r2,av,hM⟩:=M.e_bind hM;refine t_callM H ao rfl rfl (s.getD s2 0) Reads.none (Arg.mkI (fun _=>none) _) av ?_;intro aF H;refine s_nil ?_
  refine W.cond r2 rfl (fun ah=>?_) (fun ah=>?_)
  ·replace hM:=M.e_t hM ah;refine kg 5 ?_;refine W.ret ?_
   have aw:=M.e_inr hM ag
   subst aw;replace hM:=ak;(try dsimp only at hM)
   have ai:=M.e_pure hM
   exact ⟨_,resE_tmp rfl,⟨(s2:Int),ai,rfl,H⟩⟩
  replace hM:=M.e_f hM ah;refine kg 5 ?_
  exact ⟨aq,au,s2+1,_,upds_of _ _ ⟨rfl,rfl,rfl,rfl,trivial⟩,M.e_inl hM ag,H⟩
 replace hM:=M.e_f hM aa
 replace aa:=dI aa
 refine W.exit ?_
 have ax:=M.e_inr hM ag
 subst ax;replace hM:=ak;(try dsimp only at hM);refine kg 4 ?_;refine W.ret ?_
 have ai:=M.e_pure hM
 exact ⟨_,resE_tmp rfl,⟨(-1),ai,rfl,H⟩⟩

def zcC (s:List Int) (f:Int->M Bool):M Bool :=
  M.bind (zcV s f) fun r2 =>
  M.pure (decide (0<=r2))
theorem zev {R:List Chunk} {ac:Cells} {aa:Value} {ab:Value} (s:List Int) (f:Int->M Bool) (ag:Reads R ac) (ah:Sl ac aa s) (ai:FnM Tryz.prog R ab f) {r:Bool} (hM:(zcC s f).Ends r) (w:World) (H:St w w [] R):Ret Tryz.prog 67 #[aa,ab] w fun v w'=>∃ (y0:Bool),y0=r/\v=B y0/\St w w' [] R:=by
 refine ret_of_W Tryz.func67 rfl rfl rfl ?_;refine kg 8 ?_;obtain ⟨al,aj,hM⟩:=M.e_bind hM;refine s_call cf83 [aa,ab] rfl (zef s f (ag.app _) ah (ai.app _) aj _ (H.gt 0)) ?_
 rintro vq am ⟨r2,rfl,hvq,ae⟩
 subst vq;(try dsimp only at hM);replace H:=H.bk ae;clear ae;refine kg 3 ?_;refine W.ret ?_
 have ak:=M.e_pure hM
 exact ⟨_,resE_tmp rfl,⟨(decide (0<=r2)),ak,rfl,H⟩⟩

def zbw (x:Int) (aa:Int->M Bool):M Bool :=
  M.bind (aa x) fun r2 =>
  M.pure (!r2)
theorem zdC {R:List Chunk} {aa:Nat} {ab:Value} (x:Int) (ac:Int->M Bool) (ae:FnM Tryz.prog R ab ac) (ai:Has R (cBlk aa [ab] 82)) {r:Bool} (hM:(zbw x ac).Ends r) (w:World) (H:St w w [] R):Ret Tryz.prog 68 #[I x,Pq aa] w fun v w'=>∃ (y0:Bool),y0=r/\v=B y0/\St w w' [] R:=by
 refine ret_of_W Tryz.func68 rfl rfl rfl ?_;refine kg 8 ?_;obtain ⟨r2,ag,hM⟩:=M.e_bind hM;refine t_callM H ae rfl rfl x Reads.none (Arg.mkI (fun _=>none) _) ag ?_;intro aj H;refine kg 3 ?_;refine W.ret ?_
 have ah:=M.e_pure hM
 exact ⟨_,resE_tmp rfl,⟨(!r2),ah,rfl,H⟩⟩

def zbm (l:List Int) (so:Int->M Bool):M Bool :=
  M.bind (zcC l (fun aa=>zbw aa so)) fun r2 =>
  M.pure (!r2)
theorem zdt {R:List Chunk} {ag:Cells} {ab:Value} {aa:Value} (l:List Int) (so:Int->M Bool) (ak:Reads R ag) (al:Sl ag ab l) (ah:FnM Tryz.prog R aa so) {r:Bool} (hM:(zbm l so).Ends r) (w:World) (H:St w w [] R):Ret Tryz.prog 40 #[ab,aa] w fun v w'=>∃ (y0:Bool),y0=r/\v=B y0/\St w w' [] R:=by
 refine ret_of_W Tryz.func40 rfl rfl rfl ?_;refine kg 2 ?_;refine t_box (v:=aa) (cs:=[aa]) H rfl (FnM.cells ah) ?_;intro ac az H;refine kg 5 ?_;refine s_val (x_mf (fs:=[]) (cs:=[Pq ac]) rfl rfl) ?_;obtain ⟨aA,am,hM⟩:=M.e_bind hM;refine s_call cf67 [ab,.func (.func 68) #[] #[Pq ac]] rfl (zev l (fun ae=>zbw ae so) (ak.app _) al ⟨68,[Pq ac],rfl,cf68,fun ai aB aC ao ae aD ap aE aq au=>by obtain rfl:=Arg.int aq; exact (zdC ae so (FnM.app (ah.app _) _) (Has.app (Has.here (k:=0) rfl) _) au ai (St.refl ap)).mono fun ao ai ⟨aF,av,aw,ax⟩=>by subst av; exact ⟨aw,ax⟩⟩ am _ (H.gt 1)) ?_
 rintro vq aG ⟨r2,rfl,hvq,aj⟩
 subst vq;(try dsimp only at hM);replace H:=H.bk aj;clear aj;refine kg 3 ?_;refine W.ret ?_
 have ay:=M.e_pure hM
 exact ⟨_,resE_tmp rfl,⟨(!r2),ay,rfl,(H.pk [])⟩⟩

end Go.Proofs.YtdmdhmineljlhabGreat
end
section
set_option maxRecDepth 100000
set_option maxHeartbeats 16000000
namespace Go.Proofs.YtdmdhmineljlhabGreat
open Go Go.Nm
attribute [local irreducible] gd execOp SL SLD SLT WR
def za6 (aa:List Int) (ab:List Span):Nat->M (Nat ⊕ (Int ⊕ Unit)):=fun s =>
  bif decide ((s:Int)<(aa.length:Int)) then (
  M.grd (decide ((s:Int)<(aa.length:Int))) <|
  M.bind (M.opt ((aa.getD s 0) != (-1)) (zaf (aa.getD s 0) ((s:Int)+1) ((aa.length:Int)-1)) false) fun r4 =>
  bif (((aa.getD s 0) != (-1))&&(!r4)) then (
  M.pure (.inr (.inl 2)))
  else (
  M.grd (decide ((s:Int)<(ab.length:Int))) <|
  M.bind (zbh (ab.getD s default)) fun r5 =>
  bif !r5 then (
  M.pure (.inr (.inl 130)))
  else (
  M.pure (.inl (s+1)))))
  else (
  M.pure (.inr (.inr ())))
def zav  : Int->(Int × Int)->M (Int ⊕ Unit):=fun s3 (x,x2) =>
  M.grd (decide ((-9223372036854775808:Int)<=(s3+1))&&decide ((s3+1)<=(9223372036854775807:Int))) <|
  M.pure (.inl (s3+1))
def zbv (ac:List Int) (ae:List Span) (ab:List Int) (ag:List Town) (ah ai:Int) (aa:List Flood):Nat->M (Nat ⊕ (Int ⊕ Unit)):=fun s4 =>
  bif decide ((s4:Int)<(aa.length:Int)) then (
  M.grd (decide ((s4:Int)<(aa.length:Int))) <|
  M.bind (zao ac ae ab ag ah ai aa (max 0 ((aa.getD s4 default).spring))) fun (aj,ak,al) =>
  M.bind (zak (M.yl zav) (.inl 0) aj ac ae ab ag ak al aa) fun x_=>match x_ with
  | (.inl s3,q0)=>(
  M.bind (zbU ab ((aa.getD s4 default).spring)) fun am =>
  bif ((!am)||((((aa.getD s4 default).stages).length:Int) != s3)) then (
  M.pure (.inr (.inl 2)))
  else (
  M.bind (zbm ((aa.getD s4 default).stages) (fun ao=>zaM ao)) fun ap =>
  bif !ap then (
  M.pure (.inr (.inl 130)))
  else (
  M.pure (.inl (s4+1)))))
  | (.inr _,_)=>M.fail)
  else (
  M.pure (.inr (.inr ())))
def zba (aa:List Int) (ab:List Span) (ae:List Int) (ac:List Town) (ah ai:Int) (aj:List Flood):M Int :=
  M.bind (zaf (aa.length:Int) 1 12) fun r2 =>
  M.bind (M.opt (!((!r2)||((ab.length:Int) != (aa.length:Int)))) (zaf (ae.length:Int) 1 8) false) fun r3 =>
  bif (((((!r2)||((ab.length:Int) != (aa.length:Int)))||(!r3))||(decide (8<(ac.length:Int))))||(decide (20<(aj.length:Int)))) then (
  M.pure 3)
  else (
  M.bind (M.iter (za6 aa ab) 0) fun x_=>match x_ with
  | (.inl s2)=>(
  M.pure s2)
  | (.inr (_:Unit))=>(
  M.bind (zaG ae (aa.length:Int)) fun r6 =>
  bif !r6 then (
  M.pure 9)
  else (
  M.bind (zbq ac (fun ag=>zbx ag)) fun r7 =>
  M.bind (M.opt (!(!r7)) (zbq ac (fun ag=>zb6 ag (aa.length:Int))) false) fun r8 =>
  M.bind (M.opt (!((!r7)||(!r8))) (zbh (⟨(ah:Int),(ai:Int)⟩:Span)) false) fun r9 =>
  bif (((!r7)||(!r8))||(!r9)) then (
  M.pure 130)
  else (
  M.bind (M.iter (zbv aa ab ae ac ah ai aj) 0) fun x_=>match x_ with
  | (.inl s5)=>(
  M.pure s5)
  | (.inr (_:Unit))=>(
  M.pure 0)))))
theorem zdK {R:List Chunk} {bz:Cells} {ai:Value} {bA:Cells} {ak:Value} {bB:Cells} {ah:Value} {bC:Cells} {ag:Value} {bD:Cells} {aj:Value} (aa:List Int) (ap:List Span) (au:List Int) (ax:List Town) (al:Int) (am:Int) (ab:List Flood) (aZ:Reads R bz) (aN:Sl bz ai aa) (a6:Reads R bA) (a7:Sl bA ak ap) (aD:Reads R bB) (aE:Sl bB ah au) (aF:Reads R bC) (aG:Sl bC ag ax) (aH:Reads R bD) (aI:Sl bD aj ab) {r:Int} (hM:(zba aa ap au ax al am ab).Ends r) (w:World) (H:St w w [] R):Ret Tryz.prog 30 #[.agg #[ai,ak,ah,ag,I al,I am,aj]] w fun v w'=>∃ (y0:Int),y0=r/\v=I y0/\St w w' [] R:=by
 refine ret_of_WD Tryz.func30 rfl rfl rfl ?_
 replace H:St w w [cMk ([])] R:=H.mk0
 have co:=aN.len_le
 have cp:=a7.len_le
 have cq:=aE.len_le
 have cr:=aG.len_le
 have ct:=aI.len_le
 unfold zba at hM
 refine WD.seq<|WD.of<|W.region rfl ?_;refine t_bx [ai,ak,ah,ag,I al,I am,aj] H rfl ?_;intro aw cu H;refine kg 2 ?_;refine WD.seq<|WD.of ?_
 have cv:=(aN).len_le
 refine kg 4 ?_;refine t_alloc (cs:=[I 0]) H Al3 rfl ?_;intro ao cw H;refine t_sw 0 0 [I (aa.length:Int)] (I (aa.length:Int)) H rfl rfl Sz3 rfl rfl rfl rfl ?_;intro cx H;refine s_nil<|WD.seq<|WD.seq<|WD.of ?_;refine kg 2 ?_;obtain ⟨cy,bN,hM⟩:=M.e_bind hM;refine s_call cf27 [I (aa.length:Int),I 1,I 12] rfl (zaj (aa.length:Int) 1 12 bN _ (H.gt 3)) ?_
 rintro vq cz ⟨r2,rfl,hvq,ac⟩
 subst vq;(try dsimp only at hM);replace H:=H.bk ac;clear ac
 have cA:=(a7).len_le
 have cB:=(aE).len_le
 refine kg 12 ?_;obtain ⟨r3,bO,hM⟩:=M.e_bind hM;refine t_gcall (!((!r2)||((ap.length:Int) != (aa.length:Int)))) (gy_f rfl) cf27 (B r3) (fun _=>[I (au.length:Int),I 1,I 8]) (fun hg=>lst3 (gd_of hg (I (au.length:Int))) rfl rfl) H (fun hg=>(zaj (au.length:Int) 1 8 (M.e_opt bO hg) _ (H.give (A:=[]) rfl)).mono fun v_ w_ ⟨y_,ae,az,H_⟩=>by subst ae; exact ⟨az,H.via H_⟩) ?_;intro cC H
 have cD:=(aG).len_le
 have cE:=(aI).len_le
 refine kg 15 ?_
 refine WD.cond (((((!r2)||((ap.length:Int) != (aa.length:Int)))||(!r3))||(decide (8<(ax.length:Int))))||(decide (20<(ab.length:Int)))) rfl (fun bg=>?_) (fun bg=>?_)
 ·replace hM:=M.e_t hM bg;refine WD.seq<|WD.of ?_;refine kg 3 ?_;replace H:=H.pk [2];refine WD.of ?_;refine W.ret ?_;refine bodyD_r (H.pk [0]) ?_;intro cF H;replace H:=H.nf
  have ae:=M.e_pure hM
  exact ⟨_,resE_tmp rfl,⟨3,ae,rfl,H⟩⟩
 replace hM:=M.e_f hM bg;refine WD.of<|W.skip<|WD.seq<|WD.seq<|WD.of ?_
 have cG:=(aN).len_le
 refine kg 6 ?_;refine WD.block ?_;obtain ⟨bP,bh,bi⟩:=M.e_bind hM
 obtain ⟨bQ,bh⟩:=M.e_iter bh
 refine WD.loop (fun m bE σ W=>∃ (s:Nat) (ρ:Env),σ=upds ρ [(1,Pq aw),(3,Pq ao),(42,ai),(43,I (aa.length:Int)),(44,I (s:Int))]/\M.iterN (za6 aa ap) m s=some bP/\St w W [cBlk ao [I (aa.length:Int)] 3,cBlk aw [ai,ak,ah,ag,I al,I am,aj] 40,cMk bE] R) ?_ ?_
 ·exact ⟨_,0,_,upds_of _ _ ⟨rfl,rfl,rfl,rfl,rfl,trivial⟩,bh,H⟩
 rintro cH bE σ cI ⟨s,ρ,rfl,bF,H⟩
 obtain ⟨bR,bS,cJ,hM,a8⟩:=M.e_iterN bF
 simp only [za6] at hM
 clear bF;refine WD.seq<|WD.of ?_;refine kg 3 ?_;refine WD.seq ?_
 refine WD.cond (decide ((s:Int)<(aa.length:Int))) rfl (fun aA=>?_) (fun aA=>?_)
 ·replace hM:=M.e_t hM aA
  replace aA:=dI aA
  refine WD.of<|W.skip<|WD.seq<|WD.block<|WD.seq<|WD.of ?_;obtain ⟨cK,hM⟩:=M.e_gd hM;refine kg 7 ?_;refine WD.block<|WD.seq<|WD.of ?_;refine kg 9 ?_;obtain ⟨r4,bT,hM⟩:=M.e_bind hM;refine t_gcall ((aa.getD s 0) != (-1)) (gy_t rfl) cf27 (B r4) (fun _=>[I (aa.getD s 0),I ((s:Int)+1),I ((aa.length:Int)-1)]) (fun hg=>lst3 (gd_of hg (I (aa.getD s 0))) (gd_of hg (I ((s:Int)+1))) (gd_of hg (I ((aa.length:Int)-1)))) H (fun hg=>(zaj (aa.getD s 0) ((s:Int)+1) ((aa.length:Int)-1) (M.e_opt bT hg) _ (H.give (A:=[]) rfl)).mono fun v_ w_ ⟨y_,ae,az,H_⟩=>by subst ae; exact ⟨az,H.via H_⟩) ?_;intro cL H;refine kg 4 ?_
  refine WD.cond (((aa.getD s 0) != (-1))&&(!r4)) rfl (fun bj=>?_) (fun bj=>?_)
  ·replace hM:=M.e_t hM bj;refine WD.seq<|WD.of ?_;refine kg 3 ?_;refine WD.of ?_;refine W.ret ?_
   have bU:=M.e_inr hM a8
   subst bU;replace hM:=bi;(try dsimp only at hM);refine bodyD_r (H.pk [2,0,1]) ?_;intro cM H;replace H:=H.nf
   have ae:=M.e_pure hM
   exact ⟨_,resE_tmp rfl,⟨2,ae,rfl,(H.pk [])⟩⟩
  replace hM:=M.e_f hM bj;refine WD.seq<|WD.of ?_;obtain ⟨cN,hM⟩:=M.e_gd hM;refine kg 6 ?_;obtain ⟨cO,bV,hM⟩:=M.e_bind hM;refine s_call cf49 [.agg #[I ((ap.getD s default).lo),I ((ap.getD s default).hi)]] rfl (zdi (ap.getD s default) bV _ (H.gt 3)) ?_
  rintro vq cP ⟨r5,rfl,hvq,ac⟩
  subst vq;(try dsimp only at hM);replace H:=H.bk ac;clear ac;refine kg 3 ?_
  refine WD.cond (!r5) rfl (fun bm=>?_) (fun bm=>?_)
  ·replace hM:=M.e_t hM bm;refine WD.seq<|WD.of ?_;refine kg 3 ?_;refine WD.of ?_;refine W.ret ?_
   have bW:=M.e_inr hM a8
   subst bW;replace hM:=bi;(try dsimp only at hM);refine bodyD_r (H.pk [2,0,1]) ?_;intro cQ H;replace H:=H.nf
   have ae:=M.e_pure hM
   exact ⟨_,resE_tmp rfl,⟨130,ae,rfl,(H.pk [])⟩⟩
  replace hM:=M.e_f hM bm;refine WD.of<|W.skip<|WD.of ?_;refine kg 4 ?_
  exact ⟨bR,bS,s+1,_,upds_of _ _ ⟨rfl,rfl,rfl,rfl,rfl,trivial⟩,M.e_inl hM a8,H⟩
 replace hM:=M.e_f hM aA
 replace aA:=dI aA
 refine WD.of ?_;refine W.exit ?_
 have bX:=M.e_inr hM a8
 subst bX;replace hM:=bi;(try dsimp only at hM);refine WD.seq<|WD.block<|WD.seq<|WD.of ?_;refine kg 4 ?_;obtain ⟨cR,bY,hM⟩:=M.e_bind hM;refine s_call cf50 [ah,I (aa.length:Int)] rfl (zcM au (aa.length:Int) (aD.app _) aE bY _ (H.gt 3)) ?_
 rintro vq cS ⟨r6,rfl,hvq,ac⟩
 subst vq;(try dsimp only at hM);replace H:=H.bk ac;clear ac;refine kg 3 ?_
 refine WD.cond (!r6) rfl (fun bn=>?_) (fun bn=>?_)
 ·replace hM:=M.e_t hM bn;refine WD.seq<|WD.of ?_;refine kg 3 ?_;replace H:=H.pk [2];refine WD.of ?_;refine W.ret ?_;refine bodyD_r (H.pk [0]) ?_;intro cT H;replace H:=H.nf
  have ae:=M.e_pure hM
  exact ⟨_,resE_tmp rfl,⟨9,ae,rfl,H⟩⟩
 replace hM:=M.e_f hM bn;refine WD.seq<|WD.of ?_;refine kg 3 ?_;obtain ⟨cU,bZ,hM⟩:=M.e_bind hM;refine s_call cf51 [ag,.func (.func 52) #[] #[]] rfl (zc6 ax (fun aq=>zbx aq) (aF.app _) aG ⟨52,[],rfl,cf52,fun ay bG bH aO aq bI aP bJ aQ aR=>by obtain rfl:=Town_arg aQ; exact (zdz aq aR ay (St.refl aP)).mono fun aO ay ⟨bK,aS,aT,aU⟩=>by subst aS; exact ⟨aT,aU⟩⟩ bZ _ (H.gt 3)) ?_
 rintro vq cV ⟨r7,rfl,hvq,ac⟩
 subst vq;(try dsimp only at hM);replace H:=H.bk ac;clear ac;refine kg 4 ?_;refine g_val (!(!r7)) (gy_f rfl) (fun hg=>x_mf (fs:=[]) (cs:=[Pq ao]) rfl rfl) ?_;obtain ⟨r8,b3,hM⟩:=M.e_bind hM;refine t_gcall (!(!r7)) (gy_f rfl) cf51 (B r8) (fun _=>[ag,.func (.func 53) #[] #[Pq ao]]) (fun hg=>lst2 (gd_of hg (ag)) (gd_of hg (.func (.func 53) #[] #[Pq ao]))) H (fun hg=>(zc6 ax (fun aq=>zb6 aq (aa.length:Int)) (aF.app _) aG ⟨53,[Pq ao],rfl,cf53,fun ay bG bH aO aq bI aP bJ aQ aR=>by obtain rfl:=Town_arg aQ; exact (zel aq (aa.length:Int) (Has.app (Has.here (k:=0) rfl) _) aR ay (St.refl aP)).mono fun aO ay ⟨bK,aS,aT,aU⟩=>by subst aS; exact ⟨aT,aU⟩⟩ (M.e_opt b3 hg) _ (H.give (A:=[]) rfl)).mono fun v_ w_ ⟨y_,ae,az,H_⟩=>by subst ae; exact ⟨az,H.via H_⟩) ?_;intro cW H;refine kg 5 ?_;obtain ⟨r9,b4,hM⟩:=M.e_bind hM;refine t_gcall (!((!r7)||(!r8))) (gy_f rfl) cf49 (B r9) (fun _=>[.agg #[I al,I am]]) (fun hg=>lst1 (gd_of hg (.agg #[I al,I am]))) H (fun hg=>(zdi (⟨(al:Int),(am:Int)⟩:Span) (M.e_opt b4 hg) _ (H.give (A:=[]) rfl)).mono fun v_ w_ ⟨y_,ae,az,H_⟩=>by subst ae; exact ⟨az,H.via H_⟩) ?_;intro cX H;refine kg 4 ?_
 refine WD.cond (((!r7)||(!r8))||(!r9)) rfl (fun bo=>?_) (fun bo=>?_)
 ·replace hM:=M.e_t hM bo;refine WD.seq<|WD.of ?_;refine kg 3 ?_;replace H:=H.pk [2];refine WD.of ?_;refine W.ret ?_;refine bodyD_r (H.pk [0]) ?_;intro cY H;replace H:=H.nf
  have ae:=M.e_pure hM
  exact ⟨_,resE_tmp rfl,⟨130,ae,rfl,H⟩⟩
 replace hM:=M.e_f hM bo;refine WD.of<|W.skip<|WD.seq<|WD.seq<|WD.of ?_
 have cZ:=(aI).len_le
 refine kg 6 ?_;refine WD.block ?_;obtain ⟨b6,bp,br⟩:=M.e_bind hM
 obtain ⟨bQ,bp⟩:=M.e_iter bp
 refine WD.loop (fun m aV σ W=>∃ (s4:Nat) (ρ:Env),σ=upds ρ [(1,Pq aw),(95,aj),(96,I (ab.length:Int)),(97,I (s4:Int))]/\M.iterN (zbv aa ap au ax al am ab) m s4=some b6/\St w W [cBlk ao [I (aa.length:Int)] 3,cBlk aw [ai,ak,ah,ag,I al,I am,aj] 40,cMk aV] R) ?_ ?_
 ·exact ⟨_,0,_,upds_of _ _ ⟨rfl,rfl,rfl,rfl,trivial⟩,bp,H⟩
 rintro c6 aV σ c7 ⟨s4,ρ,rfl,bL,H⟩
 obtain ⟨b7,b8,c8,hM,ba⟩:=M.e_iterN bL
 simp only [zbv] at hM
 clear bL;refine WD.seq<|WD.of ?_;refine kg 3 ?_;refine WD.seq ?_
 refine WD.cond (decide ((s4:Int)<(ab.length:Int))) rfl (fun aB=>?_) (fun aB=>?_)
 ·replace hM:=M.e_t hM aB
  replace aB:=dI aB
  refine WD.of<|W.skip<|WD.seq<|WD.block<|WD.seq<|WD.of ?_;obtain ⟨c9,hM⟩:=M.e_gd hM;refine kg 2 ?_
  obtain ⟨av,b9,aJ⟩:=Flood_atA aI (i:=(s4:Int)) (by omega) (by omega)
  replace aJ:Sl _ av (ab.getD s4 default).stages:=aJ
  have da:=aJ.len_le
  refine s_val (x_ld (v:=.agg #[I ((ab.getD s4 default).spring),av]) rfl (ld_ag Ag99 Sz99 (At.mono b9 (aH.at H)))) ?_;refine t_alloc (cs:=[I 0,.slice none 0 0]) H Al99 rfl ?_;intro aW db H;refine t_sw 0 0 [I ((ab.getD s4 default).spring),av] (.agg #[I ((ab.getD s4 default).spring),av]) H rfl rfl Sz99 rfl rfl rfl (by simp only [List.all_cons,List.all_nil,Bool.true_and,Bool.and_true,Sl.oc aJ]; try rfl) ?_;intro dc H;refine s_nil<|WD.seq<|WD.of<|W.region rfl ?_;refine t_alloc (cs:=[I 0]) H Al3 rfl ?_;intro aC dd H;refine t_sw 0 0 [I 0] (I 0) H rfl rfl Sz3 rfl rfl rfl rfl ?_;intro dg H;refine s_nil<|WD.seq<|WD.seq<|WD.of ?_;refine kg 5 ?_;obtain ⟨di,ca,hM⟩:=M.e_bind hM;refine s_call cf34 [.agg #[ai,ak,ah,ag,I al,I am,aj],I (max 0 ((ab.getD s4 default).spring))] rfl (zaQ aa ap au ax al am ab (max 0 ((ab.getD s4 default).spring)) (aZ.app _) aN (a6.app _) a7 (aD.app _) aE (aF.app _) aG (aH.app _) aI ca _ (H.gt 5)) ?_
  rintro vq dj ⟨bb,aK,aL,aX,aM,rfl,hvq,ac⟩
  subst vq;(try dsimp only at hM);replace H:=H.bk ac;clear ac;refine s_nil<|WD.block ?_;obtain ⟨dk,cb,hM⟩:=M.e_bind hM;refine WD.range (L:=[cBlk aC [I 0] 3,cBlk aM [ai,ak,ah,ag,I aK,I aL,aj] 40,cBlk aW [I ((ab.getD s4 default).spring),av] 99,cBlk ao [I (aa.length:Int)] 3,cBlk aw [ai,ak,ah,ag,I al,I am,aj] 40,cBlk aX [I bb] 3]) [Pq aX,Pq aM] (H.pk [6,2,1,3,4,5,0]) rfl cf57 ?_;intro bc bt bu cc bv H
  have hYC:YieldC Tryz.prog ([cMk (bt :: aV),cBlk aM [ai,ak,ah,ag,I aK,I aL,aj] 40,cBlk aW [I ((ab.getD s4 default).spring),av] 99,cBlk ao [I (aa.length:Int)] 3,cBlk aw [ai,ak,ah,ag,I al,I am,aj] 40]++R) arII (yJ bc bu (fun s3 bf=>bf=[cBlk aC [I s3] 3]) (fun (_:Unit) _=>False) (fun _=>.ret)) (.func (.yield bc) #[] #[]) (M.yl zav):=by
   refine YieldC.mk bv (fun s3 bf=>bf=[cBlk aC [I s3] 3]) (fun (_:Unit) _=>False) (fun _=>.ret) zav (by rintro s3 _ h_; obtain ⟨rfl⟩:=h_; rfl) (fun _ _ h_=>h_.elim) rfl (arII_len rfl) ?_;intro C_ dm x_ W_ cd
   obtain ⟨x,x2⟩:=x_
   obtain rfl:=cd
   refine W.skip ?_
   refine ⟨rfl,rfl,?_⟩
   intro w R aY bf s_ r ce hM H
   skip
   obtain ⟨s3,cf⟩:∃ y_,y_=s_:=⟨_,rfl⟩
   subst cf
   obtain ⟨rfl⟩:=ce
   replace aZ:=aZ.sub aY
   replace a6:=a6.sub aY
   replace aD:=aD.sub aY
   replace aF:=aF.sub aY
   replace aH:=aH.sub aY
   replace hM:(zav s3 (x,x2)).Ends r:=hM
   simp only [zav] at hM
   replace H:=H.pk [0,2,3,4,5,1];obtain ⟨dp,hM⟩:=M.e_gd hM;refine kg 4 ?_;refine t_sw 0 0 [I (s3+1)] (I (s3+1)) H rfl rfl Sz3 rfl rfl rfl rfl ?_;intro dq H;refine s_nil ?_
   exact ⟨s3+1,[cBlk aC [I (s3+1)] 3],(M.e_pure hM).symm,rfl,H.pick [0,5,1,2,3,4] (by decide) rfl⟩
  replace H:St w cc (cAll (cObj bc (.loop bu) :: [cBlk aC [I 0] 3]) :: [cBlk aX [I bb] 3,cMk (bt :: aV),cBlk aM [ai,ak,ah,ag,I aK,I aL,aj] 40,cBlk aW [I ((ab.getD s4 default).spring),av] 99,cBlk ao [I (aa.length:Int)] 3,cBlk aw [ai,ak,ah,ag,I al,I am,aj] 40]) R:=St.bundleB (A:=cObj bc (.loop bu) :: [cBlk aC [I 0] 3]) (T:=[cBlk aX [I bb] 3,cMk (bt :: aV),cBlk aM [ai,ak,ah,ag,I aK,I aL,aj] 40,cBlk aW [I ((ab.getD s4 default).spring),av] 99,cBlk ao [I (aa.length:Int)] 3,cBlk aw [ai,ak,ah,ag,I al,I am,aj] 40]) rfl (H.pk [0,2,7,1,3,4,5,6])
  refine (zbb (M.yl zav) (.inl 0) bb aa ap au ax aK aL ab hYC ⟨_,rfl,rfl⟩ (aZ.app _) aN (a6.app _) a7 (aD.app _) aE (aF.app _) aG (aH.app _) aI (Has.here (k:=1) rfl) cb _ (H.gt 5)).mono ?_
  rintro vq dr ⟨cg,q0,dt,rfl,hvq,ac,bM⟩
  replace H:=H.back ac rfl
  clear ac hYC
  rcases cg with s3 | _
  ·(try dsimp only at hM)
   obtain ⟨_,rfl,rfl⟩:=bM
   refine ⟨_,[cBlk aC [I s3] 3,cBlk aM [ai,ak,ah,ag,I aK,I aL,aj] 40,cBlk aW [I ((ab.getD s4 default).spring),av] 99,cBlk ao [I (aa.length:Int)] 3,cBlk aw [ai,ak,ah,ag,I al,I am,aj] 40,cBlk aX [I q0] 3],H.unbundle.pick [0,3,1,4,5,6,7,2] (by decide) rfl,bv.nb,?_⟩
   intro du H
   rw [bv.pd]
   replace H:=H.nf
   try simp only []
   replace H:=H.pk [0,1,3,4,5];refine WD.block<|WD.seq<|WD.of ?_;refine kg 5 ?_;obtain ⟨dv,ch,hM⟩:=M.e_bind hM;refine s_call cf54 [ah,I ((ab.getD s4 default).spring)] rfl (zd3 au ((ab.getD s4 default).spring) (aD.app _) aE ch _ (H.gt 5)) ?_
   rintro vq dw ⟨ci,rfl,hvq,ac⟩
   subst vq;(try dsimp only at hM);replace H:=H.bk ac;clear ac
   have dx:=(aJ).len_le
   refine kg 10 ?_
   refine WD.cond ((!ci)||((((ab.getD s4 default).stages).length:Int) != s3)) rfl (fun bw=>?_) (fun bw=>?_)
   ·replace hM:=M.e_t hM bw;refine WD.seq<|WD.of ?_;refine kg 3 ?_;replace H:=H.pk [0,3,4];refine WD.of ?_;refine W.ret ?_
    have cj:=M.e_inr hM ba
    subst cj;replace hM:=br;(try dsimp only at hM);refine bodyD_r (H.pk [0,1,2]) ?_;intro dz H;replace H:=H.nf
    have ae:=M.e_pure hM
    exact ⟨_,resE_tmp rfl,⟨2,ae,rfl,(H.pk [])⟩⟩
   replace hM:=M.e_f hM bw;refine WD.seq<|WD.of ?_;refine kg 3 ?_;obtain ⟨dA,ck,hM⟩:=M.e_bind hM;refine s_call cf40 [av,.func (.func 55) #[] #[]] rfl (zdt ((ab.getD s4 default).stages) (fun aq=>zaM aq) (aH.app _) aJ ⟨55,[],rfl,cf55,fun ay bG bH aO aq bI aP bJ aQ aR=>by obtain rfl:=Arg.int aQ; exact (zde aq aR ay (St.refl aP)).mono fun aO ay ⟨bK,aS,aT,aU⟩=>by subst aS; exact ⟨aT,aU⟩⟩ ck _ (H.gt 5)) ?_
   rintro vq dB ⟨cl,rfl,hvq,ac⟩
   subst vq;(try dsimp only at hM);replace H:=H.bk ac;clear ac;refine kg 3 ?_
   refine WD.cond (!cl) rfl (fun bx=>?_) (fun bx=>?_)
   ·replace hM:=M.e_t hM bx;refine WD.seq<|WD.of ?_;refine kg 3 ?_;replace H:=H.pk [0,3,4];refine WD.of ?_;refine W.ret ?_
    have cm:=M.e_inr hM ba
    subst cm;replace hM:=br;(try dsimp only at hM);refine bodyD_r (H.pk [0,1,2]) ?_;intro dC H;replace H:=H.nf
    have ae:=M.e_pure hM
    exact ⟨_,resE_tmp rfl,⟨130,ae,rfl,(H.pk [])⟩⟩
   replace hM:=M.e_f hM bx;refine WD.of<|W.skip<|WD.of ?_;refine kg 4 ?_
   exact ⟨b7,b8,s4+1,_,upds_of _ _ ⟨rfl,rfl,rfl,rfl,trivial⟩,M.e_inl hM ba,(H.pk [3,4,0])⟩
  obtain ⟨_,_,h_⟩:=bM; exact h_.elim
 replace hM:=M.e_f hM aB
 replace aB:=dI aB
 refine WD.of ?_;refine W.exit ?_
 have cn:=M.e_inr hM ba
 subst cn;replace hM:=br;(try dsimp only at hM);replace H:=H.pk [2];refine WD.seq<|WD.of ?_;refine kg 3 ?_;refine WD.of ?_;refine W.ret ?_;refine bodyD_r (H.pk [0]) ?_;intro dD H;replace H:=H.nf
 have ae:=M.e_pure hM
 exact ⟨_,resE_tmp rfl,⟨0,ae,rfl,H⟩⟩

def zau (ac:List Int) (ae:List Span) (ag:List Int) (ah:List Town) (aa ab:Int) (ai:List Flood):M (Int ⊕ (Int × Int × Int)) :=
  M.bind (zba ac ae ag ah aa ab ai) fun r2 =>
  bif r2 != 0 then (
  M.pure (.inl r2))
  else (
  M.pure (.inr (aa,ab,0)))
theorem zb0 {R:List Chunk} {av:Cells} {ac:Value} {aw:Cells} {ae:Value} {ax:Cells} {ag:Value} {ay:Cells} {ah:Value} {az:Cells} {ai:Value} (ak:List Int) (al:List Span) (am:List Int) (ao:List Town) (aa:Int) (ab:Int) (ap:List Flood) (aD:Reads R av) (aE:Sl av ac ak) (aF:Reads R aw) (aG:Sl aw ae al) (aH:Reads R ax) (aI:Sl ax ag am) (aJ:Reads R ay) (aK:Sl ay ah ao) (aL:Reads R az) (aM:Sl az ai ap) {r:(Int ⊕ (Int × Int × Int))} (hM:(zau ak al am ao aa ab ap).Ends r) (w:World) (H:St w w [] R):Ret Tryz.prog 13 #[.agg #[ac,ae,ag,ah,I aa,I ab,ai]] w fun v w'=>(∃ (y0:Int),(.inl y0)=r/\v = .tuple #[.pointer none,I y0]/\St w w' [] R)∨(∃ (y0:Int) (y1:Int) (y2:Int) (aA:Nat) (aB:Nat) (aN:Base),(.inr (y0,y1,y2))=r/\v = .tuple #[Pq aA,I y2]/\St w w' [cBlk aA [ac,ae,ag,ah,I y0,I y1,ai,.map (some aB)] 90,cMem encDm aB aN (zaa ak al am ao y0 y1 ap)] R):=by
 refine ret_of_W Tryz.func13 rfl rfl rfl ?_;refine kg 2 ?_;refine t_bx [ac,ae,ag,ah,I aa,I ab,ai] H rfl ?_;intro aR aS H;refine kg 7 ?_;obtain ⟨aT,aO,hM⟩:=M.e_bind hM;refine s_call cf30 [.agg #[ac,ae,ag,ah,I aa,I ab,ai]] rfl (zdK ak al am ao aa ab ap (aD.app _) aE (aF.app _) aG (aH.app _) aI (aJ.app _) aK (aL.app _) aM aO _ (H.gt 1)) ?_
 rintro vq aU ⟨r2,rfl,hvq,aC⟩
 subst vq;(try dsimp only at hM);replace H:=H.bk aC;clear aC;refine kg 7 ?_
 refine W.cond (r2 != 0) rfl (fun aj=>?_) (fun aj=>?_)
 ·replace hM:=M.e_t hM aj
  replace aj:=dI aj
  refine kg 6 ?_;refine W.ret ?_
  have au:=M.e_pure hM
  exact ⟨_,resE_tmp2 rfl,.inl (⟨r2,au,rfl,(H.pk [])⟩)⟩
 replace hM:=M.e_f hM aj
 replace aj:=dI aj
 refine kg 4 ?_;refine t_mkmem encDm (zaa ak al am ao aa ab ap) H ?_;intro aq aP aV H;refine s_val (x_bld (ps:=[(0,.agg #[ac,ae,ag,ah,I aa,I ab,ai]),(1,.map (some aq))]) (zs:=[.slice none 0 0,.slice none 0 0,.slice none 0 0,.slice none 0 0,I 0,I 0,.slice none 0 0,.map none]) (L':=[ac,ae,ag,ah,I aa,I ab,ai,.map (some aq)]) rfl Tryz.underlying90 Al90 rfl (Bd90 Tryz.underlying90) (.cons (cs:=[ac,ae,ag,ah,I aa,I ab,ai]) rfl rfl rfl rfl rfl<|.cons (cs:=[.map (some aq)]) rfl rfl rfl rfl rfl<|.nil)) ?_;refine t_bx [ac,ae,ag,ah,I aa,I ab,ai,.map (some aq)] H rfl ?_;intro aQ aW H;refine kg 3 ?_;refine W.ret ?_
 have au:=M.e_pure hM
 exact ⟨_,resE_tmp2 rfl,.inr (⟨aa,ab,0,aQ,aq,aP,au,rfl,(H.pk [0,1])⟩)⟩

def zbj (ac:List Int) (ae:List Span) (aa:List Int) (ab:List Town) (ag ah:Int) (ai:List Flood) (s2:Nat):(Nat × (List Dem))->M ((Nat × (List Dem)) ⊕ ((List Dem) × (List Dem))):=fun (s,l4) =>
  bif decide ((s:Int)<(ab.length:Int)) then (
  M.grd (decide ((s:Int)<(ab.length:Int))) <|
  M.bind (zaw ac ae aa ab ag ah ai (aa.getD s2 0) ((ab.getD s default).station)) fun (aj,ak,r1) =>
  bif r1 then (
  M.grd (decide ((l4.length+([(⟨(aa.getD s2 0:Int),(s:Int)⟩:Dem)]).length)*16<=140737488355328)) <|
  M.pure (.inl (s+1,l4++([(⟨(aa.getD s2 0:Int),(s:Int)⟩:Dem)]))))
  else (
  M.pure (.inl (s+1,l4))))
  else (
  M.pure (.inr (l4,l4)))
def zbd (ab:List Int) (ac:List Span) (aa:List Int) (ae:List Town) (ag ah:Int) (ai:List Flood):(Nat × (List Dem))->M ((Nat × (List Dem)) ⊕ ((List Dem) × (List Dem))):=fun (s2,l6) =>
  bif decide ((s2:Int)<(aa.length:Int)) then (
  M.grd (decide ((s2:Int)<(aa.length:Int))) <|
  M.bind (M.iter (zbj ab ac aa ae ag ah ai s2) (0,l6)) fun (l2,l5) =>
  M.pure (.inl (s2+1,l5)))
  else (
  M.pure (.inr (l6,l6)))
def zaL (aa:List Int) (ab:List Span) (ac:List Int) (ae:List Town) (ag ah:Int) (ai:List Flood):M (List Dem) :=
  M.bind (M.iter (zbd aa ab ac ae ag ah ai) (0,[])) fun (l7,l8) =>
  M.pure l8
theorem zc7 {R:List Chunk} {ag:Nat} {az:Cells} {aA:Value} {aB:Cells} {aC:Value} {aD:Cells} {ap:Value} {aE:Cells} {aq:Value} {aF:Cells} {aG:Value} {aR:Nat} (ah:List Int) (ai:List Span) (aa:List Int) (ab:List Town) (aj:Int) (ak:Int) (al:List Flood) (aS:Reads R az) (aT:Sl az aA ah) (aU:Reads R aB) (aV:Sl aB aC ai) (aW:Reads R aD) (aH:Sl aD ap aa) (aI:Reads R aE) (au:Sl aE aq ab) (aX:Reads R aF) (aY:Sl aF aG al) (aZ:Has R (cBlk ag [aA,aC,ap,aq,I aj,I ak,aG,.map (some aR)] 90)) {r:(List Dem)} (hM:(zaL ah ai aa ab aj ak al).Ends r) (w:World) (H:St w w [] R):Ret Tryz.prog 32 #[Pq ag] w fun v w'=>∃ (y0:List Dem) (u0:Value),y0=r/\v=u0/\St w w' [cOwn (α:=Dem) 49 u0 y0] R:=by
 refine ret_of_W Tryz.func32 rfl rfl rfl ?_
 have bo:=(aH).len_le
 refine kg 20 ?_
 replace H:=H.nilOwn (α:=Dem) 49
 obtain ⟨a6,av,a7⟩:=M.e_bind hM
 obtain ⟨a8,av⟩:=M.e_iter av
 refine W.loop (fun m σ W=>∃ (s2:Nat) (l6:List Dem) (am:Value) (ρ:Env),σ=upds ρ [(0,Pq ag),(3,am),(14,ap),(15,I (aa.length:Int)),(16,I (s2:Int))]/\M.iterN (zbd ah ai aa ab aj ak al) m (s2,l6)=some a6/\St w W [cOwn (α:=Dem) 49 am l6] R) ?_ ?_
 ·exact ⟨_,0,[],(.slice none 0 0),_,upds_of _ _ ⟨rfl,rfl,rfl,rfl,rfl,trivial⟩,av,H⟩
 rintro bp σ br ⟨s2,l6,am,ρ,rfl,aJ,H⟩
 obtain ⟨ba,bb,bt,hM,aK⟩:=M.e_iterN aJ
 simp only [zbd] at hM
 clear aJ;refine kg 5 ?_
 refine W.cond (decide ((s2:Int)<(aa.length:Int))) rfl (fun ac=>?_) (fun ac=>?_)
 ·replace hM:=M.e_t hM ac
  replace ac:=dI ac
  obtain ⟨bu,hM⟩:=M.e_gd hM
  have bv:=(au).len_le
  refine kg 20 ?_;obtain ⟨bc,aw,bf⟩:=M.e_bind hM
  obtain ⟨a8,aw⟩:=M.e_iter aw
  refine W.loop (fun m σ W=>∃ (s:Nat) (l4:List Dem) (ao:Value) (ρ:Env),σ=upds ρ [(0,Pq ag),(3,ao),(5,I (aa.getD s2 0)),(14,ap),(15,I (aa.length:Int)),(16,I (s2:Int)),(24,aq),(25,I (ab.length:Int)),(26,I (s:Int))]/\M.iterN (zbj ah ai aa ab aj ak al s2) m (s,l4)=some bc/\St w W [cOwn (α:=Dem) 49 ao l4] R) ?_ ?_
  ·exact ⟨_,0,l6,am,_,upds_of _ _ ⟨rfl,rfl,rfl,rfl,rfl,rfl,rfl,rfl,rfl,trivial⟩,aw,H⟩
  rintro bw σ bx ⟨s,l4,ao,ρ,rfl,aL,H⟩
  obtain ⟨aM,aN,bz,hM,ax⟩:=M.e_iterN aL
  simp only [zbj] at hM
  clear aL;refine kg 5 ?_
  refine W.cond (decide ((s:Int)<(ab.length:Int))) rfl (fun ae=>?_) (fun ae=>?_)
  ·replace hM:=M.e_t hM ae
   replace ae:=dI ae
   obtain ⟨bA,hM⟩:=M.e_gd hM;refine kg 7 ?_;refine s_val (x_ld (v:=.agg #[I ((ab.getD s default).station),I ((ab.getD s default).lead),I ((ab.getD s default).alarm)]) rfl (ld_ag Ag44 Sz44 (At.mono (Town_atA au (i:=(s:Int)) (by omega) (by omega)) (aI.at H)))) ?_;refine t_alloc (cs:=[I 0,I 0,I 0]) H Al44 rfl ?_;intro bB bC H;refine kg 1 ?_;refine t_sw 0 0 [I ((ab.getD s default).station),I ((ab.getD s default).lead),I ((ab.getD s default).alarm)] (.agg #[I ((ab.getD s default).station),I ((ab.getD s default).lead),I ((ab.getD s default).alarm)]) H rfl rfl Sz44 rfl rfl rfl rfl ?_;intro bD H;refine kg 7 ?_;obtain ⟨bE,bg,hM⟩:=M.e_bind hM;refine s_call cf28 [Pq ag,I (aa.getD s2 0),I ((ab.getD s default).station)] rfl (zcG ah ai aa ab aj ak al (aa.getD s2 0) ((ab.getD s default).station) (aS.app _) aT (aU.app _) aV (aW.app _) aH (aI.app _) au (aX.app _) aY (aZ.app _) bg _ (H.gt 2)) ?_
   rintro vq bF ⟨aO,aP,r1,rfl,hvq,aQ⟩
   subst vq;(try dsimp only at hM);replace H:=H.bk aQ;clear aQ;refine kg 3 ?_;refine t_alloc (cs:=[I 0,I 0]) H Al24 rfl ?_;intro bG bH H;refine t_sw 0 0 [I aO,I aP] (.agg #[I aO,I aP]) H rfl rfl Sz24 rfl rfl rfl rfl ?_;intro bI H;refine kg 2 ?_;replace H:=H.pk [2];refine kg 4 ?_
   refine W.cond r1 rfl (fun ay=>?_) (fun ay=>?_)
   ·replace hM:=M.e_t hM ay;refine kg 4 ?_;refine s_val (x_bld (ps:=[(0,I (aa.getD s2 0)),(1,I (s:Int))]) (zs:=[I 0,I 0]) (L':=[I (aa.getD s2 0),I (s:Int)]) rfl Tryz.underlying49 Al49 rfl (Bd49 Tryz.underlying49) (.cons (cs:=[I (aa.getD s2 0)]) rfl rfl rfl rfl rfl<|.cons (cs:=[I (s:Int)]) rfl rfl rfl rfl rfl<|.nil)) ?_;refine t_bs (α:=Dem) T92 [.agg #[I (aa.getD s2 0),I (s:Int)]] [(⟨(aa.getD s2 0:Int),(s:Int)⟩:Dem)] H rfl (.cons rfl (Flat.rep_enc _ (⟨(aa.getD s2 0:Int),(s:Int)⟩:Dem))<|.nil) rfl rfl rfl ?_;intro bh bJ H;obtain ⟨bK,hM⟩:=M.e_gd hM;refine t_app (α:=Dem) (k:=1) (l:=l4) (l2:=[(⟨(aa.getD s2 0:Int),(s:Int)⟩:Dem)]) (l':=l4++([(⟨(aa.getD s2 0:Int),(s:Int)⟩:Dem)])) (vy:=bh) T92 rfl H rfl rfl rfl (H.os 0) (H.ol 0) (rfl) (by first | omega | (simp only [List.length_nil] at *; omega)) ?_;intro bi bL H;replace H:=H.nf;refine kg 6 ?_
    exact ⟨aM,aN,s+1,l4++([(⟨(aa.getD s2 0:Int),(s:Int)⟩:Dem)]),bi,_,upds_of _ _ ⟨rfl,rfl,rfl,rfl,rfl,rfl,rfl,rfl,rfl,trivial⟩,M.e_inl hM ax,(H.pk [1])⟩
   replace hM:=M.e_f hM ay;refine kg 5 ?_
   exact ⟨aM,aN,s+1,l4,ao,_,upds_of _ _ ⟨rfl,rfl,rfl,rfl,rfl,rfl,rfl,rfl,rfl,trivial⟩,M.e_inl hM ax,H⟩
  replace hM:=M.e_f hM ae
  replace ae:=dI ae
  refine W.exit ?_
  have bj:=M.e_inr hM ax
  subst bj;replace hM:=bf;(try dsimp only at hM);refine kg 4 ?_
  exact ⟨ba,bb,s2+1,l4,ao,_,upds_of _ _ ⟨rfl,rfl,rfl,rfl,rfl,trivial⟩,M.e_inl hM aK,H⟩
 replace hM:=M.e_f hM ac
 replace ac:=dI ac
 refine W.exit ?_
 have bm:=M.e_inr hM aK
 subst bm;replace hM:=a7;(try dsimp only at hM);refine kg 5 ?_;refine W.ret ?_
 have bn:=M.e_pure hM
 exact ⟨_,resE_tmp rfl,⟨l6,am,bn,rfl,H⟩⟩

def zb8 (s:List Dem) (f:Dem->M Bool):Nat->M (Nat ⊕ (Int ⊕ Unit)):=fun s2 =>
  bif decide ((s2:Int)<(s.length:Int)) then (
  M.grd (decide ((s2:Int)<(s.length:Int))) <|
  M.bind (f (s.getD s2 default)) fun r2 =>
  bif r2 then (
  M.pure (.inr (.inl (s2:Int))))
  else (
  M.pure (.inl (s2+1))))
  else (
  M.pure (.inr (.inr ())))
def zck (s:List Dem) (f:Dem->M Bool):M Int :=
  M.bind (M.iter (zb8 s f) 0) fun x_=>match x_ with
  | (.inl s3)=>(
  M.pure s3)
  | (.inr (_:Unit))=>(
  M.pure (-1))
theorem zed {R:List Chunk} {aj:Cells} {ab:Value} {ac:Value} (s:List Dem) (f:Dem->M Bool) (ao:Reads R aj) (ak:Sl aj ab s) (ap:FnM Tryz.prog R ac f) {r:Int} (hM:(zck s f).Ends r) (w:World) (H:St w w [] R):Ret Tryz.prog 56 #[ab,ac] w fun v w'=>∃ (y0:Int),y0=r/\v=I y0/\St w w' [] R:=by
 refine ret_of_W Tryz.func56 rfl rfl rfl ?_
 have az:=(ak).len_le
 refine kg 12 ?_;obtain ⟨aq,ae,al⟩:=M.e_bind hM
 obtain ⟨aA,ae⟩:=M.e_iter ae
 refine W.loop (fun m σ W=>∃ (s2:Nat) (ρ:Env),σ=upds ρ [(0,ab),(1,ac),(7,I (s.length:Int)),(8,I (s2:Int))]/\M.iterN (zb8 s f) m s2=some aq/\St w W [] R) ?_ ?_
 ·exact ⟨_,0,_,upds_of _ _ ⟨rfl,rfl,rfl,rfl,trivial⟩,ae,H⟩
 rintro aB σ aC ⟨s2,ρ,rfl,am,H⟩
 obtain ⟨au,av,aD,hM,ag⟩:=M.e_iterN am
 simp only [zb8] at hM
 clear am;refine kg 5 ?_
 refine W.cond (decide ((s2:Int)<(s.length:Int))) rfl (fun aa=>?_) (fun aa=>?_)
 ·replace hM:=M.e_t hM aa
  replace aa:=dI aa
  obtain ⟨aE,hM⟩:=M.e_gd hM;refine kg 14 ?_;refine s_val (x_ld (v:=.agg #[I ((s.getD s2 default).spring),I ((s.getD s2 default).town)]) rfl (ld_ag Ag49 Sz49 (At.mono (Dem_atA ak (i:=(s2:Int)) (by omega) (by omega)) (ao.at H)))) ?_;obtain ⟨r2,aw,hM⟩:=M.e_bind hM;refine t_callM H ap rfl rfl (s.getD s2 default) Reads.none ⟨_,rfl,rfl⟩ aw ?_;intro aF H;refine s_nil ?_
  refine W.cond r2 rfl (fun ah=>?_) (fun ah=>?_)
  ·replace hM:=M.e_t hM ah;refine kg 5 ?_;refine W.ret ?_
   have ax:=M.e_inr hM ag
   subst ax;replace hM:=al;(try dsimp only at hM)
   have ai:=M.e_pure hM
   exact ⟨_,resE_tmp rfl,⟨(s2:Int),ai,rfl,H⟩⟩
  replace hM:=M.e_f hM ah;refine kg 5 ?_
  exact ⟨au,av,s2+1,_,upds_of _ _ ⟨rfl,rfl,rfl,rfl,trivial⟩,M.e_inl hM ag,H⟩
 replace hM:=M.e_f hM aa
 replace aa:=dI aa
 refine W.exit ?_
 have ay:=M.e_inr hM ag
 subst ay;replace hM:=al;(try dsimp only at hM);refine kg 4 ?_;refine W.ret ?_
 have ai:=M.e_pure hM
 exact ⟨_,resE_tmp rfl,⟨(-1),ai,rfl,H⟩⟩

def zcT (s:List Dem) (f:Dem->M Bool):M Bool :=
  M.bind (zck s f) fun r2 =>
  M.pure (decide (0<=r2))
theorem zdE {R:List Chunk} {ac:Cells} {aa:Value} {ab:Value} (s:List Dem) (f:Dem->M Bool) (ag:Reads R ac) (ah:Sl ac aa s) (ai:FnM Tryz.prog R ab f) {r:Bool} (hM:(zcT s f).Ends r) (w:World) (H:St w w [] R):Ret Tryz.prog 31 #[aa,ab] w fun v w'=>∃ (y0:Bool),y0=r/\v=B y0/\St w w' [] R:=by
 refine ret_of_W Tryz.func31 rfl rfl rfl ?_;refine kg 8 ?_;obtain ⟨al,aj,hM⟩:=M.e_bind hM;refine s_call cf56 [aa,ab] rfl (zed s f (ag.app _) ah (ai.app _) aj _ (H.gt 0)) ?_
 rintro vq am ⟨r2,rfl,hvq,ae⟩
 subst vq;(try dsimp only at hM);replace H:=H.bk ae;clear ae;refine kg 3 ?_;refine W.ret ?_
 have ak:=M.e_pure hM
 exact ⟨_,resE_tmp rfl,⟨(decide (0<=r2)),ak,rfl,H⟩⟩

def zbY (x:Dem) (aa ab:Int):M Bool :=
  M.pure (decide (x=(⟨(aa:Int),(ab:Int)⟩:Dem)))
theorem zd7 {R:List Chunk} {ac:Nat} (x:Dem) (aa:Int) (ab:Int) (ae:Has R (cBlk ac [I aa,I ab] 49)) {r:Bool} (hM:(zbY x aa ab).Ends r) (w:World) (H:St w w [] R):Ret Tryz.prog 33 #[.agg #[I x.spring,I x.town],Pq ac] w fun v w'=>∃ (y0:Bool),y0=r/\v=B y0/\St w w' [] R:=by
 refine ret_of_W Tryz.func33 rfl rfl rfl ?_;refine kg 2 ?_;refine t_bx [I x.spring,I x.town] H rfl ?_;intro ah ai H;refine kg 5 ?_;refine s_val (x_ld (v:=.agg #[I aa,I ab]) rfl (ldb_ag (ds:=[I aa,I ab]) Ag49 Sz49 (ae.blk H) rfl rfl))<|s_val (x_eqS (eqT49 x (⟨(aa:Int),(ab:Int)⟩:Dem) _) gdT49 rfl rfl) ?_;refine kg 2 ?_;refine W.ret ?_
 have ag:=M.e_pure hM
 exact ⟨_,resE_tmp rfl,⟨(decide (x=(⟨(aa:Int),(ab:Int)⟩:Dem))),ag,rfl,(H.pk [])⟩⟩

def zbF (aa:List Int) (ab:List Span) (ac:List Int) (ae:List Town) (ag ah:Int) (ai:List Flood) (d:Dem):M Bool :=
  M.bind (zaL aa ab ac ae ag ah ai) fun r2 =>
  M.bind (zcT r2 (fun aj=>zbY aj d.spring d.town)) fun r3 =>
  M.pure r3
theorem zdV {R:List Chunk} {ab:Nat} {ao:Cells} {ap:Value} {aq:Cells} {au:Value} {av:Cells} {aw:Value} {ax:Cells} {ay:Value} {az:Cells} {aA:Value} {aC:Nat} (ac:List Int) (ae:List Span) (ag:List Int) (ah:List Town) (ai:Int) (aj:Int) (ak:List Flood) (d:Dem) (aD:Reads R ao) (aE:Sl ao ap ac) (aF:Reads R aq) (aG:Sl aq au ae) (aH:Reads R av) (aI:Sl av aw ag) (aJ:Reads R ax) (aK:Sl ax ay ah) (aL:Reads R az) (aM:Sl az aA ak) (aN:Has R (cBlk ab [ap,au,aw,ay,I ai,I aj,aA,.map (some aC)] 90)) {r:Bool} (hM:(zbF ac ae ag ah ai aj ak d).Ends r) (w:World) (H:St w w [] R):Ret Tryz.prog 14 #[Pq ab,.agg #[I d.spring,I d.town]] w fun v w'=>∃ (y0:Bool),y0=r/\v=B y0/\St w w' [] R:=by
 refine ret_of_W Tryz.func14 rfl rfl rfl ?_;refine kg 2 ?_;refine t_bx [I d.spring,I d.town] H rfl ?_;intro al aZ H;refine kg 5 ?_;obtain ⟨a6,aO,hM⟩:=M.e_bind hM;refine s_call cf32 [Pq ab] rfl (zc7 ac ae ag ah ai aj ak (aD.app _) aE (aF.app _) aG (aH.app _) aI (aJ.app _) aK (aL.app _) aM (aN.app _) aO _ (H.gt 1)) ?_
 rintro vq a7 ⟨r2,aP,rfl,hvq,aa⟩
 subst vq;(try dsimp only at hM);replace H:=H.bk aa;clear aa;refine s_val (x_mf (fs:=[]) (cs:=[Pq al]) rfl rfl) ?_;obtain ⟨a8,aQ,hM⟩:=M.e_bind hM;refine s_call cf31 [aP,.func (.func 33) #[] #[Pq al]] rfl (zdE r2 (fun am=>zbY am d.spring d.town) (rdo 0) (H.os 0) ⟨33,[Pq al],rfl,cf33,fun aB ba bb aR am bc aS bf aT aU=>by obtain rfl:=Dem_arg aT; exact (zd7 am d.spring d.town (Has.app (Has.here (k:=1) rfl) _) aU aB (St.refl aS)).mono fun aR aB ⟨bg,aV,aW,aX⟩=>by subst aV; exact ⟨aW,aX⟩⟩ aQ _ (H.gt 2)) ?_
 rintro vq bh ⟨r3,rfl,hvq,aa⟩
 subst vq;(try dsimp only at hM);replace H:=H.bk aa;clear aa;refine kg 2 ?_;replace H:=H.pk [];refine W.ret ?_
 have aY:=M.e_pure hM
 exact ⟨_,resE_tmp rfl,⟨r3,aY,rfl,H⟩⟩

def zaI (aa:List Int) (ab:List Span) (ac:List Int) (ae:List Town) (aj ak:Int) (ag:List Flood) (d:Dem):M ((List Int) × Int) :=
  M.bind (zau aa ab ac ae aj ak ag) fun x_=>match x_ with
  | (.inl r1)=>(
  bif r1 != 0 then (
  M.pure (([]),r1))
  else (
  M.fail))
  | (.inr (ah,ai,al))=>(
  bif al != 0 then (
  M.fail)
  else (
  M.bind (zbF aa ab ac ae ah ai ag d) fun r2 =>
  bif !r2 then (
  M.pure (([]),2))
  else (
  M.bind (zaa aa ab ac ae ah ai ag d) fun r3 =>
  M.grd (decide (r3.length*8<=140737488355328)) <|
  M.pure (r3,0))))
theorem zcq {R:List Chunk} {aH:Cells} {ao:Value} {aI:Cells} {ap:Value} {aJ:Cells} {aq:Value} {aK:Cells} {au:Value} {aL:Cells} {av:Value} (ab:List Int) (ac:List Span) (ae:List Int) (ag:List Town) (ah:Int) (ai:Int) (aj:List Flood) (d:Dem) (aw:Reads R aH) (ax:Sl aH ao ab) (ay:Reads R aI) (az:Sl aI ap ac) (aA:Reads R aJ) (aB:Sl aJ aq ae) (aC:Reads R aK) (aD:Sl aK au ag) (aE:Reads R aL) (aF:Sl aL av aj) {r:((List Int) × Int)} (hM:(zaI ab ac ae ag ah ai aj d).Ends r) (w:World) (H:St w w [] R):Ret Tryz.prog 8 #[.agg #[ao,ap,aq,au,I ah,I ai,av],.agg #[I d.spring,I d.town]] w fun v w'=>∃ (y0:List Int) (y1:Int) (u0:Value),(y0,y1)=r/\v = .tuple #[u0,I y1]/\St w w' [cOwn (α:=Int) 3 u0 y0] R:=by
 refine ret_of_W Tryz.func8 rfl rfl rfl ?_;refine kg 2 ?_;refine t_bx [ao,ap,aq,au,I ah,I ai,av] H rfl ?_;intro aY aZ H;refine t_bx [I d.spring,I d.town] H rfl ?_;intro a6 a7 H;refine kg 6 ?_;obtain ⟨a8,aP,hM⟩:=M.e_bind hM;refine s_call cf13 [.agg #[ao,ap,aq,au,I ah,I ai,av]] rfl (zb0 ab ac ae ag ah ai aj (aw.app _) ax (ay.app _) az (aA.app _) aB (aC.app _) aD (aE.app _) aF aP _ (H.gt 2)) ?_
 rintro vq ba (⟨r1,aQ,hvq,aa⟩ | ⟨aM,aN,aR,aO,bb,bc,aS,hvq,aa⟩)
 ·subst aQ;subst vq;(try dsimp only at hM);replace H:=H.bk aa;clear aa;refine kg 14 ?_
  refine W.cond (r1 != 0) rfl (fun ak=>?_) (fun ak=>?_)
  ·replace hM:=M.e_t hM ak
   replace ak:=dI ak
   refine kg 6 ?_;replace H:=H.pk [];refine W.ret ?_
   have al:=M.e_pure hM
   replace H:=H.nilOwn (α:=Int) 3
   exact ⟨_,resE_tmp2 rfl,⟨([]),r1,(.slice none 0 0),al,rfl,H⟩⟩
  replace hM:=M.e_f hM ak
  exact (M.e_fail hM).elim
 subst aS;subst vq;(try dsimp only at hM);replace H:=H.bk aa;clear aa;refine kg 14 ?_
 refine W.cond (aR != 0) rfl (fun am=>?_) (fun am=>?_)
 ·replace hM:=M.e_t hM am
  exact (M.e_fail hM).elim
 replace hM:=M.e_f hM am
 replace am:=dI am
 refine kg 4 ?_;obtain ⟨bf,aT,hM⟩:=M.e_bind hM;refine s_call cf14 [Pq aO,.agg #[I d.spring,I d.town]] rfl (zdV ab ac ae ag aM aN aj d (aw.app _) ax (ay.app _) az (aA.app _) aB (aC.app _) aD (aE.app _) aF (Has.here (k:=0) rfl) aT _ (H.gt 4)) ?_
 rintro vq bg ⟨r2,rfl,hvq,aa⟩
 subst vq;(try dsimp only at hM);replace H:=H.bk aa;clear aa;refine kg 3 ?_
 refine W.cond (!r2) rfl (fun aG=>?_) (fun aG=>?_)
 ·replace hM:=M.e_t hM aG;refine kg 5 ?_;replace H:=H.pk [];refine W.ret ?_
  have al:=M.e_pure hM
  replace H:=H.nilOwn (α:=Int) 3
  exact ⟨_,resE_tmp2 rfl,⟨([]),2,(.slice none 0 0),al,rfl,H⟩⟩
 replace hM:=M.e_f hM aG;refine kg 5 ?_;obtain ⟨bh,aU,hM⟩:=M.e_bind hM;refine s_call cf16 [Pq aO,.agg #[I d.spring,I d.town]] rfl (zbI ab ac ae ag aM aN aj d (aw.app _) ax (ay.app _) az (aA.app _) aB (aC.app _) aD (aE.app _) aF (Has.here (k:=0) rfl) aU _ ((H.pk [1,0,2,3]).gt 3)) ?_
 rintro vq bi ⟨r3,aV,bj,rfl,hvq,aa,aW⟩
 subst vq;(try dsimp only at hM)
 replace H:=H.pk [1,0,2,3] |>.bk aa
 clear aa;obtain ⟨bm,hM⟩:=M.e_gd hM;refine s_call cf15 [aV] rfl (clone_any r3 (Reads.of (k:=0) rfl memLe) aW (by omega) _ H.sep) ?_
 rintro aX bn aa
 replace H:=H.bk aa;clear aa;refine kg 3 ?_;replace H:=H.pk [0];refine W.ret ?_
 have al:=M.e_pure hM
 exact ⟨_,resE_tmp2 rfl,⟨r3,0,aX,al,rfl,H⟩⟩

def zc1 (d:Dem) (aa:List Int) (ab:List Span) (ac:List Int) (ae:List Town) (ag ah:Int) (ai:List Flood):M Bool :=
  M.bind (zaa aa ab ac ae ag ah ai d) fun r2 =>
  M.pure (decide (0<(r2.length:Int)))
theorem zdJ {R:List Chunk} {al:Nat} {aj:Nat} {am:Cells} {ao:Value} {ap:Cells} {aq:Value} {au:Cells} {av:Value} {aw:Cells} {ax:Value} {ay:Cells} {az:Value} {ak:Nat} {B_b_k0207:Base} (d:Dem) (aa:List Int) (ab:List Span) (ac:List Int) (ae:List Town) (ag:Int) (ah:Int) (ai:List Flood) (aB:Reads R am) (aC:Sl am ao aa) (aD:Reads R ap) (aE:Sl ap aq ab) (aF:Reads R au) (aG:Sl au av ac) (aH:Reads R aw) (aI:Sl aw ax ae) (aJ:Reads R ay) (aK:Sl ay az ai) (aL:Has R (cBlk aj [ao,aq,av,ax,I ag,I ah,az,.map (some ak)] 90)) (aR:Has R (cBlk al [.func (.func 16) #[Pq aj] #[]] 67)) {r:Bool} (hM:(zc1 d aa ab ac ae ag ah ai).Ends r) (w:World) (H:St w w [cMem encDm ak B_b_k0207 (zaa aa ab ac ae ag ah ai)] R):Ret Tryz.prog 59 #[.agg #[I d.spring,I d.town],Pq al] w fun v w'=>∃ (y0:Bool) (aM:Base),y0=r/\v=B y0/\St w w' [cMem encDm ak aM (zaa aa ab ac ae ag ah ai)] R:=by
 refine ret_of_W Tryz.func59 rfl rfl rfl ?_;refine kg 2 ?_;refine t_bx [I d.spring,I d.town] H rfl ?_;intro aS aT H;refine kg 6 ?_;obtain ⟨aU,aN,hM⟩:=M.e_bind hM;refine s_callm (f:=16) (fs:=[Pq aj]) rfl cf16 [.agg #[I d.spring,I d.town]] rfl (zbI aa ab ac ae ag ah ai d (aB.app _) aC (aD.app _) aE (aF.app _) aG (aH.app _) aI (aJ.app _) aK (aL.app _) aN _ ((H.pk [1,0]).gt 1)) ?_
 rintro vq aV ⟨r2,aW,aO,rfl,hvq,aA,aP⟩
 subst vq;(try dsimp only at hM)
 replace H:=H.pk [1,0] |>.bk aA
 clear aA
 have aX:=(aP).len_le
 refine kg 4 ?_;refine W.ret ?_
 have aQ:=M.e_pure hM
 exact ⟨_,resE_tmp rfl,⟨(decide (0<(r2.length:Int))),aO,aQ,rfl,(H.pk [0])⟩⟩

def zc0 (x:Dem) (aa:List Int) (ab:List Span) (ac:List Int) (ae:List Town) (ag ah:Int) (ai:List Flood):M Bool :=
  M.bind (zc1 x aa ab ac ae ag ah ai) fun r2 =>
  M.pure (!r2)
theorem zdN {R:List Chunk} {ak:Nat} {al:Nat} {am:Nat} {ao:Cells} {ap:Value} {aq:Cells} {au:Value} {av:Cells} {aw:Value} {ax:Cells} {ay:Value} {az:Cells} {aA:Value} {aj:Nat} {B_b_k020207:Base} (x:Dem) (aa:List Int) (ab:List Span) (ac:List Int) (ae:List Town) (ag:Int) (ah:Int) (ai:List Flood) (aC:Reads R ao) (aD:Sl ao ap aa) (aE:Reads R aq) (aF:Sl aq au ab) (aG:Reads R av) (aH:Sl av aw ac) (aI:Reads R ax) (aJ:Sl ax ay ae) (aK:Reads R az) (aL:Sl az aA ai) (aM:Has R (cBlk am [ap,au,aw,ay,I ag,I ah,aA,.map (some aj)] 90)) (aN:Has R (cBlk al [.func (.func 16) #[Pq am] #[]] 67)) (aS:Has R (cBlk ak [.func (.func 59) #[] #[Pq al]] 65)) {r:Bool} (hM:(zc0 x aa ab ac ae ag ah ai).Ends r) (w:World) (H:St w w [cMem encDm aj B_b_k020207 (zaa aa ab ac ae ag ah ai)] R):Ret Tryz.prog 77 #[.agg #[I x.spring,I x.town],Pq ak] w fun v w'=>∃ (y0:Bool) (aO:Base),y0=r/\v=B y0/\St w w' [cMem encDm aj aO (zaa aa ab ac ae ag ah ai)] R:=by
 refine ret_of_W Tryz.func77 rfl rfl rfl ?_;refine kg 2 ?_;refine t_bx [I x.spring,I x.town] H rfl ?_;intro aT aU H;refine kg 6 ?_;obtain ⟨aV,aP,hM⟩:=M.e_bind hM;refine s_callv (f:=59) rfl cf59 [.agg #[I x.spring,I x.town]] rfl (zdJ x aa ab ac ae ag ah ai (aC.app _) aD (aE.app _) aF (aG.app _) aH (aI.app _) aJ (aK.app _) aL (aM.app _) (aN.app _) aP _ ((H.pk [1,0]).gt 1)) ?_
 rintro vq aW ⟨r2,aQ,rfl,hvq,aB⟩
 subst vq;(try dsimp only at hM)
 replace H:=H.pk [1,0] |>.bk aB
 clear aB;refine kg 3 ?_;refine W.ret ?_
 have aR:=M.e_pure hM
 exact ⟨_,resE_tmp rfl,⟨(!r2),aQ,aR,rfl,(H.pk [0])⟩⟩

def zcR (s:List Dem) (aa:List Int) (ab:List Span) (ac:List Int) (ae:List Town) (ag ah:Int) (ai:List Flood):Nat->M (Nat ⊕ (Int ⊕ Unit)):=fun s2 =>
  bif decide ((s2:Int)<(s.length:Int)) then (
  M.grd (decide ((s2:Int)<(s.length:Int))) <|
  M.bind (zc0 (s.getD s2 default) aa ab ac ae ag ah ai) fun r2 =>
  bif r2 then (
  M.pure (.inr (.inl (s2:Int))))
  else (
  M.pure (.inl (s2+1))))
  else (
  M.pure (.inr (.inr ())))
def zdu (s:List Dem) (aa:List Int) (ab:List Span) (ac:List Int) (ae:List Town) (ag ah:Int) (ai:List Flood):M Int :=
  M.bind (M.iter (zcR s aa ab ac ae ag ah ai) 0) fun x_=>match x_ with
  | (.inl s3)=>(
  M.pure s3)
  | (.inr (_:Unit))=>(
  M.pure (-1))
theorem zd4 {R:List Chunk} {av:Cells} {al:Value} {am:Nat} {aw:Nat} {ax:Nat} {ay:Cells} {az:Value} {aA:Cells} {aB:Value} {aC:Cells} {aD:Value} {aE:Cells} {aF:Value} {aG:Cells} {aH:Value} {ak:Nat} {B_b_f2020207:Base} (s:List Dem) (aa:List Int) (ab:List Span) (ac:List Int) (ae:List Town) (ag:Int) (ah:Int) (ai:List Flood) (aN:Reads R av) (aI:Sl av al s) (aO:Reads R ay) (aP:Sl ay az aa) (aQ:Reads R aA) (aR:Sl aA aB ab) (aS:Reads R aC) (aT:Sl aC aD ac) (aU:Reads R aE) (aV:Sl aE aF ae) (aW:Reads R aG) (aX:Sl aG aH ai) (aY:Has R (cBlk ax [az,aB,aD,aF,I ag,I ah,aH,.map (some ak)] 90)) (aZ:Has R (cBlk aw [.func (.func 16) #[Pq ax] #[]] 67)) (a6:Has R (cBlk am [.func (.func 59) #[] #[Pq aw]] 65)) {r:Int} (hM:(zdu s aa ab ac ae ag ah ai).Ends r) (w:World) (H:St w w [cMem encDm ak B_b_f2020207 (zaa aa ab ac ae ag ah ai)] R):Ret Tryz.prog 56 #[al,.func (.func 77) #[] #[Pq am]] w fun v w'=>∃ (y0:Int) (a7:Base),y0=r/\v=I y0/\St w w' [cMem encDm ak a7 (zaa aa ab ac ae ag ah ai)] R:=by
 refine ret_of_W Tryz.func56 rfl rfl rfl ?_
 have bh:=(aI).len_le
 refine kg 12 ?_;obtain ⟨a8,ao,aJ⟩:=M.e_bind hM
 obtain ⟨bi,ao⟩:=M.e_iter ao
 refine W.loop (fun m σ W=>∃ (s2:Nat) (B_mem:Base) (ρ:Env),σ=upds ρ [(0,al),(1,.func (.func 77) #[] #[Pq am]),(7,I (s.length:Int)),(8,I (s2:Int))]/\M.iterN (zcR s aa ab ac ae ag ah ai) m s2=some a8/\St w W [cMem encDm ak B_mem (zaa aa ab ac ae ag ah ai)] R) ?_ ?_
 ·exact ⟨_,0,B_b_f2020207,_,upds_of _ _ ⟨rfl,rfl,rfl,rfl,trivial⟩,ao,H⟩
 rintro bj σ bm ⟨s2,B_mem,ρ,rfl,aK,H⟩
 obtain ⟨ba,bb,bn,hM,ap⟩:=M.e_iterN aK
 simp only [zcR] at hM
 clear aK;refine kg 5 ?_
 refine W.cond (decide ((s2:Int)<(s.length:Int))) rfl (fun aj=>?_) (fun aj=>?_)
 ·replace hM:=M.e_t hM aj
  replace aj:=dI aj
  obtain ⟨bo,hM⟩:=M.e_gd hM;refine kg 14 ?_;refine s_val (x_ld (v:=.agg #[I ((s.getD s2 default).spring),I ((s.getD s2 default).town)]) rfl (ld_ag Ag49 Sz49 (At.mono (Dem_atA aI (i:=(s2:Int)) (by omega) (by omega)) (aN.at H)))) ?_;obtain ⟨bp,bc,hM⟩:=M.e_bind hM;refine s_callv (f:=77) rfl cf77 [.agg #[I ((s.getD s2 default).spring),I ((s.getD s2 default).town)]] rfl (zdN (s.getD s2 default) aa ab ac ae ag ah ai (aO.app _) aP (aQ.app _) aR (aS.app _) aT (aU.app _) aV (aW.app _) aX (aY.app _) (aZ.app _) (a6.app _) bc _ (H.gt 0)) ?_
  rintro vq br ⟨r2,aL,rfl,hvq,aM⟩
  subst vq;(try dsimp only at hM);replace H:=H.bk aM;clear aM;refine s_nil ?_
  refine W.cond r2 rfl (fun aq=>?_) (fun aq=>?_)
  ·replace hM:=M.e_t hM aq;refine kg 5 ?_;refine W.ret ?_
   have bf:=M.e_inr hM ap
   subst bf;replace hM:=aJ;(try dsimp only at hM)
   have au:=M.e_pure hM
   exact ⟨_,resE_tmp rfl,⟨(s2:Int),aL,au,rfl,H⟩⟩
  replace hM:=M.e_f hM aq;refine kg 5 ?_
  exact ⟨ba,bb,s2+1,aL,_,upds_of _ _ ⟨rfl,rfl,rfl,rfl,trivial⟩,M.e_inl hM ap,H⟩
 replace hM:=M.e_f hM aj
 replace aj:=dI aj
 refine W.exit ?_
 have bg:=M.e_inr hM ap
 subst bg;replace hM:=aJ;(try dsimp only at hM);refine kg 4 ?_;refine W.ret ?_
 have au:=M.e_pure hM
 exact ⟨_,resE_tmp rfl,⟨(-1),B_mem,au,rfl,H⟩⟩

def zc2 (s:List Dem) (aa:List Int) (ab:List Span) (ac:List Int) (ae:List Town) (ag ah:Int) (ai:List Flood):M Bool :=
  M.bind (zdu s aa ab ac ae ag ah ai) fun r2 =>
  M.pure (decide (0<=r2))
theorem zdY {R:List Chunk} {am:Cells} {aj:Value} {ak:Nat} {ao:Nat} {ap:Nat} {aq:Cells} {au:Value} {av:Cells} {aw:Value} {ax:Cells} {ay:Value} {az:Cells} {aA:Value} {aB:Cells} {aC:Value} {al:Nat} {B_b_f2020207:Base} (s:List Dem) (aa:List Int) (ab:List Span) (ac:List Int) (ae:List Town) (ag:Int) (ah:Int) (ai:List Flood) (aE:Reads R am) (aF:Sl am aj s) (aG:Reads R aq) (aH:Sl aq au aa) (aI:Reads R av) (aJ:Sl av aw ab) (aK:Reads R ax) (aL:Sl ax ay ac) (aM:Reads R az) (aN:Sl az aA ae) (aO:Reads R aB) (aP:Sl aB aC ai) (aQ:Has R (cBlk ap [au,aw,ay,aA,I ag,I ah,aC,.map (some al)] 90)) (aR:Has R (cBlk ao [.func (.func 16) #[Pq ap] #[]] 67)) (aS:Has R (cBlk ak [.func (.func 59) #[] #[Pq ao]] 65)) {r:Bool} (hM:(zc2 s aa ab ac ae ag ah ai).Ends r) (w:World) (H:St w w [cMem encDm al B_b_f2020207 (zaa aa ab ac ae ag ah ai)] R):Ret Tryz.prog 31 #[aj,.func (.func 77) #[] #[Pq ak]] w fun v w'=>∃ (y0:Bool) (aT:Base),y0=r/\v=B y0/\St w w' [cMem encDm al aT (zaa aa ab ac ae ag ah ai)] R:=by
 refine ret_of_W Tryz.func31 rfl rfl rfl ?_;refine kg 8 ?_;obtain ⟨aX,aU,hM⟩:=M.e_bind hM;refine s_call cf56 [aj,.func (.func 77) #[] #[Pq ak]] rfl (zd4 s aa ab ac ae ag ah ai (aE.app _) aF (aG.app _) aH (aI.app _) aJ (aK.app _) aL (aM.app _) aN (aO.app _) aP (aQ.app _) (aR.app _) (aS.app _) aU _ (H.gt 0)) ?_
 rintro vq aY ⟨r2,aV,rfl,hvq,aD⟩
 subst vq;(try dsimp only at hM);replace H:=H.bk aD;clear aD;refine kg 3 ?_;refine W.ret ?_
 have aW:=M.e_pure hM
 exact ⟨_,resE_tmp rfl,⟨(decide (0<=r2)),aV,aW,rfl,H⟩⟩

def zdp (l:List Dem) (aa:List Int) (ab:List Span) (ac:List Int) (ae:List Town) (ag ah:Int) (ai:List Flood):M Bool :=
  M.bind (zc2 l aa ab ac ae ag ah ai) fun r2 =>
  M.pure (!r2)
theorem zd5 {R:List Chunk} {am:Cells} {aj:Value} {ak:Nat} {ao:Nat} {ap:Cells} {aq:Value} {au:Cells} {av:Value} {aw:Cells} {ax:Value} {ay:Cells} {az:Value} {aA:Cells} {aB:Value} {al:Nat} {B_b_so20207:Base} (l:List Dem) (aa:List Int) (ab:List Span) (ac:List Int) (ae:List Town) (ag:Int) (ah:Int) (ai:List Flood) (aE:Reads R am) (aF:Sl am aj l) (aG:Reads R ap) (aH:Sl ap aq aa) (aI:Reads R au) (aJ:Sl au av ab) (aK:Reads R aw) (aL:Sl aw ax ac) (aM:Reads R ay) (aN:Sl ay az ae) (aO:Reads R aA) (aP:Sl aA aB ai) (aQ:Has R (cBlk ao [aq,av,ax,az,I ag,I ah,aB,.map (some al)] 90)) (aR:Has R (cBlk ak [.func (.func 16) #[Pq ao] #[]] 67)) {r:Bool} (hM:(zdp l aa ab ac ae ag ah ai).Ends r) (w:World) (H:St w w [cMem encDm al B_b_so20207 (zaa aa ab ac ae ag ah ai)] R):Ret Tryz.prog 58 #[aj,.func (.func 59) #[] #[Pq ak]] w fun v w'=>∃ (y0:Bool) (aS:Base),y0=r/\v=B y0/\St w w' [cMem encDm al aS (zaa aa ab ac ae ag ah ai)] R:=by
 refine ret_of_W Tryz.func58 rfl rfl rfl ?_;refine kg 2 ?_;refine t_b1 (.func (.func 59) #[] #[Pq ak]) H rfl rfl ?_;intro aC aW H;refine kg 5 ?_;refine s_val (x_mf (fs:=[]) (cs:=[Pq aC]) rfl rfl) ?_;obtain ⟨aX,aT,hM⟩:=M.e_bind hM;refine s_call cf31 [aj,.func (.func 77) #[] #[Pq aC]] rfl (zdY l aa ab ac ae ag ah ai (aE.app _) aF (aG.app _) aH (aI.app _) aJ (aK.app _) aL (aM.app _) aN (aO.app _) aP (aQ.app _) (aR.app _) (Has.here (k:=0) rfl) aT _ ((H.pk [1,0]).gt 1)) ?_
 rintro vq aY ⟨r2,aU,rfl,hvq,aD⟩
 subst vq;(try dsimp only at hM)
 replace H:=H.pk [1,0] |>.bk aD
 clear aD;refine kg 3 ?_;refine W.ret ?_
 have aV:=M.e_pure hM
 exact ⟨_,resE_tmp rfl,⟨(!r2),aU,aV,rfl,(H.pk [0])⟩⟩

def zaN  : Int->(Int × Int)->M (Int ⊕ Unit):=fun s (x,x2) =>
  M.grd (decide ((-9223372036854775808:Int)<=(s+1))&&decide ((s+1)<=(9223372036854775807:Int))) <|
  M.pure (.inl (s+1))
def zby (d:Dem) (ah:List Int) (ai:List Span) (aj:List Int) (ak:List Town) (al am:Int) (ao:List Flood) (aa:List Int) (ab:List Span) (ac:List Int) (ae:List Town) (ap aq:Int) (ag:List Flood):M Int :=
  M.bind (zaa ah ai aj ak al am ao d) fun r2 =>
  M.grd (decide ((0:Int)<=((r2.length:Int)-1))&&decide (((r2.length:Int)-1)<(r2.length:Int))) <|
  M.bind (zao aa ab ac ae ap aq ag (r2.getD (Int.toNat ((r2.length:Int)-1)) 0)) fun (au,av,aw) =>
  M.bind (zak (M.yl zaN) (.inl 0) au aa ab ac ae av aw ag) fun x_=>match x_ with
  | (.inl s,q0)=>(
  M.pure s)
  | (.inr _,_)=>M.fail
theorem zc4 {R:List Chunk} {bg:Nat} {aR:Nat} {bh:Cells} {bi:Value} {bj:Cells} {bm:Value} {bn:Cells} {bo:Value} {bp:Cells} {br:Value} {bt:Cells} {bu:Value} {ak:Nat} {B_b_k0207:Base} {bv:Nat} {bw:Nat} {bx:Cells} {al:Value} {bz:Cells} {am:Value} {bA:Cells} {ao:Value} {bB:Cells} {ap:Value} {bC:Cells} {aq:Value} {bN:Nat} (d:Dem) (ab:List Int) (ac:List Span) (ae:List Int) (ag:List Town) (ah:Int) (ai:Int) (aj:List Flood) (aE:List Int) (aF:List Span) (aG:List Int) (aH:List Town) (ax:Int) (ay:Int) (aI:List Flood) (aS:Reads R bh) (bD:Sl bh bi ab) (aT:Reads R bj) (bE:Sl bj bm ac) (aU:Reads R bn) (bF:Sl bn bo ae) (aV:Reads R bp) (bG:Sl bp br ag) (aW:Reads R bt) (bH:Sl bt bu aj) (aX:Has R (cBlk aR [bi,bm,bo,br,I ah,I ai,bu,.map (some ak)] 90)) (bI:Has R (cBlk bg [.func (.func 16) #[Pq aR] #[]] 67)) (aJ:Reads R bx) (aY:Sl bx al aE) (aK:Reads R bz) (aZ:Sl bz am aF) (aL:Reads R bA) (a6:Sl bA ao aG) (aM:Reads R bB) (a7:Sl bB ap aH) (aN:Reads R bC) (a8:Sl bC aq aI) (ba:Has R (cBlk bw [al,am,ao,ap,I ax,I ay,aq,.map (some bN)] 90)) (bJ:Has R (cBlk bv [Pq bw] 62)) {r:Int} (hM:(zby d ab ac ae ag ah ai aj aE aF aG aH ax ay aI).Ends r) (w:World) (H:St w w [cMem encDm ak B_b_k0207 (zaa ab ac ae ag ah ai aj)] R):Ret Tryz.prog 60 #[.agg #[I d.spring,I d.town],Pq bg,Pq bv] w fun v w'=>∃ (y0:Int) (bO:Base),y0=r/\v=I y0/\St w w' [cMem encDm ak bO (zaa ab ac ae ag ah ai aj)] R:=by
 refine ret_of_WD Tryz.func60 rfl rfl rfl ?_
 replace H:St w w [cMk ([]),cMem encDm ak B_b_k0207 (zaa ab ac ae ag ah ai aj)] R:=H.mk0
 have bY:=bD.len_le
 have bZ:=bE.len_le
 have b3:=bF.len_le
 have b4:=bG.len_le
 have b6:=bH.len_le
 have b7:=aY.len_le
 have b8:=aZ.len_le
 have b9:=a6.len_le
 have ca:=a7.len_le
 have cb:=a8.len_le
 unfold zby at hM
 refine WD.seq<|WD.of<|W.region rfl ?_;refine t_bx [I d.spring,I d.town] H rfl ?_;intro az cc H;refine kg 2 ?_;refine WD.seq<|WD.of ?_;refine kg 3 ?_;obtain ⟨cd,bP,hM⟩:=M.e_bind hM;refine s_callm (f:=16) (fs:=[Pq aR]) rfl cf16 [.agg #[I d.spring,I d.town]] rfl (zbI ab ac ae ag ah ai aj d (aS.app _) bD (aT.app _) bE (aU.app _) bF (aV.app _) bG (aW.app _) bH (aX.app _) bP _ ((H.pk [2,0,1]).gt 2)) ?_
 rintro vq ce ⟨r2,cf,aw,rfl,hvq,au,bK⟩
 subst vq;(try dsimp only at hM)
 replace H:=H.pk [2,0,1] |>.bk au
 clear au;refine kg 2 ?_;refine WD.seq<|WD.of<|W.region rfl ?_;refine t_alloc (cs:=[I 0]) H Al3 rfl ?_;intro av cg H;refine t_sw 0 0 [I 0] (I 0) H rfl rfl Sz3 rfl rfl rfl rfl ?_;intro ch H;refine s_nil<|WD.seq<|WD.seq<|WD.of ?_;refine W.draw (fun W=>St w W [cBlk av [I 0] 3,cMem encDm ak aw (zaa ab ac ae ag ah ai aj),cBlk az [I d.spring,I d.town] 49,cMk ([])] R) [(0,true),(1,true),(2,true),(3,true),(4,true),(5,true),(6,true),(7,true),(8,true),(9,true),(10,false)] mixed (by decide +kernel) rfl ?_;intro ci bL;replace H:=H.ext bL;clear bL
 refine ⟨(H.pk [0,1,2,3]),?_⟩
 refine kg 3 ?_;refine d_q rfl (fun w' H=>x_ld (v:=.agg #[al,am,ao,ap,I ax,I ay,aq]) rfl (ldb_ag (ds:=[al,am,ao,ap,I ax,I ay,aq]) Ag40 Sz40 (ba.blk H) rfl rfl)) ?_
 have cj:=(bK).len_le
 obtain ⟨ck,hM⟩:=M.e_gd hM;refine kg 5 ?_;refine d_q rfl (fun w' H=>x_ld (v:=I (r2.getD (Int.toNat ((r2.length:Int)-1)) 0)) rfl (ld_sc Sc3 (At.mono (Int_at bK (i:=(r2.length:Int)-1) (by omega) (by omega)) (memLe _ (H.get (k:=1) rfl)))))<|d_l rfl ?_;obtain ⟨cl,bQ,hM⟩:=M.e_bind hM;refine s_call cf34 [.agg #[al,am,ao,ap,I ax,I ay,aq],I (r2.getD (Int.toNat ((r2.length:Int)-1)) 0)] rfl (zaQ aE aF aG aH ax ay aI (r2.getD (Int.toNat ((r2.length:Int)-1)) 0) (aJ.app _) aY (aK.app _) aZ (aL.app _) a6 (aM.app _) a7 (aN.app _) a8 bQ _ (H.gt 4)) ?_
 rintro vq cm ⟨aO,aA,aB,aD,aC,rfl,hvq,au⟩
 subst vq;(try dsimp only at hM);replace H:=H.bk au;clear au
 refine s_nil ⟨(H.pk [2,3,4,5]),?_⟩
 refine d_nil<|WD.block ?_;obtain ⟨cn,bR,hM⟩:=M.e_bind hM;refine WD.range (L:=[cBlk av [I 0] 3,cBlk aC [al,am,ao,ap,I aA,I aB,aq] 40,cMem encDm ak aw (zaa ab ac ae ag ah ai aj),cBlk az [I d.spring,I d.town] 49,cBlk aD [I aO] 3]) [Pq aD,Pq aC] (H.pk [5,2,1,3,4,0]) rfl cf57 ?_;intro aP bb bc bS bf H
 have hYC:YieldC Tryz.prog ([cMk (bb :: ([])),cBlk aC [al,am,ao,ap,I aA,I aB,aq] 40,cMem encDm ak aw (zaa ab ac ae ag ah ai aj),cBlk az [I d.spring,I d.town] 49]++R) arII (yJ aP bc (fun s aQ=>aQ=[cBlk av [I s] 3]) (fun (_:Unit) _=>False) (fun _=>.ret)) (.func (.yield aP) #[] #[]) (M.yl zaN):=by
  refine YieldC.mk bf (fun s aQ=>aQ=[cBlk av [I s] 3]) (fun (_:Unit) _=>False) (fun _=>.ret) zaN (by rintro s _ h_; obtain ⟨rfl⟩:=h_; rfl) (fun _ _ h_=>h_.elim) rfl (arII_len rfl) ?_;intro C_ co x_ W_ bT
  obtain ⟨x,x2⟩:=x_
  obtain rfl:=bT
  refine W.skip ?_
  refine ⟨rfl,rfl,?_⟩
  intro w R aa aQ s_ r bU hM H
  skip
  obtain ⟨s,bV⟩:∃ y_,y_=s_:=⟨_,rfl⟩
  subst bV
  obtain ⟨rfl⟩:=bU
  replace aS:=aS.sub aa
  replace aT:=aT.sub aa
  replace aU:=aU.sub aa
  replace aV:=aV.sub aa
  replace aW:=aW.sub aa
  replace aX:=aX.sub aa
  replace bI:=bI.sub aa
  replace aJ:=aJ.sub aa
  replace aK:=aK.sub aa
  replace aL:=aL.sub aa
  replace aM:=aM.sub aa
  replace aN:=aN.sub aa
  replace ba:=ba.sub aa
  replace bJ:=bJ.sub aa
  replace hM:(zaN s (x,x2)).Ends r:=hM
  simp only [zaN] at hM
  replace H:=H.pk [0,2,3,4,1];obtain ⟨cp,hM⟩:=M.e_gd hM;refine kg 4 ?_;refine t_sw 0 0 [I (s+1)] (I (s+1)) H rfl rfl Sz3 rfl rfl rfl rfl ?_;intro cq H;refine s_nil ?_
  exact ⟨s+1,[cBlk av [I (s+1)] 3],(M.e_pure hM).symm,rfl,H.pick [0,4,1,2,3] (by decide) rfl⟩
 replace H:St w bS (cAll (cObj aP (.loop bc) :: [cBlk av [I 0] 3]) :: [cBlk aD [I aO] 3,cMk (bb :: ([])),cBlk aC [al,am,ao,ap,I aA,I aB,aq] 40,cMem encDm ak aw (zaa ab ac ae ag ah ai aj),cBlk az [I d.spring,I d.town] 49]) R:=St.bundleB (A:=cObj aP (.loop bc) :: [cBlk av [I 0] 3]) (T:=[cBlk aD [I aO] 3,cMk (bb :: ([])),cBlk aC [al,am,ao,ap,I aA,I aB,aq] 40,cMem encDm ak aw (zaa ab ac ae ag ah ai aj),cBlk az [I d.spring,I d.town] 49]) rfl (H.pk [0,2,6,1,3,4,5])
 refine (zbb (M.yl zaN) (.inl 0) aO aE aF aG aH aA aB aI hYC ⟨_,rfl,rfl⟩ (aJ.app _) aY (aK.app _) aZ (aL.app _) a6 (aM.app _) a7 (aN.app _) a8 (Has.here (k:=1) rfl) bR _ (H.gt 4)).mono ?_
 rintro vq cr ⟨bW,q0,ct,rfl,hvq,au,bM⟩
 replace H:=H.back au rfl
 clear au hYC
 rcases bW with s | _
 ·(try dsimp only at hM)
  obtain ⟨_,rfl,rfl⟩:=bM
  refine ⟨_,[cBlk av [I s] 3,cBlk aC [al,am,ao,ap,I aA,I aB,aq] 40,cMem encDm ak aw (zaa ab ac ae ag ah ai aj),cBlk az [I d.spring,I d.town] 49,cBlk aD [I q0] 3],H.unbundle.pick [0,3,1,4,5,6,2] (by decide) rfl,bf.nb,?_⟩
  intro cu H
  rw [bf.pd]
  replace H:=H.nf
  try simp only []
  replace H:=H.pk [0,1,3];refine WD.seq<|WD.of ?_;refine kg 4 ?_;refine WD.of ?_;refine W.ret ?_;refine bodyD_r (H.pk [0,1,2]) ?_;intro cv H;replace H:=H.nf
  have bX:=M.e_pure hM
  exact ⟨_,resE_tmp rfl,⟨s,aw,bX,rfl,(H.pk [1])⟩⟩
 obtain ⟨_,_,h_⟩:=bM; exact h_.elim

def m_cmp_isNaN_int (x:Int):M Bool :=
  M.pure (x != x)
theorem cmp_isNaN_int_ok {R:List Chunk}  (x:Int)  {r:Bool} (hM:(m_cmp_isNaN_int x).Ends r) (w:World) (H:St w w [] R):Ret Tryz.prog 79 #[I x] w fun v w'=>∃ (y0:Bool),y0=r/\v=B y0/\St w w' [] R:=by
 refine ret_of_W Tryz.func79 rfl rfl rfl ?_;refine kg 11 ?_;refine W.ret ?_
 have aa:=M.e_pure hM
 exact ⟨_,resE_tmp rfl,⟨(x != x),aa,rfl,H⟩⟩

def m_cmp_Compare_int (x y:Int):M Int :=
  M.bind (m_cmp_isNaN_int x) fun r2 =>
  M.bind (m_cmp_isNaN_int y) fun r3 =>
  bif r2 then (
  bif r3 then (
  M.pure 0)
  else (
  M.pure (-1)))
  else (
  bif r3 then (
  M.pure 1)
  else (
  bif decide (x<y) then (
  M.pure (-1))
  else (
  bif decide (y<x) then (
  M.pure 1)
  else (
  M.pure 0))))
theorem cmp_Compare_int_ok {R:List Chunk}  (x:Int) (y:Int)  {r:Int} (hM:(m_cmp_Compare_int x y).Ends r) (w:World) (H:St w w [] R):Ret Tryz.prog 63 #[I x,I y] w fun v w'=>∃ (y0:Int),y0=r/\v=I y0/\St w w' [] R:=by
 refine ret_of_W Tryz.func63 rfl rfl rfl ?_;refine kg 7 ?_;obtain ⟨al,aj,hM⟩:=M.e_bind hM;refine s_call cf79 [I x] rfl (cmp_isNaN_int_ok x aj _ (H.gt 0)) ?_
 rintro vq am ⟨r2,rfl,hvq,ae⟩
 subst vq;(try dsimp only at hM);replace H:=H.bk ae;clear ae;refine kg 5 ?_;obtain ⟨ao,ak,hM⟩:=M.e_bind hM;refine s_call cf79 [I y] rfl (cmp_isNaN_int_ok y ak _ (H.gt 0)) ?_
 rintro vq ap ⟨r3,rfl,hvq,ae⟩
 subst vq;(try dsimp only at hM);replace H:=H.bk ae;clear ae;refine kg 7 ?_
 refine W.cond r2 rfl (fun ag=>?_) (fun ag=>?_)
 ·replace hM:=M.e_t hM ag;refine kg 5 ?_
  refine W.cond r3 rfl (fun ah=>?_) (fun ah=>?_)
  ·replace hM:=M.e_t hM ah;refine kg 4 ?_;refine W.ret ?_
   have aa:=M.e_pure hM
   exact ⟨_,resE_tmp rfl,⟨0,aa,rfl,H⟩⟩
  replace hM:=M.e_f hM ah;refine kg 5 ?_;refine W.ret ?_
  have aa:=M.e_pure hM
  exact ⟨_,resE_tmp rfl,⟨(-1),aa,rfl,H⟩⟩
 replace hM:=M.e_f hM ag;refine kg 6 ?_
 refine W.cond r3 rfl (fun ai=>?_) (fun ai=>?_)
 ·replace hM:=M.e_t hM ai;refine kg 4 ?_;refine W.ret ?_
  have aa:=M.e_pure hM
  exact ⟨_,resE_tmp rfl,⟨1,aa,rfl,H⟩⟩
 replace hM:=M.e_f hM ai;refine kg 8 ?_
 refine W.cond (decide (x<y)) rfl (fun ab=>?_) (fun ab=>?_)
 ·replace hM:=M.e_t hM ab
  replace ab:=dI ab
  refine kg 4 ?_;refine W.ret ?_
  have aa:=M.e_pure hM
  exact ⟨_,resE_tmp rfl,⟨(-1),aa,rfl,H⟩⟩
 replace hM:=M.e_f hM ab
 replace ab:=dI ab
 refine kg 8 ?_
 refine W.cond (decide (y<x)) rfl (fun ac=>?_) (fun ac=>?_)
 ·replace hM:=M.e_t hM ac
  replace ac:=dI ac
  refine kg 4 ?_;refine W.ret ?_
  have aa:=M.e_pure hM
  exact ⟨_,resE_tmp rfl,⟨1,aa,rfl,H⟩⟩
 replace hM:=M.e_f hM ac
 replace ac:=dI ac
 refine kg 5 ?_;refine W.ret ?_
 have aa:=M.e_pure hM
 exact ⟨_,resE_tmp rfl,⟨0,aa,rfl,H⟩⟩

def zaS (a b:Dem) (aa:List Int) (ab:List Span) (ac:List Int) (ae:List Town) (ag ah:Int) (ai:List Flood) (aj:List Int) (ak:List Span) (al:List Int) (am:List Town) (ao ap:Int) (aq:List Flood):M Int :=
  M.bind (zby b aa ab ac ae ag ah ai aj ak al am ao ap aq) fun r2 =>
  M.bind (zby a aa ab ac ae ag ah ai aj ak al am ao ap aq) fun r3 =>
  M.bind (m_cmp_Compare_int r2 r3) fun r4 =>
  M.pure r4
theorem zbM {R:List Chunk} {aw:Nat} {ax:Nat} {ay:Nat} {az:Cells} {aA:Value} {aB:Cells} {aC:Value} {aD:Cells} {aE:Value} {aF:Cells} {aG:Value} {aH:Cells} {aI:Value} {av:Nat} {B_b_k020207:Base} {aJ:Nat} {aK:Nat} {aL:Cells} {aM:Value} {aN:Cells} {aO:Value} {aP:Cells} {aQ:Value} {aR:Cells} {aS:Value} {aT:Cells} {aU:Value} {bx:Nat} (a:Dem) (b:Dem) (ab:List Int) (ac:List Span) (ae:List Int) (ag:List Town) (ah:Int) (ai:Int) (aj:List Flood) (ak:List Int) (al:List Span) (am:List Int) (ao:List Town) (ap:Int) (aq:Int) (au:List Flood) (aV:Reads R az) (aW:Sl az aA ab) (aX:Reads R aB) (aY:Sl aB aC ac) (aZ:Reads R aD) (a6:Sl aD aE ae) (a7:Reads R aF) (a8:Sl aF aG ag) (ba:Reads R aH) (bb:Sl aH aI aj) (bc:Has R (cBlk ay [aA,aC,aE,aG,I ah,I ai,aI,.map (some av)] 90)) (bf:Has R (cBlk ax [.func (.func 16) #[Pq ay] #[]] 67)) (bg:Reads R aL) (bh:Sl aL aM ak) (bi:Reads R aN) (bj:Sl aN aO al) (bm:Reads R aP) (bn:Sl aP aQ am) (bo:Reads R aR) (bp:Sl aR aS ao) (br:Reads R aT) (bt:Sl aT aU au) (bu:Has R (cBlk aK [aM,aO,aQ,aS,I ap,I aq,aU,.map (some bx)] 90)) (bv:Has R (cBlk aJ [Pq aK] 62)) (bH:Has R (cBlk aw [.func (.func 60) #[] #[Pq ax,Pq aJ]] 126)) {r:Int} (hM:(zaS a b ab ac ae ag ah ai aj ak al am ao ap aq au).Ends r) (w:World) (H:St w w [cMem encDm av B_b_k020207 (zaa ab ac ae ag ah ai aj)] R):Ret Tryz.prog 62 #[.agg #[I a.spring,I a.town],.agg #[I b.spring,I b.town],Pq aw] w fun v w'=>∃ (y0:Int) (bz:Base),y0=r/\v=I y0/\St w w' [cMem encDm av bz (zaa ab ac ae ag ah ai aj)] R:=by
 refine ret_of_W Tryz.func62 rfl rfl rfl ?_;refine kg 2 ?_;refine t_bx [I a.spring,I a.town] H rfl ?_;intro bA bI H;refine t_bx [I b.spring,I b.town] H rfl ?_;intro bB bJ H;refine kg 3 ?_;refine W.draw (fun W=>St w W [cBlk bB [I b.spring,I b.town] 49,cBlk bA [I a.spring,I a.town] 49] R) [(0,true),(1,true),(3,true),(4,true),(2,false),(5,false),(6,false),(7,true)] mixed (by decide +kernel) rfl ?_;intro bK bw;replace H:=H.ext bw;clear bw
 refine ⟨(H.pk [0,1]),?_⟩
 refine kg 4 ?_;refine d_l rfl ?_;obtain ⟨bL,bC,hM⟩:=M.e_bind hM;refine s_callv (f:=60) rfl cf60 [.agg #[I b.spring,I b.town]] rfl (zc4 b ab ac ae ag ah ai aj ak al am ao ap aq au (aV.app _) aW (aX.app _) aY (aZ.app _) a6 (a7.app _) a8 (ba.app _) bb (bc.app _) (bf.app _) (bg.app _) bh (bi.app _) bj (bm.app _) bn (bo.app _) bp (br.app _) bt (bu.app _) (bv.app _) bC _ ((H.pk [2,0,1]).gt 2)) ?_
 rintro vq bM ⟨r2,bN,rfl,hvq,aa⟩
 subst vq;(try dsimp only at hM)
 replace H:=H.pk [2,0,1] |>.bk aa
 clear aa
 refine s_nil ⟨(H.pk [1,2]),?_⟩
 refine d_l rfl ?_;obtain ⟨bO,bD,hM⟩:=M.e_bind hM;refine s_callv (f:=60) rfl cf60 [.agg #[I a.spring,I a.town]] rfl (zc4 a ab ac ae ag ah ai aj ak al am ao ap aq au (aV.app _) aW (aX.app _) aY (aZ.app _) a6 (a7.app _) a8 (ba.app _) bb (bc.app _) (bf.app _) (bg.app _) bh (bi.app _) bj (bm.app _) bn (bo.app _) bp (br.app _) bt (bu.app _) (bv.app _) bD _ (H.gt 2)) ?_
 rintro vq bP ⟨r3,bE,rfl,hvq,aa⟩
 subst vq;(try dsimp only at hM);replace H:=H.bk aa;clear aa
 refine s_nil ⟨(H.pk [1,2]),?_⟩
 refine d_l rfl ?_;obtain ⟨bQ,bF,hM⟩:=M.e_bind hM;refine s_call cf63 [I r2,I r3] rfl (cmp_Compare_int_ok r2 r3 bF _ (H.gt 3)) ?_
 rintro vq bR ⟨r4,rfl,hvq,aa⟩
 subst vq;(try dsimp only at hM);replace H:=H.bk aa;clear aa
 refine s_nil ⟨(H.pk [1,2]),?_⟩
 refine kg 2 ?_;replace H:=H.pk [0];refine W.ret ?_
 have bG:=M.e_pure hM
 exact ⟨_,resE_tmp rfl,⟨r4,bE,bG,rfl,H⟩⟩

end Go.Proofs.YtdmdhmineljlhabGreat
end
