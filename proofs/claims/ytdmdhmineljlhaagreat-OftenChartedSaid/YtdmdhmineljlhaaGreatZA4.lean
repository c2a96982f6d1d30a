/- Part 4 of the texts on which the proof rests. Conditions: none. -/
import Derived.KernelRfl
import Derived.Test.YtdmdhmineljlhaaGreatZA3
set_option linter.unusedVariables false
set_option linter.unusedSimpArgs false
set_option linter.unusedSectionVars false
section
set_option maxRecDepth 100000
set_option maxHeartbeats 16000000
namespace Go.Proofs.YtdmdhmineljlhaaGreat
open Go Go.Nm
attribute [local irreducible] gd execOp SL SLD SLT WR
def zaf (n aa greatest:Int):M Bool :=
  M.pure ((decide (aa<=n))&&(decide (n<=greatest)))
theorem zah {R:List Chunk}  (n:Int) (aa:Int) (greatest:Int)  {r:Bool} (hM:(zaf n aa greatest).Ends r) (w:World) (H:St w w [] R):Ret Tryz.prog 91 #[I n,I aa,I greatest] w fun v w'=>∃ (y0:Bool),y0=r/\v=B y0/\St w w' [] R:=by
 refine ret_of_W Tryz.func91 rfl rfl rfl ?_;refine kg 13 ?_;refine s_val (x_pand (b:=decide (aa<=n)) (r:=decide (n<=greatest)) rfl (fun hb=>gd_of (c:=decide (aa<=n)) (by first | exact hb | (rw [hb]; rfl) | simp_all) (B (decide (n<=greatest)))) rfl) ?_;refine kg 2 ?_;refine W.ret ?_
 have ab:=M.e_pure hM
 exact ⟨_,resE_tmp rfl,⟨((decide (aa<=n))&&(decide (n<=greatest))),ab,rfl,H⟩⟩

def zaM (s:Span) (aa greatest:Int):M Bool :=
  M.bind (zaf s.lo aa greatest) fun r2 =>
  M.bind (M.opt r2 (zaf s.hi s.lo greatest) false) fun r3 =>
  M.pure (r2&&r3)
theorem zch {R:List Chunk}  (s:Span) (aa:Int) (greatest:Int)  {r:Bool} (hM:(zaM s aa greatest).Ends r) (w:World) (H:St w w [] R):Ret Tryz.prog 107 #[.agg #[I s.lo,I s.hi],I aa,I greatest] w fun v w'=>∃ (y0:Bool),y0=r/\v=B y0/\St w w' [] R:=by
 refine ret_of_W Tryz.func107 rfl rfl rfl ?_;refine kg 2 ?_;refine t_bx [I s.lo,I s.hi] H rfl ?_;intro ai aj H;refine kg 8 ?_;obtain ⟨ak,ae,hM⟩:=M.e_bind hM;refine s_call cf91 [I s.lo,I aa,I greatest] rfl (zah s.lo aa greatest ae _ (H.gt 1)) ?_
 rintro vq al ⟨r2,rfl,hvq,ac⟩
 subst vq;(try dsimp only at hM);replace H:=H.bk ac;clear ac;refine kg 6 ?_;obtain ⟨r3,ag,hM⟩:=M.e_bind hM;refine t_gcall r2 (gy_t rfl) cf91 (B r3) (fun _=>[I s.hi,I s.lo,I greatest]) (fun hg=>lst3 (gd_of hg (I s.hi)) (gd_of hg (I s.lo)) (gd_of hg (I greatest))) H (fun hg=>(zah s.hi s.lo greatest (M.e_opt ag hg) _ (H.give (A:=[]) rfl)).mono fun v_ w_ ⟨y_,ab,ah,H_⟩=>by subst ab; exact ⟨ah,H.via H_⟩) ?_;intro am H;refine s_val (x_pand (b:=r2) (r:=r3) rfl (fun hb=>gd_of (c:=r2) (by first | exact hb | (rw [hb]; rfl) | simp_all) (B r3)) rfl) ?_;refine kg 2 ?_;refine W.ret ?_
 have ab:=M.e_pure hM
 exact ⟨_,resE_tmp rfl,⟨(r2&&r3),ab,rfl,(H.pk [])⟩⟩

def zay (s:List CNt) (f:CNt->M Bool):Nat->M (Nat ⊕ (Int ⊕ Unit)):=fun s2 =>
  bif decide ((s2:Int)<(s.length:Int)) then (
  M.grd (decide ((s2:Int)<(s.length:Int))) <|
  M.bind (f (s.getD s2 default)) fun r2 =>
  bif r2 then (
  M.pure (.inr (.inl (s2:Int))))
  else (
  M.pure (.inl (s2+1))))
  else (
  M.pure (.inr (.inr ())))
def zbO (s:List CNt) (f:CNt->M Bool):M Int :=
  M.bind (M.iter (zay s f) 0) fun x_=>match x_ with
  | (.inl s3)=>(
  M.pure s3)
  | (.inr (_:Unit))=>(
  M.pure (-1))
theorem zdm {R:List Chunk} {aj:Cells} {ab:Value} {ac:Value} (s:List CNt) (f:CNt->M Bool) (ao:Reads R aj) (ak:Sl aj ab s) (ap:FnM Tryz.prog R ac f) {r:Int} (hM:(zbO s f).Ends r) (w:World) (H:St w w [] R):Ret Tryz.prog 121 #[ab,ac] w fun v w'=>∃ (y0:Int),y0=r/\v=I y0/\St w w' [] R:=by
 refine ret_of_W Tryz.func121 rfl rfl rfl ?_
 have ay:=(ak).len_le
 refine kg 12 ?_;obtain ⟨aq,ae,al⟩:=M.e_bind hM
 obtain ⟨az,ae⟩:=M.e_iter ae
 refine W.loop (fun m σ W=>∃ (s2:Nat) (ρ:Env),σ=upds ρ [(0,ab),(1,ac),(7,I (s.length:Int)),(8,I (s2:Int))]/\M.iterN (zay s f) m s2=some aq/\St w W [] R) ?_ ?_
 ·exact ⟨_,0,_,upds_of _ _ ⟨rfl,rfl,rfl,rfl,trivial⟩,ae,H⟩
 rintro aA σ aB ⟨s2,ρ,rfl,am,H⟩
 obtain ⟨ar,au,aC,hM,ag⟩:=M.e_iterN am
 simp only [zay] at hM
 clear am;refine kg 5 ?_
 refine W.cond (decide ((s2:Int)<(s.length:Int))) rfl (fun aa=>?_) (fun aa=>?_)
 ·replace hM:=M.e_t hM aa
  replace aa:=dI aa
  obtain ⟨aD,hM⟩:=M.e_gd hM;refine kg 14 ?_;refine s_val (x_ld (v:=.agg #[I ((s.getD s2 default).mark),I ((s.getD s2 default).tlo),I ((s.getD s2 default).thi),I ((s.getD s2 default).slo),I ((s.getD s2 default).shi)]) rfl (ld_ag Ag57 Sz57 (At.mono (CNt_atA ak (i:=(s2:Int)) (by omega) (by omega)) (ao.at H)))) ?_;obtain ⟨r2,av,hM⟩:=M.e_bind hM;refine t_callM H ap rfl rfl (s.getD s2 default) Reads.none ⟨_,rfl,rfl⟩ av ?_;intro aE H;refine s_nil ?_
  refine W.cond r2 rfl (fun ah=>?_) (fun ah=>?_)
  ·replace hM:=M.e_t hM ah;refine kg 5 ?_;refine W.ret ?_
   have aw:=M.e_inr hM ag
   subst aw;replace hM:=al;(try dsimp only at hM)
   have ai:=M.e_pure hM
   exact ⟨_,resE_tmp rfl,⟨(s2:Int),ai,rfl,H⟩⟩
  replace hM:=M.e_f hM ah;refine kg 5 ?_
  exact ⟨ar,au,s2+1,_,upds_of _ _ ⟨rfl,rfl,rfl,rfl,trivial⟩,M.e_inl hM ag,H⟩
 replace hM:=M.e_f hM aa
 replace aa:=dI aa
 refine W.exit ?_
 have ax:=M.e_inr hM ag
 subst ax;replace hM:=al;(try dsimp only at hM);refine kg 4 ?_;refine W.ret ?_
 have ai:=M.e_pure hM
 exact ⟨_,resE_tmp rfl,⟨(-1),ai,rfl,H⟩⟩

def zaG (s:List CNt) (f:CNt->M Bool):M Bool :=
  M.bind (zbO s f) fun r2 =>
  M.pure (decide (0<=r2))
theorem zcV {R:List Chunk} {ac:Cells} {aa:Value} {ab:Value} (s:List CNt) (f:CNt->M Bool) (ag:Reads R ac) (ah:Sl ac aa s) (ai:FnM Tryz.prog R ab f) {r:Bool} (hM:(zaG s f).Ends r) (w:World) (H:St w w [] R):Ret Tryz.prog 111 #[aa,ab] w fun v w'=>∃ (y0:Bool),y0=r/\v=B y0/\St w w' [] R:=by
 refine ret_of_W Tryz.func111 rfl rfl rfl ?_;refine kg 8 ?_;obtain ⟨al,aj,hM⟩:=M.e_bind hM;refine s_call cf121 [aa,ab] rfl (zdm s f (ag.app _) ah (ai.app _) aj _ (H.gt 0)) ?_
 rintro vq am ⟨r2,rfl,hvq,ae⟩
 subst vq;(try dsimp only at hM);replace H:=H.bk ae;clear ae;refine kg 3 ?_;refine W.ret ?_
 have ak:=M.e_pure hM
 exact ⟨_,resE_tmp rfl,⟨(decide (0<=r2)),ak,rfl,H⟩⟩

def zbm (x:CNt) (aa:CNt->M Bool):M Bool :=
  M.bind (aa x) fun r2 =>
  M.pure (!r2)
theorem zeb {R:List Chunk} {aa:Nat} {ab:Value} (x:CNt) (ac:CNt->M Bool) (ae:FnM Tryz.prog R ab ac) (ai:Has R (cBlk aa [ab] 171)) {r:Bool} (hM:(zbm x ac).Ends r) (w:World) (H:St w w [] R):Ret Tryz.prog 120 #[.agg #[I x.mark,I x.tlo,I x.thi,I x.slo,I x.shi],Pq aa] w fun v w'=>∃ (y0:Bool),y0=r/\v=B y0/\St w w' [] R:=by
 refine ret_of_W Tryz.func120 rfl rfl rfl ?_;refine kg 2 ?_;refine t_bx [I x.mark,I x.tlo,I x.thi,I x.slo,I x.shi] H rfl ?_;intro aj ak H;refine kg 6 ?_;obtain ⟨r2,ag,hM⟩:=M.e_bind hM;refine t_callM H ae rfl rfl x Reads.none ⟨_,rfl,rfl⟩ ag ?_;intro al H;refine kg 3 ?_;refine W.ret ?_
 have ah:=M.e_pure hM
 exact ⟨_,resE_tmp rfl,⟨(!r2),ah,rfl,(H.pk [])⟩⟩

def zb0 (l:List CNt) (so:CNt->M Bool):M Bool :=
  M.bind (zaG l (fun aa=>zbm aa so)) fun r2 =>
  M.pure (!r2)
theorem zdx {R:List Chunk} {ag:Cells} {ab:Value} {aa:Value} (l:List CNt) (so:CNt->M Bool) (ak:Reads R ag) (al:Sl ag ab l) (ah:FnM Tryz.prog R aa so) {r:Bool} (hM:(zb0 l so).Ends r) (w:World) (H:St w w [] R):Ret Tryz.prog 108 #[ab,aa] w fun v w'=>∃ (y0:Bool),y0=r/\v=B y0/\St w w' [] R:=by
 refine ret_of_W Tryz.func108 rfl rfl rfl ?_;refine kg 2 ?_;refine t_box (v:=aa) (cs:=[aa]) H rfl (FnM.cells ah) ?_;intro ac ay H;refine kg 5 ?_;refine s_val (x_mf (fs:=[]) (cs:=[Pq ac]) rfl rfl) ?_;obtain ⟨az,am,hM⟩:=M.e_bind hM;refine s_call cf111 [ab,.func (.func 120) #[] #[Pq ac]] rfl (zcV l (fun ae=>zbm ae so) (ak.app _) al ⟨120,[Pq ac],rfl,cf120,fun ai aA aB ao ae aC ap aD aq ar=>by obtain rfl:=CNt_arg aq; exact (zeb ae so (FnM.app (ah.app _) _) (Has.app (Has.here (k:=0) rfl) _) ar ai (St.refl ap)).mono fun ao ai ⟨aE,au,av,aw⟩=>by subst au; exact ⟨av,aw⟩⟩ am _ (H.gt 1)) ?_
 rintro vq aF ⟨r2,rfl,hvq,aj⟩
 subst vq;(try dsimp only at hM);replace H:=H.bk aj;clear aj;refine kg 3 ?_;refine W.ret ?_
 have ax:=M.e_pure hM
 exact ⟨_,resE_tmp rfl,⟨(!r2),ax,rfl,(H.pk [])⟩⟩

def zcj (n:CNt) (marks:Int):M Bool :=
  M.grd (decide ((-9223372036854775808:Int)<=(marks-1))&&decide ((marks-1)<=(9223372036854775807:Int))) <|
  M.bind (zaf n.mark 0 (marks-1)) fun r2 =>
  M.bind (M.opt r2 (zaM (⟨(n.tlo:Int),(n.thi:Int)⟩:Span) 0 10000000) false) fun r3 =>
  M.bind (M.opt (r2&&r3) (zaM (⟨(n.slo:Int),(n.shi:Int)⟩:Span) (-3000000) 3000000) false) fun r4 =>
  M.pure ((r2&&r3)&&r4)
theorem zd6 {R:List Chunk}  (n:CNt) (marks:Int)  {r:Bool} (hM:(zcj n marks).Ends r) (w:World) (H:St w w [] R):Ret Tryz.prog 110 #[.agg #[I n.mark,I n.tlo,I n.thi,I n.slo,I n.shi],I marks] w fun v w'=>∃ (y0:Bool),y0=r/\v=B y0/\St w w' [] R:=by
 refine ret_of_W Tryz.func110 rfl rfl rfl ?_;refine kg 2 ?_;refine t_bx [I n.mark,I n.tlo,I n.thi,I n.slo,I n.shi] H rfl ?_;intro ai aj H;obtain ⟨ak,hM⟩:=M.e_gd hM;refine kg 8 ?_;obtain ⟨al,ae,hM⟩:=M.e_bind hM;refine s_call cf91 [I n.mark,I 0,I (marks-1)] rfl (zah n.mark 0 (marks-1) ae _ (H.gt 1)) ?_
 rintro vq am ⟨r2,rfl,hvq,ac⟩
 subst vq;(try dsimp only at hM);replace H:=H.bk ac;clear ac;refine kg 3 ?_;obtain ⟨r3,ag,hM⟩:=M.e_bind hM;refine t_gcall r2 (gy_t rfl) cf107 (B r3) (fun _=>[.agg #[I n.tlo,I n.thi],I 0,I 10000000]) (fun hg=>lst3 (gd_of hg (.agg #[I n.tlo,I n.thi])) rfl rfl) H (fun hg=>(zch (⟨(n.tlo:Int),(n.thi:Int)⟩:Span) 0 10000000 (M.e_opt ag hg) _ (H.give (A:=[]) rfl)).mono fun v_ w_ ⟨y_,aa,ab,H_⟩=>by subst aa; exact ⟨ab,H.via H_⟩) ?_;intro ao H;refine s_val (x_pand (b:=r2) (r:=r3) rfl (fun hb=>gd_of (c:=r2) (by first | exact hb | (rw [hb]; rfl) | simp_all) (B r3)) rfl) ?_;refine kg 3 ?_;obtain ⟨r4,ah,hM⟩:=M.e_bind hM;refine t_gcall (r2&&r3) (gy_t rfl) cf107 (B r4) (fun _=>[.agg #[I n.slo,I n.shi],I (-3000000),I 3000000]) (fun hg=>lst3 (gd_of hg (.agg #[I n.slo,I n.shi])) rfl rfl) H (fun hg=>(zch (⟨(n.slo:Int),(n.shi:Int)⟩:Span) (-3000000) 3000000 (M.e_opt ah hg) _ (H.give (A:=[]) rfl)).mono fun v_ w_ ⟨y_,aa,ab,H_⟩=>by subst aa; exact ⟨ab,H.via H_⟩) ?_;intro ap H;refine s_val (x_pand (b:=(r2&&r3)) (r:=r4) rfl (fun hb=>gd_of (c:=(r2&&r3)) (by first | exact hb | (rw [hb]; rfl) | simp_all) (B r4)) rfl) ?_;refine kg 2 ?_;refine W.ret ?_
 have aa:=M.e_pure hM
 exact ⟨_,resE_tmp rfl,⟨((r2&&r3)&&r4),aa,rfl,(H.pk [])⟩⟩

def zbv (n:CNt) (ab ac ae ag ah:Int) (aa:List CMk) (ai:List CNt):M Bool :=
  M.bind (zcj n (aa.length:Int)) fun r2 =>
  M.pure r2
theorem zd9 {R:List Chunk} {ab:Nat} {ac:Cells} {ae:Value} {ag:Cells} {ah:Value} (n:CNt) (ai:Int) (aj:Int) (ak:Int) (al:Int) (am:Int) (aa:List CMk) (ao:List CNt) (av:Reads R ac) (aq:Sl ac ae aa) (aw:Reads R ag) (ax:Sl ag ah ao) (ay:Has R (cBlk ab [I ai,I aj,I ak,I al,I am,ae,ah] 35)) {r:Bool} (hM:(zbv n ai aj ak al am aa ao).Ends r) (w:World) (H:St w w [] R):Ret Tryz.prog 109 #[.agg #[I n.mark,I n.tlo,I n.thi,I n.slo,I n.shi],Pq ab] w fun v w'=>∃ (y0:Bool),y0=r/\v=B y0/\St w w' [] R:=by
 refine ret_of_W Tryz.func109 rfl rfl rfl ?_;refine kg 2 ?_;refine t_bx [I n.mark,I n.tlo,I n.thi,I n.slo,I n.shi] H rfl ?_;intro az aA H
 have aB:=(aq).len_le
 refine kg 8 ?_;obtain ⟨aC,ar,hM⟩:=M.e_bind hM;refine s_call cf110 [.agg #[I n.mark,I n.tlo,I n.thi,I n.slo,I n.shi],I (aa.length:Int)] rfl (zd6 n (aa.length:Int) ar _ (H.gt 1)) ?_
 rintro vq aD ⟨r2,rfl,hvq,ap⟩
 subst vq;(try dsimp only at hM);replace H:=H.bk ap;clear ap;refine kg 2 ?_;refine W.ret ?_
 have au:=M.e_pure hM
 exact ⟨_,resE_tmp rfl,⟨r2,au,rfl,(H.pk [])⟩⟩

def zbn (o:CNt) (aa ab ac ae ag:Int):M Bool :=
  M.pure (o.mark==aa)
theorem zdk {R:List Chunk} {ab:Nat} (o:CNt) (aa:Int) (ac:Int) (ae:Int) (ag:Int) (ah:Int) (aj:Has R (cBlk ab [I aa,I ac,I ae,I ag,I ah] 57)) {r:Bool} (hM:(zbn o aa ac ae ag ah).Ends r) (w:World) (H:St w w [] R):Ret Tryz.prog 112 #[.agg #[I o.mark,I o.tlo,I o.thi,I o.slo,I o.shi],Pq ab] w fun v w'=>∃ (y0:Bool),y0=r/\v=B y0/\St w w' [] R:=by
 refine ret_of_W Tryz.func112 rfl rfl rfl ?_;refine kg 2 ?_;refine t_bx [I o.mark,I o.tlo,I o.thi,I o.slo,I o.shi] H rfl ?_;intro ak al H;refine kg 11 ?_;refine W.ret ?_
 have ai:=M.e_pure hM
 exact ⟨_,resE_tmp rfl,⟨(o.mark==aa),ai,rfl,(H.pk [])⟩⟩

def za0 (c_Marks:List CMk):(Int × Nat)->M ((Int × Nat) ⊕ (Int ⊕ Unit)):=fun (last,s) =>
  bif decide ((s:Int)<(c_Marks.length:Int)) then (
  M.grd (decide ((s:Int)<(c_Marks.length:Int))) <|
  M.bind (zaf ((c_Marks.getD s default).place) 0 10000) fun r7 =>
  M.bind (M.opt (!(!r7)) (zaf ((c_Marks.getD s default).height) 0 1000) false) fun r8 =>
  bif ((!r7)||(!r8)) then (
  M.pure (.inr (.inl 30)))
  else (
  bif decide (((c_Marks.getD s default).place)<=last) then (
  M.pure (.inr (.inl 9)))
  else (
  M.pure (.inl ((c_Marks.getD s default).place,s+1)))))
  else (
  M.pure (.inr (.inr ())))
def zaX (c_Notes:List CNt):Nat->M (Nat ⊕ (Unit ⊕ Unit)):=fun s3 =>
  bif decide ((s3:Int)<(c_Notes.length:Int)) then (
  M.grd (decide ((s3:Int)<(c_Notes.length:Int))) <|
  M.bind (zaG (c_Notes.take s3) (fun aa=>zbn aa ((c_Notes.getD s3 default).mark) ((c_Notes.getD s3 default).tlo) ((c_Notes.getD s3 default).thi) ((c_Notes.getD s3 default).slo) ((c_Notes.getD s3 default).shi))) fun ab =>
  bif ab then (
  M.pure (.inr (.inl ())))
  else (
  M.pure (.inl (s3+1))))
  else (
  M.pure (.inr (.inr ())))
def zbq (c_Pace_Lo c_Pace_Hi c_Base c_Scale c_Off:Int) (c_Marks:List CMk) (c_Notes:List CNt):M Int :=
  M.bind (zaf (c_Marks.length:Int) 1 40) fun r2 =>
  bif ((!r2)||(decide (20<(c_Notes.length:Int)))) then (
  M.pure 3)
  else (
  M.bind (zaM (⟨(c_Pace_Lo:Int),(c_Pace_Hi:Int)⟩:Span) 1 600) fun r3 =>
  M.bind (M.opt (!(!r3)) (zaf c_Base (-1000000) 1000000) false) fun r4 =>
  M.bind (M.opt (!((!r3)||(!r4))) (zaf c_Scale 0 1000) false) fun r5 =>
  M.bind (M.opt (!(((!r3)||(!r4))||(!r5))) (zaf c_Off 0 1000) false) fun r6 =>
  bif ((((!r3)||(!r4))||(!r5))||(!r6)) then (
  M.pure 30)
  else (
  M.bind (M.iter (za0 c_Marks) (-1,0)) fun x_=>match x_ with
  | (.inl s2)=>(
  M.pure s2)
  | (.inr (_:Unit))=>(
  M.bind (zb0 c_Notes (fun aa=>zbv aa c_Pace_Lo c_Pace_Hi c_Base c_Scale c_Off c_Marks c_Notes)) fun r9 =>
  bif !r9 then (
  M.pure 30)
  else (
  M.bind (M.iter (zaX c_Notes) 0) fun x_=>match x_ with
  | (.inl (_:Unit))=>(
  M.pure 10)
  | (.inr (_:Unit))=>(
  M.pure 0)))))
theorem zdt {R:List Chunk} {aN:Cells} {al:Value} {aO:Cells} {ae:Value} (c_Pace_Lo:Int) (c_Pace_Hi:Int) (c_Base:Int) (c_Scale:Int) (c_Off:Int) (c_Marks:List CMk) (c_Notes:List CNt) (aP:Reads R aN) (ap:Sl aN al c_Marks) (aq:Reads R aO) (am:Sl aO ae c_Notes) {r:Int} (hM:(zbq c_Pace_Lo c_Pace_Hi c_Base c_Scale c_Off c_Marks c_Notes).Ends r) (w:World) (H:St w w [] R):Ret Tryz.prog 90 #[.agg #[I c_Pace_Lo,I c_Pace_Hi,I c_Base,I c_Scale,I c_Off,al,ae]] w fun v w'=>∃ (y0:Int),y0=r/\v=I y0/\St w w' [] R:=by
 refine ret_of_W Tryz.func90 rfl rfl rfl ?_;refine kg 2 ?_;refine t_bx [I c_Pace_Lo,I c_Pace_Hi,I c_Base,I c_Scale,I c_Off,al,ae] H rfl ?_;intro ac bz H
 have bA:=(ap).len_le
 refine kg 9 ?_;obtain ⟨bB,aT,hM⟩:=M.e_bind hM;refine s_call cf91 [I (c_Marks.length:Int),I 1,I 40] rfl (zah (c_Marks.length:Int) 1 40 aT _ (H.gt 1)) ?_
 rintro vq bC ⟨r2,rfl,hvq,ab⟩
 subst vq;(try dsimp only at hM);replace H:=H.bk ab;clear ab
 have bD:=(am).len_le
 refine kg 6 ?_;refine s_val (x_por (b:=!r2) (r:=decide (20<(c_Notes.length:Int))) rfl rfl (fun hb=>gd_of (c:=!(!r2)) (by first | exact hb | (rw [hb]; rfl) | simp_all) (B (decide (20<(c_Notes.length:Int))))))<|zA (B ((!r2)||(decide (20<(c_Notes.length:Int))))) rfl<|s_nil ?_
 refine W.cond ((!r2)||(decide (20<(c_Notes.length:Int)))) rfl (fun au=>?_) (fun au=>?_)
 ·replace hM:=M.e_t hM au;refine kg 4 ?_;refine W.ret ?_
  have aa:=M.e_pure hM
  exact ⟨_,resE_tmp rfl,⟨3,aa,rfl,(H.pk [])⟩⟩
 replace hM:=M.e_f hM au;refine kg 4 ?_;obtain ⟨bE,aU,hM⟩:=M.e_bind hM;refine s_call cf107 [.agg #[I c_Pace_Lo,I c_Pace_Hi],I 1,I 600] rfl (zch (⟨(c_Pace_Lo:Int),(c_Pace_Hi:Int)⟩:Span) 1 600 aU _ (H.gt 1)) ?_
 rintro vq bF ⟨r3,rfl,hvq,ab⟩
 subst vq;(try dsimp only at hM);replace H:=H.bk ab;clear ab;refine kg 4 ?_;obtain ⟨r4,aV,hM⟩:=M.e_bind hM;refine t_gcall (!(!r3)) (gy_f rfl) cf91 (B r4) (fun _=>[I c_Base,I (-1000000),I 1000000]) (fun hg=>lst3 (gd_of hg (I c_Base)) rfl rfl) H (fun hg=>(zah c_Base (-1000000) 1000000 (M.e_opt aV hg) _ (H.give (A:=[]) rfl)).mono fun v_ w_ ⟨y_,aa,ag,H_⟩=>by subst aa; exact ⟨ag,H.via H_⟩) ?_;intro bG H;refine kg 1 ?_;refine s_val (x_por (b:=!r3) (r:=!r4) rfl rfl (fun hb=>gd_of (c:=!(!r3)) (by first | exact hb | (rw [hb]; rfl) | simp_all) (B (!r4))))<|zM (B ((!r3)||(!r4))) rfl<|g_val (!((!r3)||(!r4))) (gy_f rfl) (fun hg=>x_fa (v:=Oq ac 3) rfl (fa_blk (o:=0) Fd35_2 Sz3))<|g_val (!((!r3)||(!r4))) (gy_f rfl) (fun hg=>x_ld (v:=I c_Scale) (gd_of hg (Oq ac 3)) (ldb_sc Sc3 (H.bl 0) rfl)) ?_;obtain ⟨r5,aW,hM⟩:=M.e_bind hM;refine t_gcall (!((!r3)||(!r4))) (gy_f rfl) cf91 (B r5) (fun _=>[I c_Scale,I 0,I 1000]) (fun hg=>lst3 (gd_of hg (I c_Scale)) rfl rfl) H (fun hg=>(zah c_Scale 0 1000 (M.e_opt aW hg) _ (H.give (A:=[]) rfl)).mono fun v_ w_ ⟨y_,aa,ag,H_⟩=>by subst aa; exact ⟨ag,H.via H_⟩) ?_;intro bH H;refine g_val (!((!r3)||(!r4))) (gy_f rfl) (fun hg=>x_not (b:=r5) (gd_of hg (B r5)))<|s_val (x_por (b:=((!r3)||(!r4))) (r:=!r5) rfl rfl (fun hb=>gd_of (c:=!((!r3)||(!r4))) (by first | exact hb | (rw [hb]; rfl) | simp_all) (B (!r5))))<|zM (B (((!r3)||(!r4))||(!r5))) rfl<|g_val (!(((!r3)||(!r4))||(!r5))) (gy_f rfl) (fun hg=>x_fa (v:=Oq ac 4) rfl (fa_blk (o:=0) Fd35_3 Sz3))<|g_val (!(((!r3)||(!r4))||(!r5))) (gy_f rfl) (fun hg=>x_ld (v:=I c_Off) (gd_of hg (Oq ac 4)) (ldb_sc Sc3 (H.bl 0) rfl)) ?_;obtain ⟨r6,aX,hM⟩:=M.e_bind hM;refine t_gcall (!(((!r3)||(!r4))||(!r5))) (gy_f rfl) cf91 (B r6) (fun _=>[I c_Off,I 0,I 1000]) (fun hg=>lst3 (gd_of hg (I c_Off)) rfl rfl) H (fun hg=>(zah c_Off 0 1000 (M.e_opt aX hg) _ (H.give (A:=[]) rfl)).mono fun v_ w_ ⟨y_,aa,ag,H_⟩=>by subst aa; exact ⟨ag,H.via H_⟩) ?_;intro bI H;refine g_val (!(((!r3)||(!r4))||(!r5))) (gy_f rfl) (fun hg=>x_not (b:=r6) (gd_of hg (B r6)))<|s_val (x_por (b:=(((!r3)||(!r4))||(!r5))) (r:=!r6) rfl rfl (fun hb=>gd_of (c:=!(((!r3)||(!r4))||(!r5))) (by first | exact hb | (rw [hb]; rfl) | simp_all) (B (!r6))))<|zA (B ((((!r3)||(!r4))||(!r5))||(!r6))) rfl<|s_nil ?_
 refine W.cond ((((!r3)||(!r4))||(!r5))||(!r6)) rfl (fun av=>?_) (fun av=>?_)
 ·replace hM:=M.e_t hM av;refine kg 4 ?_;refine W.ret ?_
  have aa:=M.e_pure hM
  exact ⟨_,resE_tmp rfl,⟨30,aa,rfl,(H.pk [])⟩⟩
 replace hM:=M.e_f hM av
 have bJ:=(ap).len_le
 refine kg 14 ?_;obtain ⟨aY,aw,ax⟩:=M.e_bind hM
 obtain ⟨aZ,aw⟩:=M.e_iter aw
 refine W.loop (fun m σ W=>∃ (last:Int) (s:Nat) (ρ:Env),σ=upds ρ [(1,Pq ac),(3,I last),(44,al),(45,I (c_Marks.length:Int)),(46,I (s:Int))]/\M.iterN (za0 c_Marks) m (last,s)=some aY/\St w W [cBlk ac [I c_Pace_Lo,I c_Pace_Hi,I c_Base,I c_Scale,I c_Off,al,ae] 35] R) ?_ ?_
 ·exact ⟨_,-1,0,_,upds_of _ _ ⟨rfl,rfl,rfl,rfl,rfl,trivial⟩,aw,H⟩
 rintro bK σ bL ⟨last,s,ρ,rfl,aQ,H⟩
 obtain ⟨a6,a7,bM,hM,ar⟩:=M.e_iterN aQ
 simp only [za0] at hM
 clear aQ;refine kg 5 ?_
 refine W.cond (decide ((s:Int)<(c_Marks.length:Int))) rfl (fun ah=>?_) (fun ah=>?_)
 ·replace hM:=M.e_t hM ah
  replace ah:=dI ah
  obtain ⟨bN,hM⟩:=M.e_gd hM;refine kg 6 ?_;refine s_val (x_ld (v:=.agg #[I ((c_Marks.getD s default).place),I ((c_Marks.getD s default).height)]) rfl (ld_ag Ag55 Sz55 (At.mono (CMk_atA ap (i:=(s:Int)) (by omega) (by omega)) (aP.at H)))) ?_;refine t_alloc (cs:=[I 0,I 0]) H Al55 rfl ?_;intro bO bP H;refine t_sw 0 0 [I ((c_Marks.getD s default).place),I ((c_Marks.getD s default).height)] (.agg #[I ((c_Marks.getD s default).place),I ((c_Marks.getD s default).height)]) H rfl rfl Sz55 rfl rfl rfl rfl ?_;intro bQ H;refine kg 7 ?_;obtain ⟨bR,a8,hM⟩:=M.e_bind hM;refine s_call cf91 [I ((c_Marks.getD s default).place),I 0,I 10000] rfl (zah ((c_Marks.getD s default).place) 0 10000 a8 _ (H.gt 2)) ?_
  rintro vq bS ⟨r7,rfl,hvq,ab⟩
  subst vq;(try dsimp only at hM);replace H:=H.bk ab;clear ab;refine kg 4 ?_;obtain ⟨r8,ba,hM⟩:=M.e_bind hM;refine t_gcall (!(!r7)) (gy_f rfl) cf91 (B r8) (fun _=>[I ((c_Marks.getD s default).height),I 0,I 1000]) (fun hg=>lst3 (gd_of hg (I ((c_Marks.getD s default).height))) rfl rfl) H (fun hg=>(zah ((c_Marks.getD s default).height) 0 1000 (M.e_opt ba hg) _ (H.give (A:=[]) rfl)).mono fun v_ w_ ⟨y_,aa,ag,H_⟩=>by subst aa; exact ⟨ag,H.via H_⟩) ?_;intro bT H;refine kg 1 ?_;refine s_val (x_por (b:=!r7) (r:=!r8) rfl rfl (fun hb=>gd_of (c:=!(!r7)) (by first | exact hb | (rw [hb]; rfl) | simp_all) (B (!r8))))<|zA (B ((!r7)||(!r8))) rfl<|s_nil ?_
  refine W.cond ((!r7)||(!r8)) rfl (fun ay=>?_) (fun ay=>?_)
  ·replace hM:=M.e_t hM ay;refine kg 4 ?_;refine W.ret ?_
   have bb:=M.e_inr hM ar
   subst bb;replace hM:=ax;(try dsimp only at hM)
   have aa:=M.e_pure hM
   exact ⟨_,resE_tmp rfl,⟨30,aa,rfl,(H.pk [])⟩⟩
  replace hM:=M.e_f hM ay;refine kg 8 ?_
  refine W.cond (decide (((c_Marks.getD s default).place)<=last)) rfl (fun ai=>?_) (fun ai=>?_)
  ·replace hM:=M.e_t hM ai
   replace ai:=dI ai
   refine kg 4 ?_;refine W.ret ?_
   have bc:=M.e_inr hM ar
   subst bc;replace hM:=ax;(try dsimp only at hM)
   have aa:=M.e_pure hM
   exact ⟨_,resE_tmp rfl,⟨9,aa,rfl,(H.pk [])⟩⟩
  replace hM:=M.e_f hM ai
  replace ai:=dI ai
  refine kg 10 ?_
  exact ⟨a6,a7,(c_Marks.getD s default).place,s+1,_,upds_of _ _ ⟨rfl,rfl,rfl,rfl,rfl,trivial⟩,M.e_inl hM ar,(H.pk [1])⟩
 replace hM:=M.e_f hM ah
 replace ah:=dI ah
 refine W.exit ?_
 have bf:=M.e_inr hM ar
 subst bf;replace hM:=ax;(try dsimp only at hM);refine kg 5 ?_;refine s_val (x_mf (fs:=[]) (cs:=[Pq ac]) rfl rfl) ?_;obtain ⟨bU,bg,hM⟩:=M.e_bind hM;refine s_call cf108 [ae,.func (.func 109) #[] #[Pq ac]] rfl (zdx c_Notes (fun aj=>zbv aj c_Pace_Lo c_Pace_Hi c_Base c_Scale c_Off c_Marks c_Notes) (aq.app _) am ⟨109,[Pq ac],rfl,cf109,fun ao bh bi az aj bj aA bm aB aC=>by obtain rfl:=CNt_arg aB; exact (zd9 aj c_Pace_Lo c_Pace_Hi c_Base c_Scale c_Off c_Marks c_Notes (Reads.app (aP.app _) _) ap (Reads.app (aq.app _) _) am (Has.app (Has.here (k:=0) rfl) _) aC ao (St.refl aA)).mono fun az ao ⟨bn,aD,aE,aF⟩=>by subst aD; exact ⟨aE,aF⟩⟩ bg _ (H.gt 1)) ?_
 rintro vq bV ⟨r9,rfl,hvq,ab⟩
 subst vq;(try dsimp only at hM);replace H:=H.bk ab;clear ab;refine kg 2 ?_
 refine W.cond (!r9) rfl (fun aG=>?_) (fun aG=>?_)
 ·replace hM:=M.e_t hM aG;refine kg 4 ?_;refine W.ret ?_
  have aa:=M.e_pure hM
  exact ⟨_,resE_tmp rfl,⟨30,aa,rfl,(H.pk [])⟩⟩
 replace hM:=M.e_f hM aG
 have bW:=(am).len_le
 refine kg 10 ?_;obtain ⟨bo,aH,aR⟩:=M.e_bind hM
 obtain ⟨aZ,aH⟩:=M.e_iter aH
 refine W.loop (fun m σ W=>∃ (s3:Nat) (ρ:Env),σ=upds ρ [(1,Pq ac),(75,ae),(76,I (c_Notes.length:Int)),(77,I (s3:Int))]/\M.iterN (zaX c_Notes) m s3=some bo/\St w W [cBlk ac [I c_Pace_Lo,I c_Pace_Hi,I c_Base,I c_Scale,I c_Off,al,ae] 35] R) ?_ ?_
 ·exact ⟨_,0,_,upds_of _ _ ⟨rfl,rfl,rfl,rfl,trivial⟩,aH,H⟩
 rintro bX σ bY ⟨s3,ρ,rfl,aS,H⟩
 obtain ⟨bp,br,bZ,hM,aI⟩:=M.e_iterN aS
 simp only [zaX] at hM
 clear aS;refine kg 5 ?_
 refine W.cond (decide ((s3:Int)<(c_Notes.length:Int))) rfl (fun ak=>?_) (fun ak=>?_)
 ·replace hM:=M.e_t hM ak
  replace ak:=dI ak
  obtain ⟨b3,hM⟩:=M.e_gd hM;refine kg 7 ?_;refine s_val (x_ld (v:=.agg #[I ((c_Notes.getD s3 default).mark),I ((c_Notes.getD s3 default).tlo),I ((c_Notes.getD s3 default).thi),I ((c_Notes.getD s3 default).slo),I ((c_Notes.getD s3 default).shi)]) rfl (ld_ag Ag57 Sz57 (At.mono (CNt_atA am (i:=(s3:Int)) (by omega) (by omega)) (aq.at H)))) ?_;refine t_alloc (cs:=[I 0,I 0,I 0,I 0,I 0]) H Al57 rfl ?_;intro aJ b4 H;refine kg 1 ?_;refine t_sw 0 0 [I ((c_Notes.getD s3 default).mark),I ((c_Notes.getD s3 default).tlo),I ((c_Notes.getD s3 default).thi),I ((c_Notes.getD s3 default).slo),I ((c_Notes.getD s3 default).shi)] (.agg #[I ((c_Notes.getD s3 default).mark),I ((c_Notes.getD s3 default).tlo),I ((c_Notes.getD s3 default).thi),I ((c_Notes.getD s3 default).slo),I ((c_Notes.getD s3 default).shi)]) H rfl rfl Sz57 rfl rfl rfl rfl ?_;intro b6 H;refine kg 6 ?_
  obtain ⟨aK,bt,aL⟩:=sl_hi T33.und T33.size am (j:=(s3:Int)) (by omega) (by omega)
  replace aL:Sl _ aK (c_Notes.take s3):=aL
  refine s_val (x_sl (v:=ae) (u:=aK) (lo':=none) (hi':=some (I (s3:Int))) (mx':=none) rfl rfl rfl rfl (bt _))<|s_val (x_mf (fs:=[]) (cs:=[Pq aJ]) rfl rfl) ?_;obtain ⟨b7,bu,hM⟩:=M.e_bind hM;refine s_call cf111 [aK,.func (.func 112) #[] #[Pq aJ]] rfl (zcV (c_Notes.take s3) (fun aj=>zbn aj ((c_Notes.getD s3 default).mark) ((c_Notes.getD s3 default).tlo) ((c_Notes.getD s3 default).thi) ((c_Notes.getD s3 default).slo) ((c_Notes.getD s3 default).shi)) (aq.app _) aL ⟨112,[Pq aJ],rfl,cf112,fun ao bh bi az aj bj aA bm aB aC=>by obtain rfl:=CNt_arg aB; exact (zdk aj ((c_Notes.getD s3 default).mark) ((c_Notes.getD s3 default).tlo) ((c_Notes.getD s3 default).thi) ((c_Notes.getD s3 default).slo) ((c_Notes.getD s3 default).shi) (Has.app (Has.here (k:=0) rfl) _) aC ao (St.refl aA)).mono fun az ao ⟨bn,aD,aE,aF⟩=>by subst aD; exact ⟨aE,aF⟩⟩ bu _ (H.gt 2)) ?_
  rintro vq b8 ⟨bv,rfl,hvq,ab⟩
  subst vq;(try dsimp only at hM);replace H:=H.bk ab;clear ab;refine s_nil ?_
  refine W.cond bv rfl (fun aM=>?_) (fun aM=>?_)
  ·replace hM:=M.e_t hM aM;refine kg 4 ?_;refine W.ret ?_
   have bw:=M.e_inr hM aI
   subst bw;replace hM:=aR;(try dsimp only at hM)
   have aa:=M.e_pure hM
   exact ⟨_,resE_tmp rfl,⟨10,aa,rfl,(H.pk [])⟩⟩
  replace hM:=M.e_f hM aM;refine kg 5 ?_
  exact ⟨bp,br,s3+1,_,upds_of _ _ ⟨rfl,rfl,rfl,rfl,trivial⟩,M.e_inl hM aI,(H.pk [1])⟩
 replace hM:=M.e_f hM ak
 replace ak:=dI ak
 refine W.exit ?_
 have bx:=M.e_inr hM aI
 subst bx;replace hM:=aR;(try dsimp only at hM);refine kg 4 ?_;refine W.ret ?_
 have aa:=M.e_pure hM
 exact ⟨_,resE_tmp rfl,⟨0,aa,rfl,(H.pk [])⟩⟩

def za4 (c_Notes:List CNt):((List (Int × CNt)) × Nat)->M (((List (Int × CNt)) × Nat) ⊕ (List (Int × CNt))):=fun (mp,s) =>
  bif decide ((s:Int)<(c_Notes.length:Int)) then (
  M.grd (decide ((s:Int)<(c_Notes.length:Int))) <|
  M.pure (.inl (setM mp ((c_Notes.getD s default).mark:Int) (c_Notes.getD s default),s+1)))
  else (
  M.pure (.inr mp))
def zbR (c_Pace_Lo c_Pace_Hi c_Base c_Scale c_Off:Int) (c_Marks:List CMk) (c_Notes:List CNt):M (Int ⊕ (Int × Int × Int × Int × Int × (List (Int × CNt)) × (List Bool) × Int)) :=
  M.bind (zbq c_Pace_Lo c_Pace_Hi c_Base c_Scale c_Off c_Marks c_Notes) fun r2 =>
  bif r2 != 0 then (
  M.pure (.inl r2))
  else (
  M.bind (M.iter (za4 c_Notes) (([]:List (Int × CNt)),0)) fun aa =>
  M.pure (.inr (c_Pace_Lo,c_Pace_Hi,c_Base,c_Scale,c_Off,aa,(List.replicate 40 false),0)))
theorem zdC {R:List Chunk} {am:Cells} {ab:Value} {ao:Cells} {aa:Value} (c_Pace_Lo:Int) (c_Pace_Hi:Int) (c_Base:Int) (c_Scale:Int) (c_Off:Int) (c_Marks:List CMk) (c_Notes:List CNt) (az:Reads R am) (aA:Sl am ab c_Marks) (ap:Reads R ao) (ai:Sl ao aa c_Notes) {r:(Int ⊕ (Int × Int × Int × Int × Int × (List (Int × CNt)) × (List Bool) × Int))} (hM:(zbR c_Pace_Lo c_Pace_Hi c_Base c_Scale c_Off c_Marks c_Notes).Ends r) (w:World) (H:St w w [] R):Ret Tryz.prog 72 #[.agg #[I c_Pace_Lo,I c_Pace_Hi,I c_Base,I c_Scale,I c_Off,ab,aa]] w fun v w'=>(∃ (y0:Int),(.inl y0)=r/\v = .tuple #[.pointer none,I y0]/\St w w' [] R)∨(∃ (y0:Int) (y1:Int) (y2:Int) (y3:Int) (y4:Int) (y5:List (Int × CNt)) (y6:List Bool) (y7:Int) (aq:Nat) (ar:Nat),(.inr (y0,y1,y2,y3,y4,y5,y6,y7))=r/\v = .tuple #[Pq aq,I y7]/\St w w' [cBlk aq (List.flatten [[I y0,I y1,I y2,I y3,I y4,ab,aa,.map (some ar)],encF (α:=Bool) y6]) 143,cMl I encCN ar y5] R/\y6.length=40):=by
 refine ret_of_W Tryz.func72 rfl rfl rfl ?_;refine kg 2 ?_;refine t_bx [I c_Pace_Lo,I c_Pace_Hi,I c_Base,I c_Scale,I c_Off,ab,aa] H rfl ?_;intro aj aH H;refine kg 7 ?_;obtain ⟨aI,aB,hM⟩:=M.e_bind hM;refine s_call cf90 [.agg #[I c_Pace_Lo,I c_Pace_Hi,I c_Base,I c_Scale,I c_Off,ab,aa]] rfl (zdt c_Pace_Lo c_Pace_Hi c_Base c_Scale c_Off c_Marks c_Notes (az.app _) aA (ap.app _) ai aB _ (H.gt 1)) ?_
 rintro vq aJ ⟨r2,rfl,hvq,au⟩
 subst vq;(try dsimp only at hM);replace H:=H.bk au;clear au;refine kg 7 ?_
 refine W.cond (r2 != 0) rfl (fun ae=>?_) (fun ae=>?_)
 ·replace hM:=M.e_t hM ae
  replace ae:=dI ae
  refine kg 6 ?_;refine W.ret ?_
  have ak:=M.e_pure hM
  exact ⟨_,resE_tmp2 rfl,.inl (⟨r2,ak,rfl,(H.pk [])⟩)⟩
 replace hM:=M.e_f hM ae
 replace ae:=dI ae
 refine kg 4 ?_;refine t_mkMl (κ:=Int) (ν:=CNt) I encCN H ?_;intro ac aK H;refine s_val (x_bld (ps:=[(0,.agg #[I c_Pace_Lo,I c_Pace_Hi,I c_Base,I c_Scale,I c_Off,ab,aa]),(1,.map (some ac))]) (zs:=(List.flatten [[I 0,I 0,I 0,I 0,I 0,.slice none 0 0,.slice none 0 0,.map none],encF (α:=Bool) (List.replicate 40 false)])) (L':=(List.flatten [[I c_Pace_Lo,I c_Pace_Hi,I c_Base,I c_Scale,I c_Off,ab,aa,.map (some ac)],encF (α:=Bool) (List.replicate 40 false)])) rfl Tryz.underlying143 Al143 rfl (Bd143 Tryz.underlying143) (.cons (cs:=[I c_Pace_Lo,I c_Pace_Hi,I c_Base,I c_Scale,I c_Off,ab,aa]) rfl rfl rfl (by kernel_rfl) rfl<|.cons (cs:=[.map (some ac)]) rfl rfl rfl (by kernel_rfl) rfl<|.nil)) ?_;refine t_box (v:=.agg (List.flatten [[I c_Pace_Lo,I c_Pace_Hi,I c_Base,I c_Scale,I c_Off,ab,aa,.map (some ac)],encF (α:=Bool) (List.replicate 40 false)]).toArray) (cs:=(List.flatten [[I c_Pace_Lo,I c_Pace_Hi,I c_Base,I c_Scale,I c_Off,ab,aa,.map (some ac)],encF (α:=Bool) (List.replicate 40 false)])) H rfl rfl ?_;intro ah aL H
 have aM:=(ai).len_le
 refine kg 11 ?_;obtain ⟨aC,al,aD⟩:=M.e_bind hM
 obtain ⟨aN,al⟩:=M.e_iter al
 refine W.loop (fun m σ W=>∃ (mp:List (Int × CNt)) (s:Nat) (ρ:Env),σ=upds ρ [(5,Pq ah),(18,aa),(19,I (c_Notes.length:Int)),(20,I (s:Int))]/\M.iterN (za4 c_Notes) m (mp,s)=some aC/\St w W [cBlk ah (List.flatten [[I c_Pace_Lo,I c_Pace_Hi,I c_Base,I c_Scale,I c_Off,ab,aa,.map (some ac)],encF (α:=Bool) (List.replicate 40 false)]) 143,cMl I encCN ac mp,cBlk aj [I c_Pace_Lo,I c_Pace_Hi,I c_Base,I c_Scale,I c_Off,ab,aa] 35] R) ?_ ?_
 ·exact ⟨_,([]:List (Int × CNt)),0,_,upds_of _ _ ⟨rfl,rfl,rfl,rfl,trivial⟩,al,H⟩
 rintro aO σ aP ⟨mp,s,ρ,rfl,av,H⟩
 obtain ⟨aE,aF,aQ,hM,aw⟩:=M.e_iterN av
 simp only [za4] at hM
 clear av;refine kg 5 ?_
 refine W.cond (decide ((s:Int)<(c_Notes.length:Int))) rfl (fun ag=>?_) (fun ag=>?_)
 ·replace hM:=M.e_t hM ag
  replace ag:=dI ag
  obtain ⟨aR,hM⟩:=M.e_gd hM;refine kg 6 ?_;refine s_val (x_ld (v:=.agg #[I ((c_Notes.getD s default).mark),I ((c_Notes.getD s default).tlo),I ((c_Notes.getD s default).thi),I ((c_Notes.getD s default).slo),I ((c_Notes.getD s default).shi)]) rfl (ld_ag Ag57 Sz57 (At.mono (CNt_atA ai (i:=(s:Int)) (by omega) (by omega)) (ap.at H)))) ?_;refine t_alloc (cs:=[I 0,I 0,I 0,I 0,I 0]) H Al57 rfl ?_;intro ax aS H;refine t_sw 0 0 [I ((c_Notes.getD s default).mark),I ((c_Notes.getD s default).tlo),I ((c_Notes.getD s default).thi),I ((c_Notes.getD s default).slo),I ((c_Notes.getD s default).shi)] (.agg #[I ((c_Notes.getD s default).mark),I ((c_Notes.getD s default).tlo),I ((c_Notes.getD s default).thi),I ((c_Notes.getD s default).slo),I ((c_Notes.getD s default).shi)]) H rfl rfl Sz57 rfl rfl rfl rfl ?_;intro aT H;refine s_nil ?_;refine W.draw (fun W=>St w W [cBlk ax [I ((c_Notes.getD s default).mark),I ((c_Notes.getD s default).tlo),I ((c_Notes.getD s default).thi),I ((c_Notes.getD s default).slo),I ((c_Notes.getD s default).shi)] 57,cBlk ah (List.flatten [[I c_Pace_Lo,I c_Pace_Hi,I c_Base,I c_Scale,I c_Off,ab,aa,.map (some ac)],encF (α:=Bool) (List.replicate 40 false)]) 143,cBlk aj [I c_Pace_Lo,I c_Pace_Hi,I c_Base,I c_Scale,I c_Off,ab,aa] 35] R) [(0,true),(1,true),(2,true),(3,true),(4,true),(5,true),(6,true),(7,false)] mixed (by decide +kernel) rfl ?_;intro aU ay;replace H:=H.ext ay;clear ay
  refine ⟨(H.pk [0,1,3]),?_⟩
  refine kg 7 ?_;refine d_l rfl ?_;refine t_putMl (i:=2) (kenc:=I) (venc:=encCN) (m:=mp) (k:=((c_Notes.getD s default).mark:Int)) (v:=(c_Notes.getD s default)) (L':=[cBlk ax [I ((c_Notes.getD s default).mark),I ((c_Notes.getD s default).tlo),I ((c_Notes.getD s default).thi),I ((c_Notes.getD s default).slo),I ((c_Notes.getD s default).shi)] 57,cBlk ah (List.flatten [[I c_Pace_Lo,I c_Pace_Hi,I c_Base,I c_Scale,I c_Off,ab,aa,.map (some ac)],encF (α:=Bool) (List.replicate 40 false)]) 143,cMl I encCN ac (setM mp ((c_Notes.getD s default).mark:Int) (c_Notes.getD s default)),cBlk aj [I c_Pace_Lo,I c_Pace_Hi,I c_Base,I c_Scale,I c_Off,ab,aa] 35]) keyIntCN Tryz.underlying140 H rfl rfl rfl rfl rfl ?_;intro aV H
  refine s_nil ⟨(H.pk [0,1,3]),?_⟩
  refine kg 5 ?_
  exact ⟨aE,aF,setM mp ((c_Notes.getD s default).mark:Int) (c_Notes.getD s default),s+1,_,upds_of _ _ ⟨rfl,rfl,rfl,rfl,trivial⟩,M.e_inl hM aw,(H.pk [1,2,3])⟩
 replace hM:=M.e_f hM ag
 replace ag:=dI ag
 refine W.exit ?_
 have aG:=M.e_inr hM aw
 subst aG;replace hM:=aD;(try dsimp only at hM);refine kg 6 ?_;refine W.ret ?_
 have ak:=M.e_pure hM
 exact ⟨_,resE_tmp2 rfl,.inr (⟨c_Pace_Lo,c_Pace_Hi,c_Base,c_Scale,c_Off,mp,(List.replicate 40 false),0,ah,ac,ak,rfl,(H.pk [0,1]),List.length_replicate⟩)⟩

def za1 (aa:List CMk) (stops:List Int):((List Bool) × Int × Nat)->M (((List Bool) × Int × Nat) ⊕ ((List Bool) ⊕ (List Bool))):=fun (s,last,s2) =>
  bif decide ((s2:Int)<(stops.length:Int)) then (
  M.grd (decide ((s2:Int)<(stops.length:Int))) <|
  M.grd (decide ((-9223372036854775808:Int)<=(last+1))&&decide ((last+1)<=(9223372036854775807:Int))) <|
  M.bind (zaf (stops.getD s2 0) (last+1) ((aa.length:Int)-2)) fun r2 =>
  bif !r2 then (
  M.pure (.inr (.inl s)))
  else (
  M.grd (decide ((0:Int)<=(stops.getD s2 0))&&decide ((stops.getD s2 0)<(40:Int))) <|
  M.pure (.inl (s.set (Int.toNat (stops.getD s2 0)) true,stops.getD s2 0,s2+1))))
  else (
  M.pure (.inr (.inr s)))
def zbw (ac ae ag ah ai:Int) (aa:List CMk) (aj:List CNt) (ak:List (Int × CNt)) (ab:List Bool) (stops:List Int):M (Bool × (List Bool)) :=
  M.bind (M.iter (za1 aa stops) (ab,-1,0)) fun x_=>match x_ with
  | (.inl l)=>(
  M.pure (false,l))
  | (.inr l2)=>(
  M.pure (true,l2))
theorem zdA {R:List Chunk} {aa:Nat} {ax:Cells} {ab:Value} {ay:Cells} {ac:Value} {ae:Nat} {az:Cells} {aq:Value} (ag:Int) (ah:Int) (ai:Int) (aj:Int) (ak:Int) (am:List CMk) (aA:List CNt) (aB:List (Int × CNt)) (ao:List Bool) (stops:List Int) (aP:Reads R ax) (aF:Sl ax ab am) (aQ:Reads R ay) (aR:Sl ay ac aA) (aS:Has R (cMl I encCN ae aB)) (aG:ao.length=40) (aT:Reads R az) (aH:Sl az aq stops) {r:(Bool × (List Bool))} (hM:(zbw ag ah ai aj ak am aA aB ao stops).Ends r) (w:World) (H:St w w [cBlk aa (List.flatten [[I ag,I ah,I ai,I aj,I ak,ab,ac,.map (some ae)],encF (α:=Bool) ao]) 143] R):Ret Tryz.prog 73 #[Pq aa,aq] w fun v w'=>∃ (y0:Bool) (y1:List Bool),(y0,y1)=r/\v=B y0/\St w w' [cBlk aa (List.flatten [[I ag,I ah,I ai,I aj,I ak,ab,ac,.map (some ae)],encF (α:=Bool) y1]) 143] R/\y1.length=40:=by
 refine ret_of_W Tryz.func73 rfl rfl rfl ?_
 have aU:=(aH).len_le
 refine kg 16 ?_;obtain ⟨aI,ar,aC⟩:=M.e_bind hM
 obtain ⟨aV,ar⟩:=M.e_iter ar
 refine W.loop (fun m σ W=>∃ (s:List Bool) (last:Int) (s2:Nat) (ρ:Env),σ=upds ρ [(0,Pq aa),(5,I last),(8,aq),(9,I (stops.length:Int)),(10,I (s2:Int))]/\M.iterN (za1 am stops) m (s,last,s2)=some aI/\St w W [cBlk aa (List.flatten [[I ag,I ah,I ai,I aj,I ak,ab,ac,.map (some ae)],encF (α:=Bool) s]) 143] R/\s.length=40) ?_ ?_
 ·exact ⟨_,ao,-1,0,_,upds_of _ _ ⟨rfl,rfl,rfl,rfl,rfl,trivial⟩,ar,H,aG⟩
 rintro aW σ aX ⟨s,last,s2,ρ,rfl,aD,H,ap⟩
 obtain ⟨aJ,aK,aY,hM,au⟩:=M.e_iterN aD
 simp only [za1] at hM
 clear aD;refine kg 5 ?_
 refine W.cond (decide ((s2:Int)<(stops.length:Int))) rfl (fun al=>?_) (fun al=>?_)
 ·replace hM:=M.e_t hM al
  replace al:=dI al
  obtain ⟨aZ,hM⟩:=M.e_gd hM;obtain ⟨a6,hM⟩:=M.e_gd hM
  have a7:=(aF).len_le
  refine kg 22 ?_;obtain ⟨a8,aL,hM⟩:=M.e_bind hM;refine s_call cf91 [I (stops.getD s2 0),I (last+1),I ((am.length:Int)-2)] rfl (zah (stops.getD s2 0) (last+1) ((am.length:Int)-2) aL _ (H.gt 1)) ?_
  rintro vq ba ⟨r2,rfl,hvq,aE⟩
  subst vq;(try dsimp only at hM);replace H:=H.bk aE;clear aE;refine kg 2 ?_
  refine W.cond (!r2) rfl (fun av=>?_) (fun av=>?_)
  ·replace hM:=M.e_t hM av;refine kg 4 ?_;refine W.ret ?_
   have aM:=M.e_inr hM au
   subst aM;replace hM:=aC;(try dsimp only at hM)
   have aw:=M.e_pure hM
   exact ⟨_,resE_tmp rfl,⟨false,s,aw,rfl,H,ap⟩⟩
  replace hM:=M.e_f hM av;obtain ⟨bb,hM⟩:=M.e_gd hM;refine kg 11 ?_;refine s_val (x_ix (v:=.pointer (some ⟨aa,8+Int.toNat (stops.getD s2 0)*1,none⟩)) rfl rfl (run_indexS Tryz.underlying141 Sz4 (by omega) (by omega))) ?_;refine t_stS (α:=Bool) (kc:=0) (b:=aa) (k:=1) (off:=8) (i:=(Int.toNat (stops.getD s2 0))) (f:=0) (sz:=1) (segs:=[[I ag,I ah,I ai,I aj,I ak,ab,ac,.map (some ae)],encF (α:=Bool) s]) (segs':=[[I ag,I ah,I ai,I aj,I ak,ab,ac,.map (some ae)],encF (α:=Bool) (s.set (Int.toNat (stops.getD s2 0)) true)]) (l:=s) (l':=s.set (Int.toNat (stops.getD s2 0)) true) (vs:=[B true]) (L':=[cBlk aa (List.flatten [[I ag,I ah,I ai,I aj,I ak,ab,ac,.map (some ae)],encF (α:=Bool) (s.set (Int.toNat (stops.getD s2 0)) true)]) 143]) H rfl rfl rfl Sz4 rfl rfl rfl rfl (sgo1 rfl) rfl rfl (by have bc:=ap; omega) (by omega) false true rfl rfl rfl rfl ?_;intro bf H
  have aN:(s.set (Int.toNat (stops.getD s2 0)) true).length=40:=List.length_set.trans ap
  refine kg 5 ?_
  exact ⟨aJ,aK,s.set (Int.toNat (stops.getD s2 0)) true,stops.getD s2 0,s2+1,_,upds_of _ _ ⟨rfl,rfl,rfl,rfl,rfl,trivial⟩,M.e_inl hM au,H,aN⟩
 replace hM:=M.e_f hM al
 replace al:=dI al
 refine W.exit ?_
 have aO:=M.e_inr hM au
 subst aO;replace hM:=aC;(try dsimp only at hM);refine kg 4 ?_;refine W.ret ?_
 have aw:=M.e_pure hM
 exact ⟨_,resE_tmp rfl,⟨true,s,aw,rfl,H,ap⟩⟩

def zbG (c_Pace_Lo c_Pace_Hi c_Base c_Scale c_Off:Int) (c_Marks:List CMk) (c_Notes:List CNt) (stops:List Int):M (Int × Int × Int × Int × Int × (List (Int × CNt)) × (List Bool) × Int) :=
  M.bind (zbR c_Pace_Lo c_Pace_Hi c_Base c_Scale c_Off c_Marks c_Notes) fun x_=>match x_ with
  | (.inl r1)=>(
  M.fail)
  | (.inr (aa,ab,ac,ae,ag,ah,aj,ai))=>(
  bif ai==0 then (
  M.bind (zbw aa ab ac ae ag c_Marks c_Notes ah aj stops) fun (r2,q8) =>
  bif ((ai==0)&&(!r2)) then (
  M.pure (aa,ab,ac,ae,ag,ah,q8,2))
  else (
  M.pure (aa,ab,ac,ae,ag,ah,q8,ai)))
  else (
  M.pure (aa,ab,ac,ae,ag,ah,aj,ai)))
theorem zd7 {R:List Chunk} {av:Cells} {ae:Value} {aw:Cells} {ag:Value} {ax:Cells} {aj:Value} (c_Pace_Lo:Int) (c_Pace_Hi:Int) (c_Base:Int) (c_Scale:Int) (c_Off:Int) (c_Marks:List CMk) (c_Notes:List CNt) (stops:List Int) (ay:Reads R av) (az:Sl av ae c_Marks) (aA:Reads R aw) (aB:Sl aw ag c_Notes) (aI:Reads R ax) (aJ:Sl ax aj stops) {r:(Int × Int × Int × Int × Int × (List (Int × CNt)) × (List Bool) × Int)} (hM:(zbG c_Pace_Lo c_Pace_Hi c_Base c_Scale c_Off c_Marks c_Notes stops).Ends r) (w:World) (H:St w w [] R):Ret Tryz.prog 39 #[.agg #[I c_Pace_Lo,I c_Pace_Hi,I c_Base,I c_Scale,I c_Off,ae,ag],aj] w fun v w'=>∃ (y0:Int) (y1:Int) (y2:Int) (y3:Int) (y4:Int) (y5:List (Int × CNt)) (y6:List Bool) (y7:Int) (aC:Nat) (aD:Nat),(y0,y1,y2,y3,y4,y5,y6,y7)=r/\v = .tuple #[Pq aC,I y7]/\St w w' [cBlk aC (List.flatten [[I y0,I y1,I y2,I y3,I y4,ae,ag,.map (some aD)],encF (α:=Bool) y6]) 143,cMl I encCN aD y5] R/\y6.length=40:=by
 refine ret_of_W Tryz.func39 rfl rfl rfl ?_;refine kg 2 ?_;refine t_bx [I c_Pace_Lo,I c_Pace_Hi,I c_Base,I c_Scale,I c_Off,ae,ag] H rfl ?_;intro aO aP H;refine kg 6 ?_;obtain ⟨aQ,aK,hM⟩:=M.e_bind hM;refine s_call cf72 [.agg #[I c_Pace_Lo,I c_Pace_Hi,I c_Base,I c_Scale,I c_Off,ae,ag]] rfl (zdC c_Pace_Lo c_Pace_Hi c_Base c_Scale c_Off c_Marks c_Notes (ay.app _) az (aA.app _) aB aK _ (H.gt 1)) ?_
 rintro vq aR (⟨r1,aL,hvq,ab⟩ | ⟨ak,al,am,ao,ap,aq,aE,aa,ah,ar,aM,hvq,ab,aF⟩)
 ·subst aL;subst vq;(try dsimp only at hM);replace H:=H.bk ab;clear ab;refine kg 14 ?_
  exact (M.e_fail hM).elim
 subst aM;subst vq;(try dsimp only at hM);replace H:=H.bk ab;clear ab;refine kg 14 ?_
 refine g_splitV (aa==0) (B false) (gy_t rfl) (fun ac=>?_) (fun ac=>?_)
 ·replace hM:=M.e_t hM ac;obtain ⟨aS,aN,hM⟩:=M.e_bind hM;refine s_call cf73 [Pq ah,aj] (lst2 (gd_of (c:=aa==0) ac (Pq ah)) (gd_of (c:=aa==0) ac (aj))) (zdA ak al am ao ap c_Marks c_Notes aq aE stops (ay.app _) az (aA.app _) aB (Has.here (k:=0) rfl) aF (aI.app _) aJ aN _ (H.gt 2)) ?_
  rintro vq aT ⟨r2,q8,rfl,hvq,ab,aG⟩
  subst vq;(try dsimp only at hM);replace H:=H.bk ab;clear ab;refine kg 1 ?_;refine s_val (x_pand (b:=aa==0) (r:=!r2) rfl (fun hb=>gd_of (c:=aa==0) (by first | exact hb | (rw [hb]; rfl) | simp_all) (B (!r2))) rfl)<|s_nil ?_
  refine W.cond ((aa==0)&&(!r2)) rfl (fun au=>?_) (fun au=>?_)
  ·replace hM:=M.e_t hM au;refine kg 10 ?_;refine W.ret ?_
   have ai:=M.e_pure hM
   exact ⟨_,resE_tmp2 rfl,⟨ak,al,am,ao,ap,aq,q8,2,ah,ar,ai,rfl,(H.pk [0,1]),aG⟩⟩
  replace hM:=M.e_f hM au;refine kg 8 ?_;refine W.ret ?_
  have ai:=M.e_pure hM
  exact ⟨_,resE_tmp2 rfl,⟨ak,al,am,ao,ap,aq,q8,aa,ah,ar,ai,rfl,(H.pk [0,1]),aG⟩⟩
 replace hM:=M.e_f hM ac;refine g_val (v:=B false) (aa==0) (gy_t rfl) (fun hg=>Bool.noConfusion (ac.symm.trans hg))<|s_val (x_pand0 (b:=aa==0) rfl (fun hb=>gd_of (c:=aa==0) (by first | exact hb | (rw [hb]; rfl) | simp_all) (B false)) rfl)<|s_nil ?_
 refine W.cond false rfl (fun aH=>?_) (fun aH=>?_)
 ·skip
  exact absurd aH (by decide)
 skip
 refine kg 8 ?_;refine W.ret ?_
 have ai:=M.e_pure hM
 exact ⟨_,resE_tmp2 rfl,⟨ak,al,am,ao,ap,aq,aE,aa,ah,ar,ai,rfl,(H.pk [0,1]),aF⟩⟩

def zda (aa ab ac ae ag:Int) (ah:List CMk) (ai:List CNt) (aj:List (Int × CNt)):M Unit :=
  M.pure ()
theorem zdi {R:List Chunk} {aa:Nat} {ab:Cells} {ac:Value} {ae:Cells} {ag:Value} {ah:Nat} (ai:Int) (aj:Int) (ak:Int) (al:Int) (am:Int) (ao:List CMk) (ap:List CNt) (aq:List (Int × CNt)) (aw:Reads R ab) (ax:Sl ab ac ao) (ay:Reads R ae) (az:Sl ae ag ap) (aA:Has R (cMl I encCN ah aq)) (aB:Fld R aa [I ai,I aj,I ak,I al,I am,ac,ag,.map (some ah)]) {r:Unit} (hM:(zda ai aj ak al am ao ap aq).Ends r) (w:World) (H:St w w [] R):Ret Tryz.prog 43 #[Pq aa] w fun v w'=>∃ (ar:Nat),()=r/\v = .func (.func 77) #[] #[Pq ar]/\St w w' [cBlk ar [Pq aa] 60] R:=by
 refine ret_of_W Tryz.func43 rfl rfl rfl ?_;refine kg 2 ?_;refine t_b1 (Pq aa) H rfl rfl ?_;intro au aC H;refine kg 4 ?_;refine s_val (x_mf (fs:=[]) (cs:=[Pq au]) rfl rfl) ?_;refine kg 2 ?_;refine W.ret ?_
 have av:=M.e_pure hM
 exact ⟨_,resE_tmp rfl,⟨au,av,rfl,H⟩⟩

def zba {T_:Type} (ae:T_->(Int × Span)->M (Bool × T_)) (ab ac:Int) (aa:List CMk) (ag:List Bool):(Nat × T_)->M ((Nat × T_) ⊕ (T_ ⊕ T_)):=fun (s2,t2) =>
  bif decide ((s2:Int)<((aa.length:Int)-1)) then (
  M.grd (decide ((-9223372036854775808:Int)<=((s2:Int)+1))&&decide (((s2:Int)+1)<=(9223372036854775807:Int))) <|
  M.grd (decide ((0:Int)<=((s2:Int)+1))&&decide (((s2:Int)+1)<(aa.length:Int))) <|
  M.grd (decide ((s2:Int)<(aa.length:Int))) <|
  M.grd (decide ((-9223372036854775808:Int)<=(((aa.getD (Int.toNat ((s2:Int)+1)) default).place)-((aa.getD s2 default).place)))&&decide ((((aa.getD (Int.toNat ((s2:Int)+1)) default).place)-((aa.getD s2 default).place))<=(9223372036854775807:Int))) <|
  M.grd (decide ((-9223372036854775808:Int)<=(ab*(((aa.getD (Int.toNat ((s2:Int)+1)) default).place)-((aa.getD s2 default).place))))&&decide ((ab*(((aa.getD (Int.toNat ((s2:Int)+1)) default).place)-((aa.getD s2 default).place)))<=(9223372036854775807:Int))) <|
  M.grd (decide ((-9223372036854775808:Int)<=(ac*(((aa.getD (Int.toNat ((s2:Int)+1)) default).place)-((aa.getD s2 default).place))))&&decide ((ac*(((aa.getD (Int.toNat ((s2:Int)+1)) default).place)-((aa.getD s2 default).place)))<=(9223372036854775807:Int))) <|
  M.grd (decide ((0:Int)<=(s2:Int))&&decide ((s2:Int)<(40:Int))) <|
  bif ag.getD s2 false then (
  M.bind (ae t2 ((s2:Int),(⟨(ab*(((aa.getD (Int.toNat ((s2:Int)+1)) default).place)-((aa.getD s2 default).place)):Int),(200000000:Int)⟩:Span))) fun (go,t) =>
  bif !go then (
  M.pure (.inr (.inl t)))
  else (
  M.pure (.inl (s2+1,t))))
  else (
  M.bind (ae t2 ((s2:Int),(⟨(ab*(((aa.getD (Int.toNat ((s2:Int)+1)) default).place)-((aa.getD s2 default).place)):Int),(ac*(((aa.getD (Int.toNat ((s2:Int)+1)) default).place)-((aa.getD s2 default).place)):Int)⟩:Span))) fun (go,t) =>
  bif !go then (
  M.pure (.inr (.inl t)))
  else (
  M.pure (.inl (s2+1,t)))))
  else (
  M.pure (.inr (.inr t2)))
def zbz {T_:Type} (aa:T_->(Int × Span)->M (Bool × T_)) (t_:T_) (ab ac ah ai aj:Int) (ae:List CMk) (ak:List CNt) (al:List (Int × CNt)) (ag:List Bool):M T_ :=
  M.bind (M.iter (zba aa ab ac ae ag) (0,t_)) fun x_=>match x_ with
  | (.inl t3)=>(
  M.pure t3)
  | (.inr t4)=>(
  M.pure t4)
theorem zdW {R:List Chunk} {T_:Type} {Y_:T_->List Chunk->Prop} {ak:Value} {al:List Chunk} {am:Nat} {ao:Nat} {ay:Cells} {az:Value} {aA:Cells} {aB:Value} {aC:Nat} (ap:T_->(Int × Span)->M (Bool × T_)) (t_:T_) (ab:Int) (ac:Int) (aD:Int) (aE:Int) (aF:Int) (aa:List CMk) (aG:List CNt) (aH:List (Int × CNt)) (ag:List Bool) (aI:YieldC Tryz.prog R arISpan Y_ ak ap) (aS:Y_ t_ al) (aJ:Reads R ay) (aq:Sl ay az aa) (a7:Reads R aA) (a8:Sl aA aB aG) (ba:Has R (cMl I encCN aC aH)) (aT:ag.length=40) (aU:Has R (cBlk ao (List.flatten [[I ab,I ac,I aD,I aE,I aF,az,aB,.map (some aC)],encF (α:=Bool) ag]) 143)) (bb:Has R (cBlk am [Pq ao] 60)) {r:T_} (hM:(zbz ap t_ ab ac aD aE aF aa aG aH ag).Ends r) (w:World) (H:St w w [cAll al] R):Ret Tryz.prog 77 #[ak,Pq am] w fun v w'=>∃ (y0:T_) (Ls0:List Chunk),y0=r/\v = .tuple #[]/\St w w' [cAll Ls0] R/\Y_ y0 Ls0:=by
 refine ret_of_W Tryz.func77 rfl rfl rfl ?_
 have bc:=(aq).len_le
 refine kg 12 ?_;obtain ⟨aV,ar,au⟩:=M.e_bind hM
 obtain ⟨bf,ar⟩:=M.e_iter ar
 refine W.loop (fun m σ W=>∃ (s2:Nat) (t2:T_) (Ls_t2:List Chunk) (ρ:Env),σ=upds ρ [(0,ak),(1,Pq am),(12,I ((aa.length:Int)-1)),(13,I (s2:Int))]/\M.iterN (zba ap ab ac aa ag) m (s2,t2)=some aV/\St w W [cAll Ls_t2] R/\Y_ t2 Ls_t2) ?_ ?_
 ·exact ⟨_,0,t_,al,_,upds_of _ _ ⟨rfl,rfl,rfl,rfl,trivial⟩,ar,H,aS⟩
 rintro bg σ bh ⟨s2,t2,Ls_t2,ρ,rfl,aK,H,hY_t2⟩
 obtain ⟨aL,aM,bi,hM,ah⟩:=M.e_iterN aK
 simp only [zba] at hM
 clear aK;refine kg 5 ?_
 refine W.cond (decide ((s2:Int)<((aa.length:Int)-1))) rfl (fun ae=>?_) (fun ae=>?_)
 ·replace hM:=M.e_t hM ae
  replace ae:=dI ae
  refine kg 9 ?_;refine W.draw (fun W=>St w W [cAll Ls_t2] R) [(0,true),(1,true),(2,true),(3,true),(4,true),(5,true),(6,true),(7,true),(8,true),(9,true),(10,true),(11,true),(12,true),(13,true),(14,true),(15,true),(16,true),(17,true),(18,true),(19,true),(20,true)] mixed (by decide +kernel) rfl ?_;intro bj ai;replace H:=H.ext ai;clear ai
  refine ⟨(H.pk [0]),?_⟩
  obtain ⟨bm,hM⟩:=M.e_gd hM;obtain ⟨bn,hM⟩:=M.e_gd hM;refine kg 9 ?_;refine d_q rfl (fun w' H=>x_ld (v:=I ((aa.getD (Int.toNat ((s2:Int)+1)) default).place)) rfl (ld_sc Sc3 (At.mono (CMk_at0 aq (i:=(s2:Int)+1) (by omega) (by omega)) (aJ.at H)))) ?_;obtain ⟨bo,hM⟩:=M.e_gd hM;refine kg 8 ?_;refine d_q rfl (fun w' H=>x_ld (v:=I ((aa.getD s2 default).place)) rfl (ld_sc Sc3 (At.mono (CMk_at0 aq (i:=(s2:Int)) (by omega) (by omega)) (aJ.at H)))) ?_;obtain ⟨bp,hM⟩:=M.e_gd hM;refine kg 4 ?_;refine W.draw (fun W=>St w W [cAll Ls_t2] R) [(0,true),(1,true),(2,true),(3,true),(4,true),(5,true),(6,true),(7,true),(8,true),(9,true),(10,true),(11,true),(12,true),(13,true),(14,true),(15,true),(16,true),(17,false),(18,false)] mixed (by decide +kernel) rfl ?_;intro br ai;replace H:=H.ext ai;clear ai
  refine ⟨(H.pk [0]),?_⟩
  obtain ⟨bt,hM⟩:=M.e_gd hM;obtain ⟨bu,hM⟩:=M.e_gd hM;refine kg 16 ?_;refine d_q rfl (fun w' H=>x_bld (ps:=[(0,I (ab*(((aa.getD (Int.toNat ((s2:Int)+1)) default).place)-((aa.getD s2 default).place)))),(1,I (ac*(((aa.getD (Int.toNat ((s2:Int)+1)) default).place)-((aa.getD s2 default).place))))]) (zs:=[I 0,I 0]) (L':=[I (ab*(((aa.getD (Int.toNat ((s2:Int)+1)) default).place)-((aa.getD s2 default).place))),I (ac*(((aa.getD (Int.toNat ((s2:Int)+1)) default).place)-((aa.getD s2 default).place)))]) rfl Tryz.underlying31 Al31 rfl (Bd31 Tryz.underlying31) (.cons (cs:=[I (ab*(((aa.getD (Int.toNat ((s2:Int)+1)) default).place)-((aa.getD s2 default).place)))]) rfl rfl rfl rfl rfl<|.cons (cs:=[I (ac*(((aa.getD (Int.toNat ((s2:Int)+1)) default).place)-((aa.getD s2 default).place)))]) rfl rfl rfl rfl rfl<|.nil))<|d_l rfl ?_;refine t_alloc (cs:=[I 0,I 0]) H Al31 rfl ?_;intro aN bv H
  refine s_nil ⟨(H.pk [1]),?_⟩
  refine d_l rfl ?_;refine t_sw 0 0 [I (ab*(((aa.getD (Int.toNat ((s2:Int)+1)) default).place)-((aa.getD s2 default).place))),I (ac*(((aa.getD (Int.toNat ((s2:Int)+1)) default).place)-((aa.getD s2 default).place)))] (.agg #[I (ab*(((aa.getD (Int.toNat ((s2:Int)+1)) default).place)-((aa.getD s2 default).place))),I (ac*(((aa.getD (Int.toNat ((s2:Int)+1)) default).place)-((aa.getD s2 default).place)))]) H rfl rfl Sz31 rfl rfl rfl rfl ?_;intro bw H
  refine s_nil ⟨(H.pk [1]),?_⟩
  obtain ⟨bx,hM⟩:=M.e_gd hM;refine kg 8 ?_;refine s_val (x_ix (v:=.pointer (some ⟨ao,8+Int.toNat (s2:Int)*1,none⟩)) rfl rfl (run_indexS Tryz.underlying141 Sz4 (by omega) (by omega)))<|s_val (x_ld (v:=B (ag.getD s2 false)) rfl (ldS (α:=Bool) (k:=1) (off:=8) (i:=s2) (f:=0) (sz:=1) false Sc4 (aU.blk H) rfl (sgo1 rfl) rfl (by decide) (by have bz:=aT; omega) (by omega) rfl))<|s_nil ?_
  refine W.cond (ag.getD s2 false) rfl (fun av=>?_) (fun av=>?_)
  ·replace hM:=M.e_t hM av;refine kg 2 ?_;refine t_sw 0 1 [I 200000000] (I 200000000) H rfl rfl Sz3 rfl rfl rfl rfl ?_;intro bA H;refine kg 6 ?_
   obtain ⟨⟨go,t⟩,aW,hM⟩:=M.e_bind hM
   (try dsimp only at hM);refine t_yield (L:=[cBlk aN [I (ab*(((aa.getD (Int.toNat ((s2:Int)+1)) default).place)-((aa.getD s2 default).place))),I 200000000] 31]) (H.pk [1,0]) aI hY_t2 rfl [I (s2:Int),.agg #[I (ab*(((aa.getD (Int.toNat ((s2:Int)+1)) default).place)-((aa.getD s2 default).place))),I 200000000]] rfl ((s2:Int),(⟨(ab*(((aa.getD (Int.toNat ((s2:Int)+1)) default).place)-((aa.getD s2 default).place)):Int),(200000000:Int)⟩:Span)) Reads.none rfl aW ?_;intro aO bB aP H;replace H:=H.nf;refine kg 2 ?_
   refine W.cond (!go) rfl (fun aw=>?_) (fun aw=>?_)
   ·replace hM:=M.e_t hM aw;refine W.ret ?_
    have aX:=M.e_inr hM ah
    subst aX;replace hM:=au;(try dsimp only at hM)
    have aj:=M.e_pure hM
    exact ⟨_,resE_tmp0 rfl,⟨t,aO,aj,rfl,(H.pk [0]),aP⟩⟩
   replace hM:=M.e_f hM aw;refine kg 5 ?_
   exact ⟨aL,aM,s2+1,t,aO,_,upds_of _ _ ⟨rfl,rfl,rfl,rfl,trivial⟩,M.e_inl hM ah,(H.pk [0]),aP⟩
  replace hM:=M.e_f hM av;refine kg 6 ?_
  obtain ⟨⟨go,t⟩,aY,hM⟩:=M.e_bind hM
  (try dsimp only at hM);refine t_yield (L:=[cBlk aN [I (ab*(((aa.getD (Int.toNat ((s2:Int)+1)) default).place)-((aa.getD s2 default).place))),I (ac*(((aa.getD (Int.toNat ((s2:Int)+1)) default).place)-((aa.getD s2 default).place)))] 31]) (H.pk [1,0]) aI hY_t2 rfl [I (s2:Int),.agg #[I (ab*(((aa.getD (Int.toNat ((s2:Int)+1)) default).place)-((aa.getD s2 default).place))),I (ac*(((aa.getD (Int.toNat ((s2:Int)+1)) default).place)-((aa.getD s2 default).place)))]] rfl ((s2:Int),(⟨(ab*(((aa.getD (Int.toNat ((s2:Int)+1)) default).place)-((aa.getD s2 default).place)):Int),(ac*(((aa.getD (Int.toNat ((s2:Int)+1)) default).place)-((aa.getD s2 default).place)):Int)⟩:Span)) Reads.none rfl aY ?_;intro aQ bC aR H;replace H:=H.nf;refine kg 2 ?_
  refine W.cond (!go) rfl (fun ax=>?_) (fun ax=>?_)
  ·replace hM:=M.e_t hM ax;refine W.ret ?_
   have aZ:=M.e_inr hM ah
   subst aZ;replace hM:=au;(try dsimp only at hM)
   have aj:=M.e_pure hM
   exact ⟨_,resE_tmp0 rfl,⟨t,aQ,aj,rfl,(H.pk [0]),aR⟩⟩
  replace hM:=M.e_f hM ax;refine kg 5 ?_
  exact ⟨aL,aM,s2+1,t,aQ,_,upds_of _ _ ⟨rfl,rfl,rfl,rfl,trivial⟩,M.e_inl hM ah,(H.pk [0]),aR⟩
 replace hM:=M.e_f hM ae
 replace ae:=dI ae
 refine W.exit ?_
 have a6:=M.e_inr hM ah
 subst a6;replace hM:=au;(try dsimp only at hM)
 have aj:=M.e_pure hM
 exact ⟨_,resE_tmp0 rfl,⟨t2,Ls_t2,aj,rfl,H,hY_t2⟩⟩
def zat (mark:Int) (s:Span) (aa:List Span):M (List Span) :=
  M.grd (decide ((0:Int)<=mark)&&decide (mark<(aa.length:Int))) <|
  M.bind (zaq (aa.getD (Int.toNat mark) default) ([s])) fun (r0,r1) =>
  M.pure (aa.set (Int.toNat mark) (⟨(r0:Int),(r1:Int)⟩:Span))
theorem zcY {R:List Chunk} {ae:Nat} {ab:Value} (mark:Int) (s:Span) (aa:List Span)  {r:(List Span)} (hM:(zat mark s aa).Ends r) (w:World) (H:St w w [cOwn (α:=Span) 31 ab aa,cBlk ae [ab] 61] R):Ret Tryz.prog 44 #[I mark,.agg #[I s.lo,I s.hi],Pq ae] w fun v w'=>∃ (y0:List Span) (u0:Value),y0=r/\v = .tuple #[]/\St w w' [cOwn (α:=Span) 31 u0 y0,cBlk ae [u0] 61] R:=by
 refine ret_of_W Tryz.func44 rfl rfl rfl ?_;refine kg 2 ?_;refine t_bx [I s.lo,I s.hi] H rfl ?_;intro ah aq H;refine s_nil ?_;refine W.drawT (fun W=>St w W [cBlk ah [I s.lo,I s.hi] 31,cBlk ae [ab] 61] R) (.q 0 (.q 1 (.q 2 (.q 3 (.q 6 (.l2 4 (.l2 5 (.l 7 (.l 8 (.l 9 (.l 10 .nil)))) 7 (.l 5 (.l 8 (.l 9 (.l 10 .nil))))) 7 (.l 4 (.l 5 (.l 8 (.l 9 (.l 10 .nil))))))))))) mixed (by decide +kernel) rfl ?_;intro ar ai;replace H:=H.ext ai;clear ai
 refine ⟨(H.pk [0,2]),?_⟩
 refine kg 5 ?_;refine t_l2 rfl rfl ?_ ?_
 ·skip
  obtain ⟨au,hM⟩:=M.e_gd hM;refine kg 1 ?_
  have av:=Sl.cells (H.os 1)
  have aw:=Sl.oc (H.os 1)
  refine s_nil ⟨(H.pk [0,2]),?_⟩
  refine t_l2 rfl rfl ?_ ?_
  ·skip
   refine kg 1 ?_
   refine s_nil ⟨(H.pk [0,2]),?_⟩
   refine t_l rfl ?_;refine t_bs (α:=Span) T61 [.agg #[I s.lo,I s.hi]] [s] H rfl (.cons rfl (Flat.rep_enc _ s)<|.nil) rfl rfl rfl ?_;intro aj ax H
   have ay:=Sl.cells (H.os 0)
   have az:=Sl.oc (H.os 0)
   refine s_nil ⟨(H.pk [1,3]),?_⟩
   refine t_l rfl ?_;obtain ⟨aA,am,hM⟩:=M.e_bind hM;refine s_call cf45 [.agg #[I ((aa.getD (Int.toNat mark) default).lo),I ((aa.getD (Int.toNat mark) default).hi)],aj] rfl (zbE (aa.getD (Int.toNat mark) default) ([s]) (rdo 0) (H.os 0) am _ (H.gt 4)) ?_
   rintro vq aB ⟨r0,r1,rfl,hvq,ac⟩
   subst vq;(try dsimp only at hM);replace H:=H.bk ac;clear ac
   refine s_nil ⟨(H.pk [1,3]),?_⟩
   refine t_l rfl ?_;refine kg 1 ?_
   refine s_nil ⟨(H.pk [1,3]),?_⟩
   refine t_l rfl ?_;refine t_ost (k:=2) (i:=mark) (l:=aa) (l':=aa.set (Int.toNat mark) (⟨(r0:Int),(r1:Int)⟩:Span)) (val:=.agg #[I r0,I r1]) (L':=[cOwn (α:=Span) 31 aj ([s]),cBlk ah [I s.lo,I s.hi] 31,cOwn (α:=Span) 31 ab (aa.set (Int.toNat mark) (⟨(r0:Int),(r1:Int)⟩:Span)),cBlk ae [ab] 61]) H rfl Sz31 (by omega) (by omega) (⟨(r0:Int),(r1:Int)⟩:Span) rfl rfl rfl rfl rfl ?_;intro aC H
   refine s_nil ⟨(H.pk [1,3]),?_⟩
   refine t_nil ?_
   have ag:=M.e_pure hM
   exact ⟨_,resE_tmp0 rfl,⟨(aa.set (Int.toNat mark) (⟨(r0:Int),(r1:Int)⟩:Span)),ab,ag,rfl,(H.pk [2,3])⟩⟩
  skip
  refine t_bs (α:=Span) T61 [.agg #[I s.lo,I s.hi]] [s] H rfl (.cons rfl (Flat.rep_enc _ s)<|.nil) rfl rfl rfl ?_;intro ak aD H
  have aE:=Sl.cells (H.os 0)
  have aF:=Sl.oc (H.os 0)
  refine s_nil ⟨(H.pk [1,3]),?_⟩
  refine t_l rfl ?_;refine kg 1 ?_
  refine s_nil ⟨(H.pk [1,3]),?_⟩
  refine t_l rfl ?_;obtain ⟨aG,ao,hM⟩:=M.e_bind hM;refine s_call cf45 [.agg #[I ((aa.getD (Int.toNat mark) default).lo),I ((aa.getD (Int.toNat mark) default).hi)],ak] rfl (zbE (aa.getD (Int.toNat mark) default) ([s]) (rdo 0) (H.os 0) ao _ (H.gt 4)) ?_
  rintro vq aH ⟨r0,r1,rfl,hvq,ac⟩
  subst vq;(try dsimp only at hM);replace H:=H.bk ac;clear ac
  refine s_nil ⟨(H.pk [1,3]),?_⟩
  refine t_l rfl ?_;refine kg 1 ?_
  refine s_nil ⟨(H.pk [1,3]),?_⟩
  refine t_l rfl ?_;refine t_ost (k:=2) (i:=mark) (l:=aa) (l':=aa.set (Int.toNat mark) (⟨(r0:Int),(r1:Int)⟩:Span)) (val:=.agg #[I r0,I r1]) (L':=[cOwn (α:=Span) 31 ak ([s]),cBlk ah [I s.lo,I s.hi] 31,cOwn (α:=Span) 31 ab (aa.set (Int.toNat mark) (⟨(r0:Int),(r1:Int)⟩:Span)),cBlk ae [ab] 61]) H rfl Sz31 (by omega) (by omega) (⟨(r0:Int),(r1:Int)⟩:Span) rfl rfl rfl rfl rfl ?_;intro aI H
  refine s_nil ⟨(H.pk [1,3]),?_⟩
  refine t_nil ?_
  have ag:=M.e_pure hM
  exact ⟨_,resE_tmp0 rfl,⟨(aa.set (Int.toNat mark) (⟨(r0:Int),(r1:Int)⟩:Span)),ab,ag,rfl,(H.pk [2,3])⟩⟩
 skip
 refine t_bs (α:=Span) T61 [.agg #[I s.lo,I s.hi]] [s] H rfl (.cons rfl (Flat.rep_enc _ s)<|.nil) rfl rfl rfl ?_;intro al aJ H
 have aK:=Sl.cells (H.os 0)
 have aL:=Sl.oc (H.os 0)
 have aM:=Sl.cells (H.os 2)
 have aN:=Sl.oc (H.os 2)
 refine s_nil ⟨(H.pk [1,3]),?_⟩
 refine t_l rfl ?_;obtain ⟨aO,hM⟩:=M.e_gd hM;refine kg 1 ?_
 refine s_nil ⟨(H.pk [1,3]),?_⟩
 refine t_l rfl ?_;refine kg 1 ?_
 refine s_nil ⟨(H.pk [1,3]),?_⟩
 refine t_l rfl ?_;obtain ⟨aP,ap,hM⟩:=M.e_bind hM;refine s_call cf45 [.agg #[I ((aa.getD (Int.toNat mark) default).lo),I ((aa.getD (Int.toNat mark) default).hi)],al] rfl (zbE (aa.getD (Int.toNat mark) default) ([s]) (rdo 0) (H.os 0) ap _ (H.gt 4)) ?_
 rintro vq aQ ⟨r0,r1,rfl,hvq,ac⟩
 subst vq;(try dsimp only at hM);replace H:=H.bk ac;clear ac
 refine s_nil ⟨(H.pk [1,3]),?_⟩
 refine t_l rfl ?_;refine kg 1 ?_
 refine s_nil ⟨(H.pk [1,3]),?_⟩
 refine t_l rfl ?_;refine t_ost (k:=2) (i:=mark) (l:=aa) (l':=aa.set (Int.toNat mark) (⟨(r0:Int),(r1:Int)⟩:Span)) (val:=.agg #[I r0,I r1]) (L':=[cOwn (α:=Span) 31 al ([s]),cBlk ah [I s.lo,I s.hi] 31,cOwn (α:=Span) 31 ab (aa.set (Int.toNat mark) (⟨(r0:Int),(r1:Int)⟩:Span)),cBlk ae [ab] 61]) H rfl Sz31 (by omega) (by omega) (⟨(r0:Int),(r1:Int)⟩:Span) rfl rfl rfl rfl rfl ?_;intro aR H
 refine s_nil ⟨(H.pk [1,3]),?_⟩
 refine t_nil ?_
 have ag:=M.e_pure hM
 exact ⟨_,resE_tmp0 rfl,⟨(aa.set (Int.toNat mark) (⟨(r0:Int),(r1:Int)⟩:Span)),ab,ag,rfl,(H.pk [2,3])⟩⟩

def zbL (s:Span):M Bool :=
  M.pure (decide (s.lo<=s.hi))
theorem zdv {R:List Chunk}  (s:Span)  {r:Bool} (hM:(zbL s).Ends r) (w:World) (H:St w w [] R):Ret Tryz.prog 47 #[.agg #[I s.lo,I s.hi]] w fun v w'=>∃ (y0:Bool),y0=r/\v=B y0/\St w w' [] R:=by
 refine ret_of_W Tryz.func47 rfl rfl rfl ?_;refine kg 2 ?_;refine t_bx [I s.lo,I s.hi] H rfl ?_;intro ab ac H;refine kg 11 ?_;refine W.ret ?_
 have aa:=M.e_pure hM
 exact ⟨_,resE_tmp rfl,⟨(decide (s.lo<=s.hi)),aa,rfl,(H.pk [])⟩⟩

def zam  : (List Span)->(Int × Span)->M ((List Span) ⊕ Unit):=fun l (x,x2) =>
  M.grd (decide ((l.length+([x2]).length)*16<=140737488355328)) <|
  M.pure (.inl (l++([x2])))
def zas (l:List Span):((List Span) × Nat)->M (((List Span) × Nat) ⊕ ((List Span) × (List Span))):=fun (l2,s) =>
  bif decide ((s:Int)<(l.length:Int)) then (
  M.grd (decide ((s:Int)<(l.length:Int))) <|
  M.grd (decide ((s:Int)<(l2.length:Int))) <|
  M.grd (decide ((-9223372036854775808:Int)<=(((l2.getD s default).lo)+((l.getD s default).lo)))&&decide ((((l2.getD s default).lo)+((l.getD s default).lo))<=(9223372036854775807:Int))) <|
  M.grd (decide ((-9223372036854775808:Int)<=(((l2.getD s default).hi)+((l.getD s default).hi)))&&decide ((((l2.getD s default).hi)+((l.getD s default).hi))<=(9223372036854775807:Int))) <|
  M.bind (zat ((s:Int)+1) (⟨(((l2.getD s default).lo)+((l.getD s default).lo):Int),(((l2.getD s default).hi)+((l.getD s default).hi):Int)⟩:Span) l2) fun l_k02 =>
  M.pure (.inl (l_k02,s+1)))
  else (
  M.pure (.inr (l2,l2)))
def zav (l:List Span):((List Span) × Int)->M (((List Span) × Int) ⊕ ((List Span) × (List Span))):=fun (l5,g) =>
  bif decide (0<=g) then (
  M.grd (decide ((-9223372036854775808:Int)<=(g+1))&&decide ((g+1)<=(9223372036854775807:Int))) <|
  M.grd (decide ((0:Int)<=(g+1))&&decide ((g+1)<(l5.length:Int))) <|
  M.grd (decide ((0:Int)<=g)&&decide (g<(l.length:Int))) <|
  M.grd (decide ((-9223372036854775808:Int)<=(((l5.getD (Int.toNat (g+1)) default).lo)-((l.getD (Int.toNat g) default).hi)))&&decide ((((l5.getD (Int.toNat (g+1)) default).lo)-((l.getD (Int.toNat g) default).hi))<=(9223372036854775807:Int))) <|
  M.grd (decide ((-9223372036854775808:Int)<=(((l5.getD (Int.toNat (g+1)) default).hi)-((l.getD (Int.toNat g) default).lo)))&&decide ((((l5.getD (Int.toNat (g+1)) default).hi)-((l.getD (Int.toNat g) default).lo))<=(9223372036854775807:Int))) <|
  M.bind (zat g (⟨(((l5.getD (Int.toNat (g+1)) default).lo)-((l.getD (Int.toNat g) default).hi):Int),(((l5.getD (Int.toNat (g+1)) default).hi)-((l.getD (Int.toNat g) default).lo):Int)⟩:Span) l5) fun l_k022 =>
  M.grd (decide ((-9223372036854775808:Int)<=(g-1))&&decide ((g-1)<=(9223372036854775807:Int))) <|
  M.pure (.inl (l_k022,g-1)))
  else (
  M.pure (.inr (l5,l5)))
def zak (aa ab ac ae ag:Int) (ah:List CMk) (ai:List CNt) (aj:List (Int × CNt)) (ak:List Bool) (times:List Span):M ((List Span) × Bool) :=
  M.bind (zb3 times) fun r2 =>
  M.bind (zda aa ab ac ae ag ah ai aj) fun (_:Unit) =>
  M.bind (zbz (M.yl zam) (.inl ([])) aa ab ac ae ag ah ai aj ak) fun x_=>match x_ with
  | .inl l=>(
  M.bind (M.iter (zas l) (r2,0)) fun (l3,l4) =>
  M.bind (M.iter (zav l) (l4,(l.length:Int)-1)) fun (l6,l7) =>
  M.bind (zax l7 (fun al=>zbL al)) fun r3 =>
  M.pure (l7,r3))
  | .inr _=>M.fail
theorem zcQ {R:List Chunk} {ai:Nat} {aV:Cells} {aW:Value} {aX:Cells} {aY:Value} {aZ:Nat} {a6:Cells} {aJ:Value} (ar:Int) (au:Int) (av:Int) (aw:Int) (ax:Int) (ay:List CMk) (az:List CNt) (aA:List (Int × CNt)) (aB:List Bool) (times:List Span) (aC:Reads R aV) (aK:Sl aV aW ay) (aD:Reads R aX) (aL:Sl aX aY az) (aE:Has R (cMl I encCN aZ aA)) (bh:aB.length=40) (aF:Has R (cBlk ai (List.flatten [[I ar,I au,I av,I aw,I ax,aW,aY,.map (some aZ)],encF (α:=Bool) aB]) 143)) (aM:Reads R a6) (a7:Sl a6 aJ times) {r:((List Span) × Bool)} (hM:(zak ar au av aw ax ay az aA aB times).Ends r) (w:World) (H:St w w [] R):Ret Tryz.prog 15 #[Pq ai,aJ] w fun v w'=>∃ (y0:List Span) (y1:Bool) (u0:Value),(y0,y1)=r/\v = .tuple #[u0,B y1]/\St w w' [cOwn (α:=Span) 31 u0 y0] R:=by
 refine ret_of_WD Tryz.func15 rfl rfl rfl ?_
 replace H:St w w [cMk ([])] R:=H.mk0
 have bV:=aK.len_le
 have bW:=aL.len_le
 have bX:=a7.len_le
 unfold zak at hM
 refine WD.seq<|WD.of ?_;refine kg 4 ?_;refine WD.seq<|WD.of ?_;refine kg 2 ?_;obtain ⟨bY,bi,hM⟩:=M.e_bind hM;refine s_call cf42 [aJ] rfl (zc7 times (aM.app _) a7 bi _ (H.gt 1)) ?_
 rintro vq bZ ⟨r2,ag,rfl,hvq,ab⟩
 subst vq;(try dsimp only at hM);replace H:=H.bk ab;clear ab;refine t_alloc (cs:=[.slice none 0 0]) H Al61 rfl ?_;intro ac b3 H;refine t_sw 0 0 [ag] ag H rfl rfl Sz61 (Sl.cells (H.os 1)) rfl rfl (by simp only [List.all_cons,List.all_nil,Bool.true_and,Bool.and_true,Sl.oc (H.os 1)]; try rfl) ?_;intro b4 H;refine s_nil<|WD.seq<|WD.of<|W.region rfl ?_;refine t_alloc (cs:=[.slice none 0 0]) H Al61 rfl ?_;intro ah b6 H;refine s_nil<|WD.seq<|WD.seq<|WD.of ?_;refine kg 2 ?_;obtain ⟨b7,bj,hM⟩:=M.e_bind hM;refine s_call cf43 [Pq ai] rfl (zdi ar au av aw ax ay az aA (aC.app _) aK (aD.app _) aL (aE.app _) (Fld.of (aF.app _) rfl) bj _ (H.gt 4)) ?_
 rintro vq b8 ⟨ak,rfl,hvq,ab⟩
 subst vq;(try dsimp only at hM);replace H:=H.bk ab;clear ab;refine s_nil<|WD.block ?_
 replace H:=H.nilOwn (α:=Span) 31
 obtain ⟨b9,bm,hM⟩:=M.e_bind hM;refine WD.range (L:=[cOwn (α:=Span) 31 (.slice none 0 0) ([]),cBlk ah [(.slice none 0 0)] 61,cBlk ak [Pq ai] 60,cBlk ac [ag] 61,cOwn (α:=Span) 31 ag r2]) [Pq ak] (H.pk [5,0,2,1,3,4]) rfl cf77 ?_;intro aG aN aO bn aP H
 have hYC:YieldC Tryz.prog ([cMk (aN :: ([])),cBlk ak [Pq ai] 60,cBlk ac [ag] 61,cOwn (α:=Span) 31 ag r2]++R) arISpan (yJ aG aO (fun l aH=>∃ (aa:Value),aH=[cOwn (α:=Span) 31 aa l,cBlk ah [aa] 61]) (fun (_:Unit) _=>False) (fun _=>.ret)) (.func (.yield aG) #[] #[]) (M.yl zam):=by
  refine YieldC.mk2 aP (fun l aH=>∃ (aa:Value),aH=[cOwn (α:=Span) 31 aa l,cBlk ah [aa] 61]) (fun (_:Unit) _=>False) (fun _=>.ret) zam (by rintro l _ h_; obtain ⟨_,rfl⟩:=h_; rfl) (fun _ _ h_=>h_.elim) rfl (arISpan_len rfl) ?_;intro C_ ca x_ bo
  obtain ⟨x,x2⟩:=x_
  obtain rfl:=bo
  intro w R am aH s_ r bp hM H
  skip
  obtain ⟨l,br⟩:∃ y_,y_=s_:=⟨_,rfl⟩
  subst br
  obtain ⟨aa,rfl⟩:=bp
  replace H:=H.nf;refine W.region rfl ?_;refine t_alloc (cs:=[I 0,I 0]) H Al31 rfl ?_;intro bt cb H;refine t_sw 0 0 [I x2.lo,I x2.hi] (.agg #[I x2.lo,I x2.hi]) H rfl rfl Sz31 rfl rfl rfl rfl ?_;intro cc H;refine s_nil ?_
  refine ⟨rfl,[cBlk bt [I x2.lo,I x2.hi] 31],H.pick [0,1,2,3,4,5,6] (by decide) rfl,?_⟩
  clear H am
  intro w R am H
  replace aC:=aC.sub am
  replace aD:=aD.sub am
  replace aE:=aE.sub am
  replace aF:=aF.sub am
  replace aM:=aM.sub am
  replace hM:(zam l (x,x2)).Ends r:=hM
  simp only [zam] at hM
  replace H:=H.nf;refine kg 4 ?_;refine t_bs (α:=Span) T61 [.agg #[I x2.lo,I x2.hi]] [x2] H rfl (.cons rfl (Flat.rep_enc _ x2)<|.nil) rfl rfl rfl ?_;intro bu cd H;obtain ⟨ce,hM⟩:=M.e_gd hM;refine t_app (α:=Span) (k:=2) (l:=l) (l2:=[x2]) (l':=l++([x2])) (vy:=bu) T61 rfl H rfl rfl rfl (H.os 0) (H.ol 0) (rfl) (by first | omega | (simp only [List.length_nil] at *; omega)) ?_;intro aq cf H;replace H:=H.nf;refine t_sw 3 0 [aq] aq H rfl rfl Sz61 (Sl.cells (H.os 2)) rfl rfl (by simp only [List.all_cons,List.all_nil,Bool.true_and,Bool.and_true,Sl.oc (H.os 2)]; try rfl) ?_;intro cg H;refine s_nil ?_
  exact ⟨l++([x2]),[cOwn (α:=Span) 31 aq (l++([x2])),cBlk ah [aq] 61],(M.e_pure hM).symm,⟨aq,rfl⟩,H.pick [2,3,4,5,6,7] (by decide) rfl⟩
 replace H:St w bn (cAll (cObj aG (.loop aO) :: [cOwn (α:=Span) 31 (.slice none 0 0) ([]),cBlk ah [(.slice none 0 0)] 61]) :: [cMk (aN :: ([])),cBlk ak [Pq ai] 60,cBlk ac [ag] 61,cOwn (α:=Span) 31 ag r2]) R:=St.bundleB (A:=cObj aG (.loop aO) :: [cOwn (α:=Span) 31 (.slice none 0 0) ([]),cBlk ah [(.slice none 0 0)] 61]) (T:=[cMk (aN :: ([])),cBlk ak [Pq ai] 60,cBlk ac [ag] 61,cOwn (α:=Span) 31 ag r2]) rfl (H.pk [0,2,3,1,4,5,6])
 refine (zdW (M.yl zam) (.inl ([])) ar au av aw ax ay az aA aB hYC ⟨_,rfl,⟨(.slice none 0 0),rfl⟩⟩ (aC.app _) aK (aD.app _) aL (aE.app _) bh (aF.app _) (Has.here (k:=1) rfl) bm _ (H.gt 4)).mono ?_
 rintro vq ch ⟨bv,ci,rfl,hvq,ab,a8⟩
 replace H:=H.back ab rfl
 clear ab hYC
 rcases bv with l | _
 ·(try dsimp only at hM)
  obtain ⟨_,rfl,aa,rfl⟩:=a8
  refine ⟨_,[cOwn (α:=Span) 31 aa l,cBlk ah [aa] 61,cBlk ak [Pq ai] 60,cBlk ac [ag] 61,cOwn (α:=Span) 31 ag r2],H.unbundle.pick [0,3,1,2,4,5,6] (by decide) rfl,aP.nb,?_⟩
  intro cj H
  rw [aP.pd]
  replace H:=H.nf
  try simp only []
  refine WD.seq<|WD.of<|W.region rfl<|s_val (x_mf (fs:=[]) (cs:=[Pq ac]) rfl rfl) ?_;refine kg 2 ?_;refine WD.seq<|WD.seq<|WD.of ?_
  have ck:=((H.os 1)).len_le
  refine kg 5 ?_;refine WD.block ?_;obtain ⟨bw,aQ,bx⟩:=M.e_bind hM
  obtain ⟨bz,aQ⟩:=M.e_iter aQ
  refine WD.loop (fun m aR σ W=>∃ (l2:List Span) (s:Nat) (aj:Value) (ρ:Env),σ=upds ρ [(6,Pq ac),(7,Pq ah),(10,.func (.func 44) #[] #[Pq ac]),(25,aa),(26,I (l.length:Int)),(27,I (s:Int))]/\M.iterN (zas l) m (l2,s)=some bw/\St w W [cMk aR,cOwn (α:=Span) 31 aa l,cBlk ah [aa] 61,cBlk ak [Pq ai] 60,cBlk ac [aj] 61,cOwn (α:=Span) 31 aj l2] R) ?_ ?_
  ·exact ⟨_,r2,0,ag,_,upds_of _ _ ⟨rfl,rfl,rfl,rfl,rfl,rfl,trivial⟩,aQ,H⟩
  rintro cl aR σ cm ⟨l2,s,aj,ρ,rfl,ba,H⟩
  obtain ⟨bA,bB,cn,hM,bb⟩:=M.e_iterN ba
  simp only [zas] at hM
  clear ba;refine WD.seq<|WD.of ?_;refine kg 3 ?_;refine WD.seq ?_
  refine WD.cond (decide ((s:Int)<(l.length:Int))) rfl (fun ao=>?_) (fun ao=>?_)
  ·replace hM:=M.e_t hM ao
   replace ao:=dI ao
   refine WD.of<|W.skip<|WD.seq<|WD.block<|WD.seq<|WD.of ?_;obtain ⟨co,hM⟩:=M.e_gd hM;refine kg 4 ?_;refine t_alloc (cs:=[I 0,I 0]) H Al31 rfl ?_;intro aS cp H;refine kg 1 ?_;refine t_sw 0 0 [I ((l.getD s default).lo),I ((l.getD s default).hi)] (.agg #[I ((l.getD s default).lo),I ((l.getD s default).hi)]) H rfl rfl Sz31 rfl rfl rfl rfl ?_;intro cq H;refine s_nil<|WD.of ?_;refine W.drawTS (fun W=>St w W [cBlk aS [I ((l.getD s default).lo),I ((l.getD s default).hi)] 31,cMk aR,cOwn (α:=Span) 31 aa l,cBlk ah [aa] 61,cBlk ak [Pq ai] 60,cBlk ac [aj] 61,cOwn (α:=Span) 31 aj l2] R) (.q 0 (.q 1 (.q 2 (.q 3 (.q 4 (.q 5 (.q 6 (.q 7 (.q 8 (.q 9 (.q 10 (.q 11 (.q 12 (.q 13 (.q 14 (.q 15 (.q 16 (.q 17 (.q 18 (.q 19 .nil)))))))))))))))))))) 20 [20] mixed (by decide +kernel) rfl ?_;intro cr al;replace H:=H.ext al;clear al
   refine ⟨(H.pk [0,1,2,3,4,5,6]),?_⟩
   refine ts_q rfl (fun w' H=>x_mv (v:=.func (.func 44) #[] #[Pq ac]) rfl) ?_;refine ts_q rfl (fun w' H=>x_mv (v:=I (s:Int)) rfl) ?_;refine ts_q rfl (fun w' H=>x_ari (r:=(s:Int)+1) rfl rfl rfl (by omega)) ?_;refine ts_q rfl (fun w' H=>x_ld (v:=aj) rfl (ldb_sc Sc61 (H.bl 5) rfl)) ?_;refine ts_q rfl (fun w' H=>x_mv (v:=I (s:Int)) rfl) ?_;obtain ⟨cu,hM⟩:=M.e_gd hM;refine ts_q rfl (fun w' H=>x_ix (v:=vat aj 2 (Int.toNat (s:Int))) rfl rfl (Sl.ix (α:=Span) T61.und T61.size (H.os 6) (by omega) (by omega))) ?_;refine ts_q rfl (fun w' H=>x_fa (v:=fat (vat aj 2 (Int.toNat (s:Int))) 0) rfl (fa_pl Fd31_0 Sz3 (Sl.pl (i:=(s:Int)) (H.os 6) (by omega) (by omega)))) ?_;refine ts_q rfl (fun w' H=>x_ld (v:=I ((l2.getD s default).lo)) rfl (ld_sc Sc3 (At.mono (Span_at0 (H.os 6) (i:=(s:Int)) (by omega) (by omega)) (H.ol 6)))) ?_;refine ts_q rfl (fun w' H=>x_fa (v:=Pq aS) rfl (fa_blk (o:=0) Fd31_0 Sz3)) ?_;refine ts_q rfl (fun w' H=>x_ld (v:=I ((l.getD s default).lo)) rfl (ldb_sc Sc3 (H.bl 0) rfl)) ?_;obtain ⟨cv,hM⟩:=M.e_gd hM;refine ts_q rfl (fun w' H=>x_ari (r:=((l2.getD s default).lo)+((l.getD s default).lo)) rfl rfl rfl (by omega)) ?_;refine ts_q rfl (fun w' H=>x_ld (v:=aj) rfl (ldb_sc Sc61 (H.bl 5) rfl)) ?_;refine ts_q rfl (fun w' H=>x_mv (v:=I (s:Int)) rfl) ?_;refine ts_q rfl (fun w' H=>x_ix (v:=vat aj 2 (Int.toNat (s:Int))) rfl rfl (Sl.ix (α:=Span) T61.und T61.size (H.os 6) (by omega) (by omega))) ?_;refine ts_q rfl (fun w' H=>x_fa (v:=fat (vat aj 2 (Int.toNat (s:Int))) 1) rfl (fa_pl Fd31_1 Sz3 (Sl.pl (i:=(s:Int)) (H.os 6) (by omega) (by omega)))) ?_;refine ts_q rfl (fun w' H=>x_ld (v:=I ((l2.getD s default).hi)) rfl (ld_sc Sc3 (At.mono (Span_at1 (H.os 6) (i:=(s:Int)) (by omega) (by omega)) (H.ol 6)))) ?_;refine ts_q rfl (fun w' H=>x_fa (v:=Oq aS 1) rfl (fa_blk (o:=0) Fd31_1 Sz3)) ?_;refine ts_q rfl (fun w' H=>x_ld (v:=I ((l.getD s default).hi)) rfl (ldb_sc Sc3 (H.bl 0) rfl)) ?_;obtain ⟨cx,hM⟩:=M.e_gd hM;refine ts_q rfl (fun w' H=>x_ari (r:=((l2.getD s default).hi)+((l.getD s default).hi)) rfl rfl rfl (by omega)) ?_;refine ts_q rfl (fun w' H=>x_bld (ps:=[(0,I (((l2.getD s default).lo)+((l.getD s default).lo))),(1,I (((l2.getD s default).hi)+((l.getD s default).hi)))]) (zs:=[I 0,I 0]) (L':=[I (((l2.getD s default).lo)+((l.getD s default).lo)),I (((l2.getD s default).hi)+((l.getD s default).hi))]) rfl Tryz.underlying31 Al31 rfl (Bd31 Tryz.underlying31) (.cons (cs:=[I (((l2.getD s default).lo)+((l.getD s default).lo))]) rfl rfl rfl rfl rfl<|.cons (cs:=[I (((l2.getD s default).hi)+((l.getD s default).hi))]) rfl rfl rfl rfl rfl<|.nil)) ?_;refine ts_nil ?_;refine sr_l rfl ?_;obtain ⟨cy,bC,hM⟩:=M.e_bind hM;refine s_callv (f:=44) rfl cf44 [I ((s:Int)+1),.agg #[I (((l2.getD s default).lo)+((l.getD s default).lo)),I (((l2.getD s default).hi)+((l.getD s default).hi))]] rfl (zcY ((s:Int)+1) (⟨(((l2.getD s default).lo)+((l.getD s default).lo):Int),(((l2.getD s default).hi)+((l.getD s default).hi):Int)⟩:Span) l2 bC _ ((H.pk [6,5,0,1,2,3,4]).gt 5)) ?_
   rintro vq cz ⟨l_k02,bD,rfl,hvq,ab⟩
   subst vq;(try dsimp only at hM)
   replace H:=H.pk [6,5,0,1,2,3,4] |>.bk ab
   clear ab
   refine s_nil ⟨trivial,?_⟩
   refine sr_nil<|WD.of ?_;refine kg 4 ?_
   exact ⟨bA,bB,l_k02,s+1,bD,_,upds_of _ _ ⟨rfl,rfl,rfl,rfl,rfl,rfl,trivial⟩,M.e_inl hM bb,(H.pk [3,4,5,6,1,0])⟩
  replace hM:=M.e_f hM ao
  replace ao:=dI ao
  refine WD.of ?_;refine W.exit ?_
  have bE:=M.e_inr hM bb
  subst bE;replace hM:=bx;(try dsimp only at hM);refine WD.seq<|WD.seq<|WD.of ?_
  have cB:=((H.os 1)).len_le
  refine kg 6 ?_;refine WD.block ?_;obtain ⟨bF,aT,bG⟩:=M.e_bind hM
  obtain ⟨bz,aT⟩:=M.e_iter aT
  refine WD.loop (fun m aI σ W=>∃ (l5:List Span) (g:Int) (ae:Value) (ρ:Env),σ=upds ρ [(6,Pq ac),(7,Pq ah),(10,.func (.func 44) #[] #[Pq ac]),(13,I g)]/\M.iterN (zav l) m (l5,g)=some bF/\St w W [cMk aI,cOwn (α:=Span) 31 aa l,cBlk ah [aa] 61,cBlk ak [Pq ai] 60,cBlk ac [ae] 61,cOwn (α:=Span) 31 ae l5] R) ?_ ?_
  ·exact ⟨_,l2,(l.length:Int)-1,aj,_,upds_of _ _ ⟨rfl,rfl,rfl,rfl,trivial⟩,aT,H⟩
  rintro cC aI σ cD ⟨l5,g,ae,ρ,rfl,bc,H⟩
  obtain ⟨bH,bI,cE,hM,bf⟩:=M.e_iterN bc
  simp only [zav] at hM
  clear bc;refine WD.seq<|WD.seq<|WD.of ?_;refine kg 4 ?_
  refine WD.cond (decide (0<=g)) rfl (fun ap=>?_) (fun ap=>?_)
  ·replace hM:=M.e_t hM ap
   replace ap:=dI ap
   refine WD.of<|W.skip<|WD.seq<|WD.block<|WD.of ?_;refine W.drawTS (fun W=>St w W [cMk aI,cOwn (α:=Span) 31 aa l,cBlk ah [aa] 61,cBlk ak [Pq ai] 60,cBlk ac [ae] 61,cOwn (α:=Span) 31 ae l5] R) (.q 0 (.q 1 (.q 2 (.q 3 (.q 4 (.q 5 (.q 6 (.q 7 (.q 8 (.q 9 (.q 10 (.q 11 (.q 12 (.q 13 (.q 14 (.q 15 (.q 16 (.q 17 (.q 18 (.q 19 (.q 20 (.q 21 (.q 22 (.q 23 (.q 24 (.q 25 (.q 26 .nil))))))))))))))))))))))))))) 27 [27] mixed (by decide +kernel) rfl ?_;intro cF al;replace H:=H.ext al;clear al
   refine ⟨(H.pk [0,1,2,3,4,5]),?_⟩
   refine ts_q rfl (fun w' H=>x_mv (v:=.func (.func 44) #[] #[Pq ac]) rfl) ?_;refine ts_q rfl (fun w' H=>x_mv (v:=I g) rfl) ?_;refine ts_q rfl (fun w' H=>x_ld (v:=ae) rfl (ldb_sc Sc61 (H.bl 4) rfl)) ?_;refine ts_q rfl (fun w' H=>x_mv (v:=I g) rfl) ?_;obtain ⟨cG,hM⟩:=M.e_gd hM;refine ts_q rfl (fun w' H=>x_ari (r:=g+1) rfl rfl rfl (by omega)) ?_;obtain ⟨cH,hM⟩:=M.e_gd hM;refine ts_q rfl (fun w' H=>x_ix (v:=vat ae 2 (Int.toNat (g+1))) rfl rfl (Sl.ix (α:=Span) T61.und T61.size (H.os 5) (by omega) (by omega))) ?_;refine ts_q rfl (fun w' H=>x_fa (v:=fat (vat ae 2 (Int.toNat (g+1))) 0) rfl (fa_pl Fd31_0 Sz3 (Sl.pl (i:=g+1) (H.os 5) (by omega) (by omega)))) ?_;refine ts_q rfl (fun w' H=>x_ld (v:=I ((l5.getD (Int.toNat (g+1)) default).lo)) rfl (ld_sc Sc3 (At.mono (Span_at0 (H.os 5) (i:=g+1) (by omega) (by omega)) (H.ol 5)))) ?_;refine ts_q rfl (fun w' H=>x_ld (v:=aa) rfl (ldb_sc Sc61 (H.bl 2) rfl)) ?_;refine ts_q rfl (fun w' H=>x_mv (v:=I g) rfl) ?_;obtain ⟨cI,hM⟩:=M.e_gd hM;refine ts_q rfl (fun w' H=>x_ix (v:=vat aa 2 (Int.toNat g)) rfl rfl (Sl.ix (α:=Span) T61.und T61.size (H.os 1) (by omega) (by omega))) ?_;refine ts_q rfl (fun w' H=>x_fa (v:=fat (vat aa 2 (Int.toNat g)) 1) rfl (fa_pl Fd31_1 Sz3 (Sl.pl (i:=g) (H.os 1) (by omega) (by omega)))) ?_;refine ts_q rfl (fun w' H=>x_ld (v:=I ((l.getD (Int.toNat g) default).hi)) rfl (ld_sc Sc3 (At.mono (Span_at1 (H.os 1) (i:=g) (by omega) (by omega)) (H.ol 1)))) ?_;obtain ⟨cJ,hM⟩:=M.e_gd hM;refine ts_q rfl (fun w' H=>x_ari (r:=((l5.getD (Int.toNat (g+1)) default).lo)-((l.getD (Int.toNat g) default).hi)) rfl rfl rfl (by omega)) ?_;refine ts_q rfl (fun w' H=>x_ld (v:=ae) rfl (ldb_sc Sc61 (H.bl 4) rfl)) ?_;refine ts_q rfl (fun w' H=>x_mv (v:=I g) rfl) ?_;refine ts_q rfl (fun w' H=>x_ari (r:=g+1) rfl rfl rfl (by omega)) ?_;refine ts_q rfl (fun w' H=>x_ix (v:=vat ae 2 (Int.toNat (g+1))) rfl rfl (Sl.ix (α:=Span) T61.und T61.size (H.os 5) (by omega) (by omega))) ?_;refine ts_q rfl (fun w' H=>x_fa (v:=fat (vat ae 2 (Int.toNat (g+1))) 1) rfl (fa_pl Fd31_1 Sz3 (Sl.pl (i:=g+1) (H.os 5) (by omega) (by omega)))) ?_;refine ts_q rfl (fun w' H=>x_ld (v:=I ((l5.getD (Int.toNat (g+1)) default).hi)) rfl (ld_sc Sc3 (At.mono (Span_at1 (H.os 5) (i:=g+1) (by omega) (by omega)) (H.ol 5)))) ?_;refine ts_q rfl (fun w' H=>x_ld (v:=aa) rfl (ldb_sc Sc61 (H.bl 2) rfl)) ?_;refine ts_q rfl (fun w' H=>x_mv (v:=I g) rfl) ?_;refine ts_q rfl (fun w' H=>x_ix (v:=vat aa 2 (Int.toNat g)) rfl rfl (Sl.ix (α:=Span) T61.und T61.size (H.os 1) (by omega) (by omega))) ?_;refine ts_q rfl (fun w' H=>x_fa (v:=fat (vat aa 2 (Int.toNat g)) 0) rfl (fa_pl Fd31_0 Sz3 (Sl.pl (i:=g) (H.os 1) (by omega) (by omega)))) ?_;refine ts_q rfl (fun w' H=>x_ld (v:=I ((l.getD (Int.toNat g) default).lo)) rfl (ld_sc Sc3 (At.mono (Span_at0 (H.os 1) (i:=g) (by omega) (by omega)) (H.ol 1)))) ?_;obtain ⟨cK,hM⟩:=M.e_gd hM;refine ts_q rfl (fun w' H=>x_ari (r:=((l5.getD (Int.toNat (g+1)) default).hi)-((l.getD (Int.toNat g) default).lo)) rfl rfl rfl (by omega)) ?_;refine ts_q rfl (fun w' H=>x_bld (ps:=[(0,I (((l5.getD (Int.toNat (g+1)) default).lo)-((l.getD (Int.toNat g) default).hi))),(1,I (((l5.getD (Int.toNat (g+1)) default).hi)-((l.getD (Int.toNat g) default).lo)))]) (zs:=[I 0,I 0]) (L':=[I (((l5.getD (Int.toNat (g+1)) default).lo)-((l.getD (Int.toNat g) default).hi)),I (((l5.getD (Int.toNat (g+1)) default).hi)-((l.getD (Int.toNat g) default).lo))]) rfl Tryz.underlying31 Al31 rfl (Bd31 Tryz.underlying31) (.cons (cs:=[I (((l5.getD (Int.toNat (g+1)) default).lo)-((l.getD (Int.toNat g) default).hi))]) rfl rfl rfl rfl rfl<|.cons (cs:=[I (((l5.getD (Int.toNat (g+1)) default).hi)-((l.getD (Int.toNat g) default).lo))]) rfl rfl rfl rfl rfl<|.nil)) ?_;refine ts_nil ?_;refine sr_l rfl ?_;obtain ⟨cL,bJ,hM⟩:=M.e_bind hM;refine s_callv (f:=44) rfl cf44 [I g,.agg #[I (((l5.getD (Int.toNat (g+1)) default).lo)-((l.getD (Int.toNat g) default).hi)),I (((l5.getD (Int.toNat (g+1)) default).hi)-((l.getD (Int.toNat g) default).lo))]] rfl (zcY g (⟨(((l5.getD (Int.toNat (g+1)) default).lo)-((l.getD (Int.toNat g) default).hi):Int),(((l5.getD (Int.toNat (g+1)) default).hi)-((l.getD (Int.toNat g) default).lo):Int)⟩:Span) l5 bJ _ ((H.pk [5,4,0,1,2,3]).gt 4)) ?_
   rintro vq cM ⟨l_k022,bK,rfl,hvq,ab⟩
   subst vq;(try dsimp only at hM)
   replace H:=H.pk [5,4,0,1,2,3] |>.bk ab
   clear ab
   refine s_nil ⟨trivial,?_⟩
   refine sr_nil<|WD.of ?_;obtain ⟨cN,hM⟩:=M.e_gd hM;refine kg 5 ?_
   exact ⟨bH,bI,l_k022,g-1,bK,_,upds_of _ _ ⟨rfl,rfl,rfl,rfl,trivial⟩,M.e_inl hM bf,(H.pk [2,3,4,5,1,0])⟩
  replace hM:=M.e_f hM ap
  replace ap:=dI ap
  refine WD.of ?_;refine W.exit ?_
  have bL:=M.e_inr hM bf
  subst bL;replace hM:=bG;(try dsimp only at hM);replace H:=H.pk [0,4,5];refine WD.seq<|WD.of ?_;refine W.draw (fun W=>St w W [cMk aI,cBlk ac [ae] 61,cOwn (α:=Span) 31 ae l5] R) [(0,true),(1,true),(2,false),(3,true),(4,true)] mixed (by decide +kernel) rfl ?_;intro cO al;replace H:=H.ext al;clear al
  refine ⟨(H.pk [0,1,2]),?_⟩
  refine kg 2 ?_;refine d_l rfl ?_;obtain ⟨cP,bM,hM⟩:=M.e_bind hM;refine s_call cf46 [ae,.func (.func 47) #[] #[]] rfl (zc8 l5 (fun aU=>zbL aU) (rdo 2) (H.os 2) ⟨47,[],rfl,cf47,fun bg cQ cR bN aU cS bO cT bP bQ=>by obtain rfl:=Span_arg bP; exact (zdv aU bQ bg (St.refl bO)).mono fun bN bg ⟨cU,bR,bS,bT⟩=>by subst bR; exact ⟨bS,bT⟩⟩ bM _ (H.gt 3)) ?_
  rintro vq cV ⟨r3,rfl,hvq,ab⟩
  subst vq;(try dsimp only at hM);replace H:=H.bk ab;clear ab
  refine s_nil ⟨(H.pk [0,1,2]),?_⟩
  refine kg 3 ?_;refine WD.of ?_;refine W.ret ?_;refine bodyD_r (H.pk [0,1,2]) ?_;intro cW H;replace H:=H.nf
  have bU:=M.e_pure hM
  exact ⟨_,resE_tmp2 rfl,⟨l5,r3,ae,bU,rfl,(H.pk [1])⟩⟩
 obtain ⟨_,_,h_⟩:=a8; exact h_.elim

def zbW (aa ab ac ae ag:Int) (ah:List CMk) (ai:List CNt) (aj:List (Int × CNt)) (ak:List Bool):M ((List Span) × Bool) :=
  M.bind (zbf aa ab ac ae ag ah ai aj) fun (r0,r1) =>
  bif !r1 then (
  M.pure (([]),false))
  else (
  M.bind (zbM aa ab ac ae ag ah ai aj) fun r2 =>
  M.bind (zak aa ab ac ae ag ah ai aj ak r2) fun (al,am) =>
  M.pure (al,am))
theorem zdj {R:List Chunk} {ab:Nat} {ay:Cells} {az:Value} {aA:Cells} {aB:Value} {aC:Nat} (ac:Int) (ae:Int) (ag:Int) (ah:Int) (ai:Int) (aj:List CMk) (ak:List CNt) (al:List (Int × CNt)) (am:List Bool) (ao:Reads R ay) (ap:Sl ay az aj) (aq:Reads R aA) (ar:Sl aA aB ak) (au:Has R (cMl I encCN aC al)) (aD:am.length=40) (av:Has R (cBlk ab (List.flatten [[I ac,I ae,I ag,I ah,I ai,az,aB,.map (some aC)],encF (α:=Bool) am]) 143)) {r:((List Span) × Bool)} (hM:(zbW ac ae ag ah ai aj ak al am).Ends r) (w:World) (H:St w w [] R):Ret Tryz.prog 40 #[Pq ab] w fun v w'=>∃ (y0:List Span) (y1:Bool) (u0:Value),(y0,y1)=r/\v = .tuple #[u0,B y1]/\St w w' [cOwn (α:=Span) 31 u0 y0] R:=by
 refine ret_of_W Tryz.func40 rfl rfl rfl ?_;refine kg 9 ?_;obtain ⟨aL,aE,hM⟩:=M.e_bind hM;refine s_call cf41 [Pq ab] rfl (zcM ac ae ag ah ai aj ak al (ao.app _) ap (aq.app _) ar (au.app _) (Fld.of (av.app _) rfl) aE _ (H.gt 0)) ?_
 rintro vq aM ⟨r0,r1,aN,rfl,hvq,aa⟩
 subst vq;(try dsimp only at hM);replace H:=H.bk aa;clear aa;refine kg 11 ?_
 refine W.cond (!r1) rfl (fun aw=>?_) (fun aw=>?_)
 ·replace hM:=M.e_t hM aw;refine kg 5 ?_;refine W.ret ?_
  have ax:=M.e_pure hM
  replace H:=H.nilOwn (α:=Span) 31
  exact ⟨_,resE_tmp2 rfl,⟨([]),false,(.slice none 0 0),ax,rfl,(H.pk [0])⟩⟩
 replace hM:=M.e_f hM aw;refine kg 5 ?_;obtain ⟨aO,aF,hM⟩:=M.e_bind hM;refine s_call cf74 [Pq ab] rfl (zdL ac ae ag ah ai aj ak al (ao.app _) ap (aq.app _) ar (au.app _) (Fld.of (av.app _) rfl) aF _ (H.gt 1)) ?_
 rintro vq aP ⟨r2,aG,rfl,hvq,aa⟩
 subst vq;(try dsimp only at hM);replace H:=H.bk aa;clear aa;obtain ⟨aQ,aH,hM⟩:=M.e_bind hM;refine s_call cf15 [Pq ab,aG] rfl (zcQ ac ae ag ah ai aj ak al am r2 (ao.app _) ap (aq.app _) ar (au.app _) aD (av.app _) (rdo 0) (H.os 0) aH _ (H.gt 2)) ?_
 rintro vq aR ⟨aI,aJ,aK,rfl,hvq,aa⟩
 subst vq;(try dsimp only at hM);replace H:=H.bk aa;clear aa;refine kg 5 ?_;replace H:=H.pk [0];refine W.ret ?_
 have ax:=M.e_pure hM
 exact ⟨_,resE_tmp2 rfl,⟨aI,aJ,aK,ax,rfl,H⟩⟩

def zbD (c_Pace_Lo c_Pace_Hi c_Base c_Scale c_Off:Int) (c_Marks:List CMk) (c_Notes:List CNt) (stops:List Int):M (Int ⊕ (Int × Int × Int × Int × Int × (List (Int × CNt)) × (List Bool) × (List Span) × (List Span) × Int)) :=
  M.bind (zbG c_Pace_Lo c_Pace_Hi c_Base c_Scale c_Off c_Marks c_Notes stops) fun (aa,ab,ac,ae,ag,ah,ai,r1) =>
  bif r1 != 0 then (
  M.pure (.inl r1))
  else (
  M.bind (zbW aa ab ac ae ag c_Marks c_Notes ah ai) fun (r0,aj) =>
  bif !aj then (
  M.pure (.inl 6))
  else (
  M.bind (zbf aa ab ac ae ag c_Marks c_Notes ah) fun (ak,al) =>
  M.pure (.inr (aa,ab,ac,ae,ag,ah,ai,r0,ak,0))))
theorem zdn {R:List Chunk} {ax:Cells} {ac:Value} {ay:Cells} {ae:Value} {az:Cells} {ah:Value} (c_Pace_Lo:Int) (c_Pace_Hi:Int) (c_Base:Int) (c_Scale:Int) (c_Off:Int) (c_Marks:List CMk) (c_Notes:List CNt) (stops:List Int) (ai:Reads R ax) (aj:Sl ax ac c_Marks) (ak:Reads R ay) (al:Sl ay ae c_Notes) (aE:Reads R az) (aF:Sl az ah stops) {r:(Int ⊕ (Int × Int × Int × Int × Int × (List (Int × CNt)) × (List Bool) × (List Span) × (List Span) × Int))} (hM:(zbD c_Pace_Lo c_Pace_Hi c_Base c_Scale c_Off c_Marks c_Notes stops).Ends r) (w:World) (H:St w w [] R):Ret Tryz.prog 14 #[.agg #[I c_Pace_Lo,I c_Pace_Hi,I c_Base,I c_Scale,I c_Off,ac,ae],ah] w fun v w'=>(∃ (y0:Int),(.inl y0)=r/\v = .tuple #[.pointer none,.slice none 0 0,.slice none 0 0,I y0]/\St w w' [] R)∨(∃ (y0:Int) (y1:Int) (y2:Int) (y3:Int) (y4:Int) (y5:List (Int × CNt)) (y6:List Bool) (y7:List Span) (y8:List Span) (y9:Int) (aA:Nat) (aB:Nat) (u2:Value) (u3:Value),(.inr (y0,y1,y2,y3,y4,y5,y6,y7,y8,y9))=r/\v = .tuple #[Pq aA,u2,u3,I y9]/\St w w' [cBlk aA (List.flatten [[I y0,I y1,I y2,I y3,I y4,ac,ae,.map (some aB)],encF (α:=Bool) y6]) 143,cMl I encCN aB y5,cOwn (α:=Span) 31 u2 y7,cOwn (α:=Span) 31 u3 y8] R/\y6.length=40):=by
 refine ret_of_W Tryz.func14 rfl rfl rfl ?_;refine kg 2 ?_;refine t_bx [I c_Pace_Lo,I c_Pace_Hi,I c_Base,I c_Scale,I c_Off,ac,ae] H rfl ?_;intro aO aP H;refine kg 9 ?_;obtain ⟨aQ,aG,hM⟩:=M.e_bind hM;refine s_call cf39 [.agg #[I c_Pace_Lo,I c_Pace_Hi,I c_Base,I c_Scale,I c_Off,ac,ae],ah] rfl (zd7 c_Pace_Lo c_Pace_Hi c_Base c_Scale c_Off c_Marks c_Notes stops (ai.app _) aj (ak.app _) al (aE.app _) aF aG _ (H.gt 1)) ?_
 rintro vq aR ⟨am,ao,ap,aq,ar,au,aC,r1,av,aH,rfl,hvq,aa,aD⟩
 subst vq;(try dsimp only at hM);replace H:=H.bk aa;clear aa;refine kg 12 ?_
 refine W.cond (r1 != 0) rfl (fun ab=>?_) (fun ab=>?_)
 ·replace hM:=M.e_t hM ab
  replace ab:=dI ab
  refine kg 8 ?_;replace H:=H.pk [];refine W.ret ?_
  have ag:=M.e_pure hM
  exact ⟨_,resE_tmp4 rfl,.inl (⟨r1,ag,rfl,H⟩)⟩
 replace hM:=M.e_f hM ab
 replace ab:=dI ab
 refine kg 4 ?_;obtain ⟨aS,aI,hM⟩:=M.e_bind hM;refine s_call cf40 [Pq av] rfl (zdj am ao ap aq ar c_Marks c_Notes au aC (ai.app _) aj (ak.app _) al (Has.here (k:=1) rfl) aD (Has.here (k:=0) rfl) aI _ (H.gt 3)) ?_
 rintro vq aT ⟨r0,aJ,aK,rfl,hvq,aa⟩
 subst vq;(try dsimp only at hM);replace H:=H.bk aa;clear aa;refine kg 12 ?_
 refine W.cond (!aJ) rfl (fun aw=>?_) (fun aw=>?_)
 ·replace hM:=M.e_t hM aw;refine kg 7 ?_;replace H:=H.pk [];refine W.ret ?_
  have ag:=M.e_pure hM
  exact ⟨_,resE_tmp4 rfl,.inl (⟨6,ag,rfl,H⟩)⟩
 replace hM:=M.e_f hM aw;refine kg 4 ?_;obtain ⟨aU,aL,hM⟩:=M.e_bind hM;refine s_call cf41 [Pq av] rfl (zcM am ao ap aq ar c_Marks c_Notes au (ai.app _) aj (ak.app _) al (Has.here (k:=2) rfl) (Fld.here (k:=1) rfl rfl) aL _ (H.gt 4)) ?_
 rintro vq aV ⟨aM,aW,aN,rfl,hvq,aa⟩
 subst vq;(try dsimp only at hM);replace H:=H.bk aa;clear aa;refine kg 16 ?_;refine W.ret ?_
 have ag:=M.e_pure hM
 exact ⟨_,resE_tmp4 rfl,.inr (⟨am,ao,ap,aq,ar,au,aC,r0,aM,0,av,aH,aK,aN,ag,rfl,(H.pk [2,3,1,0]),aD⟩)⟩

end Go.Proofs.YtdmdhmineljlhaaGreat
end
section
set_option maxRecDepth 100000
set_option maxHeartbeats 16000000
namespace Go.Proofs.YtdmdhmineljlhaaGreat
open Go Go.Nm
attribute [local irreducible] gd execOp SL SLD SLT WR
def zaU (aa ab ac ae ag:Int) (ah:List CMk) (ai:List CNt) (aj:List (Int × CNt)) (times:List Span) (mark ahead behind:Int):M (List Span) :=
  M.bind (zb3 times) fun r2 =>
  bif decide (0<mark) then (
  M.grd (decide ((-9223372036854775808:Int)<=(mark-1))&&decide ((mark-1)<=(9223372036854775807:Int))) <|
  M.grd (decide ((0:Int)<=(mark-1))&&decide ((mark-1)<(r2.length:Int))) <|
  bif decide (mark<((r2.set (Int.toNat (mark-1)) ({ (r2.getD (Int.toNat (mark-1)) default) with hi:=min ((r2.getD (Int.toNat (mark-1)) default).hi) ahead })).length:Int)) then (
  M.grd (decide ((0:Int)<=mark)&&decide (mark<((r2.set (Int.toNat (mark-1)) ({ (r2.getD (Int.toNat (mark-1)) default) with hi:=min ((r2.getD (Int.toNat (mark-1)) default).hi) ahead })).length:Int))) <|
  M.pure ((r2.set (Int.toNat (mark-1)) ({ (r2.getD (Int.toNat (mark-1)) default) with hi:=min ((r2.getD (Int.toNat (mark-1)) default).hi) ahead })).set (Int.toNat mark) ({ ((r2.set (Int.toNat (mark-1)) ({ (r2.getD (Int.toNat (mark-1)) default) with hi:=min ((r2.getD (Int.toNat (mark-1)) default).hi) ahead })).getD (Int.toNat mark) default) with lo:=max (((r2.set (Int.toNat (mark-1)) ({ (r2.getD (Int.toNat (mark-1)) default) with hi:=min ((r2.getD (Int.toNat (mark-1)) default).hi) ahead })).getD (Int.toNat mark) default).lo) behind })))
  else (
  M.pure (r2.set (Int.toNat (mark-1)) ({ (r2.getD (Int.toNat (mark-1)) default) with hi:=min ((r2.getD (Int.toNat (mark-1)) default).hi) ahead }))))
  else (
  bif decide (mark<(r2.length:Int)) then (
  M.grd (decide ((0:Int)<=mark)&&decide (mark<(r2.length:Int))) <|
  M.pure (r2.set (Int.toNat mark) ({ (r2.getD (Int.toNat mark) default) with lo:=max ((r2.getD (Int.toNat mark) default).lo) behind })))
  else (
  M.pure r2))
theorem zcE {R:List Chunk} {ai:Nat} {aj:Cells} {ak:Value} {al:Cells} {am:Value} {ao:Nat} {ap:Cells} {ah:Value} (aq:Int) (ar:Int) (au:Int) (av:Int) (aw:Int) (ax:List CMk) (ay:List CNt) (az:List (Int × CNt)) (times:List Span) (mark:Int) (ahead:Int) (behind:Int) (aE:Reads R aj) (aF:Sl aj ak ax) (aG:Reads R al) (aH:Sl al am ay) (aI:Has R (cMl I encCN ao az)) (aJ:Fld R ai [I aq,I ar,I au,I av,I aw,ak,am,.map (some ao)]) (aB:Reads R ap) (aC:Sl ap ah times) {r:(List Span)} (hM:(zaU aq ar au av aw ax ay az times mark ahead behind).Ends r) (w:World) (H:St w w [] R):Ret Tryz.prog 48 #[Pq ai,ah,I mark,I ahead,I behind] w fun v w'=>∃ (y0:List Span) (u0:Value),y0=r/\v=u0/\St w w' [cOwn (α:=Span) 31 u0 y0] R:=by
 refine ret_of_W Tryz.func48 rfl rfl rfl<|W.seq<|W.region rfl<|zA (.slice none 0 0) rfl<|s_nil<|W.seq<|W.region rfl<|zM ah rfl ?_;obtain ⟨aK,aD,hM⟩:=M.e_bind hM;refine s_call cf42 [ah] rfl (zc7 times (aB.app _) aC aD _ (H.gt 0)) ?_
 rintro vq aL ⟨r2,aa,rfl,hvq,aA⟩
 subst vq;(try dsimp only at hM);replace H:=H.bk aA;clear aA;refine zA aa rfl<|s_nil<|W.seq<|W.seq<|W.region rfl<|zM (I mark) rfl<|zC mark 0 (decide (0<mark)) rfl rfl rfl<|s_nil ?_
 refine W.cond (decide (0<mark)) rfl (fun ab=>?_) (fun ab=>?_)
 ·replace hM:=M.e_t hM ab
  replace ab:=dI ab
  refine W.region rfl<|zM aa rfl<|zM (I mark) rfl ?_;obtain ⟨aM,hM⟩:=M.e_gd hM;refine zR mark 1 (mark-1) rfl rfl rfl (by omega)<|zM aa rfl<|zM (I mark) rfl<|zR mark 1 (mark-1) rfl rfl rfl (by omega) ?_;obtain ⟨aN,hM⟩:=M.e_gd hM;refine s_val (x_ix (v:=vat aa 2 (Int.toNat (mark-1))) rfl rfl (Sl.ix (α:=Span) T61.und T61.size (H.os 0) (by omega) (by omega)))<|s_val (x_fa (v:=fat (vat aa 2 (Int.toNat (mark-1))) 1) rfl (fa_pl Fd31_1 Sz3 (Sl.pl (i:=mark-1) (H.os 0) (by omega) (by omega))))<|s_val (x_ld (v:=I ((r2.getD (Int.toNat (mark-1)) default).hi)) rfl (ld_sc Sc3 (At.mono (Span_at1 (H.os 0) (i:=mark-1) (by omega) (by omega)) (H.ol 0))))<|zM (I ahead) rfl<|s_val (x_min (kd:=.i64) (a:=(r2.getD (Int.toNat (mark-1)) default).hi) (b:=ahead) rfl rfl)<|s_val (x_ix (v:=vat aa 2 (Int.toNat (mark-1))) rfl rfl (Sl.ix (α:=Span) T61.und T61.size (H.os 0) (by omega) (by omega)))<|s_val (x_fa (v:=fat (vat aa 2 (Int.toNat (mark-1))) 1) rfl (fa_pl Fd31_1 Sz3 (Sl.pl (i:=mark-1) (H.os 0) (by omega) (by omega)))) ?_;refine t_fst (α:=Span) (k:=0) (i:=mark-1) (off:=1) (l:=r2) (l':=r2.set (Int.toNat (mark-1)) ({ (r2.getD (Int.toNat (mark-1)) default) with hi:=min ((r2.getD (Int.toNat (mark-1)) default).hi) ahead })) (val:=I (min ((r2.getD (Int.toNat (mark-1)) default).hi) ahead)) (L':=[cOwn (α:=Span) 31 aa (r2.set (Int.toNat (mark-1)) ({ (r2.getD (Int.toNat (mark-1)) default) with hi:=min ((r2.getD (Int.toNat (mark-1)) default).hi) ahead }))]) H rfl Sz3 (by omega) (by omega) (r2.getD (Int.toNat (mark-1)) default) ({ (r2.getD (Int.toNat (mark-1)) default) with hi:=min ((r2.getD (Int.toNat (mark-1)) default).hi) ahead }) (getD_some _ (by first | omega | (simp only [List.length_set] at *; omega)) _) rfl rfl [I (min ((r2.getD (Int.toNat (mark-1)) default).hi) ahead)] rfl rfl rfl rfl rfl rfl rfl ?_;intro aO H
  have aP:(r2.set (Int.toNat (mark-1)) ({ (r2.getD (Int.toNat (mark-1)) default) with hi:=min ((r2.getD (Int.toNat (mark-1)) default).hi) ahead })).length=(r2).length:=List.length_set
  refine s_nil<|W.seq<|W.seq<|W.region rfl<|zM (I mark) rfl<|zM aa rfl ?_
  have aQ:=((H.os 0)).len_le
  refine s_val (x_lenS T61.und rfl (H.os 0))<|zC mark ((r2.set (Int.toNat (mark-1)) ({ (r2.getD (Int.toNat (mark-1)) default) with hi:=min ((r2.getD (Int.toNat (mark-1)) default).hi) ahead })).length:Int) (decide (mark<((r2.set (Int.toNat (mark-1)) ({ (r2.getD (Int.toNat (mark-1)) default) with hi:=min ((r2.getD (Int.toNat (mark-1)) default).hi) ahead })).length:Int))) rfl rfl rfl<|s_nil ?_
  refine W.cond (decide (mark<((r2.set (Int.toNat (mark-1)) ({ (r2.getD (Int.toNat (mark-1)) default) with hi:=min ((r2.getD (Int.toNat (mark-1)) default).hi) ahead })).length:Int))) rfl (fun ac=>?_) (fun ac=>?_)
  ·replace hM:=M.e_t hM ac
   replace ac:=dI ac
   refine W.region rfl<|zM aa rfl<|zM (I mark) rfl<|zM aa rfl<|zM (I mark) rfl ?_;obtain ⟨aR,hM⟩:=M.e_gd hM;refine s_val (x_ix (v:=vat aa 2 (Int.toNat mark)) rfl rfl (Sl.ix (α:=Span) T61.und T61.size (H.os 0) (by omega) (by omega)))<|s_val (x_fa (v:=fat (vat aa 2 (Int.toNat mark)) 0) rfl (fa_pl Fd31_0 Sz3 (Sl.pl (i:=mark) (H.os 0) (by omega) (by omega))))<|s_val (x_ld (v:=I (((r2.set (Int.toNat (mark-1)) ({ (r2.getD (Int.toNat (mark-1)) default) with hi:=min ((r2.getD (Int.toNat (mark-1)) default).hi) ahead })).getD (Int.toNat mark) default).lo)) rfl (ld_sc Sc3 (At.mono (Span_at0 (H.os 0) (i:=mark) (by omega) (by omega)) (H.ol 0))))<|zM (I behind) rfl<|s_val (x_max (kd:=.i64) (a:=((r2.set (Int.toNat (mark-1)) ({ (r2.getD (Int.toNat (mark-1)) default) with hi:=min ((r2.getD (Int.toNat (mark-1)) default).hi) ahead })).getD (Int.toNat mark) default).lo) (b:=behind) rfl rfl)<|s_val (x_ix (v:=vat aa 2 (Int.toNat mark)) rfl rfl (Sl.ix (α:=Span) T61.und T61.size (H.os 0) (by omega) (by omega)))<|s_val (x_fa (v:=fat (vat aa 2 (Int.toNat mark)) 0) rfl (fa_pl Fd31_0 Sz3 (Sl.pl (i:=mark) (H.os 0) (by omega) (by omega)))) ?_;refine t_fst (α:=Span) (k:=0) (i:=mark) (off:=0) (l:=r2.set (Int.toNat (mark-1)) ({ (r2.getD (Int.toNat (mark-1)) default) with hi:=min ((r2.getD (Int.toNat (mark-1)) default).hi) ahead })) (l':=(r2.set (Int.toNat (mark-1)) ({ (r2.getD (Int.toNat (mark-1)) default) with hi:=min ((r2.getD (Int.toNat (mark-1)) default).hi) ahead })).set (Int.toNat mark) ({ ((r2.set (Int.toNat (mark-1)) ({ (r2.getD (Int.toNat (mark-1)) default) with hi:=min ((r2.getD (Int.toNat (mark-1)) default).hi) ahead })).getD (Int.toNat mark) default) with lo:=max (((r2.set (Int.toNat (mark-1)) ({ (r2.getD (Int.toNat (mark-1)) default) with hi:=min ((r2.getD (Int.toNat (mark-1)) default).hi) ahead })).getD (Int.toNat mark) default).lo) behind })) (val:=I (max (((r2.set (Int.toNat (mark-1)) ({ (r2.getD (Int.toNat (mark-1)) default) with hi:=min ((r2.getD (Int.toNat (mark-1)) default).hi) ahead })).getD (Int.toNat mark) default).lo) behind)) (L':=[cOwn (α:=Span) 31 aa ((r2.set (Int.toNat (mark-1)) ({ (r2.getD (Int.toNat (mark-1)) default) with hi:=min ((r2.getD (Int.toNat (mark-1)) default).hi) ahead })).set (Int.toNat mark) ({ ((r2.set (Int.toNat (mark-1)) ({ (r2.getD (Int.toNat (mark-1)) default) with hi:=min ((r2.getD (Int.toNat (mark-1)) default).hi) ahead })).getD (Int.toNat mark) default) with lo:=max (((r2.set (Int.toNat (mark-1)) ({ (r2.getD (Int.toNat (mark-1)) default) with hi:=min ((r2.getD (Int.toNat (mark-1)) default).hi) ahead })).getD (Int.toNat mark) default).lo) behind }))]) H rfl Sz3 (by omega) (by omega) ((r2.set (Int.toNat (mark-1)) ({ (r2.getD (Int.toNat (mark-1)) default) with hi:=min ((r2.getD (Int.toNat (mark-1)) default).hi) ahead })).getD (Int.toNat mark) default) ({ ((r2.set (Int.toNat (mark-1)) ({ (r2.getD (Int.toNat (mark-1)) default) with hi:=min ((r2.getD (Int.toNat (mark-1)) default).hi) ahead })).getD (Int.toNat mark) default) with lo:=max (((r2.set (Int.toNat (mark-1)) ({ (r2.getD (Int.toNat (mark-1)) default) with hi:=min ((r2.getD (Int.toNat (mark-1)) default).hi) ahead })).getD (Int.toNat mark) default).lo) behind }) (getD_some _ (by first | omega | (simp only [List.length_set] at *; omega)) _) rfl rfl [I (max (((r2.set (Int.toNat (mark-1)) ({ (r2.getD (Int.toNat (mark-1)) default) with hi:=min ((r2.getD (Int.toNat (mark-1)) default).hi) ahead })).getD (Int.toNat mark) default).lo) behind)] rfl rfl rfl rfl rfl rfl rfl ?_;intro aS H
   have aT:((r2.set (Int.toNat (mark-1)) ({ (r2.getD (Int.toNat (mark-1)) default) with hi:=min ((r2.getD (Int.toNat (mark-1)) default).hi) ahead })).set (Int.toNat mark) ({ ((r2.set (Int.toNat (mark-1)) ({ (r2.getD (Int.toNat (mark-1)) default) with hi:=min ((r2.getD (Int.toNat (mark-1)) default).hi) ahead })).getD (Int.toNat mark) default) with lo:=max (((r2.set (Int.toNat (mark-1)) ({ (r2.getD (Int.toNat (mark-1)) default) with hi:=min ((r2.getD (Int.toNat (mark-1)) default).hi) ahead })).getD (Int.toNat mark) default).lo) behind })).length=(r2.set (Int.toNat (mark-1)) ({ (r2.getD (Int.toNat (mark-1)) default) with hi:=min ((r2.getD (Int.toNat (mark-1)) default).hi) ahead })).length:=List.length_set
   refine s_nil<|W.seq<|W.region rfl<|zM aa rfl<|zA aa rfl<|s_nil ?_;refine W.ret ?_
   have ae:=M.e_pure hM
   exact ⟨_,resE_tmp rfl,⟨((r2.set (Int.toNat (mark-1)) ({ (r2.getD (Int.toNat (mark-1)) default) with hi:=min ((r2.getD (Int.toNat (mark-1)) default).hi) ahead })).set (Int.toNat mark) ({ ((r2.set (Int.toNat (mark-1)) ({ (r2.getD (Int.toNat (mark-1)) default) with hi:=min ((r2.getD (Int.toNat (mark-1)) default).hi) ahead })).getD (Int.toNat mark) default) with lo:=max (((r2.set (Int.toNat (mark-1)) ({ (r2.getD (Int.toNat (mark-1)) default) with hi:=min ((r2.getD (Int.toNat (mark-1)) default).hi) ahead })).getD (Int.toNat mark) default).lo) behind })),aa,ae,rfl,H⟩⟩
  replace hM:=M.e_f hM ac
  replace ac:=dI ac
  refine W.skip<|W.seq<|W.region rfl<|zM aa rfl<|zA aa rfl<|s_nil ?_;refine W.ret ?_
  have ae:=M.e_pure hM
  exact ⟨_,resE_tmp rfl,⟨(r2.set (Int.toNat (mark-1)) ({ (r2.getD (Int.toNat (mark-1)) default) with hi:=min ((r2.getD (Int.toNat (mark-1)) default).hi) ahead })),aa,ae,rfl,H⟩⟩
 replace hM:=M.e_f hM ab
 replace ab:=dI ab
 refine W.skip<|W.seq<|W.seq<|W.region rfl<|zM (I mark) rfl<|zM aa rfl ?_
 have aU:=((H.os 0)).len_le
 refine s_val (x_lenS T61.und rfl (H.os 0))<|zC mark (r2.length:Int) (decide (mark<(r2.length:Int))) rfl rfl rfl<|s_nil ?_
 refine W.cond (decide (mark<(r2.length:Int))) rfl (fun ag=>?_) (fun ag=>?_)
 ·replace hM:=M.e_t hM ag
  replace ag:=dI ag
  refine W.region rfl<|zM aa rfl<|zM (I mark) rfl<|zM aa rfl<|zM (I mark) rfl ?_;obtain ⟨aV,hM⟩:=M.e_gd hM;refine s_val (x_ix (v:=vat aa 2 (Int.toNat mark)) rfl rfl (Sl.ix (α:=Span) T61.und T61.size (H.os 0) (by omega) (by omega)))<|s_val (x_fa (v:=fat (vat aa 2 (Int.toNat mark)) 0) rfl (fa_pl Fd31_0 Sz3 (Sl.pl (i:=mark) (H.os 0) (by omega) (by omega))))<|s_val (x_ld (v:=I ((r2.getD (Int.toNat mark) default).lo)) rfl (ld_sc Sc3 (At.mono (Span_at0 (H.os 0) (i:=mark) (by omega) (by omega)) (H.ol 0))))<|zM (I behind) rfl<|s_val (x_max (kd:=.i64) (a:=(r2.getD (Int.toNat mark) default).lo) (b:=behind) rfl rfl)<|s_val (x_ix (v:=vat aa 2 (Int.toNat mark)) rfl rfl (Sl.ix (α:=Span) T61.und T61.size (H.os 0) (by omega) (by omega)))<|s_val (x_fa (v:=fat (vat aa 2 (Int.toNat mark)) 0) rfl (fa_pl Fd31_0 Sz3 (Sl.pl (i:=mark) (H.os 0) (by omega) (by omega)))) ?_;refine t_fst (α:=Span) (k:=0) (i:=mark) (off:=0) (l:=r2) (l':=r2.set (Int.toNat mark) ({ (r2.getD (Int.toNat mark) default) with lo:=max ((r2.getD (Int.toNat mark) default).lo) behind })) (val:=I (max ((r2.getD (Int.toNat mark) default).lo) behind)) (L':=[cOwn (α:=Span) 31 aa (r2.set (Int.toNat mark) ({ (r2.getD (Int.toNat mark) default) with lo:=max ((r2.getD (Int.toNat mark) default).lo) behind }))]) H rfl Sz3 (by omega) (by omega) (r2.getD (Int.toNat mark) default) ({ (r2.getD (Int.toNat mark) default) with lo:=max ((r2.getD (Int.toNat mark) default).lo) behind }) (getD_some _ (by first | omega | (simp only [List.length_set] at *; omega)) _) rfl rfl [I (max ((r2.getD (Int.toNat mark) default).lo) behind)] rfl rfl rfl rfl rfl rfl rfl ?_;intro aW H
  have aX:(r2.set (Int.toNat mark) ({ (r2.getD (Int.toNat mark) default) with lo:=max ((r2.getD (Int.toNat mark) default).lo) behind })).length=(r2).length:=List.length_set
  refine s_nil<|W.seq<|W.region rfl<|zM aa rfl<|zA aa rfl<|s_nil ?_;refine W.ret ?_
  have ae:=M.e_pure hM
  exact ⟨_,resE_tmp rfl,⟨(r2.set (Int.toNat mark) ({ (r2.getD (Int.toNat mark) default) with lo:=max ((r2.getD (Int.toNat mark) default).lo) behind })),aa,ae,rfl,H⟩⟩
 replace hM:=M.e_f hM ag
 replace ag:=dI ag
 refine W.skip<|W.seq<|W.region rfl<|zM aa rfl<|zA aa rfl<|s_nil ?_;refine W.ret ?_
 have ae:=M.e_pure hM
 exact ⟨_,resE_tmp rfl,⟨r2,aa,ae,rfl,H⟩⟩

def zbK (ac ae ag ah ai:Int) (aj:List CMk) (ak:List CNt) (al:List (Int × CNt)) (times:List Span) (a b aa ab:Int):M (List Span) :=
  M.grd (decide ((-9223372036854775808:Int)<=(aa-1))&&decide ((aa-1)<=(9223372036854775807:Int))) <|
  M.bind (zaU ac ae ag ah ai aj ak al times a (aa-1) aa) fun r2 =>
  M.grd (decide ((-9223372036854775808:Int)<=(b+1))&&decide ((b+1)<=(9223372036854775807:Int))) <|
  M.grd (decide ((-9223372036854775808:Int)<=(ab+1))&&decide ((ab+1)<=(9223372036854775807:Int))) <|
  M.bind (zaU ac ae ag ah ai aj ak al r2 (b+1) ab (ab+1)) fun r3 =>
  M.pure r3
theorem zdo {R:List Chunk} {ae:Nat} {aq:Cells} {ar:Value} {au:Cells} {av:Value} {aw:Nat} {ax:Cells} {ap:Value} (ag:Int) (ah:Int) (ai:Int) (aj:Int) (ak:Int) (al:List CMk) (am:List CNt) (ao:List (Int × CNt)) (times:List Span) (a:Int) (b:Int) (aa:Int) (ab:Int) (ay:Reads R aq) (az:Sl aq ar al) (aA:Reads R au) (aB:Sl au av am) (aC:Has R (cMl I encCN aw ao)) (aD:Fld R ae [I ag,I ah,I ai,I aj,I ak,ar,av,.map (some aw)]) (aE:Reads R ax) (aF:Sl ax ap times) {r:(List Span)} (hM:(zbK ag ah ai aj ak al am ao times a b aa ab).Ends r) (w:World) (H:St w w [] R):Ret Tryz.prog 16 #[Pq ae,ap,I a,I b,I aa,I ab] w fun v w'=>∃ (y0:List Span) (u0:Value),y0=r/\v=u0/\St w w' [cOwn (α:=Span) 31 u0 y0] R:=by
 refine ret_of_W Tryz.func16 rfl rfl rfl ?_;obtain ⟨aL,hM⟩:=M.e_gd hM;refine kg 12 ?_;obtain ⟨aM,aG,hM⟩:=M.e_bind hM;refine s_call cf48 [Pq ae,ap,I a,I (aa-1),I aa] rfl (zcE ag ah ai aj ak al am ao times a (aa-1) aa (ay.app _) az (aA.app _) aB (aC.app _) (aD.app _) (aE.app _) aF aG _ (H.gt 0)) ?_
 rintro vq aN ⟨r2,aH,rfl,hvq,ac⟩
 subst vq;(try dsimp only at hM);replace H:=H.bk ac;clear ac;obtain ⟨aO,hM⟩:=M.e_gd hM;obtain ⟨aP,hM⟩:=M.e_gd hM;refine kg 11 ?_;obtain ⟨aQ,aI,hM⟩:=M.e_bind hM;refine s_call cf48 [Pq ae,aH,I (b+1),I ab,I (ab+1)] rfl (zcE ag ah ai aj ak al am ao r2 (b+1) ab (ab+1) (ay.app _) az (aA.app _) aB (aC.app _) (aD.app _) (rdo 0) (H.os 0) aI _ (H.gt 1)) ?_
 rintro vq aR ⟨r3,aJ,rfl,hvq,ac⟩
 subst vq;(try dsimp only at hM);replace H:=H.bk ac;clear ac;refine kg 2 ?_;refine W.ret ?_
 have aK:=M.e_pure hM
 exact ⟨_,resE_tmp rfl,⟨r3,aJ,aK,rfl,(H.pk [0])⟩⟩

def zcO  : M Unit :=
  M.pure ()
theorem zdq {R:List Chunk}    {r:Unit} (hM:(zcO).Ends r) (w:World) (H:St w w [] R):Ret Tryz.prog 18 #[] w fun v w'=>()=r/\v = .agg #[.func (.func 49) #[] #[]]/\St w w' [] R:=by
 refine ret_of_W Tryz.func18 rfl rfl rfl ?_;refine kg 2 ?_;refine t_alloc (cs:=[.nilFunc]) H Al72 rfl ?_;intro ac ae H;refine kg 3 ?_;refine s_val (x_bld (ps:=[(0,.func (.func 49) #[] #[])]) (zs:=[.nilFunc]) (L':=[.func (.func 49) #[] #[]]) rfl Tryz.underlying72 Al72 rfl (Bd72 Tryz.underlying72) (.cons (cs:=[.func (.func 49) #[] #[]]) rfl rfl rfl rfl rfl<|.nil)) ?_;refine t_sw 0 0 [.func (.func 49) #[] #[]] (.agg #[.func (.func 49) #[] #[]]) H rfl rfl Sz72 rfl rfl rfl rfl ?_;intro ag H;refine s_nil ?_;refine W.ret ?_
 have aa:=(H.bl 0)
 have ab:=M.e_pure hM
 exact ⟨_,(resE_of1 (v:=.agg #[.func (.func 49) #[] #[]]) rfl (.cell (v:=.agg #[.func (.func 49) #[] #[]]) rfl (run_loadVar_ag (ds:=[.func (.func 49) #[] #[]]) Ag72 Sz72 aa rfl rfl)<|.nil)),⟨ab,rfl,(H.pk [])⟩⟩

def zb8 (s:Span):M Int :=
  M.pure s.lo
theorem zc4 {R:List Chunk}  (s:Span)  {r:Int} (hM:(zb8 s).Ends r) (w:World) (H:St w w [] R):Ret Tryz.prog 49 #[.agg #[I s.lo,I s.hi]] w fun v w'=>∃ (y0:Int),y0=r/\v=I y0/\St w w' [] R:=by
 refine ret_of_W Tryz.func49 rfl rfl rfl ?_;refine kg 2 ?_;refine t_bx [I s.lo,I s.hi] H rfl ?_;intro ab ac H;refine kg 8 ?_;refine W.ret ?_
 have aa:=M.e_pure hM
 exact ⟨_,resE_tmp rfl,⟨s.lo,aa,rfl,(H.pk [])⟩⟩

def za6 (l:List Span):(Int × Nat)->M ((Int × Nat) ⊕ Int):=fun (out,s) =>
  bif decide ((s:Int)<(l.length:Int)) then (
  M.grd (decide ((s:Int)<(l.length:Int))) <|
  M.bind (zb8 (l.getD s default)) fun r3 =>
  M.pure (.inl (max out r3,s+1)))
  else (
  M.pure (.inr out))
def zbt (l:List Span):M Int :=
  M.grd (decide (0<(l.length:Int))) <|
  M.bind (zb8 (l.getD 0 default)) fun r2 =>
  M.bind (M.iter (za6 l) (r2,0)) fun out2 =>
  M.pure out2
theorem zdc {R:List Chunk} {ah:Cells} {ac:Value} (l:List Span) (ax:Reads R ah) (al:Sl ah ac l) {r:Int} (hM:(zbt l).Ends r) (w:World) (H:St w w [] R):Ret Tryz.prog 19 #[.agg #[.func (.func 49) #[] #[]],ac] w fun v w'=>∃ (y0:Int),y0=r/\v=I y0/\St w w' [] R:=by
 refine ret_of_W Tryz.func19 rfl rfl rfl ?_;refine kg 2 ?_;refine t_bx [.func (.func 49) #[] #[]] H rfl ?_;intro ae ay H;refine kg 3 ?_;refine W.draw (fun W=>St w W [cBlk ae [.func (.func 49) #[] #[]] 72] R) [(0,true),(1,true),(2,true),(3,true),(4,true),(5,false),(6,true)] mixed (by decide +kernel) rfl ?_;intro az ai;replace H:=H.ext ai;clear ai
 refine ⟨(H.pk [0]),?_⟩
 obtain ⟨aA,hM⟩:=M.e_gd hM;refine kg 5 ?_;refine d_l rfl ?_;obtain ⟨aB,am,hM⟩:=M.e_bind hM;refine s_callv (f:=49) rfl cf49 [.agg #[I ((l.getD 0 default).lo),I ((l.getD 0 default).hi)]] rfl (zc4 (l.getD 0 default) am _ (H.gt 1)) ?_
 rintro vq aC ⟨r2,rfl,hvq,ab⟩
 subst vq;(try dsimp only at hM);replace H:=H.bk ab;clear ab
 refine s_nil ⟨(H.pk [0]),?_⟩
 have aD:=(al).len_le
 refine kg 10 ?_;obtain ⟨ao,ag,ap⟩:=M.e_bind hM
 obtain ⟨aE,ag⟩:=M.e_iter ag
 refine W.loop (fun m σ W=>∃ (out:Int) (s:Nat) (ρ:Env),σ=upds ρ [(2,Pq ae),(5,I out),(14,ac),(15,I (l.length:Int)),(16,I (s:Int))]/\M.iterN (za6 l) m (out,s)=some ao/\St w W [cBlk ae [.func (.func 49) #[] #[]] 72] R) ?_ ?_
 ·exact ⟨_,r2,0,_,upds_of _ _ ⟨rfl,rfl,rfl,rfl,rfl,trivial⟩,ag,H⟩
 rintro aF σ aG ⟨out,s,ρ,rfl,aj,H⟩
 obtain ⟨aq,ar,aH,hM,ak⟩:=M.e_iterN aj
 simp only [za6] at hM
 clear aj;refine kg 5 ?_
 refine W.cond (decide ((s:Int)<(l.length:Int))) rfl (fun aa=>?_) (fun aa=>?_)
 ·replace hM:=M.e_t hM aa
  replace aa:=dI aa
  obtain ⟨aI,hM⟩:=M.e_gd hM;refine kg 7 ?_;refine t_alloc (cs:=[I 0,I 0]) H Al31 rfl ?_;intro aJ aK H;refine t_sw 0 0 [I ((l.getD s default).lo),I ((l.getD s default).hi)] (.agg #[I ((l.getD s default).lo),I ((l.getD s default).hi)]) H rfl rfl Sz31 rfl rfl rfl rfl ?_;intro aL H;refine kg 6 ?_;obtain ⟨aM,au,hM⟩:=M.e_bind hM;refine s_callv (f:=49) rfl cf49 [.agg #[I ((l.getD s default).lo),I ((l.getD s default).hi)]] rfl (zc4 (l.getD s default) au _ (H.gt 2)) ?_
  rintro vq aN ⟨r3,rfl,hvq,ab⟩
  subst vq;(try dsimp only at hM);replace H:=H.bk ab;clear ab;refine kg 7 ?_
  exact ⟨aq,ar,max out r3,s+1,_,upds_of _ _ ⟨rfl,rfl,rfl,rfl,rfl,trivial⟩,M.e_inl hM ak,(H.pk [1])⟩
 replace hM:=M.e_f hM aa
 replace aa:=dI aa
 refine W.exit ?_
 have av:=M.e_inr hM ak
 subst av;replace hM:=ap;(try dsimp only at hM);refine kg 5 ?_;refine W.ret ?_
 have aw:=M.e_pure hM
 exact ⟨_,resE_tmp rfl,⟨out,aw,rfl,(H.pk [])⟩⟩

def zcD  : M Unit :=
  M.pure ()
theorem zdd {R:List Chunk}    {r:Unit} (hM:(zcD).Ends r) (w:World) (H:St w w [] R):Ret Tryz.prog 20 #[] w fun v w'=>()=r/\v = .agg #[.func (.func 50) #[] #[]]/\St w w' [] R:=by
 refine ret_of_W Tryz.func20 rfl rfl rfl ?_;refine kg 2 ?_;refine t_alloc (cs:=[.nilFunc]) H Al72 rfl ?_;intro ac ae H;refine kg 3 ?_;refine s_val (x_bld (ps:=[(0,.func (.func 50) #[] #[])]) (zs:=[.nilFunc]) (L':=[.func (.func 50) #[] #[]]) rfl Tryz.underlying72 Al72 rfl (Bd72 Tryz.underlying72) (.cons (cs:=[.func (.func 50) #[] #[]]) rfl rfl rfl rfl rfl<|.nil)) ?_;refine t_sw 0 0 [.func (.func 50) #[] #[]] (.agg #[.func (.func 50) #[] #[]]) H rfl rfl Sz72 rfl rfl rfl rfl ?_;intro ag H;refine s_nil ?_;refine W.ret ?_
 have aa:=(H.bl 0)
 have ab:=M.e_pure hM
 exact ⟨_,(resE_of1 (v:=.agg #[.func (.func 50) #[] #[]]) rfl (.cell (v:=.agg #[.func (.func 50) #[] #[]]) rfl (run_loadVar_ag (ds:=[.func (.func 50) #[] #[]]) Ag72 Sz72 aa rfl rfl)<|.nil)),⟨ab,rfl,(H.pk [])⟩⟩

def zce (s:Span):M Int :=
  M.pure s.hi
theorem zcJ {R:List Chunk}  (s:Span)  {r:Int} (hM:(zce s).Ends r) (w:World) (H:St w w [] R):Ret Tryz.prog 50 #[.agg #[I s.lo,I s.hi]] w fun v w'=>∃ (y0:Int),y0=r/\v=I y0/\St w w' [] R:=by
 refine ret_of_W Tryz.func50 rfl rfl rfl ?_;refine kg 2 ?_;refine t_bx [I s.lo,I s.hi] H rfl ?_;intro ab ac H;refine kg 8 ?_;refine W.ret ?_
 have aa:=M.e_pure hM
 exact ⟨_,resE_tmp rfl,⟨s.hi,aa,rfl,(H.pk [])⟩⟩

def zbe (l:List Span):(Int × Nat)->M ((Int × Nat) ⊕ Int):=fun (out,s) =>
  bif decide ((s:Int)<(l.length:Int)) then (
  M.grd (decide ((s:Int)<(l.length:Int))) <|
  M.bind (zce (l.getD s default)) fun r3 =>
  M.pure (.inl (max out r3,s+1)))
  else (
  M.pure (.inr out))
def zbQ (l:List Span):M Int :=
  M.grd (decide (0<(l.length:Int))) <|
  M.bind (zce (l.getD 0 default)) fun r2 =>
  M.bind (M.iter (zbe l) (r2,0)) fun out2 =>
  M.pure out2
theorem zea {R:List Chunk} {ah:Cells} {ac:Value} (l:List Span) (ax:Reads R ah) (al:Sl ah ac l) {r:Int} (hM:(zbQ l).Ends r) (w:World) (H:St w w [] R):Ret Tryz.prog 19 #[.agg #[.func (.func 50) #[] #[]],ac] w fun v w'=>∃ (y0:Int),y0=r/\v=I y0/\St w w' [] R:=by
 refine ret_of_W Tryz.func19 rfl rfl rfl ?_;refine kg 2 ?_;refine t_bx [.func (.func 50) #[] #[]] H rfl ?_;intro ae ay H;refine kg 3 ?_;refine W.draw (fun W=>St w W [cBlk ae [.func (.func 50) #[] #[]] 72] R) [(0,true),(1,true),(2,true),(3,true),(4,true),(5,false),(6,true)] mixed (by decide +kernel) rfl ?_;intro az ai;replace H:=H.ext ai;clear ai
 refine ⟨(H.pk [0]),?_⟩
 obtain ⟨aA,hM⟩:=M.e_gd hM;refine kg 5 ?_;refine d_l rfl ?_;obtain ⟨aB,am,hM⟩:=M.e_bind hM;refine s_callv (f:=50) rfl cf50 [.agg #[I ((l.getD 0 default).lo),I ((l.getD 0 default).hi)]] rfl (zcJ (l.getD 0 default) am _ (H.gt 1)) ?_
 rintro vq aC ⟨r2,rfl,hvq,ab⟩
 subst vq;(try dsimp only at hM);replace H:=H.bk ab;clear ab
 refine s_nil ⟨(H.pk [0]),?_⟩
 have aD:=(al).len_le
 refine kg 10 ?_;obtain ⟨ao,ag,ap⟩:=M.e_bind hM
 obtain ⟨aE,ag⟩:=M.e_iter ag
 refine W.loop (fun m σ W=>∃ (out:Int) (s:Nat) (ρ:Env),σ=upds ρ [(2,Pq ae),(5,I out),(14,ac),(15,I (l.length:Int)),(16,I (s:Int))]/\M.iterN (zbe l) m (out,s)=some ao/\St w W [cBlk ae [.func (.func 50) #[] #[]] 72] R) ?_ ?_
 ·exact ⟨_,r2,0,_,upds_of _ _ ⟨rfl,rfl,rfl,rfl,rfl,trivial⟩,ag,H⟩
 rintro aF σ aG ⟨out,s,ρ,rfl,aj,H⟩
 obtain ⟨aq,ar,aH,hM,ak⟩:=M.e_iterN aj
 simp only [zbe] at hM
 clear aj;refine kg 5 ?_
 refine W.cond (decide ((s:Int)<(l.length:Int))) rfl (fun aa=>?_) (fun aa=>?_)
 ·replace hM:=M.e_t hM aa
  replace aa:=dI aa
  obtain ⟨aI,hM⟩:=M.e_gd hM;refine kg 7 ?_;refine t_alloc (cs:=[I 0,I 0]) H Al31 rfl ?_;intro aJ aK H;refine t_sw 0 0 [I ((l.getD s default).lo),I ((l.getD s default).hi)] (.agg #[I ((l.getD s default).lo),I ((l.getD s default).hi)]) H rfl rfl Sz31 rfl rfl rfl rfl ?_;intro aL H;refine kg 6 ?_;obtain ⟨aM,au,hM⟩:=M.e_bind hM;refine s_callv (f:=50) rfl cf50 [.agg #[I ((l.getD s default).lo),I ((l.getD s default).hi)]] rfl (zcJ (l.getD s default) au _ (H.gt 2)) ?_
  rintro vq aN ⟨r3,rfl,hvq,ab⟩
  subst vq;(try dsimp only at hM);replace H:=H.bk ab;clear ab;refine kg 7 ?_
  exact ⟨aq,ar,max out r3,s+1,_,upds_of _ _ ⟨rfl,rfl,rfl,rfl,rfl,trivial⟩,M.e_inl hM ak,(H.pk [1])⟩
 replace hM:=M.e_f hM aa
 replace aa:=dI aa
 refine W.exit ?_
 have av:=M.e_inr hM ak
 subst av;replace hM:=ap;(try dsimp only at hM);refine kg 5 ?_;refine W.ret ?_
 have aw:=M.e_pure hM
 exact ⟨_,resE_tmp rfl,⟨out,aw,rfl,(H.pk [])⟩⟩

def zcp (h_Span_Lo h_Span_Hi:Int) (aa:Bool) (s:Span):M (Int × Int × Bool) :=
  bif aa then (
  M.pure ((min s.lo h_Span_Lo),(max s.hi h_Span_Hi),true))
  else (
  M.pure (s.lo,s.hi,true))
theorem zdM {R:List Chunk} {ab:Nat} (h_Span_Lo h_Span_Hi:Int) (ac:Bool) (s:Span)  {r:(Int × Int × Bool)} (hM:(zcp h_Span_Lo h_Span_Hi ac s).Ends r) (w:World) (H:St w w [cBlk ab [I h_Span_Lo,I h_Span_Hi,B ac] 65] R):Ret Tryz.prog 17 #[Pq ab,.agg #[I s.lo,I s.hi]] w fun v w'=>∃ (y0:Int) (y1:Int) (y2:Bool),(y0,y1,y2)=r/\v = .tuple #[]/\St w w' [cBlk ab [I y0,I y1,B y2] 65] R:=by
 refine ret_of_W Tryz.func17 rfl rfl rfl ?_;refine kg 2 ?_;refine t_bx [I s.lo,I s.hi] H rfl ?_;intro ah ai H;refine kg 9 ?_
 refine W.cond ac rfl (fun ae=>?_) (fun ae=>?_)
 ·replace hM:=M.e_t hM ae;refine W.drawT (fun W=>St w W [cBlk ab [I h_Span_Lo,I h_Span_Hi,B ac] 65] R) (.q 0 (.q 2 (.q 3 (.q 4 (.q 5 (.q 6 (.q 8 (.q 10 (.q 11 (.q 12 (.q 13 (.q 14 (.l2 1 (.q 7 (.l 9 (.q 15 (.q 16 (.l 17 .nil))))) 9 (.q 15 (.l 1 (.q 7 (.q 16 (.l 17 .nil)))))))))))))))))) mixed (by decide +kernel) rfl ?_;intro aj ag;replace H:=H.ext ag;clear ag
  refine ⟨(H.pk [1]),?_⟩
  refine kg 12 ?_;refine t_l2 rfl rfl ?_ ?_
  ·skip
   refine kg 1 ?_
   refine s_nil ⟨(H.pk [1]),?_⟩
   refine kg 1 ?_;refine t_l rfl ?_;refine kg 1 ?_
   refine s_nil ⟨(H.pk [1]),?_⟩
   refine kg 1 ?_;refine t_q rfl (fun w' H=>x_bld (ps:=[(0,I (min s.lo h_Span_Lo)),(1,I (max s.hi h_Span_Hi))]) (zs:=[I 0,I 0]) (L':=[I (min s.lo h_Span_Lo),I (max s.hi h_Span_Hi)]) rfl Tryz.underlying31 Al31 rfl (Bd31 Tryz.underlying31) (.cons (cs:=[I (min s.lo h_Span_Lo)]) rfl rfl rfl rfl rfl<|.cons (cs:=[I (max s.hi h_Span_Hi)]) rfl rfl rfl rfl rfl<|.nil))<|t_l rfl ?_;refine t_sw 0 0 [I (min s.lo h_Span_Lo),I (max s.hi h_Span_Hi)] (.agg #[I (min s.lo h_Span_Lo),I (max s.hi h_Span_Hi)]) H rfl rfl Sz31 rfl rfl rfl rfl ?_;intro ak H
   refine s_nil ⟨(H.pk [1]),?_⟩
   refine kg 7 ?_;refine t_sw 1 0 [I (min s.lo h_Span_Lo),I (max s.hi h_Span_Hi)] (.agg #[I (min s.lo h_Span_Lo),I (max s.hi h_Span_Hi)]) H rfl rfl Sz31 rfl rfl rfl rfl ?_;intro al H;refine kg 2 ?_;refine t_sw 1 2 [B true] (B true) H rfl rfl Sz4 rfl rfl rfl rfl ?_;intro am H;refine s_nil ?_
   have aa:=M.e_pure hM
   exact ⟨_,resE_tmp0 rfl,⟨(min s.lo h_Span_Lo),(max s.hi h_Span_Hi),true,aa,rfl,(H.pk [1])⟩⟩
  skip
  refine kg 1 ?_
  refine s_nil ⟨(H.pk [1]),?_⟩
  refine kg 1 ?_;refine t_l rfl ?_;refine kg 1 ?_
  refine s_nil ⟨(H.pk [1]),?_⟩
  refine kg 1 ?_;refine t_q rfl (fun w' H=>x_bld (ps:=[(0,I (min s.lo h_Span_Lo)),(1,I (max s.hi h_Span_Hi))]) (zs:=[I 0,I 0]) (L':=[I (min s.lo h_Span_Lo),I (max s.hi h_Span_Hi)]) rfl Tryz.underlying31 Al31 rfl (Bd31 Tryz.underlying31) (.cons (cs:=[I (min s.lo h_Span_Lo)]) rfl rfl rfl rfl rfl<|.cons (cs:=[I (max s.hi h_Span_Hi)]) rfl rfl rfl rfl rfl<|.nil))<|t_l rfl ?_;refine t_sw 0 0 [I (min s.lo h_Span_Lo),I (max s.hi h_Span_Hi)] (.agg #[I (min s.lo h_Span_Lo),I (max s.hi h_Span_Hi)]) H rfl rfl Sz31 rfl rfl rfl rfl ?_;intro ao H
  refine s_nil ⟨(H.pk [1]),?_⟩
  refine kg 7 ?_;refine t_sw 1 0 [I (min s.lo h_Span_Lo),I (max s.hi h_Span_Hi)] (.agg #[I (min s.lo h_Span_Lo),I (max s.hi h_Span_Hi)]) H rfl rfl Sz31 rfl rfl rfl rfl ?_;intro ap H;refine kg 2 ?_;refine t_sw 1 2 [B true] (B true) H rfl rfl Sz4 rfl rfl rfl rfl ?_;intro aq H;refine s_nil ?_
  have aa:=M.e_pure hM
  exact ⟨_,resE_tmp0 rfl,⟨(min s.lo h_Span_Lo),(max s.hi h_Span_Hi),true,aa,rfl,(H.pk [1])⟩⟩
 replace hM:=M.e_f hM ae;refine kg 7 ?_;refine t_sw 1 0 [I s.lo,I s.hi] (.agg #[I s.lo,I s.hi]) H rfl rfl Sz31 rfl rfl rfl rfl ?_;intro ar H;refine kg 2 ?_;refine t_sw 1 2 [B true] (B true) H rfl rfl Sz4 rfl rfl rfl rfl ?_;intro au H;refine s_nil ?_
 have aa:=M.e_pure hM
 exact ⟨_,resE_tmp0 rfl,⟨s.lo,s.hi,true,aa,rfl,(H.pk [1])⟩⟩

def zc2 (h_Span_Lo h_Span_Hi:Int) (aa:Bool):M (Int × Int × Int) :=
  bif !aa then (
  M.pure (0,0,5))
  else (
  M.pure (h_Span_Lo,h_Span_Hi,0))
theorem zdY {R:List Chunk} {ae:Nat} (h_Span_Lo:Int) (h_Span_Hi:Int) (aa:Bool) (ag:Has R (cBlk ae [I h_Span_Lo,I h_Span_Hi,B aa] 65)) {r:(Int × Int × Int)} (hM:(zc2 h_Span_Lo h_Span_Hi aa).Ends r) (w:World) (H:St w w [] R):Ret Tryz.prog 21 #[Pq ae] w fun v w'=>∃ (y0:Int) (y1:Int) (y2:Int),(y0,y1,y2)=r/\v = .tuple #[.agg #[I y0,I y1],I y2]/\St w w' [] R:=by
 refine ret_of_W Tryz.func21 rfl rfl rfl ?_;refine kg 2 ?_;refine t_alloc (cs:=[I 0,I 0]) H Al31 rfl ?_;intro aj ak H;refine kg 11 ?_
 refine W.cond (!aa) rfl (fun ab=>?_) (fun ab=>?_)
 ·replace hM:=M.e_t hM ab;refine kg 2 ?_;refine s_val (x_bld (ps:=[]) (zs:=[I 0,I 0]) (L':=[I 0,I 0]) rfl Tryz.underlying31 Al31 rfl (Bd31 Tryz.underlying31) (.nil)) ?_;refine t_sw 0 0 [I 0,I 0] (.agg #[I 0,I 0]) H rfl rfl Sz31 rfl rfl rfl rfl ?_;intro al H;refine kg 2 ?_;refine W.ret ?_
  have ah:=(H.bl 0)
  have ac:=M.e_pure hM
  exact ⟨_,(resE_ofn (vs:=[.agg #[I 0,I 0],I 5]) rfl rfl (.cell (v:=.agg #[I 0,I 0]) rfl (run_loadVar_ag (ds:=[I 0,I 0]) Ag31 Sz31 ah rfl rfl)<|.tmp (v:=I 5) rfl<|.nil)),⟨0,0,5,ac,rfl,(H.pk [])⟩⟩
 replace hM:=M.e_f hM ab;refine kg 6 ?_;refine s_val (x_ld (v:=.agg #[I h_Span_Lo,I h_Span_Hi]) rfl (ldb_ag (ds:=[I h_Span_Lo,I h_Span_Hi]) Ag31 Sz31 (ag.blk H) rfl rfl)) ?_;refine t_sw 0 0 [I h_Span_Lo,I h_Span_Hi] (.agg #[I h_Span_Lo,I h_Span_Hi]) H rfl rfl Sz31 rfl rfl rfl rfl ?_;intro am H;refine kg 2 ?_;refine W.ret ?_
 have ai:=(H.bl 0)
 have ac:=M.e_pure hM
 exact ⟨_,(resE_ofn (vs:=[.agg #[I h_Span_Lo,I h_Span_Hi],I 0]) rfl rfl (.cell (v:=.agg #[I h_Span_Lo,I h_Span_Hi]) rfl (run_loadVar_ag (ds:=[I h_Span_Lo,I h_Span_Hi]) Ag31 Sz31 ai rfl rfl)<|.tmp (v:=I 0) rfl<|.nil)),⟨h_Span_Lo,h_Span_Hi,0,ac,rfl,(H.pk [])⟩⟩

def zaR (c_Marks:List CMk) (c_Notes:List CNt) (ab ac ae ag ah ai aj:Int) (ak:List (Int × CNt)) (al:List Bool) (r1 r2:List Span) (aa:Nat):(Int × Int × Bool × Int)->M ((Int × Int × Bool × Int) ⊕ (Int × Int × Bool)):=fun (s,s2,s3,b) =>
  bif ((decide (b<(r1.length:Int)))&&(decide ((max ab (-100000001))<=(min ac 100000001)))) then (
  M.bind (zbK ae ag ah ai aj c_Marks c_Notes ak r1 (aa:Int) b (max ab (-100000001)) (min ac 100000001)) fun r4 =>
  M.bind (zak ae ag ah ai aj c_Marks c_Notes ak al r4) fun (r0,am) =>
  bif am then (
  M.grd (decide ((-9223372036854775808:Int)<=(b+1))&&decide ((b+1)<=(9223372036854775807:Int))) <|
  M.grd (decide ((0:Int)<=(aa:Int))&&decide ((aa:Int)<=(b+1))&&decide ((b+1)<=(r2.length:Int))) <|
  M.bind (zcO) fun (_:Unit) =>
  M.bind (zbt ((r2.take (Int.toNat (b+1))).drop aa)) fun r5 =>
  M.bind (zcD) fun (_:Unit) =>
  M.bind (zbQ ((r2.take (Int.toNat (b+1))).drop aa)) fun r6 =>
  M.bind (zcp s s2 s3 (⟨(r5:Int),(r6:Int)⟩:Span)) fun (q0,q1,q2) =>
  M.grd (decide ((-9223372036854775808:Int)<=(b+1))&&decide ((b+1)<=(9223372036854775807:Int))) <|
  M.pure (.inl (q0,q1,q2,b+1)))
  else (
  M.grd (decide ((-9223372036854775808:Int)<=(b+1))&&decide ((b+1)<=(9223372036854775807:Int))) <|
  M.pure (.inl (s,s2,s3,b+1))))
  else (
  M.pure (.inr (s,s2,s3)))
def zbj (c_Marks:List CMk) (c_Notes:List CNt) (ab ac ae ag ah ai aj:Int) (ak:List (Int × CNt)) (al:List Bool) (r1 r2:List Span):(Int × Int × Bool × Nat)->M ((Int × Int × Bool × Nat) ⊕ (Int × Int × Bool)):=fun (s7,s8,s9,aa) =>
  bif decide ((aa:Int)<(r1.length:Int)) then (
  M.bind (M.iter (zaR c_Marks c_Notes ab ac ae ag ah ai aj ak al r1 r2 aa) (s7,s8,s9,(aa:Int))) fun (s4,s5,s6) =>
  M.pure (.inl (s4,s5,s6,aa+1)))
  else (
  M.pure (.inr (s7,s8,s9)))
def zbs (c_Pace_Lo c_Pace_Hi c_Base c_Scale c_Off:Int) (c_Marks:List CMk) (c_Notes:List CNt) (stops:List Int) (aa ab:Int):M (Int × Int × Int) :=
  M.bind (zbD c_Pace_Lo c_Pace_Hi c_Base c_Scale c_Off c_Marks c_Notes stops) fun x_=>match x_ with
  | (.inl r3)=>(
  bif r3 != 0 then (
  M.pure (0,0,r3))
  else (
  M.fail))
  | (.inr (ac,ae,ag,ah,ai,aj,ak,r1,r2,al))=>(
  bif al != 0 then (
  M.fail)
  else (
  bif decide (ab<aa) then (
  M.pure (0,0,4))
  else (
  M.bind (M.iter (zbj c_Marks c_Notes aa ab ac ae ag ah ai aj ak r1 r2) (0,0,false,0)) fun (am,ao,ap) =>
  M.bind (zc2 am ao ap) fun (aq,ar,au) =>
  M.pure (aq,ar,au))))
theorem zdG {R:List Chunk} {aV:Cells} {ag:Value} {aW:Cells} {ah:Value} {aX:Cells} {aF:Value} (c_Pace_Lo:Int) (c_Pace_Hi:Int) (c_Base:Int) (c_Scale:Int) (c_Off:Int) (c_Marks:List CMk) (c_Notes:List CNt) (stops:List Int) (ac:Int) (ae:Int) (aG:Reads R aV) (aH:Sl aV ag c_Marks) (aI:Reads R aW) (aJ:Sl aW ah c_Notes) (bb:Reads R aX) (bc:Sl aX aF stops) {r:(Int × Int × Int)} (hM:(zbs c_Pace_Lo c_Pace_Hi c_Base c_Scale c_Off c_Marks c_Notes stops ac ae).Ends r) (w:World) (H:St w w [] R):Ret Tryz.prog 7 #[.agg #[I c_Pace_Lo,I c_Pace_Hi,I c_Base,I c_Scale,I c_Off,ag,ah],aF,I ac,I ae] w fun v w'=>∃ (y0:Int) (y1:Int) (y2:Int),(y0,y1,y2)=r/\v = .tuple #[.agg #[I y0,I y1],I y2]/\St w w' [] R:=by
 refine ret_of_W Tryz.func7 rfl rfl rfl ?_;refine kg 2 ?_;refine t_bx [I c_Pace_Lo,I c_Pace_Hi,I c_Base,I c_Scale,I c_Off,ag,ah] H rfl ?_;intro aK bN H;refine t_alloc (cs:=[I 0,I 0]) H Al31 rfl ?_;intro aB bO H;refine kg 6 ?_;obtain ⟨bP,bf,hM⟩:=M.e_bind hM;refine s_call cf14 [.agg #[I c_Pace_Lo,I c_Pace_Hi,I c_Base,I c_Scale,I c_Off,ag,ah],aF] rfl (zdn c_Pace_Lo c_Pace_Hi c_Base c_Scale c_Off c_Marks c_Notes stops (aG.app _) aH (aI.app _) aJ (bb.app _) bc bf _ (H.gt 2)) ?_
 rintro vq bQ (⟨r3,bg,hvq,aa⟩ | ⟨ai,aj,ak,al,am,ao,av,r1,r2,bh,ap,aw,ax,aq,bi,hvq,aa,bj⟩)
 ·subst bg;subst vq;(try dsimp only at hM);replace H:=H.bk aa;clear aa;refine kg 18 ?_
  refine W.cond (r3 != 0) rfl (fun aC=>?_) (fun aC=>?_)
  ·replace hM:=M.e_t hM aC
   replace aC:=dI aC
   refine kg 2 ?_;refine s_val (x_bld (ps:=[]) (zs:=[I 0,I 0]) (L':=[I 0,I 0]) rfl Tryz.underlying31 Al31 rfl (Bd31 Tryz.underlying31) (.nil)) ?_;refine kg 1 ?_;refine t_sw 0 0 [I 0,I 0] (.agg #[I 0,I 0]) H rfl rfl Sz31 rfl rfl rfl rfl ?_;intro bR H;refine kg 2 ?_;refine W.ret ?_
   have bm:=(H.bl 0)
   have aD:=M.e_pure hM
   exact ⟨_,(resE_ofn (vs:=[.agg #[I 0,I 0],I r3]) rfl rfl (.cell (v:=.agg #[I 0,I 0]) rfl (run_loadVar_ag (ds:=[I 0,I 0]) Ag31 Sz31 bm rfl rfl)<|.tmp (v:=I r3) rfl<|.nil)),⟨0,0,r3,aD,rfl,(H.pk [])⟩⟩
  replace hM:=M.e_f hM aC
  exact (M.e_fail hM).elim
 subst bi;subst vq;(try dsimp only at hM);replace H:=H.bk aa;clear aa;refine kg 18 ?_
 refine W.cond (bh != 0) rfl (fun aE=>?_) (fun aE=>?_)
 ·replace hM:=M.e_t hM aE
  exact (M.e_fail hM).elim
 replace hM:=M.e_f hM aE
 replace aE:=dI aE
 refine kg 7 ?_
 refine W.cond (decide (ae<ac)) rfl (fun ar=>?_) (fun ar=>?_)
 ·replace hM:=M.e_t hM ar
  replace ar:=dI ar
  refine kg 2 ?_;refine s_val (x_bld (ps:=[]) (zs:=[I 0,I 0]) (L':=[I 0,I 0]) rfl Tryz.underlying31 Al31 rfl (Bd31 Tryz.underlying31) (.nil)) ?_;refine t_sw 4 0 [I 0,I 0] (.agg #[I 0,I 0]) H rfl rfl Sz31 rfl rfl rfl rfl ?_;intro bS H;refine kg 2 ?_;replace H:=H.pk [4];refine W.ret ?_
  have bn:=(H.bl 0)
  have aD:=M.e_pure hM
  exact ⟨_,(resE_ofn (vs:=[.agg #[I 0,I 0],I 4]) rfl rfl (.cell (v:=.agg #[I 0,I 0]) rfl (run_loadVar_ag (ds:=[I 0,I 0]) Ag31 Sz31 bn rfl rfl)<|.tmp (v:=I 4) rfl<|.nil)),⟨0,0,4,aD,rfl,(H.pk [])⟩⟩
 replace hM:=M.e_f hM ar
 replace ar:=dI ar
 refine kg 12 ?_;refine t_alloc (cs:=[I 0,I 0,B false]) H Al65 rfl ?_;intro ay bT H
 have bU:=((H.os 3)).len_le
 refine kg 9 ?_;obtain ⟨bo,aL,bp⟩:=M.e_bind hM
 obtain ⟨br,aL⟩:=M.e_iter aL
 refine W.loop (fun m σ W=>∃ (s7:Int) (s8:Int) (s9:Bool) (ab:Nat) (ρ:Env),σ=upds ρ [(2,I (max ac (-100000001))),(3,I (min ae 100000001)),(8,Pq aB),(10,Pq ap),(11,ax),(12,aq),(14,Pq ay),(42,I (r1.length:Int)),(43,I (ab:Int))]/\M.iterN (zbj c_Marks c_Notes ac ae ai aj ak al am ao av r1 r2) m (s7,s8,s9,ab)=some bo/\St w W [cBlk ay [I s7,I s8,B s9] 65,cBlk ap (List.flatten [[I ai,I aj,I ak,I al,I am,ag,ah,.map (some aw)],encF (α:=Bool) av]) 143,cMl I encCN aw ao,cOwn (α:=Span) 31 ax r1,cOwn (α:=Span) 31 aq r2,cBlk aB [I 0,I 0] 31,cBlk aK [I c_Pace_Lo,I c_Pace_Hi,I c_Base,I c_Scale,I c_Off,ag,ah] 35] R) ?_ ?_
 ·exact ⟨_,0,0,false,0,_,upds_of _ _ ⟨rfl,rfl,rfl,rfl,rfl,rfl,rfl,rfl,rfl,trivial⟩,aL,H⟩
 rintro bV σ bW ⟨s7,s8,s9,ab,ρ,rfl,aY,H⟩
 obtain ⟨bt,bu,bX,hM,aZ⟩:=M.e_iterN aY
 simp only [zbj] at hM
 clear aY;refine kg 5 ?_
 refine W.cond (decide ((ab:Int)<(r1.length:Int))) rfl (fun au=>?_) (fun au=>?_)
 ·replace hM:=M.e_t hM au
  replace au:=dI au
  refine kg 14 ?_;obtain ⟨bv,aM,bw⟩:=M.e_bind hM
  obtain ⟨br,aM⟩:=M.e_iter aM
  refine W.loop (fun m σ W=>∃ (s:Int) (s2:Int) (s3:Bool) (b:Int) (ρ:Env),σ=upds ρ [(2,I (max ac (-100000001))),(3,I (min ae 100000001)),(8,Pq aB),(10,Pq ap),(11,ax),(12,aq),(14,Pq ay),(15,I (ab:Int)),(16,I b),(42,I (r1.length:Int)),(43,I (ab:Int))]/\M.iterN (zaR c_Marks c_Notes ac ae ai aj ak al am ao av r1 r2 ab) m (s,s2,s3,b)=some bv/\St w W [cBlk ay [I s,I s2,B s3] 65,cBlk ap (List.flatten [[I ai,I aj,I ak,I al,I am,ag,ah,.map (some aw)],encF (α:=Bool) av]) 143,cMl I encCN aw ao,cOwn (α:=Span) 31 ax r1,cOwn (α:=Span) 31 aq r2,cBlk aB [I 0,I 0] 31,cBlk aK [I c_Pace_Lo,I c_Pace_Hi,I c_Base,I c_Scale,I c_Off,ag,ah] 35] R) ?_ ?_
  ·exact ⟨_,s7,s8,s9,(ab:Int),_,upds_of _ _ ⟨rfl,rfl,rfl,rfl,rfl,rfl,rfl,rfl,rfl,rfl,rfl,trivial⟩,aM,H⟩
  rintro bY σ bZ ⟨s,s2,s3,b,ρ,rfl,a6,H⟩
  obtain ⟨a7,a8,b3,hM,aN⟩:=M.e_iterN a6
  simp only [zaR] at hM
  clear a6
  have b4:=((H.os 3)).len_le
  refine kg 11 ?_;refine s_val (x_pand (b:=decide (b<(r1.length:Int))) (r:=decide ((max ac (-100000001))<=(min ae 100000001))) rfl (fun hb=>gd_of (c:=decide (b<(r1.length:Int))) (by first | exact hb | (rw [hb]; rfl) | simp_all) (B (decide ((max ac (-100000001))<=(min ae 100000001))))) rfl)<|s_nil ?_
  refine W.cond ((decide (b<(r1.length:Int)))&&(decide ((max ac (-100000001))<=(min ae 100000001)))) rfl (fun aO=>?_) (fun aO=>?_)
  ·replace hM:=M.e_t hM aO;refine kg 12 ?_;obtain ⟨b6,bx,hM⟩:=M.e_bind hM;refine s_call cf16 [Pq ap,ax,I (ab:Int),I b,I (max ac (-100000001)),I (min ae 100000001)] rfl (zdo ai aj ak al am c_Marks c_Notes ao r1 (ab:Int) b (max ac (-100000001)) (min ae 100000001) (aG.app _) aH (aI.app _) aJ (Has.here (k:=2) rfl) (Fld.here (k:=1) rfl rfl) (rdo 3) (H.os 3) bx _ (H.gt 7)) ?_
   rintro vq b7 ⟨r4,bz,rfl,hvq,aa⟩
   subst vq;(try dsimp only at hM);replace H:=H.bk aa;clear aa;obtain ⟨b8,bA,hM⟩:=M.e_bind hM;refine s_call cf15 [Pq ap,bz] rfl (zcQ ai aj ak al am c_Marks c_Notes ao av r4 (aG.app _) aH (aI.app _) aJ (Has.here (k:=3) rfl) bj (Has.here (k:=2) rfl) (rdo 0) (H.os 0) bA _ (H.gt 8)) ?_
   rintro vq b9 ⟨r0,bB,ca,rfl,hvq,aa⟩
   subst vq;(try dsimp only at hM);replace H:=H.bk aa;clear aa;refine kg 6 ?_;replace H:=H.pk [2,3,4,5,6,7,8];refine kg 4 ?_
   refine W.cond bB rfl (fun aP=>?_) (fun aP=>?_)
   ·replace hM:=M.e_t hM aP;refine W.draw (fun W=>St w W [cBlk ap (List.flatten [[I ai,I aj,I ak,I al,I am,ag,ah,.map (some aw)],encF (α:=Bool) av]) 143,cMl I encCN aw ao,cOwn (α:=Span) 31 ax r1,cOwn (α:=Span) 31 aq r2,cBlk aB [I 0,I 0] 31,cBlk aK [I c_Pace_Lo,I c_Pace_Hi,I c_Base,I c_Scale,I c_Off,ag,ah] 35] R) [(1,true),(2,true),(3,true),(4,true),(5,true),(8,true),(9,true),(10,true),(11,true),(12,true),(0,false),(6,false),(7,false),(13,false),(14,true),(15,false)] mixed (by decide +kernel) rfl ?_;intro cb ba;replace H:=H.ext ba;clear ba
    refine ⟨(H.pk [1,2,3,4,5,6]),?_⟩
    obtain ⟨cc,hM⟩:=M.e_gd hM;obtain ⟨cd,hM⟩:=M.e_gd hM;refine kg 4 ?_
    obtain ⟨aQ,bC,aR⟩:=sl_lohi T61.und T61.size (H.os 4) (i:=(ab:Int)) (j:=b+1) (by omega) (by omega) (by omega)
    replace aR:Sl _ aQ ((r2.take (Int.toNat (b+1))).drop ab):=aR
    refine d_q rfl (fun w' H=>x_sl (v:=aq) (u:=aQ) (lo':=some (I (ab:Int))) (hi':=some (I (b+1))) (mx':=none) rfl rfl rfl rfl (bC _)) ?_;refine kg 4 ?_
    obtain ⟨aS,bD,aT⟩:=sl_lohi T61.und T61.size (H.os 4) (i:=(ab:Int)) (j:=b+1) (by omega) (by omega) (by omega)
    replace aT:Sl _ aS ((r2.take (Int.toNat (b+1))).drop ab):=aT
    refine d_q rfl (fun w' H=>x_sl (v:=aq) (u:=aS) (lo':=some (I (ab:Int))) (hi':=some (I (b+1))) (mx':=none) rfl rfl rfl rfl (bD _))<|d_l rfl ?_;obtain ⟨ce,bE,hM⟩:=M.e_bind hM;refine s_call cf18 [] rfl (zdq bE _ (H.gt 7)) ?_
    rintro vq cf ⟨rfl,hvq,aa⟩
    subst vq;(try dsimp only at hM);replace H:=H.bk aa;clear aa
    refine s_nil ⟨(H.pk [1,2,3,4,5,6]),?_⟩
    refine d_l rfl ?_;obtain ⟨cg,bF,hM⟩:=M.e_bind hM;refine s_call cf19 [.agg #[.func (.func 49) #[] #[]],aQ] rfl (zdc ((r2.take (Int.toNat (b+1))).drop ab) (rdo 4) aR bF _ (H.gt 7)) ?_
    rintro vq ch ⟨r5,rfl,hvq,aa⟩
    subst vq;(try dsimp only at hM);replace H:=H.bk aa;clear aa
    refine s_nil ⟨(H.pk [1,2,3,4,5,6]),?_⟩
    refine d_l rfl ?_;obtain ⟨ci,bG,hM⟩:=M.e_bind hM;refine s_call cf20 [] rfl (zdd bG _ (H.gt 7)) ?_
    rintro vq cj ⟨rfl,hvq,aa⟩
    subst vq;(try dsimp only at hM);replace H:=H.bk aa;clear aa
    refine s_nil ⟨(H.pk [1,2,3,4,5,6]),?_⟩
    refine d_l rfl ?_;obtain ⟨ck,bH,hM⟩:=M.e_bind hM;refine s_call cf19 [.agg #[.func (.func 50) #[] #[]],aS] rfl (zea ((r2.take (Int.toNat (b+1))).drop ab) (rdo 4) aT bH _ (H.gt 7)) ?_
    rintro vq cl ⟨r6,rfl,hvq,aa⟩
    subst vq;(try dsimp only at hM);replace H:=H.bk aa;clear aa
    refine s_nil ⟨(H.pk [1,2,3,4,5,6]),?_⟩
    refine d_q rfl (fun w' H=>x_bld (ps:=[(0,I r5),(1,I r6)]) (zs:=[I 0,I 0]) (L':=[I r5,I r6]) rfl Tryz.underlying31 Al31 rfl (Bd31 Tryz.underlying31) (.cons (cs:=[I r5]) rfl rfl rfl rfl rfl<|.cons (cs:=[I r6]) rfl rfl rfl rfl rfl<|.nil))<|d_l rfl ?_;obtain ⟨cm,bI,hM⟩:=M.e_bind hM;refine s_call cf17 [Pq ay,.agg #[I r5,I r6]] rfl (zdM s s2 s3 (⟨(r5:Int),(r6:Int)⟩:Span) bI _ (H.gt 6)) ?_
    rintro vq cn ⟨q0,q1,q2,rfl,hvq,aa⟩
    subst vq;(try dsimp only at hM);replace H:=H.bk aa;clear aa
    refine s_nil ⟨(H.pk [1,2,3,4,5,6]),?_⟩
    obtain ⟨co,hM⟩:=M.e_gd hM;refine kg 6 ?_
    exact ⟨a7,a8,q0,q1,q2,b+1,_,upds_of _ _ ⟨rfl,rfl,rfl,rfl,rfl,rfl,rfl,rfl,rfl,rfl,rfl,trivial⟩,M.e_inl hM aN,H⟩
   replace hM:=M.e_f hM aP;obtain ⟨cp,hM⟩:=M.e_gd hM;refine kg 6 ?_
   exact ⟨a7,a8,s,s2,s3,b+1,_,upds_of _ _ ⟨rfl,rfl,rfl,rfl,rfl,rfl,rfl,rfl,rfl,rfl,rfl,trivial⟩,M.e_inl hM aN,H⟩
  replace hM:=M.e_f hM aO;refine W.exit ?_
  have bJ:=M.e_inr hM aN
  subst bJ;replace hM:=bw;(try dsimp only at hM);refine kg 4 ?_
  exact ⟨bt,bu,s,s2,s3,ab+1,_,upds_of _ _ ⟨rfl,rfl,rfl,rfl,rfl,rfl,rfl,rfl,rfl,trivial⟩,M.e_inl hM aZ,H⟩
 replace hM:=M.e_f hM au
 replace au:=dI au
 refine W.exit ?_
 have bK:=M.e_inr hM aZ
 subst bK;replace hM:=bp;(try dsimp only at hM);replace H:=H.pk [0,5];refine kg 2 ?_;obtain ⟨cq,bL,hM⟩:=M.e_bind hM;refine s_call cf21 [Pq ay] rfl (zdY s7 s8 s9 (Has.here (k:=0) rfl) bL _ (H.gt 2)) ?_
 rintro vq cr ⟨az,aA,aU,rfl,hvq,aa⟩
 subst vq;(try dsimp only at hM);replace H:=H.bk aa;clear aa;refine kg 2 ?_;refine t_sw 1 0 [I az,I aA] (.agg #[I az,I aA]) H rfl rfl Sz31 rfl rfl rfl rfl ?_;intro cu H;refine kg 2 ?_;refine W.ret ?_
 have bM:=(H.bl 1)
 have aD:=M.e_pure hM
 exact ⟨_,(resE_ofn (vs:=[.agg #[I az,I aA],I aU]) rfl rfl (.cell (v:=.agg #[I az,I aA]) rfl (run_loadVar_ag (ds:=[I az,I aA]) Ag31 Sz31 bM rfl rfl)<|.tmp (v:=I aU) rfl<|.nil)),⟨az,aA,aU,aD,rfl,(H.pk [])⟩⟩

end Go.Proofs.YtdmdhmineljlhaaGreat
end
section
set_option maxRecDepth 100000
set_option maxHeartbeats 16000000
namespace Go.Proofs.YtdmdhmineljlhaaGreat
open Go Go.Nm
attribute [local irreducible] gd execOp SL SLD SLT WR
def zbh (aa:Int) (t:List Int) (ab stage:Int):(Nat × Int)->M ((Nat × Int) ⊕ Int):=fun (n,year) =>
  bif decide (year<=ab) then (
  M.grd (decide ((-9223372036854775808:Int)<=(year-aa))&&decide ((year-aa)<=(9223372036854775807:Int))) <|
  M.grd (decide ((0:Int)<=(year-aa))&&decide ((year-aa)<(t.length:Int))) <|
  bif decide (stage<=(t.getD (Int.toNat (year-aa)) 0)) then (
  M.grd (decide ((-9223372036854775808:Int)<=((n:Int)+1))&&decide (((n:Int)+1)<=(9223372036854775807:Int))) <|
  M.grd (decide ((-9223372036854775808:Int)<=(year+1))&&decide ((year+1)<=(9223372036854775807:Int))) <|
  M.pure (.inl (n+1,year+1)))
  else (
  M.grd (decide ((-9223372036854775808:Int)<=(year+1))&&decide ((year+1)<=(9223372036854775807:Int))) <|
  M.pure (.inl (n,year+1))))
  else (
  M.pure (.inr (n:Int)))
def zbP (ae:List Yr) (ag:List Old10) (aa ah:Int) (t:List Int) (ab ac stage:Int):M Int :=
  M.bind (M.iter (zbh aa t ac stage) (0,ab)) fun n2 =>
  M.pure n2
theorem zdK {R:List Chunk} {ao:Cells} {ag:Value} {ap:Cells} {ah:Value} {aq:Cells} {aj:Value} (ar:List Yr) (au:List Old10) (ac:Int) (ai:Int) (t:List Int) (ak:Int) (ae:Int) (stage:Int) (aD:Reads R ao) (aE:Sl ao ag ar) (aF:Reads R ap) (aG:Sl ap ah au) (aH:Reads R aq) (aI:Sl aq aj t) {r:Int} (hM:(zbP ar au ac ai t ak ae stage).Ends r) (w:World) (H:St w w [] R):Ret Tryz.prog 10 #[.agg #[ag,ah,I ac,I ai],aj,I ak,I ae,I stage] w fun v w'=>∃ (y0:Int),y0=r/\v=I y0/\St w w' [] R:=by
 refine ret_of_W Tryz.func10 rfl rfl rfl ?_;refine kg 2 ?_;refine t_bx [ag,ah,I ac,I ai] H rfl ?_;intro av aJ H;refine kg 13 ?_;obtain ⟨az,al,aA⟩:=M.e_bind hM
 obtain ⟨aK,al⟩:=M.e_iter al
 refine W.loop (fun m σ W=>∃ (n:Nat) (year:Int) (ρ:Env),σ=upds ρ [(1,aj),(3,I ae),(4,I stage),(5,Pq av),(11,I (n:Int)),(12,I year)]/\M.iterN (zbh ac t ae stage) m (n,year)=some az/\St w W [cBlk av [ag,ah,I ac,I ai] 26] R) ?_ ?_
 ·exact ⟨_,0,ak,_,upds_of _ _ ⟨rfl,rfl,rfl,rfl,rfl,rfl,trivial⟩,al,H⟩
 rintro aL σ aM ⟨n,year,ρ,rfl,aw,H⟩
 obtain ⟨ax,ay,aN,hM,am⟩:=M.e_iterN aw
 simp only [zbh] at hM
 clear aw;refine kg 7 ?_
 refine W.cond (decide (year<=ae)) rfl (fun aa=>?_) (fun aa=>?_)
 ·replace hM:=M.e_t hM aa
  replace aa:=dI aa
  obtain ⟨aO,hM⟩:=M.e_gd hM;obtain ⟨aP,hM⟩:=M.e_gd hM;refine kg 15 ?_
  refine W.cond (decide (stage<=(t.getD (Int.toNat (year-ac)) 0))) rfl (fun ab=>?_) (fun ab=>?_)
  ·replace hM:=M.e_t hM ab
   replace ab:=dI ab
   obtain ⟨aQ,hM⟩:=M.e_gd hM;obtain ⟨aR,hM⟩:=M.e_gd hM;refine kg 10 ?_
   exact ⟨ax,ay,n+1,year+1,_,upds_of _ _ ⟨rfl,rfl,rfl,rfl,rfl,rfl,trivial⟩,M.e_inl hM am,H⟩
  replace hM:=M.e_f hM ab
  replace ab:=dI ab
  obtain ⟨aS,hM⟩:=M.e_gd hM;refine kg 6 ?_
  exact ⟨ax,ay,n,year+1,_,upds_of _ _ ⟨rfl,rfl,rfl,rfl,rfl,rfl,trivial⟩,M.e_inl hM am,H⟩
 replace hM:=M.e_f hM aa
 replace aa:=dI aa
 refine W.exit ?_
 have aB:=M.e_inr hM am
 subst aB;replace hM:=aA;(try dsimp only at hM);refine kg 5 ?_;refine W.ret ?_
 have aC:=M.e_pure hM
 exact ⟨_,resE_tmp rfl,⟨(n:Int),aC,rfl,(H.pk [])⟩⟩

def zaA  : (Int × (List Int))->M ((Int × (List Int)) ⊕ ((List Int) × (List Int))):=fun (n,l) =>
  bif decide (0<n) then (
  M.grd (decide ((-9223372036854775808:Int)<=(10*n))&&decide ((10*n)<=(9223372036854775807:Int))) <|
  M.grd (decide ((l.length+([(10*n:Int)]).length)*8<=140737488355328)) <|
  M.grd (decide ((-9223372036854775808:Int)<=(n-1))&&decide ((n-1)<=(9223372036854775807:Int))) <|
  M.pure (.inl (n-1,l++([(10*n:Int)]))))
  else (
  M.pure (.inr (l,l)))
def zaH (aa:List Int):(Int × Nat)->M ((Int × Nat) ⊕ Int):=fun (top,i) =>
  bif decide ((i:Int)<(aa.length:Int)) then (
  M.grd (decide ((i:Int)<(aa.length:Int))) <|
  M.pure (.inl (max top (aa.getD i 0),i+1)))
  else (
  M.pure (.inr top))
def zaI (one two three:List UInt8):((List Int) × Nat × (List Yr))->M (((List Int) × Nat × (List Yr)) ⊕ (((List Yr) × (List Int) × (List Yr)) ⊕ ((List Yr) × (List Int) × (List Yr) × (List Int)))):=fun (l5,s,l4) =>
  bif decide ((s:Int)<(([one,two,three]).length:Int)) then (
  M.grd (decide ((s:Int)<(([one,two,three]).length:Int))) <|
  M.bind (zc0 (([one,two,three]).getD s ([]))) fun (r1,ae) =>
  M.bind (zbF (([one,two,three]).getD s ([])) r1 ae 8 true) fun (ag,ah,ai,aj,ak,al,am,aq,ac,ao,q1,q2) =>
  M.bind (zbs ag ah ai aj ak al am ao (-100000000) 100000000) fun (ab,aa,ap) =>
  bif ((ap != 0)||((ac.length:Int)==0)) then (
  M.pure (.inr (.inl (l4,l5,l4))))
  else (
  M.grd (decide (0<(ac.length:Int))) <|
  M.bind (M.iter (zaH ac) (ac.getD 0 0,0)) fun top2 =>
  bif ((decide (top2<ab))||(decide (aa<top2))) then (
  M.pure (.inr (.inl (l4,l5,l4))))
  else (
  M.grd (decide ((-9223372036854775808:Int)<=(1900+(l5.length:Int)))&&decide ((1900+(l5.length:Int))<=(9223372036854775807:Int))) <|
  M.grd (decide (0<=(max 0 ab))&&decide ((max 0 ab)<=(9223372036854775807:Int))&&decide ((0:Int)<10)) <|
  M.grd (decide ((-9223372036854775808:Int)<=((max 0 aa)+9))&&decide (((max 0 aa)+9)<=(9223372036854775807:Int))) <|
  M.grd (decide (0<=((max 0 aa)+9))&&decide (((max 0 aa)+9)<=(9223372036854775807:Int))&&decide ((0:Int)<10)) <|
  M.grd (decide ((l4.length+([(⟨1900+(l5.length:Int),((max 0 ab) / 10:Int),(min 2000 (((max 0 aa)+9) / 10):Int)⟩:Yr)]).length)*24<=140737488355328)) <|
  M.grd (decide (0<=(max 0 top2))&&decide ((max 0 top2)<=(9223372036854775807:Int))&&decide ((0:Int)<10)) <|
  M.grd (decide ((l5.length+([((max 0 top2) / 10:Int)]).length)*8<=140737488355328)) <|
  M.pure (.inl (l5++([((max 0 top2) / 10:Int)]),s+1,l4++([(⟨1900+(l5.length:Int),((max 0 ab) / 10:Int),(min 2000 (((max 0 aa)+9) / 10):Int)⟩:Yr)]))))))
  else (
  M.pure (.inr (.inr (l4,l5,l4,l5))))
def zcA (one two three:List UInt8) (before ai:Int):M Bool :=
  M.bind (zaZ before 5) fun r2 =>
  M.bind (M.iter (zaA) (r2,[])) fun (l2,l3) =>
  M.bind (M.iter (zaI one two three) (l3,0,[])) fun x_=>match x_ with
  | (.inl (l6,l7,l8))=>(
  M.pure false)
  | (.inr (l9,aj,ab,aa))=>(
  M.grd (decide ((-9223372036854775808:Int)<=(1900+(aa.length:Int)))&&decide ((1900+(aa.length:Int))<=(9223372036854775807:Int))) <|
  M.bind (zaZ ai 120) fun r3 =>
  M.bind (zaD ab ([]:List Old10) 1900 ((1900+(aa.length:Int))-1) aa) fun (r0,ac) =>
  M.bind (zaj ab ([]:List Old10) 1900 ((1900+(aa.length:Int))-1) 1900 ((1900+(aa.length:Int))-1) r3) fun (ae,ag,ah) =>
  M.bind (zbP ab ([]:List Old10) 1900 ((1900+(aa.length:Int))-1) aa 1900 ((1900+(aa.length:Int))-1) r3) fun r4 =>
  M.bind (M.opt (((((ac==0)&&(ah==0))&&r0)&&(decide (ae<=r4)))&&(decide (r4<=ag))) (zcc) false) fun r5 =>
  M.pure ((((((ac==0)&&(ah==0))&&r0)&&(decide (ae<=r4)))&&(decide (r4<=ag)))&&r5))
theorem zdP {R:List Chunk} {aW:Cells} {aA:Value} {aX:Cells} {aB:Value} {aY:Cells} {aC:Value} (one:List UInt8) (two:List UInt8) (three:List UInt8) (before:Int) (aq:Int) (ae:Reads R aW) (bz:Sl aW aA one) (ag:Reads R aX) (bA:Sl aX aB two) (aj:Reads R aY) (bB:Sl aY aC three) {r:Bool} (hM:(zcA one two three before aq).Ends r) (w:World) (H:St w w [] R):Ret Tryz.prog 3 #[aA,aB,aC,I before,I aq] w fun v w'=>∃ (y0:Bool),y0=r/\v=B y0/\St w w' [] R:=by
 refine ret_of_W Tryz.func3 rfl rfl rfl ?_;refine kg 6 ?_;refine s_val (x_bld (ps:=[(2,I 1900)]) (zs:=[.slice none 0 0,.slice none 0 0,I 0,I 0]) (L':=[.slice none 0 0,.slice none 0 0,I 1900,I 0]) rfl Tryz.underlying26 Al26 rfl (Bd26 Tryz.underlying26) (.cons (cs:=[I 1900]) rfl rfl rfl rfl rfl<|.nil)) ?_;refine t_alloc (cs:=[.slice none 0 0,.slice none 0 0,I 0,I 0]) H Al26 rfl ?_;intro aD ch H;refine t_sw 0 0 [.slice none 0 0,.slice none 0 0,I 1900,I 0] (.agg #[.slice none 0 0,.slice none 0 0,I 1900,I 0]) H rfl rfl Sz26 rfl rfl rfl rfl ?_;intro ci H;refine kg 9 ?_;obtain ⟨cj,bC,hM⟩:=M.e_bind hM;refine s_call cf4 [I before,I 5] rfl (zcU before 5 bC _ (H.gt 1)) ?_
 rintro vq ck ⟨r2,rfl,hvq,aa⟩
 subst vq;(try dsimp only at hM);replace H:=H.bk aa;clear aa;refine kg 3 ?_
 replace H:=H.nilOwn (α:=Int) 3
 obtain ⟨bD,aZ,bE⟩:=M.e_bind hM
 obtain ⟨bj,aZ⟩:=M.e_iter aZ
 refine W.loop (fun m σ W=>∃ (n:Int) (l:List Int) (aN:Value) (ρ:Env),σ=upds ρ [(0,aA),(1,aB),(2,aC),(4,I aq),(11,Pq aD),(12,aN),(13,I n)]/\M.iterN (zaA) m (n,l)=some bD/\St w W [cOwn (α:=Int) 3 aN l,cBlk aD [.slice none 0 0,.slice none 0 0,I 1900,I 0] 26] R) ?_ ?_
 ·exact ⟨_,r2,[],(.slice none 0 0),_,upds_of _ _ ⟨rfl,rfl,rfl,rfl,rfl,rfl,rfl,trivial⟩,aZ,H⟩
 rintro cl σ cm ⟨n,l,aN,ρ,rfl,bm,H⟩
 obtain ⟨bF,bG,cn,hM,bn⟩:=M.e_iterN bm
 simp only [zaA] at hM
 clear bm;refine kg 6 ?_
 refine W.cond (decide (0<n)) rfl (fun ar=>?_) (fun ar=>?_)
 ·replace hM:=M.e_t hM ar
  replace ar:=dI ar
  obtain ⟨co,hM⟩:=M.e_gd hM;refine kg 7 ?_;refine t_bs (α:=Int) T27 [I (10*n)] [(10*n:Int)] H rfl (.cons rfl (Flat.rep_enc _ (10*n:Int))<|.nil) rfl rfl rfl ?_;intro bH cp H;obtain ⟨cq,hM⟩:=M.e_gd hM;refine t_app (α:=Int) (k:=1) (l:=l) (l2:=[(10*n:Int)]) (l':=l++([(10*n:Int)])) (vy:=bH) T27 rfl H rfl rfl rfl (H.os 0) (H.ol 0) (rfl) (by first | omega | (simp only [List.length_nil] at *; omega)) ?_;intro bI cr H;replace H:=H.nf;obtain ⟨cu,hM⟩:=M.e_gd hM;refine kg 7 ?_
  exact ⟨bF,bG,n-1,l++([(10*n:Int)]),bI,_,upds_of _ _ ⟨rfl,rfl,rfl,rfl,rfl,rfl,rfl,trivial⟩,M.e_inl hM bn,(H.pk [1,2])⟩
 replace hM:=M.e_f hM ar
 replace ar:=dI ar
 refine W.exit ?_
 have bJ:=M.e_inr hM bn
 subst bJ;replace hM:=bE;(try dsimp only at hM);refine kg 6 ?_
 obtain ⟨aE,H⟩:=H.emptyE
 have am:=bz
 replace am:=am.mono (Cells.sup_l _ aE.cells)
 have au:=bA
 replace am:=am.mono (Cells.sup_monoL (Cells.sup_l _ _) ((Reads.sup ae ag).at H) (roLe _ (H.get (k:=0) rfl)))
 replace au:=au.mono ((Cells.sup_r (ae.at H) (ag.at H)).trans (Cells.sup_l _ aE.cells))
 have aI:=bB
 replace am:=am.mono (Cells.sup_monoL (Cells.sup_l _ _) ((Reads.sup (Reads.sup ae ag) aj).at H) (roLe _ (H.get (k:=0) rfl)))
 replace au:=au.mono (Cells.sup_monoL (Cells.sup_l _ _) ((Reads.sup (Reads.sup ae ag) aj).at H) (roLe _ (H.get (k:=0) rfl)))
 replace aI:=aI.mono ((Cells.sup_r ((Reads.sup ae ag).at H) (aj.at H)).trans (Cells.sup_l _ aE.cells))
 obtain ⟨aF,bo⟩:∃ r:Raw 0,r.cs=[aA]:=⟨Raw.of [aA] rfl (by simp only [List.all_cons,List.all_nil,Bool.true_and,Bool.and_true,Sl.oc am]; try rfl),rfl⟩
 obtain ⟨aG,bp⟩:∃ r:Raw 0,r.cs=[aB]:=⟨Raw.of [aB] rfl (by simp only [List.all_cons,List.all_nil,Bool.true_and,Bool.and_true,Sl.oc au]; try rfl),rfl⟩
 obtain ⟨aH,br⟩:∃ r:Raw 0,r.cs=[aC]:=⟨Raw.of [aC] rfl (by simp only [List.all_cons,List.all_nil,Bool.true_and,Bool.and_true,Sl.oc aI]; try rfl),rfl⟩
 have aO:RepR (α:=List UInt8) (Cells.sup (Cells.sup (Cells.sup aW aX) aY) aE.cells) [aF,aG,aH] [one,two,three]:=.cons (by rw [bo]; exact ⟨_,rfl,am⟩)<|.cons (by rw [bp]; exact ⟨_,rfl,au⟩)<|.cons (by rw [br]; exact ⟨_,rfl,aI⟩)<|.nil
 refine t_bs (α:=Raw 0) T29 [aA,aB,aC] [aF,aG,aH] H rfl (.cons (by rw [show (Flat.enc aF:List Value)=aF.cs from rfl,bo]; exact Sl.cells am) (Flat.rep_enc _ _)<|.cons (by rw [show (Flat.enc aG:List Value)=aG.cs from rfl,bp]; exact Sl.cells au) (Flat.rep_enc _ _)<|.cons (by rw [show (Flat.enc aH:List Value)=aH.cs from rfl,br]; exact Sl.cells aI) (Flat.rep_enc _ _)<|.nil) rfl rfl rfl ?_;intro aJ cv H;replace H:=H.nf
 have cx:=((rowSl rfl (H.get (k:=0) rfl) (Cells.sup_le ((Reads.sup (Reads.sup ae ag) aj).at H) (roLe _ (H.get (k:=1) rfl))) aO)).len_le
 refine s_val (x_lenS T29.und rfl (rowSl rfl (H.get (k:=0) rfl) (Cells.sup_le ((Reads.sup (Reads.sup ae ag) aj).at H) (roLe _ (H.get (k:=1) rfl))) aO)) ?_;refine kg 3 ?_
 replace H:=H.nilOwn (α:=Yr) 46
 obtain ⟨bK,a6,a7⟩:=M.e_bind hM
 obtain ⟨bj,a6⟩:=M.e_iter a6
 refine W.loop (fun m σ W=>∃ (l5:List Int) (s:Nat) (l4:List Yr) (av:Value) (ao:Value) (ρ:Env),σ=upds ρ [(4,I aq),(11,Pq aD),(12,av),(43,aJ),(44,I (([one,two,three]).length:Int)),(45,I (s:Int))]/\M.iterN (zaI one two three) m (l5,s,l4)=some bK/\St w W [cOwn (α:=Yr) 46 ao l4,cOwn (α:=Raw 0) 22 aJ ([aF,aG,aH]),cRo aE,cOwn (α:=Int) 3 av l5,cBlk aD [ao,.slice none 0 0,I 1900,I 0] 26] R) ?_ ?_
 ·exact ⟨_,l,0,[],aN,(.slice none 0 0),_,upds_of _ _ ⟨rfl,rfl,rfl,rfl,rfl,rfl,trivial⟩,a6,H⟩
 rintro cy σ cz ⟨l5,s,l4,av,ao,ρ,rfl,bt,H⟩
 obtain ⟨bL,bM,cB,hM,aP⟩:=M.e_iterN bt
 simp only [zaI] at hM
 clear bt;refine kg 5 ?_
 refine W.cond (decide ((s:Int)<(([one,two,three]).length:Int))) rfl (fun aw=>?_) (fun aw=>?_)
 ·replace hM:=M.e_t hM aw
  replace aw:=dI aw
  obtain ⟨cC,hM⟩:=M.e_gd hM;refine kg 5 ?_;refine s_val (x_ix (v:=vat aJ 1 (Int.toNat (s:Int))) rfl rfl (Sl.ix (α:=List UInt8) T29.und T29.size (rowSl rfl (H.get (k:=1) rfl) (Cells.sup_le ((Reads.sup (Reads.sup ae ag) aj).at H) (roLe _ (H.get (k:=2) rfl))) aO) (by omega) (by omega))) ?_
  obtain ⟨a8,bN,aK⟩:=List_at (rowSl rfl (H.get (k:=1) rfl) (Cells.sup_le ((Reads.sup (Reads.sup ae ag) aj).at H) (roLe _ (H.get (k:=2) rfl))) aO) (i:=(s:Int)) (by omega) (by omega)
  replace aK:Sl _ a8 (([one,two,three]).getD s ([])):=aK
  have cD:=aK.len_le
  refine s_val (x_ld (v:=a8) rfl (ld_sc Sc22 (At.mono (bN) (Cells.sup_le (H.ol 1) (Cells.sup_le ((Reads.sup (Reads.sup ae ag) aj).at H) (roLe _ (H.get (k:=2) rfl))))))) ?_;refine kg 5 ?_;obtain ⟨cE,bO,hM⟩:=M.e_bind hM;refine s_call cf6 [a8] rfl (zdy (([one,two,three]).getD s ([])) (Reads.sup (rdo 1) (Reads.sup ((Reads.sup (Reads.sup ae ag) aj).app _) (Reads.of (k:=2) rfl roLe))) aK bO _ (H.gt 5)) ?_
  rintro vq cF ⟨r1,bP,bQ,rfl,hvq,aa⟩
  subst vq;(try dsimp only at hM);replace H:=H.bk aa;clear aa;obtain ⟨cG,bR,hM⟩:=M.e_bind hM;refine s_call cf5 [Pq bQ,I 8,B true] rfl (zde (([one,two,three]).getD s ([])) r1 bP 8 true (Reads.sup (rdo 1) (Reads.sup ((Reads.sup (Reads.sup ae ag) aj).app _) (Reads.of (k:=2) rfl roLe))) aK bR _ (H.gt 5)) ?_
  rintro vq cH ⟨aQ,aR,aS,aT,aU,bS,bT,bU,ak,bu,q1,q2,ba,bb,aV,aL,aM,rfl,hvq,aa⟩
  subst vq;(try dsimp only at hM);replace H:=H.bk aa;clear aa;refine kg 3 ?_;refine t_alloc (cs:=[I 0,I 0,I 0,I 0,I 0,.slice none 0 0,.slice none 0 0]) H Al35 rfl ?_;intro cI cJ H;refine t_alloc (cs:=[.slice none 0 0,.slice none 0 0,.slice none 0 0]) H Al37 rfl ?_;intro bc cK H;refine t_sw 1 0 [I aQ,I aR,I aS,I aT,I aU,ba,bb] (.agg #[I aQ,I aR,I aS,I aT,I aU,ba,bb]) H rfl rfl Sz35 rfl rfl rfl (by simp only [List.all_cons,List.all_nil,Bool.true_and,Bool.and_true,Sl.oc (H.os 2),Sl.oc (H.os 3)]; try rfl) ?_;intro cL H;refine t_sw 0 0 [aV,aL,aM] (.agg #[aV,aL,aM]) H rfl rfl Sz37 rfl rfl rfl (by simp only [List.all_cons,List.all_nil,Bool.true_and,Bool.and_true,Sl.oc (H.os 4),Sl.oc (H.os 5),Sl.oc (H.os 6)]; try rfl) ?_;intro cM H;refine kg 6 ?_;obtain ⟨cN,bV,hM⟩:=M.e_bind hM;refine s_call cf7 [.agg #[I aQ,I aR,I aS,I aT,I aU,ba,bb],aM,I (-100000000),I 100000000] rfl (zdG aQ aR aS aT aU bS bT bu (-100000000) 100000000 (rdo 2) (H.os 2) (rdo 3) (H.os 3) (rdo 6) (H.os 6) bV _ (H.gt 13)) ?_
  rintro vq cO ⟨ab,ac,ax,rfl,hvq,aa⟩
  subst vq;(try dsimp only at hM);replace H:=H.bk aa;clear aa;refine kg 3 ?_;refine t_alloc (cs:=[I 0,I 0]) H Al31 rfl ?_;intro bv cP H;refine t_sw 0 0 [I ab,I ac] (.agg #[I ab,I ac]) H rfl rfl Sz31 rfl rfl rfl rfl ?_;intro cQ H;refine kg 2 ?_;replace H:=H.pk [0,1,5,6,7,9,10,11,12,13];refine kg 10 ?_;refine s_val (x_por (b:=ax != 0) (r:=(ak.length:Int)==0) rfl rfl (fun hb=>gd_of (c:=!(ax != 0)) (by first | exact hb | (rw [hb]; rfl) | simp_all) (B ((ak.length:Int)==0))))<|s_nil ?_
  refine W.cond ((ax != 0)||((ak.length:Int)==0)) rfl (fun bf=>?_) (fun bf=>?_)
  ·replace hM:=M.e_t hM bf;refine kg 4 ?_;replace H:=H.pk [5,6,7,8,9];refine W.ret ?_
   have bW:=M.e_inr hM aP
   subst bW;replace hM:=a7;(try dsimp only at hM)
   have ay:=M.e_pure hM
   exact ⟨_,resE_tmp rfl,⟨false,ay,rfl,(H.pk [])⟩⟩
  replace hM:=M.e_f hM bf;obtain ⟨cR,hM⟩:=M.e_gd hM;refine kg 15 ?_;obtain ⟨bX,bg,bY⟩:=M.e_bind hM
  obtain ⟨bj,bg⟩:=M.e_iter bg
  refine W.loop (fun m σ W=>∃ (top:Int) (i:Nat) (ρ:Env),σ=upds ρ [(4,I aq),(11,Pq aD),(12,av),(17,Pq bc),(18,Pq bv),(20,I top),(21,I (i:Int)),(43,aJ),(44,I (([one,two,three]).length:Int)),(45,I (s:Int)),(65,gd (!(ax != 0)) (Oq bc 1)),(66,gd (!(ax != 0)) aL),(67,gd (!(ax != 0)) (I (ak.length:Int))),(68,gd (!(ax != 0)) (B ((ak.length:Int)==0)))]/\M.iterN (zaH ak) m (top,i)=some bX/\St w W [cBlk bv [I ab,I ac] 31,cBlk bc [aV,aL,aM] 37,cOwn (α:=Int) 3 aV bU,cOwn (α:=Int) 3 aL ak,cOwn (α:=Int) 3 aM bu,cOwn (α:=Yr) 46 ao l4,cOwn (α:=Raw 0) 22 aJ ([aF,aG,aH]),cRo aE,cOwn (α:=Int) 3 av l5,cBlk aD [ao,.slice none 0 0,I 1900,I 0] 26] R) ?_ ?_
  ·exact ⟨_,ak.getD 0 0,0,_,upds_of _ _ ⟨rfl,rfl,rfl,rfl,rfl,rfl,rfl,rfl,rfl,rfl,rfl,rfl,rfl,rfl,trivial⟩,bg,H⟩
  rintro cS σ cT ⟨top,i,ρ,rfl,bw,H⟩
  obtain ⟨bZ,b3,cU,hM,bx⟩:=M.e_iterN bw
  simp only [zaH] at hM
  clear bw
  have cV:=((H.os 3)).len_le
  refine kg 9 ?_
  refine W.cond (decide ((i:Int)<(ak.length:Int))) rfl (fun az=>?_) (fun az=>?_)
  ·replace hM:=M.e_t hM az
   replace az:=dI az
   obtain ⟨cW,hM⟩:=M.e_gd hM;refine kg 18 ?_
   exact ⟨bZ,b3,max top (ak.getD i 0),i+1,_,upds_of _ _ ⟨rfl,rfl,rfl,rfl,rfl,rfl,rfl,rfl,rfl,rfl,rfl,rfl,rfl,rfl,trivial⟩,M.e_inl hM bx,H⟩
  replace hM:=M.e_f hM az
  replace az:=dI az
  refine W.exit ?_
  have b4:=M.e_inr hM bx
  subst b4;replace hM:=bY;(try dsimp only at hM);refine kg 12 ?_;refine s_val (x_por (b:=decide (top<ab)) (r:=decide (ac<top)) rfl rfl (fun hb=>gd_of (c:=!(decide (top<ab))) (by first | exact hb | (rw [hb]; rfl) | simp_all) (B (decide (ac<top)))))<|s_nil ?_
  refine W.cond ((decide (top<ab))||(decide (ac<top))) rfl (fun bh=>?_) (fun bh=>?_)
  ·replace hM:=M.e_t hM bh;refine kg 4 ?_;replace H:=H.pk [5,6,7,8,9];refine W.ret ?_
   have b6:=M.e_inr hM aP
   subst b6;replace hM:=a7;(try dsimp only at hM)
   have ay:=M.e_pure hM
   exact ⟨_,resE_tmp rfl,⟨false,ay,rfl,(H.pk [])⟩⟩
  replace hM:=M.e_f hM bh
  have cX:=((H.os 8)).len_le
  obtain ⟨cY,hM⟩:=M.e_gd hM;obtain ⟨cZ,hM⟩:=M.e_gd hM;obtain ⟨c3,hM⟩:=M.e_gd hM;obtain ⟨c4,hM⟩:=M.e_gd hM;refine kg 20 ?_;refine s_val (x_bld (ps:=[(0,I ((max 0 ab) / 10)),(1,I (min 2000 (((max 0 ac)+9) / 10)))]) (zs:=[I 0,I 0]) (L':=[I ((max 0 ab) / 10),I (min 2000 (((max 0 ac)+9) / 10))]) rfl Tryz.underlying31 Al31 rfl (Bd31 Tryz.underlying31) (.cons (cs:=[I ((max 0 ab) / 10)]) rfl rfl rfl rfl rfl<|.cons (cs:=[I (min 2000 (((max 0 ac)+9) / 10))]) rfl rfl rfl rfl rfl<|.nil))<|s_val (x_bld (ps:=[(0,I (1900+(l5.length:Int))),(1,.agg #[I ((max 0 ab) / 10),I (min 2000 (((max 0 ac)+9) / 10))])]) (zs:=[I 0,I 0,I 0]) (L':=[I (1900+(l5.length:Int)),I ((max 0 ab) / 10),I (min 2000 (((max 0 ac)+9) / 10))]) rfl Tryz.underlying46 Al46 rfl (Bd46 Tryz.underlying46) (.cons (cs:=[I (1900+(l5.length:Int))]) rfl rfl rfl rfl rfl<|.cons (cs:=[I ((max 0 ab) / 10),I (min 2000 (((max 0 ac)+9) / 10))]) rfl rfl rfl rfl rfl<|.nil)) ?_;refine t_bs (α:=Yr) T23 [.agg #[I (1900+(l5.length:Int)),I ((max 0 ab) / 10),I (min 2000 (((max 0 ac)+9) / 10))]] [(⟨1900+(l5.length:Int),((max 0 ab) / 10:Int),(min 2000 (((max 0 ac)+9) / 10):Int)⟩:Yr)] H rfl (.cons rfl (Flat.rep_enc _ (⟨1900+(l5.length:Int),((max 0 ab) / 10:Int),(min 2000 (((max 0 ac)+9) / 10):Int)⟩:Yr))<|.nil) rfl rfl rfl ?_;intro b7 c6 H;obtain ⟨c7,hM⟩:=M.e_gd hM;refine t_app (α:=Yr) (k:=6) (l:=l4) (l2:=[(⟨1900+(l5.length:Int),((max 0 ab) / 10:Int),(min 2000 (((max 0 ac)+9) / 10):Int)⟩:Yr)]) (l':=l4++([(⟨1900+(l5.length:Int),((max 0 ab) / 10:Int),(min 2000 (((max 0 ac)+9) / 10):Int)⟩:Yr)])) (vy:=b7) T23 rfl H rfl rfl rfl (H.os 0) (H.ol 0) (rfl) (by first | omega | (simp only [List.length_nil] at *; omega)) ?_;intro bi c8 H;replace H:=H.nf;refine kg 1 ?_;refine t_sw 10 0 [bi] bi H rfl rfl Sz23 (Sl.cells (H.os 6)) rfl rfl (by simp only [List.all_cons,List.all_nil,Bool.true_and,Bool.and_true,Sl.oc (H.os 6)]; try rfl) ?_;intro c9 H;obtain ⟨da,hM⟩:=M.e_gd hM;refine kg 6 ?_;refine t_bs (α:=Int) T27 [I ((max 0 top) / 10)] [((max 0 top) / 10:Int)] H rfl (.cons rfl (Flat.rep_enc _ ((max 0 top) / 10:Int))<|.nil) rfl rfl rfl ?_;intro b8 db H;obtain ⟨dc,hM⟩:=M.e_gd hM;refine t_app (α:=Int) (k:=10) (l:=l5) (l2:=[((max 0 top) / 10:Int)]) (l':=l5++([((max 0 top) / 10:Int)])) (vy:=b8) T27 rfl H rfl rfl rfl (H.os 0) (H.ol 0) (rfl) (by first | omega | (simp only [List.length_nil] at *; omega)) ?_;intro b9 dg H;replace H:=H.nf;refine kg 2 ?_;replace H:=H.pk [2,3,4,5,6,7,8,9,10,11];refine kg 4 ?_
  exact ⟨bL,bM,l5++([((max 0 top) / 10:Int)]),s+1,l4++([(⟨1900+(l5.length:Int),((max 0 ab) / 10:Int),(min 2000 (((max 0 ac)+9) / 10):Int)⟩:Yr)]),b9,bi,_,upds_of _ _ ⟨rfl,rfl,rfl,rfl,rfl,rfl,trivial⟩,M.e_inl hM aP,(H.pk [5,6,7,8,9])⟩
 replace hM:=M.e_f hM aw
 replace aw:=dI aw
 refine W.exit ?_
 have ca:=M.e_inr hM aP
 subst ca;replace hM:=a7;(try dsimp only at hM);replace H:=H.pk [0,3,4]
 have dh:=((H.os 1)).len_le
 obtain ⟨di,hM⟩:=M.e_gd hM;refine kg 9 ?_;refine t_sw 2 3 [I ((1900+(l5.length:Int))-1)] (I ((1900+(l5.length:Int))-1)) H rfl rfl Sz3 rfl rfl rfl rfl ?_;intro dj H;refine kg 4 ?_;obtain ⟨dk,cb,hM⟩:=M.e_bind hM;refine s_call cf4 [I aq,I 120] rfl (zcU aq 120 cb _ (H.gt 3)) ?_
 rintro vq dl ⟨r3,rfl,hvq,aa⟩
 subst vq;(try dsimp only at hM);replace H:=H.bk aa;clear aa;refine kg 6 ?_;obtain ⟨dm,cc,hM⟩:=M.e_bind hM;refine s_call cf8 [.agg #[ao,.slice none 0 0,I 1900,I ((1900+(l5.length:Int))-1)],av] rfl (zd1 l4 ([]:List Old10) 1900 ((1900+(l5.length:Int))-1) l5 (rdo 0) (H.os 0) Reads.none (Sl.nil (fun _=>none)) (rdo 1) (H.os 1) cc _ (H.gt 3)) ?_
 rintro vq dp ⟨r0,ah,rfl,hvq,aa⟩
 subst vq;(try dsimp only at hM);replace H:=H.bk aa;clear aa;refine kg 14 ?_;obtain ⟨dq,cd,hM⟩:=M.e_bind hM;refine s_call cf9 [.agg #[ao,.slice none 0 0,I 1900,I ((1900+(l5.length:Int))-1)],I 1900,I ((1900+(l5.length:Int))-1),I r3] rfl (zbU l4 ([]:List Old10) 1900 ((1900+(l5.length:Int))-1) 1900 ((1900+(l5.length:Int))-1) r3 (rdo 0) (H.os 0) Reads.none (Sl.nil (fun _=>none)) cd _ (H.gt 3)) ?_
 rintro vq dr ⟨al,ap,ai,rfl,hvq,aa⟩
 subst vq;(try dsimp only at hM);replace H:=H.bk aa;clear aa;refine kg 3 ?_;refine t_alloc (cs:=[I 0,I 0]) H Al31 rfl ?_;intro dt du H;refine t_sw 0 0 [I al,I ap] (.agg #[I al,I ap]) H rfl rfl Sz31 rfl rfl rfl rfl ?_;intro dv H;refine kg 11 ?_;obtain ⟨dx,ce,hM⟩:=M.e_bind hM;refine s_call cf10 [.agg #[ao,.slice none 0 0,I 1900,I ((1900+(l5.length:Int))-1)],av,I 1900,I ((1900+(l5.length:Int))-1),I r3] rfl (zdK l4 ([]:List Old10) 1900 ((1900+(l5.length:Int))-1) l5 1900 ((1900+(l5.length:Int))-1) r3 (rdo 1) (H.os 1) Reads.none (Sl.nil (fun _=>none)) (rdo 2) (H.os 2) ce _ (H.gt 4)) ?_
 rintro vq dy ⟨r4,rfl,hvq,aa⟩
 subst vq;(try dsimp only at hM);replace H:=H.bk aa;clear aa;refine kg 2 ?_;replace H:=H.pk [0];refine kg 7 ?_;refine s_val (x_pand (b:=ah==0) (r:=ai==0) rfl (fun hb=>gd_of (c:=ah==0) (by first | exact hb | (rw [hb]; rfl) | simp_all) (B (ai==0))) rfl) ?_;refine kg 2 ?_;refine s_val (x_pand (b:=((ah==0)&&(ai==0))) (r:=r0) rfl (fun hb=>gd_of (c:=((ah==0)&&(ai==0))) (by first | exact hb | (rw [hb]; rfl) | simp_all) (B r0)) rfl) ?_;refine kg 5 ?_;refine s_val (x_pand (b:=(((ah==0)&&(ai==0))&&r0)) (r:=decide (al<=r4)) rfl (fun hb=>gd_of (c:=(((ah==0)&&(ai==0))&&r0)) (by first | exact hb | (rw [hb]; rfl) | simp_all) (B (decide (al<=r4)))) rfl) ?_;refine kg 5 ?_;refine s_val (x_pand (b:=((((ah==0)&&(ai==0))&&r0)&&(decide (al<=r4)))) (r:=decide (r4<=ap)) rfl (fun hb=>gd_of (c:=((((ah==0)&&(ai==0))&&r0)&&(decide (al<=r4)))) (by first | exact hb | (rw [hb]; rfl) | simp_all) (B (decide (r4<=ap)))) rfl) ?_;refine kg 1 ?_;obtain ⟨r5,cf,hM⟩:=M.e_bind hM;refine t_gcall (((((ah==0)&&(ai==0))&&r0)&&(decide (al<=r4)))&&(decide (r4<=ap))) (gy_t rfl) cf11 (B r5) (fun _=>[]) (fun _=>rfl) H (fun hg=>(zdF (M.e_opt cf hg) _ (H.give (A:=[]) rfl)).mono fun v_ w_ ⟨y_,ay,cg,H_⟩=>by subst ay; exact ⟨cg,H.via H_⟩) ?_;intro dz H;refine s_val (x_pand (b:=(((((ah==0)&&(ai==0))&&r0)&&(decide (al<=r4)))&&(decide (r4<=ap)))) (r:=r5) rfl (fun hb=>gd_of (c:=(((((ah==0)&&(ai==0))&&r0)&&(decide (al<=r4)))&&(decide (r4<=ap)))) (by first | exact hb | (rw [hb]; rfl) | simp_all) (B r5)) rfl) ?_;refine kg 2 ?_;refine W.ret ?_
 have ay:=M.e_pure hM
 exact ⟨_,resE_tmp rfl,⟨((((((ah==0)&&(ai==0))&&r0)&&(decide (al<=r4)))&&(decide (r4<=ap)))&&r5),ay,rfl,(H.pk [])⟩⟩

end Go.Proofs.YtdmdhmineljlhaaGreat
end
-- libL/PN.lean
namespace Go.Nm
namespace M
variable {α β σ ρ:Type}
def Out (m:M α) (Q:α->Prop):Prop:=∃ r,m.Ends r/\Q r
theorem o_of {m:M α} {a:α} {Q:α->Prop} (h:m.Ends a) (q:Q a):m.Out Q:=⟨a,h,q⟩
theorem o_pure {a:α} {Q:α->Prop} (h:Q a):(pure a).Out Q:=⟨a,i_pure,h⟩
theorem o_mono {m:M α} {P Q:α->Prop} (h:m.Out P) (k:∀ a,P a->Q a):m.Out Q:=by
  obtain ⟨a,h1,h2⟩:=h
  exact ⟨a,h1,k a h2⟩
theorem o_bind {m:M α} {k:α->M β} {P:α->Prop} {Q:β->Prop} (h:m.Out P) (h':∀ a,P a->(k a).Out Q):(bind m k).Out Q:=by
  obtain ⟨a,h1,h2⟩:=h
  obtain ⟨b,h3,h4⟩:=h' a h2
  exact ⟨b,i_bind h1 h3,h4⟩
theorem o_bindE {m:M α} {k:α->M β} {a:α} {Q:β->Prop} (h:m.Ends a) (h':(k a).Out Q):(bind m k).Out Q:=o_bind (o_of (Q:=fun x=>x=a) h rfl) (fun _ e=>by subst e; exact h')
theorem o_grd {b:Bool} {k:M α} {Q:α->Prop} (hb:b=true) (h:k.Out Q):(grd b k).Out Q:=by subst hb; exact h
theorem o_grdD {p:Prop} [Decidable p] {k:M α} {Q:α->Prop} (hp:p) (h:k.Out Q):(grd (decide p) k).Out Q:=o_grd (decide_eq_true hp) h
theorem o_if {b:Bool} {x y:M α} {Q:α->Prop} (h:b=true->x.Out Q) (h':b=false->y.Out Q):(bif b then x else y).Out Q:=by
  cases b with
  | true=>exact h rfl
  | false=>exact h' rfl
theorem o_t {b:Bool} {x y:M α} {Q:α->Prop} (hb:b=true) (h:x.Out Q):(bif b then x else y).Out Q:=by subst hb; exact h
theorem o_f {b:Bool} {x y:M α} {Q:α->Prop} (hb:b=false) (h:y.Out Q):(bif b then x else y).Out Q:=by subst hb; exact h
theorem o_opt {b:Bool} {m:M α} {d:α} {Q:α->Prop} (h:b=true->m.Out Q) (h':b=false->Q d):(opt b m d).Out Q:=by
  cases b with
  | true=>exact h rfl
  | false=>exact o_pure (h' rfl)
/-- What a round leaves. -/
def Rd (J:Nat->σ->Prop) (Q:ρ->Prop) (m:Nat):σ ⊕ ρ->Prop
  | .inl s=>∃ m',m'<m/\J m' s
  | .inr r=>Q r
theorem o_iter {body:σ->M (σ ⊕ ρ)} {Q:ρ->Prop} (J:Nat->σ->Prop) (round:∀ m s,J m s->(body s).Out (Rd J Q m)):∀ (m:Nat) (s:σ),J m s->(iter body s).Out Q:=by
  intro m
  induction m using Nat.strongRecOn with
  | _ m ih =>
    intro s hs
    obtain ⟨x,h1,h2⟩:=round m s hs
    cases x with
    | inl s' =>
      obtain ⟨m',hlt,hj⟩:=h2
      obtain ⟨r,h3,h4⟩:=ih m' hlt s' hj
      exact ⟨r,i_next h1 h3,h4⟩
    | inr r=>exact ⟨r,i_stop h1,h2⟩
/-- A loop that counts from 0 to n. -/
theorem o_for {body:σ->M (σ ⊕ ρ)} {Q:ρ->Prop} (n:Nat) (J:Nat->σ->Prop) (round:∀ i s,i<n->J i s->(body s).Out (fun x=>match x with | .inl s'=>J (i+1) s' | .inr r=>Q r))
    (last:∀ s,J n s->(body s).Out (fun x=>match x with | .inl _=>False | .inr r=>Q r)) {s:σ} (h:J 0 s):(iter body s).Out Q:=by
  refine o_iter (fun m s=>∃ i,i<=n/\m=n-i/\J i s) ?_ n s ⟨0,Nat.zero_le _,rfl,h⟩
  rintro m s ⟨i,hi,rfl,hj⟩
  by_cases e:i<n
  · refine o_mono (round i s e hj) ?_
    intro x hx
    cases x with
    | inl s'=>exact ⟨n-(i+1),by omega,i+1,e,rfl,hx⟩
    | inr r=>exact hx
  · obtain rfl:i=n:=by omega
    refine o_mono (last s hj) ?_
    intro x hx
    cases x with
    | inl s'=>exact hx.elim
    | inr r=>exact hx
end M
theorem M.i_f {α:Type} {b:Bool} {x y:M α} {r:α} (hb:b=false) (h:y.Ends r):(bif b then x else y).Ends r:=by subst hb; exact h
theorem M.i_for {σ ρ:Type} {body:σ->M (σ ⊕ ρ)} {r:ρ} (st:Nat->σ) (n:Nat) (step:∀ i,i<n->(body (st i)).Ends (.inl (st (i+1)))) (fin:(body (st n)).Ends (.inr r)):(M.iter body (st 0)).Ends r:=by
  refine M.i_loop (r:=r) (fun m s=>∃ i,i<=n/\m=n-i/\s=st i) ?_ n (st 0) ⟨0,Nat.zero_le _,rfl,rfl⟩
  rintro m s ⟨i,hi,rfl,rfl⟩
  by_cases h:i<n
  · exact .inl ⟨_,n-(i+1),by omega,step i h,i+1,h,rfl,rfl⟩
  · obtain rfl:i=n:=by omega
    exact .inr fin
theorem M.i_t {α:Type} {b:Bool} {x y:M α} {r:α} (hb:b=true) (h:x.Ends r):(bif b then x else y).Ends r:=by subst hb; exact h
theorem take_succ_D {α:Type} (l:List α) (i:Nat) (h:i<l.length) (d:α):l.take i++[l.getD i d]=l.take (i+1):=by
  rw [List.take_succ_eq_append_getElem h]
  simp [List.getD,h]
theorem gset {α:Type} (l:List α) (i j:Nat) (x d:α) (h:i<l.length):(l.set i x).getD j d=if j=i then x else l.getD j d:=by
  simp only [List.getD_eq_getElem?_getD,List.getElem?_set]
  by_cases e:i=j
  · subst e; simp [h]
  · rw [if_neg e,if_neg (fun h=>e h.symm)]
theorem getD_el {α:Type} (l:List α) {k:Nat} (h:k<l.length) (d:α):l.getD k d=l[k]:=by rw [List.getD_eq_getElem?_getD,List.getElem?_eq_getElem h,Option.getD_some]
theorem gA2 {p q:Prop} [Decidable p] [Decidable q] (hp:p) (hq:q):(decide p&&decide q)=true:=by rw [decide_eq_true hp,decide_eq_true hq]; rfl
theorem gA3 {p q r:Prop} [Decidable p] [Decidable q] [Decidable r] (hp:p) (hq:q) (hr:r):(decide p&&decide q&&decide r)=true:=by rw [decide_eq_true hp,decide_eq_true hq,decide_eq_true hr]; rfl
theorem nodup_bound:∀ (n:Nat) (l:List Int),l.Nodup->(∀ x∈l,0<=x/\x<n)->l.length<=n
  | 0,l,_,hb=>by
    cases l with
    | nil=>exact Nat.le_refl _
    | cons x l=>have:=hb x (by simp); omega
  | n + 1, l, hn, hb => by
    by_cases hm:(n:Int)∈l
    · have h1:(l.erase (n:Int)).length=l.length-1:=List.length_erase_of_mem hm
      have h2:=nodup_bound n (l.erase (n:Int)) (hn.erase _) (fun x hx=>by
        have hx':=(List.Nodup.mem_erase_iff hn).1 hx
        have:=hb x hx'.2
        have:=hx'.1
        omega)
      have:=List.length_pos_of_mem hm
      omega
    · have:=nodup_bound n l hn (fun x hx=>by
        have:=hb x hx
        have:x ≠ n:=fun e=>hm (e ▸ hx)
        omega)
      omega
theorem mem_getD {α:Type} {l:List α} {x:α} (h:x∈l) (d:α):∃ i,i<l.length/\l.getD i d=x:=by
  obtain ⟨i,hi,e⟩:=List.getElem_of_mem h
  exact ⟨i,hi,by rw [getD_el l hi d]; exact e⟩
end Go.Nm
-- libO/OP.lean
namespace Go.Nm
namespace Pk
/-- The first peak behind the flood of each one, and how many floods are over when a peak comes. -/
structure Fl (n:Nat) (nx kk:Nat->Nat):Prop where
  lt:∀ i,i<n->i<nx i
  le:∀ i,i<n->nx i<=n
  kle:∀ m,kk m<=m
  iff:∀ i m,i<n->m<=n->(i<kk m↔nx i<=m)
namespace Fl
variable {n:Nat} {nx kk:Nat->Nat}
end Fl
/-- The greatest worth of the peaks ahead of one. -/
structure IsS (n:Nat) (v:Nat->Int) (kk:Nat->Nat) (S:Nat->Int):Prop where
  z:S 0=0
  s:∀ i,i<n->S (i+1)=max (S i) (S (kk i)+v i)
variable {n:Nat} {nx kk:Nat->Nat} {v S B:Nat->Int}
theorem IsS.mono (h:IsS n v kk S):∀ {a b:Nat},a<=b->b<=n->S a<=S b:=by
  intro a b hab
  induction hab with
  | refl=>intro _; exact Int.le_refl _
  | @step m k ih =>
    intro hb
    have:=ih (by omega)
    have e:=h.s m (by omega)
    rw [Nat.succ_eq_add_one]
    omega
/-- The sum of a function's values from a to b. -/
def sm (d:Nat->Int) (a:Nat):Nat->Int
  | 0=>0
  | k+1=>sm d a k+d (a+k)
theorem sm_add (d:Nat->Int) (a j k:Nat):sm d a (j+k)=sm d a j+sm d (a+j) k:=by
  induction k with
  | zero=>simp [sm]
  | succ k ih=>rw [← Nat.add_assoc]; simp only [sm]; rw [ih,Nat.add_assoc]; omega
end Pk
end Go.Nm
-- libO/OQ.lean
namespace Go.Nm
namespace Pk
def dayAt (l:List Pk) (i:Nat):Int:=(l.getD i default).day
def stAt (l:List Pk) (i:Nat):Int:=(l.getD i default).stage
/-- Days that rise. -/
def Up (l:List Pk):Prop:=∀ i j,i<j->j<l.length->dayAt l i<dayAt l j
theorem Up.le {l:List Pk} (h:Up l) {i j:Nat} (hij:i<=j) (hj:j<l.length):dayAt l i<=dayAt l j:=by
  rcases Nat.lt_or_eq_of_le hij with e | e
  · have:=h i j e hj
    omega
  · subst e; exact Int.le_refl _
theorem tw_lt {l:List Pk} {p:Pk->Bool}:∀ {j:Nat},j<(l.takeWhile p).length↔j<l.length/\∀ k,k<=j->p (l.getD k default)=true:=by
  induction l with
  | nil=>intro j; simp
  | cons a l ih =>
    intro j
    rw [List.takeWhile_cons]
    by_cases e:p a=true
    · rw [if_pos e]
      cases j with
      | zero=>simp [e]
      | succ j =>
        simp only [List.length_cons,Nat.succ_lt_succ_iff,ih]
        refine and_congr_right fun _=>⟨fun h k hk=>?_,fun h k hk=>?_⟩
        · cases k with
          | zero=>simpa using e
          | succ k=>simpa using h k (by omega)
        · simpa using h (k+1) (by omega)
    · rw [if_neg e]
      simp only [List.length_nil,Nat.not_lt_zero,false_iff]
      intro h
      exact e (by simpa using h.2 0 (Nat.zero_le _))
theorem tw_le (l:List Pk) (p:Pk->Bool):(l.takeWhile p).length<=l.length:=by
  induction l with
  | nil=>simp
  | cons a l ih =>
    rw [List.takeWhile_cons]
    split
    · simpa using ih
    · simp
/-- The first peak whose day is not ahead of a day. -/
def fst (l:List Pk) (t:Int):Nat:=(l.takeWhile fun p=>decide (p.day<t)).length
theorem fst_le (l:List Pk) (t:Int):fst l t<=l.length:=tw_le l _
theorem fst_lt {l:List Pk} (h:Up l) {t:Int} {j:Nat} (hj:j<l.length):j<fst l t↔dayAt l j<t:=by
  unfold fst
  rw [tw_lt]
  constructor
  · rintro ⟨_,k⟩
    simpa [dayAt] using k j (Nat.le_refl _)
  · intro e
    refine ⟨hj,fun k hk=>?_⟩
    have:=h.le hk hj
    show decide (dayAt l k<t)=true
    exact decide_eq_true (by omega)
def nx (l:List Pk) (A:Int) (i:Nat):Nat:=fst l (dayAt l i+A)
def kk (l:List Pk) (A:Int) (m:Nat):Nat:=if m<l.length then fst l (dayAt l m-A+1) else l.length
theorem fl {l:List Pk} (h:Up l) {A:Int} (hA:1<=A):Fl l.length (nx l A) (kk l A) where
  lt i hi:=(fst_lt h hi).2 (by omega)
  le i _:=fst_le _ _
  kle m:=by
    unfold kk
    split
    · rename_i hm
      rcases Nat.lt_or_ge m (fst l (dayAt l m-A+1)) with e | e
      · have:=(fst_lt h hm).1 e
        omega
      · exact e
    · omega
  iff i m hi hm:=by
    unfold kk nx
    split
    · rename_i hm
      rw [fst_lt h hi]
      have:=fst_lt h (t:=dayAt l i+A) hm
      omega
    · have:=fst_le l (dayAt l i+A)
      omega
end Pk
end Go.Nm
namespace Go.Nm
namespace Pk
theorem IsS.uniq {n:Nat} {nx kk:Nat->Nat} {v S S':Nat->Int} (F:Fl n nx kk) (h:IsS n v kk S) (h':IsS n v kk S'):∀ i,i<=n->S i=S' i:=by
  intro i
  induction i using Nat.strongRecOn with
  | _ i ih =>
    intro hi
    cases i with
    | zero=>rw [h.z,h'.z]
    | succ i =>
      have:=F.kle i
      rw [h.s i (by omega),h'.s i (by omega),ih i (by omega) (by omega),ih (kk i) (by omega) (by omega)]
variable {n:Nat} {nx kk:Nat->Nat} {v S:Nat->Int}
/-- Dues behind so many peaks. -/
def Du (n:Nat) (kk:Nat->Nat) (S:Nat->Int) (i:Nat) (out:Nat->Int):Prop:=∀ m,m<=n->sm out 0 m=S (min i (kk m))
theorem sm_range (d:Nat->Int) {a b:Nat} (h:a<=b):sm d a (b-a)=sm d 0 b-sm d 0 a:=by
  have:=sm_add d 0 a (b-a)
  rw [show a+(b-a)=b by omega,Nat.zero_add] at this
  omega
theorem sm_set (d:Nat->Int) (p:Nat) (x:Int) (m:Nat):sm (fun k=>if k=p then d k+x else d k) 0 m=sm d 0 m+(if p<m then x else 0):=by
  induction m with
  | zero=>simp [sm]
  | succ m ih =>
    simp only [sm,ih,Nat.zero_add]
    by_cases e:m=p
    · subst e; simp; omega
    · by_cases e':p<m
      · rw [if_neg e,if_pos e',if_pos (by omega)]; omega
      · rw [if_neg e,if_neg e',if_neg (by omega)]; omega
theorem sm_zero (a m:Nat):sm (fun _=>0) a m=0:=by
  induction m with
  | zero=>rfl
  | succ m ih=>simp [sm,ih]
theorem Du.z (hS:IsS n v kk S):Du n kk S 0 (fun _=>0):=by
  intro m _
  rw [Nat.zero_min,hS.z]
  exact sm_zero 0 m
/-- What a peak's days have when its turn comes. -/
theorem Du.has (F:Fl n nx kk) {i:Nat} {out:Nat->Int} (h:Du n kk S i out) (hi:i<n):sm out i (nx i-i)=S i-S (kk i):=by
  have l1:=F.lt i hi
  have l2:=F.le i hi
  have k1:=(F.iff i (nx i) hi l2).2 (Nat.le_refl _)
  have k2:=F.kle i
  rw [sm_range out (Nat.le_of_lt l1),h (nx i) l2,h i (by omega),Nat.min_eq_left (Nat.le_of_lt k1),Nat.min_eq_right k2]
theorem Du.step (F:Fl n nx kk) (hS:IsS n v kk S) {i:Nat} {out:Nat->Int} (h:Du n kk S i out) (hi:i<n) {p:Nat} (hp:p+1=nx i) {x:Int} (hx:x=max 0 (v i-sm out i (nx i-i))):Du n kk S (i+1) (fun k=>if k=p then out k+x else out k):=by
  intro m hm
  rw [sm_set,h m hm]
  rw [h.has F hi] at hx
  have e:=hS.s i hi
  have q:=F.iff i m hi hm
  by_cases c:i<kk m
  · have:=q.1 c
    rw [if_pos (by omega),Nat.min_eq_left (by omega),Nat.min_eq_left (by omega)]
    omega
  · rw [if_neg (by omega),Nat.min_eq_right (by omega),Nat.min_eq_right (by omega)]
    omega
theorem kk_n (F:Fl n nx kk):kk n=n:=by
  have h1:=F.kle n
  rcases Nat.lt_or_ge (kk n) n with e | e
  · have:=(F.iff (kk n) n e (Nat.le_refl _)).2 (F.le _ e)
    omega
  · omega
section
variable (F:Fl n nx kk) (hS:IsS n v kk S) {out:Nat->Int} (h:Du n kk S n out)
include F h in
theorem Du.pre {m:Nat} (hm:m<=n):sm out 0 m=S (kk m):=by
  rw [h m hm,Nat.min_eq_right (Nat.le_trans (F.kle m) hm)]
include F hS h
omit hS in theorem Du.sum:sm out 0 n=S n:=by rw [h.pre F (Nat.le_refl _),kk_n F]
omit hS in theorem Du.at {p:Nat} (hp:p<n):out p=S (kk (p+1))-S (kk p):=by
  have h1:=h.pre F (show p+1<=n from hp)
  have h2:=h.pre F (Nat.le_of_lt hp)
  simp only [sm,Nat.zero_add] at h1
  omega
end
end Pk
end Go.Nm
-- libO/OB.lean
namespace Go.Nm
namespace Bk
/-- What a recorded year says, where there is one. -/
def rec (ys:List Yr) (y:Int):Span:=match ys.find? (fun r=>r.year==y) with
  | some r=>⟨r.lo,r.hi⟩
  | none=>⟨0,2000⟩
/-- What an old note says besides. -/
def told (y:Int) (s:Span) (o:Old10):Span:=if o.src<=y/\y<=o.dst then (if o.passed.contains y then ⟨max s.lo o.stage,s.hi⟩ else ⟨s.lo,min s.hi (o.stage-1)⟩) else s
/-- The highest stages that a year can have: none if the least is above the greatest. -/
def kn (ys:List Yr) (os:List Old10) (y:Int):Span:=os.foldl (told y) (rec ys y)
/-- Whether a stage is one that a year can have, by what the notes say. -/
def can (ys:List Yr) (os:List Old10) (y x:Int):Bool:=(ys.all fun r=>!(r.year==y&&(decide (x<r.lo)||decide (x > r.hi))))&&(os.all fun o=>!(decide (o.src<=y)&&decide (y<=o.dst))||(o.passed.contains y==decide (o.stage<=x)))
structure OkY (f l:Int) (ys:List Yr):Prop where
  in_:∀ r∈ys,f<=r.year/\r.year<=l/\0<=r.lo/\r.lo<=r.hi/\r.hi<=2000
  up:ys.Pairwise fun a b=>a.year<b.year
structure OkO (f l:Int) (os:List Old10):Prop where
  in_:∀ o∈os,f<=o.src/\o.src<=o.dst/\o.dst<=l/\1<=o.stage/\o.stage<=2000
theorem rec_can {ys:List Yr} {f l y x:Int} (h:OkY f l ys) (h0:0<=x) (h1:x<=2000):(ys.all fun r=>!(r.year==y&&(decide (x<r.lo)||decide (x > r.hi))))=true↔(rec ys y).lo<=x/\x<=(rec ys y).hi:=by
  have hu:=h.up
  clear h
  unfold rec
  induction ys with
  | nil=>simp; omega
  | cons r ys ih =>
    obtain ⟨h2,h3⟩:=List.pairwise_cons.1 hu
    rw [List.all_cons,List.find?_cons]
    by_cases e:r.year=y
    · subst e
      have k:(ys.all fun r'=>!(r'.year==r.year&&(decide (x<r'.lo)||decide (x > r'.hi))))=true:=by
        rw [List.all_eq_true]
        intro r' hr
        have:=h2 r' hr
        have:(r'.year==r.year)=false:=by rw [beq_eq_false_iff_ne]; omega
        rw [this]; rfl
      simp only [beq_self_eq_true,k,Bool.and_true,Bool.true_and,Bool.not_eq_true',Bool.or_eq_false_iff,decide_eq_false_iff_not]
      omega
    · have e':(r.year==y)=false:=by rw [beq_eq_false_iff_ne]; exact e
      simp only [e',Bool.false_and,Bool.not_false,Bool.true_and]
      exact ih hu.of_cons
theorem told_can (y x:Int):∀ (os:List Old10) (s:Span),((s.lo<=x/\x<=s.hi)/\(os.all fun o=>!(decide (o.src<=y)&&decide (y<=o.dst))||(o.passed.contains y==decide (o.stage<=x)))=true)↔(os.foldl (told y) s).lo<=x/\x<=(os.foldl (told y) s).hi
  | [],s=>by simp
  | o :: os,s=>by
    rw [List.foldl_cons,← told_can y x os (told y s o),List.all_cons,Bool.and_eq_true,← and_assoc]
    refine and_congr_left fun _=>?_
    unfold told
    by_cases h:o.src<=y/\y<=o.dst
    · rw [if_pos h]
      simp only [h.1,h.2,decide_true,Bool.and_self,Bool.not_true,Bool.false_or,beq_iff_eq]
      by_cases c:o.passed.contains y=true
      · rw [if_pos c,c]
        by_cases d:o.stage<=x
        · simp only [d,decide_true,and_true]; omega
        · simp only [d,decide_false]; simp; omega
      · rw [if_neg c]
        rw [Bool.not_eq_true] at c
        rw [c]
        by_cases d:o.stage<=x
        · simp only [d,decide_true]; simp; omega
        · simp only [d,decide_false,and_true]; omega
    · rw [if_neg h]
      have:(!(decide (o.src<=y)&&decide (y<=o.dst)))=true:=by
        by_cases h1:o.src<=y
        · by_cases h2:y<=o.dst
          · exact absurd ⟨h1,h2⟩ h
          · simp [h2]
        · simp [h1]
      rw [this,Bool.true_or]
      simp
theorem can_iff {ys:List Yr} {os:List Old10} {f l y x:Int} (h:OkY f l ys) (h0:0<=x) (h1:x<=2000):can ys os y x=true↔(kn ys os y).lo<=x/\x<=(kn ys os y).hi:=by
  unfold can kn
  rw [Bool.and_eq_true,rec_can h h0 h1]
  exact told_can y x os (rec ys y)
end Bk
end Go.Nm
-- libO/OS.lean
namespace Go.Nm
structure SOk (c u x:Int):Prop where
  u0:0<=u
  u1:u<=c
  x0:0<=x
  x1:x<251
theorem SOk.mono {c d u x:Int} (h:SOk c u x) (hd:c<=d):SOk d u x:=⟨h.u0,Int.le_trans h.u1 hd,h.x0,h.x1⟩
/-- What a stream gives: a number below n. -/
structure Nx (c n:Int) (y:Int × Int × Int):Prop where
  ok:SOk c y.2.1 y.2.2
  lt:1<=n->0<=y.1/\y.1<n
  no:n<1->y.1=0
end Go.Nm
namespace Go.Proofs.YtdmdhmineljlhaaGreat
open Go Go.Nm
theorem next_out {b:List UInt8} {c u x n:Int} (h:SOk c u x) (hc:c<=1000000000000) (hn:n<=1000000):(zac b u x n).Out (Nx (c+1) n):=by
  obtain ⟨u0,u1,x0,x1⟩:=h
  unfold zac
  refine M.o_if (fun hb=>?_) (fun hb=>?_)
  · simp only [Bool.or_eq_true,decide_eq_true_eq,beq_iff_eq] at hb
    refine M.o_pure ⟨⟨u0,by dsimp only; omega,x0,x1⟩,fun h1=>⟨Int.le_refl _,?_⟩,fun _=>rfl⟩
    dsimp only
    omega
  · simp only [Bool.or_eq_false_iff,decide_eq_false_iff_not,beq_eq_false_iff_ne,ne_eq] at hb
    have hl:(0:Int)<(b.length:Int):=by omega
    have m0:=Int.emod_nonneg u (show (b.length:Int) ≠ 0 by omega)
    have m1:=Int.emod_lt_of_pos u hl
    have d0:=Int.ediv_nonneg u0 (show (0:Int)<=(b.length:Int) by omega)
    have d1:u / (b.length:Int)<=u:=Int.ediv_le_self _ u0
    have y1:((b.getD (Int.toNat (u % (b.length:Int))) 0).toNat:Int)<256:=by
      have:=UInt8.toNat_lt (b.getD (Int.toNat (u % (b.length:Int))) 0)
      omega
    have y0:(0:Int)<=((b.getD (Int.toNat (u % (b.length:Int))) 0).toNat:Int):=Int.natCast_nonneg _
    generalize ((b.getD (Int.toNat (u % (b.length:Int))) 0).toNat:Int)=y at *
    generalize u % (b.length:Int)=m at *
    generalize u / (b.length:Int)=d at *
    have hn0:0<n:=by omega
    have fin:∀ z:Int,0<=z->0<=z % n/\z % n<n:=fun z hz=>⟨Int.emod_nonneg _ (by omega),Int.emod_lt_of_pos _ hn0⟩
    have pr:∀ z w:Int,0<=z->Nx (c+1) n (z % n,u+1,w % 251):=fun z w hz=>⟨⟨by dsimp only; omega,by dsimp only; omega,by dsimp only; omega,by dsimp only; omega⟩,fun _=>fin z hz,fun h=>by omega⟩
    refine M.o_grd (by simp only [Bool.and_eq_true,decide_eq_true_eq]; omega) (M.o_grd (by simp only [Bool.and_eq_true,decide_eq_true_eq]; omega) (M.o_grd (by simp only [Bool.and_eq_true,decide_eq_true_eq]; omega) ?_))
    refine M.o_if (fun h1=>?_) (fun h1=>?_)
    · refine M.o_grd (by simp only [Bool.and_eq_true,decide_eq_true_eq]; omega) (M.o_grd (by simp only [Bool.and_eq_true,decide_eq_true_eq]; omega) (M.o_grd (by simp only [Bool.and_eq_true,decide_eq_true_eq]; omega) (M.o_grd (by simp only [Bool.and_eq_true,decide_eq_true_eq]; omega) (M.o_grd (by simp only [Bool.and_eq_true,decide_eq_true_eq]; omega) ?_))))
      refine M.o_grd (by simp only [Bool.and_eq_true,decide_eq_true_eq]; omega) (M.o_grd (by simp only [Bool.and_eq_true,decide_eq_true_eq]; omega) (M.o_grd (by simp only [Bool.and_eq_true,decide_eq_true_eq]; omega) (M.o_grd (by simp only [Bool.and_eq_true,decide_eq_true_eq]; omega) ?_)))
      refine M.o_if (fun h2=>?_) (fun h2=>?_)
      · refine M.o_grd (by simp only [Bool.and_eq_true,decide_eq_true_eq]; omega) (M.o_grd (by simp only [Bool.and_eq_true,decide_eq_true_eq]; omega) (M.o_grd (by simp only [Bool.and_eq_true,decide_eq_true_eq]; omega) (M.o_pure (pr _ _ (by omega)))))
      · refine M.o_grd (by simp only [Bool.and_eq_true,decide_eq_true_eq]; omega) (M.o_pure (pr _ _ (by omega)))
    · refine M.o_grd (by simp only [Bool.and_eq_true,decide_eq_true_eq]; omega) (M.o_grd (by simp only [Bool.and_eq_true,decide_eq_true_eq]; omega) (M.o_grd (by simp only [Bool.and_eq_true,decide_eq_true_eq]; omega) (M.o_grd (by simp only [Bool.and_eq_true,decide_eq_true_eq]; omega) (M.o_grd (by simp only [Bool.and_eq_true,decide_eq_true_eq]; omega) ?_))))
      refine M.o_if (fun h2=>?_) (fun h2=>?_)
      · refine M.o_grd (by simp only [Bool.and_eq_true,decide_eq_true_eq]; omega) (M.o_grd (by simp only [Bool.and_eq_true,decide_eq_true_eq]; omega) (M.o_grd (by simp only [Bool.and_eq_true,decide_eq_true_eq]; omega) (M.o_pure (pr _ _ (by omega)))))
      · refine M.o_grd (by simp only [Bool.and_eq_true,decide_eq_true_eq]; omega) (M.o_pure (pr _ _ (by omega)))
theorem within_out {b:List UInt8} {c u x lo hi:Int} (h:SOk c u x) (hc:c<=1000000000000) (h0:-1000<=lo) (h1:lo<=hi) (h2:hi<=10000):(zag b u x lo hi).Out (fun y=>SOk (c+1) y.2.1 y.2.2/\lo<=y.1/\y.1<=hi):=by
  unfold zag
  refine M.o_grd (gA2 (by omega) (by omega)) (M.o_grd (gA2 (by omega) (by omega)) (M.o_bind (next_out h hc (by omega)) ?_))
  rintro ⟨r,u',x'⟩ ⟨k,hl,_⟩
  have:=hl (by omega)
  dsimp only at this k ⊢
  exact M.o_grd (gA2 (by omega) (by omega)) (M.o_pure ⟨k,by dsimp only; omega,by dsimp only; omega⟩)
end Go.Proofs.YtdmdhmineljlhaaGreat
-- libO/OR.lean
namespace Go.Nm
theorem SOk.zero:SOk 0 0 0:=⟨Int.le_refl _,Int.le_refl _,Int.le_refl _,by decide⟩
end Go.Nm
namespace Go.Proofs.YtdmdhmineljlhaaGreat
open Go Go.Nm
theorem pick_num {v n:Int} (h:1<=n/\n<=1000000):(zaZ v n).Out (fun r=>0<=r/\r<n):=by
  unfold zaZ
  have h1:Int.tmod v n<n:=Int.tmod_lt_of_pos v (by omega)
  have h2:-n<Int.tmod v n:=by
    have:=Int.tmod_lt_of_pos (-v) (show 0<n by omega)
    rw [Int.neg_tmod] at this
    omega
  refine M.o_f (decide_eq_false (by omega)) (M.o_grdD (by omega) (M.o_if (fun hb=>?_) (fun hb=>?_)))
  · have:=of_decide_eq_true hb
    exact M.o_grd (gA2 (by omega) (by omega)) (M.o_pure (by omega))
  · have:=of_decide_eq_false hb
    exact M.o_pure (by omega)
end Go.Proofs.YtdmdhmineljlhaaGreat
-- libO/OW.lean
namespace Go.Proofs.YtdmdhmineljlhaaGreat
open Go Go.Nm
theorem awake_ends:(zcc).Ends true:=⟨300,by kernel_rfl⟩
end Go.Proofs.YtdmdhmineljlhaaGreat
-- libO/QA.lean
namespace Go.Nm
namespace Pk
/-- The first that is not 0. -/
def fe (f:Nat->Int):Nat->Int
  | 0=>0
  | n+1=>if fe f n ≠ 0 then fe f n else f n
theorem fe_all {f:Nat->Int}:∀ {n:Nat},fe f n=0↔∀ i,i<n->f i=0
  | 0=>by simp [fe]
  | n + 1 => by
    have ih:=fe_all (f:=f) (n:=n)
    unfold fe
    constructor
    · intro h i hi
      split at h
      · rename_i h1; exact absurd h h1
      · rename_i h1
        rcases Nat.lt_or_eq_of_le (Nat.le_of_lt_succ hi) with e | e
        · exact ih.1 (Classical.not_not.1 h1) i e
        · rw [e]; exact h
    · intro h
      have h1:=ih.2 fun i hi=>h i (by omega)
      rw [if_neg (by rw [h1]; simp)]
      exact h n (by omega)
theorem fe_stop {f:Nat->Int} {i:Nat} (h0:fe f i=0) (h:f i ≠ 0):∀ {n:Nat},i<n->fe f n=f i
  | 0,hn=>by omega
  | n+1,hn=>by
    unfold fe
    rcases Nat.lt_or_eq_of_le (Nat.le_of_lt_succ hn) with e | e
    · have ih:=fe_stop h0 h e
      rw [if_pos (by rw [ih]; exact h),ih]
    · subst e
      rw [if_neg (by rw [h0]; simp)]
def pkB (p:Pk):Bool:=(decide (0<=p.day)&&decide (p.day<=4000))&&(decide (0<=p.stage)&&decide (p.stage<=2000))
def errP (l:List Pk) (i:Nat):Int:=if pkB (l.getD i default)=false then 110 else if 0<i/\(l.getD i default).day<=(l.getD (i-1) default).day then 9 else 0
def chkP (l:List Pk):Int:=if 40<l.length then 3 else fe (errP l) l.length
/-- Peaks that are right. -/
structure Ok (l:List Pk):Prop where
  few:l.length<=40
  day:∀ i,i<l.length->0<=dayAt l i/\dayAt l i<=4000
  st:∀ i,i<l.length->0<=stAt l i/\stAt l i<=2000
  up:Up l
theorem chk_ok {l:List Pk} (h:chkP l=0):Ok l:=by
  unfold chkP at h
  split at h
  · cases h
  · rename_i h40
    have k:=fe_all.1 h
    have k1:∀ i,i<l.length->pkB (l.getD i default)=true/\(0<i->dayAt l (i-1)<dayAt l i):=by
      intro i hi
      have:=k i hi
      unfold errP at this
      split at this
      · cases this
      · rename_i h1
        split at this
        · cases this
        · rename_i h2
          refine ⟨by simpa using h1,fun h0=>?_⟩
          unfold dayAt
          omega
    have k2:∀ i,i<l.length->(0<=dayAt l i/\dayAt l i<=4000)/\(0<=stAt l i/\stAt l i<=2000):=by
      intro i hi
      have:=(k1 i hi).1
      simpa [pkB,dayAt,stAt] using this
    refine ⟨by omega,fun i hi=>(k2 i hi).1,fun i hi=>(k2 i hi).2,?_⟩
    intro i j hij hj
    induction j with
    | zero=>omega
    | succ j ih =>
      have h1:=(k1 (j+1) hj).2 (by omega)
      simp only [Nat.add_sub_cancel] at h1
      rcases Nat.lt_or_eq_of_le (Nat.le_of_lt_succ hij) with e | e
      · have:=ih e (by omega)
        omega
      · subst e; exact h1
def askP (l:List Pk) (A T:Int):Int:=if chkP l ≠ 0 then chkP l else if (1<=A/\A<=60)/\(0<=T/\T<=2000) then 0 else 4
end Pk
end Go.Nm
namespace Go.Proofs.YtdmdhmineljlhaaGreat
open Go Go.Nm
theorem in_ends (x a b:Int):(zaa x a b).Ends (decide (a<=x)&&decide (x<=b)):=M.i_pure
theorem gI2 {c:Bool} {p q:Prop} [Decidable p] [Decidable q] (h:c=true->p/\q):(!c||(decide p&&decide q))=true:=by
  cases c with
  | true=>exact gA2 (h rfl).1 (h rfl).2
  | false=>rfl
end Go.Proofs.YtdmdhmineljlhaaGreat
-- libO/QB.lean
namespace Go.Nm
namespace Pk
end Pk
end Go.Nm
namespace Go.Proofs.YtdmdhmineljlhaaGreat
open Go Go.Nm
variable {l:List Pk} {A T:Int}
/-- What a peak has above the threshold. -/
def vP (l:List Pk) (T:Int) (i:Nat):Int:=Pk.stAt l i-T
end Go.Proofs.YtdmdhmineljlhaaGreat
-- libO/QC.lean
namespace Go.Nm
namespace Pk
def cA (c:List Int) (k:Nat):Nat:=Int.toNat (c.getD k 0)
/-- A choice: a strictly increasing list of peaks. -/
def Ris (n:Nat) (c:List Int):Prop:=∀ k,k<c.length->0<=c.getD k 0/\c.getD k 0<n/\(0<k->c.getD (k-1) 0<c.getD k 0)
/-- Of floods of their own, each above the threshold. -/
def Good (l:List Pk) (A T:Int) (c:List Int):Prop:=∀ k,k<c.length->T<stAt l (cA c k)/\(0<k->A<=dayAt l (cA c k)-dayAt l (cA c (k-1)))
def wS (l:List Pk) (T:Int) (c:List Int):Nat->Int
  | 0=>0
  | k+1=>wS l T c k+(stAt l (cA c k)-T)
theorem Ris.low {n:Nat} {c:List Int} (h:Ris n c):∀ k:Nat,k<c.length->(k:Int)<=c.getD k 0
  | 0,hk=>by have:=(h 0 hk).1; omega
  | k+1,hk=>by
    have ih:=h.low k (by omega)
    have:=(h (k+1) hk).2.2 (by omega)
    rw [Nat.add_sub_cancel] at this
    omega
theorem Ris.few {n:Nat} {c:List Int} (h:Ris n c):c.length<=n:=by
  rcases Nat.eq_zero_or_pos c.length with e | e
  · omega
  · have h1:=h.low (c.length-1) (by omega)
    have h2:=h (c.length-1) (by omega)
    omega
theorem Ris.mono {n:Nat} {c:List Int} (h:Ris n c) {j k:Nat} (hjk:j<k) (hk:k<c.length):c.getD j 0<c.getD k 0:=by
  induction k with
  | zero=>omega
  | succ k ih =>
    have h1:=(h (k+1) hk).2.2 (by omega)
    rw [Nat.add_sub_cancel] at h1
    rcases Nat.lt_or_eq_of_le (Nat.le_of_lt_succ hjk) with e | e
    · have:=ih e (by omega)
      omega
    · rw [e]; exact h1
theorem Ris.at_ {n:Nat} {c:List Int} (h:Ris n c) {k:Nat} (hk:k<c.length):cA c k<n:=by
  have:=h k hk
  unfold cA
  omega
/-- What is said of a worth. -/
structure WoE (l:List Pk) (A T:Int) (c:List Int) (y:Int × Int):Prop where
  ask:askP l A T ≠ 0->y=(0,askP l A T)
  arg:askP l A T=0->¬ Ris l.length c->y=(0,2)
  bad:askP l A T=0->Ris l.length c->¬ Good l A T c->y=(0,7)
  ok:askP l A T=0->Ris l.length c->Good l A T c->y=(wS l T c c.length,0)
theorem WoE.uniq {l:List Pk} {A T:Int} {c:List Int} {y y':Int × Int} (h:WoE l A T c y) (h':WoE l A T c y'):y=y':=by
  by_cases h0:askP l A T=0
  · by_cases h1:Ris l.length c
    · by_cases h2:Good l A T c
      · rw [h.ok h0 h1 h2,h'.ok h0 h1 h2]
      · rw [h.bad h0 h1 h2,h'.bad h0 h1 h2]
    · rw [h.arg h0 h1,h'.arg h0 h1]
  · rw [h.ask h0,h'.ask h0]
end Pk
end Go.Nm
namespace Go.Proofs.YtdmdhmineljlhaaGreat
open Go Go.Nm
variable {l:List Pk} {A T:Int}
end Go.Proofs.YtdmdhmineljlhaaGreat
-- libO/QE.lean
namespace Go.Proofs.YtdmdhmineljlhaaGreat
open Go Go.Nm
variable {l:List Pk} {A T:Int}
/-- Dues that prove something. -/
def Prv (l:List Pk) (A T:Int) (d:List Int):Prop:=∀ i,i<l.length->vP l T i<=Pk.sm (fun k=>d.getD k 0) i (Pk.nx l A i-i)
def DuR (d:List Int):Prop:=∀ i,i<d.length->0<=d.getD i 0/\d.getD i 0<=2000
structure PrE (l:List Pk) (A T w:Int) (d:List Int) (y:Bool × Int):Prop where
  ask:Pk.askP l A T ≠ 0->y=(false,Pk.askP l A T)
  len:Pk.askP l A T=0->d.length ≠ l.length->y=(false,2)
  rng:Pk.askP l A T=0->d.length=l.length->¬ DuR d->y=(false,4)
  ok:Pk.askP l A T=0->d.length=l.length->DuR d->y.2=0/\(y.1=true↔Prv l A T d/\Pk.sm (fun k=>d.getD k 0) 0 l.length<=w)
theorem PrE.uniq {w:Int} {d:List Int} {y y':Bool × Int} (h:PrE l A T w d y) (h':PrE l A T w d y'):y=y':=by
  by_cases h0:Pk.askP l A T=0
  · by_cases h1:d.length=l.length
    · by_cases h2:DuR d
      · obtain ⟨a1,a2⟩:=h.ok h0 h1 h2
        obtain ⟨b1,b2⟩:=h'.ok h0 h1 h2
        have e:y.1=y'.1:=by
          cases c1:y.1 <;> cases c2:y'.1
          · rfl
          · rw [c1] at a2; rw [c2] at b2
            exact a2.2 (b2.1 rfl)
          · rw [c1] at a2; rw [c2] at b2
            exact (b2.2 (a2.1 rfl)).symm
          · rfl
        exact Prod.ext e (by rw [a1,b1])
      · rw [h.rng h0 h1 h2,h'.rng h0 h1 h2]
    · rw [h.len h0 h1,h'.len h0 h1]
  · rw [h.ask h0,h'.ask h0]
theorem index_int {s:List Int} {f:Int->M Bool} {q:Int->Bool} (hl:s.length<=1000000) (h:∀ x,x∈s->(f x).Ends (q x)):∃ r,(zbl s f).Ends r/\decide (0<=r)=s.any q:=by
  have out:(zbl s f).Out (fun r=>decide (0<=r)=s.any q):=by
    unfold zbl
    refine M.o_bind (P:=fun y=>match y with | .inl r=>decide (0<=r)=s.any q | .inr (_:Unit)=>s.any q=false) ?_ ?_
    · refine M.o_for s.length (fun i (k:Nat)=>k=i/\(s.take i).any q=false) ?_ ?_ ⟨rfl,by simp⟩
      · rintro i k hi ⟨rfl,hJ⟩
        simp only [za2]
        have hm:s.getD k 0∈s:=by rw [getD_el s hi]; exact List.getElem_mem hi
        refine M.o_t (decide_eq_true (by omega)) (M.o_grdD (by omega) (M.o_bindE (h _ hm) (M.o_if (fun hb=>?_) (fun hb=>?_))))
        · refine M.o_pure ?_
          dsimp only
          rw [show s.any q=true from List.any_eq_true.2 ⟨_,hm,hb⟩]
          exact decide_eq_true (by omega)
        · refine M.o_pure ⟨rfl,?_⟩
          rw [← take_succ_D s k hi 0,List.any_append,hJ]
          simp only [List.any_cons,List.any_nil,Bool.or_false,Bool.false_or]
          exact hb
      · rintro k ⟨rfl,hJ⟩
        simp only [za2]
        rw [List.take_length] at hJ
        exact M.o_f (by simp) (M.o_pure hJ)
    · intro y hy
      cases y with
      | inl r=>exact M.o_pure hy
      | inr u=>exact M.o_pure (by show decide ((0:Int)<=-1)=s.any q; rw [show s.any q=false from hy]; rfl)
  exact out
theorem every_int {s:List Int} {so:Int->M Bool} {p:Int->Bool} (hl:s.length<=1000000) (h:∀ x,x∈s->(so x).Ends (p x)):(zaQ s so).Ends (s.all p):=by
  unfold zaQ zb5
  obtain ⟨r,h1,h2⟩:=index_int (s:=s) (f:=fun x=>zaO x so) (q:=fun x=>!(p x)) hl (fun x hx=>by unfold zaO; exact M.i_bind (h x hx) M.i_pure)
  refine M.i_bind (M.i_bind h1 M.i_pure) ?_
  rw [h2,List.any_eq_not_all_not]
  simp only [Bool.not_not]
  exact M.i_pure
theorem dur_all {d:List Int}:(d.all fun n=>decide (0<=n)&&decide (n<=2000))=true↔DuR d:=by
  rw [List.all_eq_true]
  constructor
  · intro h i hi
    have:=h (d.getD i 0) (by rw [getD_el d hi]; exact List.getElem_mem hi)
    rwa [Bool.and_eq_true,decide_eq_true_eq,decide_eq_true_eq] at this
  · intro h x hx
    obtain ⟨i,hi,rfl⟩:=mem_getD hx 0
    have:=h i hi
    exact gA2 this.1 this.2
end Go.Proofs.YtdmdhmineljlhaaGreat
-- libO/BA.lean
namespace Go.Nm
/-- A loop that looks at one after the other, till one is not so. -/
theorem M.o_scan {ρ:Type} {body:Nat->M (Nat ⊕ ρ)} {Q:ρ->Prop} (n:Nat) (p:Nat->Prop) (h:∀ s,s<n->(∀ k,k<s->p k)->(body s).Out (fun x=>match x with | .inl s'=>s'=s+1/\p s | .inr r=>Q r))
    (he:(∀ k,k<n->p k)->(body n).Out (fun x=>match x with | .inl _=>False | .inr r=>Q r)):(M.iter body 0).Out Q:=by
  refine M.o_for n (fun i (s:Nat)=>s=i/\∀ k,k<i->p k) ?_ ?_ ⟨rfl,fun k hk=>by omega⟩
  · rintro i s hi ⟨rfl,hp⟩
    refine M.o_mono (h s hi hp) ?_
    intro x hx
    cases x with
    | inl s' =>
      refine ⟨hx.1,fun k hk=>?_⟩
      rcases Nat.lt_or_eq_of_le (Nat.le_of_lt_succ hk) with e | e
      · exact hp k e
      · subst e; exact hx.2
    | inr r=>exact hx
  · rintro s ⟨rfl,hp⟩
    refine M.o_mono (he hp) ?_
    intro x hx
    cases x with
    | inl u=>exact hx.elim
    | inr r=>exact hx
theorem M.Out.ends {α:Type} {m:M α} {a:α} (h:m.Out (fun r=>r=a)):m.Ends a:=by
  obtain ⟨r,h1,rfl⟩:=h
  exact h1
namespace Bk
def frB (f l:Int):Bool:=((decide (0<=f)&&decide (f<=l))&&(decide (0<=l)&&decide (l<=3000)))&&decide (l-f<1000)
def fewO (o:Old10):Bool:=decide ((o.passed.length:Int)<=10)
def yrB (f l:Int) (r:Yr):Bool:=((decide (f<=r.year)&&decide (r.year<=l))&&(decide (0<=r.lo)&&decide (r.lo<=r.hi)))&&(decide (0<=r.hi)&&decide (r.hi<=2000))
def errY (f l:Int) (ys:List Yr) (i:Nat):Int:=if yrB f l (ys.getD i default)=false then 110 else if 0<i/\(ys.getD i default).year<=(ys.getD (i-1) default).year then 9 else 0
/-- Strictly increasing, from a first to a last number. -/
def Rin (l:List Int) (a b:Int):Prop:=∀ i,i<l.length->(a<=l.getD i 0/\l.getD i 0<=b)/\(0<i->l.getD (i-1) 0<l.getD i 0)
instance (l:List Int) (a b:Int):Decidable (Rin l a b):=inferInstanceAs (Decidable (∀ i,i<l.length->_))
def oB (f l:Int) (o:Old10):Bool:=(((decide (f<=o.src)&&decide (o.src<=o.dst))&&(decide (f<=o.dst)&&decide (o.dst<=l)))&&(decide (1<=o.stage)&&decide (o.stage<=2000)))&&decide (Rin o.passed o.src o.dst)
def chkB (ys:List Yr) (os:List Old10) (f l:Int):Int :=
  if frB f l=false then 110 else if 60<ys.length∨8<os.length∨os.all fewO=false then 3 else if Pk.fe (errY f l ys) ys.length ≠ 0 then Pk.fe (errY f l ys) ys.length else if os.all (oB f l)=false then 110 else 0
/-- Books that are right. -/
structure Ok (ys:List Yr) (os:List Old10) (f l:Int):Prop where
  f0:0<=f
  fl:f<=l
  l3:l<=3000
  ln:l-f<1000
  y60:ys.length<=60
  o8:os.length<=8
  few:∀ o∈os,o.passed.length<=10
  y:OkY f l ys
  o:OkO f l os
  ris:∀ o∈os,Rin o.passed o.src o.dst
theorem chk_ok {ys:List Yr} {os:List Old10} {f l:Int} (h:chkB ys os f l=0):Ok ys os f l:=by
  unfold chkB at h
  split at h
  · cases h
  · rename_i h1
    rw [Bool.not_eq_false] at h1
    split at h
    · cases h
    · rename_i h2
      split at h
      · rename_i h3; exact absurd h h3
      · rename_i h3
        split at h
        · cases h
        · rename_i h4
          rw [Bool.not_eq_false] at h4
          have h1:((0<=f/\f<=l)/\(0<=l/\l<=3000))/\l-f<1000:=by simpa [frB] using h1
          have hf:os.all fewO=true:=by
            cases e:os.all fewO with
            | true=>rfl
            | false=>exact absurd (.inr (.inr e)) h2
          have k:=Pk.fe_all.1 (Classical.not_not.1 h3)
          have k1:∀ i,i<ys.length->yrB f l (ys.getD i default)=true/\(0<i->(ys.getD (i-1) default).year<(ys.getD i default).year):=by
            intro i hi
            have:=k i hi
            unfold errY at this
            split at this
            · cases this
            · rename_i h1
              split at this
              · cases this
              · rename_i h2
                refine ⟨by simpa using h1,fun h0=>?_⟩
                omega
          refine ⟨h1.1.1.1,h1.1.1.2,h1.1.2.2,h1.2,by omega,by omega,fun o ho=>?_,⟨fun r hr=>?_,?_⟩,⟨fun o ho=>?_⟩,fun o ho=>?_⟩
          · have:=List.all_eq_true.1 hf o ho
            unfold fewO at this
            have:=of_decide_eq_true this
            omega
          · obtain ⟨i,hi,rfl⟩:=List.getElem_of_mem hr
            have:=(k1 i hi).1
            rw [List.getD_eq_getElem?_getD,List.getElem?_eq_getElem hi,Option.getD_some] at this
            have:((f<=ys[i].year/\ys[i].year<=l)/\(0<=ys[i].lo/\ys[i].lo<=ys[i].hi))/\(0<=ys[i].hi/\ys[i].hi<=2000):=by simpa [yrB] using this
            omega
          · have hup:∀ i j,i<j->j<ys.length->(ys.getD i default).year<(ys.getD j default).year:=by
              intro i j hij hj
              induction j with
              | zero=>omega
              | succ j ih =>
                have h1:=(k1 (j+1) hj).2 (by omega)
                simp only [Nat.add_sub_cancel] at h1
                rcases Nat.lt_or_eq_of_le (Nat.le_of_lt_succ hij) with e | e
                · have:=ih e (by omega)
                  omega
                · subst e; exact h1
            rw [List.pairwise_iff_getElem]
            intro i j hi hj hij
            have:=hup i j hij hj
            rwa [List.getD_eq_getElem?_getD,List.getElem?_eq_getElem hi,Option.getD_some,List.getD_eq_getElem?_getD,List.getElem?_eq_getElem hj,Option.getD_some] at this
          · have:=List.all_eq_true.1 h4 o ho
            have:(((f<=o.src/\o.src<=o.dst)/\(f<=o.dst/\o.dst<=l))/\(1<=o.stage/\o.stage<=2000))/\Rin o.passed o.src o.dst:=by simpa [oB] using this
            omega
          · have:=List.all_eq_true.1 h4 o ho
            have:(((f<=o.src/\o.src<=o.dst)/\(f<=o.dst/\o.dst<=l))/\(1<=o.stage/\o.stage<=2000))/\Rin o.passed o.src o.dst:=by simpa [oB] using this
            exact this.2
end Bk
end Go.Nm
namespace Go.Proofs.YtdmdhmineljlhaaGreat
open Go Go.Nm
theorem index_old {s:List Old10} {f:Old10->M Bool} {q:Old10->Bool} (hl:s.length<=1000000) (h:∀ x,x∈s->(f x).Ends (q x)):(zbu s f).Out (fun r=>decide (0<=r)=s.any q):=by
  unfold zbu
  refine M.o_bind (P:=fun y=>match y with | .inl i=>0<=i/\s.any q=true | .inr (_:Unit)=>s.any q=false) ?_ ?_
  · refine M.o_scan s.length (fun k=>q (s.getD k default)=false) ?_ ?_
    · intro k hk hp
      simp only [za3]
      have e:s.getD k default=s[k]:=by rw [List.getD_eq_getElem?_getD,List.getElem?_eq_getElem hk,Option.getD_some]
      refine M.o_t (decide_eq_true (by omega)) (M.o_grdD (by omega) (M.o_bindE (h _ (by rw [e]; exact List.getElem_mem hk)) (M.o_if (fun hb=>?_) (fun hb=>?_))))
      · exact M.o_pure ⟨by omega,List.any_eq_true.2 ⟨_,by rw [e]; exact List.getElem_mem hk,hb⟩⟩
      · exact M.o_pure ⟨rfl,hb⟩
    · intro hp
      simp only [za3]
      refine M.o_f (by simp) (M.o_pure ?_)
      rw [List.any_eq_false]
      intro x hx
      obtain ⟨i,hi,rfl⟩:=List.getElem_of_mem hx
      have:=hp i hi
      rw [List.getD_eq_getElem?_getD,List.getElem?_eq_getElem hi,Option.getD_some] at this
      simp [this]
  · intro y hy
    cases y with
    | inl i=>exact M.o_pure (by rw [hy.2]; exact decide_eq_true hy.1)
    | inr u=>exact M.o_pure (by rw [hy]; decide)
theorem every_old {s:List Old10} {so:Old10->M Bool} {p:Old10->Bool} (hl:s.length<=1000000) (h:∀ x,x∈s->(so x).Ends (p x)):(za8 s so).Ends (s.all p):=by
  unfold za8 zcl
  obtain ⟨r,h1,h2⟩:=index_old (s:=s) (f:=fun x=>zaT x so) (q:=fun x=>!(p x)) hl (fun x hx=>by unfold zaT; exact M.i_bind (h x hx) M.i_pure)
  refine M.i_bind (M.i_bind h1 M.i_pure) ?_
  rw [h2,List.any_eq_not_all_not]
  simp only [Bool.not_not]
  exact M.i_pure
theorem rising_ends (l:List Int) (a b:Int) (hb:b<=1000000) (ha:-1000000<=a):(zaF l a b).Ends (decide (Bk.Rin l a b)):=by
  refine M.Out.ends ?_
  unfold zaF
  refine M.o_bind (P:=fun y=>match y with | .inl (_:Unit)=>¬ Bk.Rin l a b | .inr (_:Unit)=>Bk.Rin l a b) ?_ ?_
  · refine M.o_for l.length (fun i (s:Int × Nat)=>s.2=i/\a<=s.1/\s.1=(if i=0 then a else l.getD (i-1) 0+1)/\∀ k,k<i->(a<=l.getD k 0/\l.getD k 0<=b)/\(0<k->l.getD (k-1) 0<l.getD k 0)) ?_ ?_ ⟨rfl,Int.le_refl _,rfl,fun k hk=>by omega⟩
    · rintro i ⟨x,s⟩ hi ⟨e1,e2,e3,e4⟩
      dsimp only at e1 e2 e3
      subst e1
      simp only [zaV]
      refine M.o_t (decide_eq_true (by omega)) (M.o_grdD (by omega) (M.o_bindE (in_ends _ _ _) (M.o_if (fun hc=>?_) (fun hc=>?_))))
      · rw [Bool.not_eq_true',Bool.and_eq_false_iff,decide_eq_false_iff_not,decide_eq_false_iff_not] at hc
        refine M.o_pure fun hR=>?_
        have:=hR s hi
        split at e3 <;> omega
      · rw [Bool.not_eq_false',Bool.and_eq_true,decide_eq_true_eq,decide_eq_true_eq] at hc
        refine M.o_grd (gA2 (by omega) (by omega)) (M.o_pure ⟨rfl,by dsimp only; omega,by rw [if_neg (by omega),Nat.add_sub_cancel],fun k hk=>?_⟩)
        rcases Nat.lt_or_eq_of_le (Nat.le_of_lt_succ hk) with e | e
        · exact e4 k e
        · subst e
          split at e3 <;> omega
    · rintro ⟨x,s⟩ ⟨e1,e2,e3,e4⟩
      dsimp only at e1 e2 e3
      subst e1
      simp only [zaV]
      exact M.o_f (by simp) (M.o_pure e4)
  · intro y hy
    cases y with
    | inl u=>exact M.o_pure (decide_eq_false hy).symm
    | inr u=>exact M.o_pure (decide_eq_true hy).symm
theorem yr_ends (ys:List Yr) (os:List Old10) (f l:Int) (r:Yr):(zbC ys os f l r).Ends (Bk.yrB f l r):=by
  unfold zbC Bk.yrB
  generalize ha:(decide (f<=r.year)&&decide (r.year<=l))=A
  generalize hb:(decide (0<=r.lo)&&decide (r.lo<=r.hi))=B
  generalize hc:(decide (0<=r.hi)&&decide (r.hi<=2000))=C
  have a1:=in_ends r.year f l
  have b1:=in_ends r.lo 0 r.hi
  have c1:=in_ends r.hi 0 2000
  rw [ha] at a1; rw [hb] at b1; rw [hc] at c1
  refine M.i_bind a1 (M.i_bind (a:=A&&B) (M.i_opt (fun h=>by rw [h]; exact b1) (fun h=>by rw [h]; rfl)) (M.i_bind (a:=(A&&(A&&B))&&C) (M.i_opt (fun h=>by rw [h]; exact c1) (fun h=>by rw [h]; rfl)) ?_))
  cases A <;> cases B <;> cases C <;> exact M.i_pure
theorem old_ends {ys:List Yr} {os:List Old10} {f l:Int} (hl:l<=3000) (hf:0<=f) (o:Old10):(zbi o ys os f l).Ends (Bk.oB f l o):=by
  unfold zbi zcy Bk.oB
  generalize ha:(decide (f<=o.src)&&decide (o.src<=o.dst))=A
  generalize hb:(decide (f<=o.dst)&&decide (o.dst<=l))=B
  generalize hc:(decide (1<=o.stage)&&decide (o.stage<=2000))=C
  have a1:=in_ends o.src f o.dst
  have b1:=in_ends o.dst f l
  have c1:=in_ends o.stage 1 2000
  rw [ha] at a1; rw [hb] at b1; rw [hc] at c1
  have d1:A=true->B=true->(zaF o.passed o.src o.dst).Ends (decide (Bk.Rin o.passed o.src o.dst)):=by
    rintro rfl rfl
    rw [Bool.and_eq_true,decide_eq_true_eq,decide_eq_true_eq] at ha hb
    exact rising_ends _ _ _ (by omega) (by omega)
  generalize (decide (Bk.Rin o.passed o.src o.dst))=E at d1
  refine M.i_bind (M.i_bind a1 (M.i_bind (a:=A&&B) (M.i_opt (fun h=>by rw [h]; exact b1) (fun h=>by rw [h]; rfl)) (M.i_bind (a:=(A&&(A&&B))&&C) (M.i_opt (fun h=>by rw [h]; exact c1) (fun h=>by rw [h]; rfl)) (M.i_bind (a:=(((A&&(A&&B))&&((A&&(A&&B))&&C)))&&E) (M.i_opt (fun h=>?_) (fun h=>by rw [h]; rfl)) M.i_pure)))) ?_
  · rw [h]
    have:A=true/\B=true:=by cases A <;> cases B <;> simp_all
    exact d1 this.1 this.2
  · cases A <;> cases B <;> cases C <;> cases E <;> exact M.i_pure
theorem check_ends (ys:List Yr) (os:List Old10) (f l:Int) (hy:ys.length<=1000000) (ho:os.length<=1000000):(zbY ys os f l).Ends (Bk.chkB ys os f l):=by
  unfold zbY Bk.chkB
  refine M.i_bind (in_ends _ _ _) (M.i_bind (a:=(decide (0<=f)&&decide (f<=l))&&(decide (0<=l)&&decide (l<=3000))) (M.i_opt (fun h=>by rw [Bool.not_not] at h; rw [h]; exact in_ends _ _ _) (fun h=>by rw [Bool.not_not] at h; rw [h]; rfl)) ?_)
  have e1:((!(decide (0<=f)&&decide (f<=l)))||!((decide (0<=f)&&decide (f<=l))&&(decide (0<=l)&&decide (l<=3000)))) = !((decide (0<=f)&&decide (f<=l))&&(decide (0<=l)&&decide (l<=3000))):=by
    cases (decide (0<=f)&&decide (f<=l)) <;> rfl
  rw [e1]
  refine M.i_grd (gI2 fun h=>?_) ?_
  · rw [Bool.not_not,Bool.and_eq_true,Bool.and_eq_true,Bool.and_eq_true,decide_eq_true_eq,decide_eq_true_eq,decide_eq_true_eq,decide_eq_true_eq] at h
    omega
  have e2:((!((decide (0<=f)&&decide (f<=l))&&(decide (0<=l)&&decide (l<=3000))))||decide (1000<=l-f)) = !(Bk.frB f l):=by
    unfold Bk.frB
    rw [Bool.eq_iff_iff]
    simp only [Bool.or_eq_true,Bool.not_eq_true',Bool.and_eq_false_iff,decide_eq_true_eq,decide_eq_false_iff_not]
    omega
  rw [e2]
  refine M.i_if (fun h1=>?_) (fun h1=>?_)
  · rw [Bool.not_eq_true'] at h1
    rw [if_pos h1]
    exact M.i_pure
  · rw [Bool.not_eq_false'] at h1
    rw [if_neg (by rw [h1]; simp)]
    have hfl:0<=f/\l<=3000:=by
      have h1:((0<=f/\f<=l)/\(0<=l/\l<=3000))/\l-f<1000:=by simpa [Bk.frB] using h1
      exact ⟨h1.1.1.1,h1.1.2.2⟩
    have few:=every_old (s:=os) (so:=fun xqz=>zbT xqz) (p:=Bk.fewO) ho (fun o _=>M.i_pure)
    by_cases hm:60<ys.length∨8<os.length
    · have e3:(decide (60<(ys.length:Int))||decide (8<(os.length:Int)))=true:=by
        rw [Bool.or_eq_true,decide_eq_true_eq,decide_eq_true_eq]; omega
      rw [e3,if_pos (hm.elim (fun h=>.inl h) (fun h=>.inr (.inl h)))]
      exact M.i_bind (a:=false) (M.i_opt (fun h=>by cases h) (fun _=>rfl)) (M.i_t rfl M.i_pure)
    · have e3 : (decide (60 < (ys.length : Int)) || decide (8 < (os.length : Int))) = false := by
        rw [Bool.or_eq_false_iff,decide_eq_false_iff_not,decide_eq_false_iff_not]; omega
      rw [e3]
      refine M.i_bind (M.i_opt (fun _=>few) (fun h=>by cases h)) ?_
      cases hf:os.all Bk.fewO with
      | false =>
        rw [if_pos (.inr (.inr rfl))]
        exact M.i_t rfl M.i_pure
      | true =>
        rw [if_neg (fun h=>h.elim (fun h=>hm (.inl h)) (fun h=>h.elim (fun h=>hm (.inr h)) (fun h=>by cases h)))]
        refine M.i_f rfl ?_
        have out:(M.iter (zaK ys os f l) 0).Out (fun y=>(match y with | .inl s=>s ≠ 0/\s=Pk.fe (Bk.errY f l ys) ys.length | .inr (_:Unit)=>Pk.fe (Bk.errY f l ys) ys.length=0)):=by
          refine M.o_for ys.length (fun i s=>s=i/\Pk.fe (Bk.errY f l ys) i=0) ?_ ?_ ⟨rfl,rfl⟩
          · rintro i s hi ⟨rfl,h0⟩
            simp only [zaK]
            refine M.o_t (decide_eq_true (by omega)) (M.o_grdD (by omega) (M.o_bindE (yr_ends _ _ _ _ _) (M.o_if (fun h1=>?_) (fun h1=>?_))))
            · have e:Bk.errY f l ys s=110:=by unfold Bk.errY; rw [if_pos (by simpa using h1)]
              exact M.o_pure ⟨by decide,by rw [Pk.fe_stop h0 (by rw [e]; decide) hi,e]⟩
            · have h1:Bk.yrB f l (ys.getD s default)=true:=by simpa using h1
              refine M.o_grd (gI2 fun h=>by have:=of_decide_eq_true h; omega) (M.o_grd (gI2 fun h=>by have:=of_decide_eq_true h; omega) ?_)
              rw [show Int.toNat ((s:Int)-1)=s-1 by omega]
              refine M.o_if (fun h2=>?_) (fun h2=>?_)
              · rw [Bool.and_eq_true,decide_eq_true_eq,decide_eq_true_eq] at h2
                have e:Bk.errY f l ys s=9:=by unfold Bk.errY; rw [if_neg (by rw [h1]; simp),if_pos ⟨by omega,h2.2⟩]
                exact M.o_pure ⟨by decide,by rw [Pk.fe_stop h0 (by rw [e]; decide) hi,e]⟩
              · refine M.o_pure ⟨rfl,?_⟩
                have e:Bk.errY f l ys s=0:=by
                  unfold Bk.errY
                  rw [if_neg (by rw [h1]; simp),if_neg]
                  intro hh
                  rw [Bool.and_eq_false_iff,decide_eq_false_iff_not,decide_eq_false_iff_not] at h2
                  omega
                show (if Pk.fe (Bk.errY f l ys) s ≠ 0 then _ else _)=_
                rw [if_neg (by rw [h0]; simp),e]
          · rintro s ⟨rfl,h0⟩
            simp only [zaK]
            exact M.o_f (by simp) (M.o_pure h0)
        obtain ⟨y,g1,g2⟩:=out
        refine M.i_bind g1 ?_
        cases y with
        | inl s =>
          dsimp only at g2 ⊢
          rw [← g2.2,if_pos g2.1]; exact M.i_pure
        | inr u =>
          dsimp only at g2 ⊢
          rw [g2,if_neg (by simp)]
          refine M.i_bind (every_old ho fun o _=>old_ends hfl.2 hfl.1 o) ?_
          cases os.all (Bk.oB f l) with
          | true=>exact M.i_f rfl M.i_pure
          | false=>exact M.i_t rfl M.i_pure
end Go.Proofs.YtdmdhmineljlhaaGreat
-- libO/BB.lean
namespace Go.Nm
theorem lookM_map {κ ν:Type} [DecidableEq κ] (g:κ->ν->ν):∀ (m:List (κ × ν)) (k:κ),lookM (m.map fun p=>(p.1,g p.1 p.2)) k=(lookM m k).map (g k)
  | [],k=>rfl
  | p :: m,k=>by
    rw [List.map_cons]
    unfold lookM
    by_cases h:p.1=k
    · rw [if_pos h,if_pos h,h]; rfl
    · rw [if_neg h,if_neg h,lookM_map g m k]
namespace Bk
/-- The first year that can have none. -/
def First (ys:List Yr) (os:List Old10) (f l y:Int):Prop:=f<=y/\y<=l/\(kn ys os y).hi<(kn ys os y).lo/\∀ z,f<=z->z<y->(kn ys os z).lo<=(kn ys os z).hi
def Fine (ys:List Yr) (os:List Old10) (f l:Int):Prop:=∀ z,f<=z->z<=l->(kn ys os z).lo<=(kn ys os z).hi
theorem First.uniq {ys:List Yr} {os:List Old10} {f l y z:Int} (h:First ys os f l y) (k:First ys os f l z):y=z:=by
  obtain ⟨h1,h2,h3,h4⟩:=h
  obtain ⟨k1,k2,k3,k4⟩:=k
  rcases Int.lt_trichotomy y z with e | e | e
  · have:=k4 y h1 e; omega
  · exact e
  · have:=h4 z k1 e; omega
theorem First.bad {ys:List Yr} {os:List Old10} {f l y:Int} (h:First ys os f l y) (k:Fine ys os f l):False:=by
  obtain ⟨h1,h2,h3,h4⟩:=h
  have:=k y h1 h2
  omega
theorem rec_take {ys:List Yr} (hu:ys.Pairwise fun a b=>a.year<b.year) {s:Nat} (hs:s<ys.length) (y:Int):rec (ys.take (s+1)) y=if y=(ys.getD s default).year then ⟨(ys.getD s default).lo,(ys.getD s default).hi⟩ else rec (ys.take s) y:=by
  have e:ys.getD s default=ys[s]:=by rw [List.getD_eq_getElem?_getD,List.getElem?_eq_getElem hs,Option.getD_some]
  rw [e]
  unfold rec
  rw [← List.take_append_getElem hs,List.find?_append]
  by_cases hy:y=ys[s].year
  · rw [if_pos hy]
    have:(ys.take s).find? (fun r=>r.year==y)=none:=by
      rw [List.find?_eq_none]
      intro r hr
      obtain ⟨i,hi,rfl⟩:=List.getElem_of_mem hr
      rw [List.length_take] at hi
      rw [List.getElem_take]
      have:=List.pairwise_iff_getElem.1 hu i s (by omega) hs (by omega)
      rw [beq_iff_eq]
      omega
    rw [this]
    simp [hy]
  · rw [if_neg hy]
    have:(ys[s].year==y)=false:=by rw [beq_eq_false_iff_ne]; exact fun h=>hy h.symm
    simp only [List.find?_cons,this,List.find?_nil,Option.or_none]
end Bk
end Go.Nm
namespace Go.Proofs.YtdmdhmineljlhaaGreat
open Go Go.Nm
variable {ys:List Yr} {os:List Old10} {f l:Int}
theorem index_in (s:List Int) (v:Int):(zbV s v).Out (fun r=>decide (0<=r)=s.contains v):=by
  unfold zbV
  refine M.o_bind (P:=fun y=>match y with | .inl i=>0<=i/\s.contains v=true | .inr (_:Unit)=>s.contains v=false) ?_ ?_
  · refine M.o_scan s.length (fun k=>s.getD k 0 ≠ v) ?_ ?_
    · intro k hk hp
      simp only [zbc]
      have e:s.getD k 0=s[k]:=by rw [List.getD_eq_getElem?_getD,List.getElem?_eq_getElem hk,Option.getD_some]
      refine M.o_t (decide_eq_true (by omega)) (M.o_grdD (by omega) (M.o_if (fun hb=>?_) (fun hb=>?_)))
      · refine M.o_pure ⟨by omega,?_⟩
        rw [List.contains_iff_mem,(beq_iff_eq.1 hb),e]
        exact List.getElem_mem hk
      · exact M.o_pure ⟨rfl,fun h=>(beq_eq_false_iff_ne.1 hb) h.symm⟩
    · intro hp
      simp only [zbc]
      refine M.o_f (by simp) (M.o_pure ?_)
      rw [← Bool.not_eq_true,List.contains_iff_mem]
      intro hx
      obtain ⟨i,hi,e⟩:=List.getElem_of_mem hx
      have:=hp i hi
      rw [List.getD_eq_getElem?_getD,List.getElem?_eq_getElem hi,Option.getD_some] at this
      exact this e
  · intro y hy
    cases y with
    | inl i=>exact M.o_pure (by rw [hy.2]; exact decide_eq_true hy.1)
    | inr u=>exact M.o_pure (by rw [hy]; decide)
theorem contains_ends (s:List Int) (v:Int):(zbr s v).Ends (s.contains v):=by
  unfold zbr
  obtain ⟨r,h1,h2⟩:=index_in s v
  exact M.i_bind h1 (by rw [h2]; exact M.i_pure)
theorem told_ends (h:Bk.OkO f l os) (ky:Int) (vl:Span):(za5 os ky vl).Ends (os.foldl (Bk.told ky) vl):=by
  refine M.Out.ends ?_
  unfold za5
  refine M.o_bind (P:=fun y=>(⟨y.1,y.2⟩:Span)=os.foldl (Bk.told ky) vl) ?_ (fun y e=>M.o_pure e)
  refine M.o_for os.length (fun i (s:Nat × Int × Int)=>s.1=i/\(⟨s.2.1,s.2.2⟩:Span)=(os.take i).foldl (Bk.told ky) vl) ?_ ?_ ⟨rfl,rfl⟩
  · rintro i ⟨s,a,b⟩ hi ⟨e1,e2⟩
    dsimp only at e1 e2
    subst e1
    simp only [zbb]
    have e:os.getD s default=os[s]:=by rw [List.getD_eq_getElem?_getD,List.getElem?_eq_getElem hi,Option.getD_some]
    have ho:=h.in_ os[s] (List.getElem_mem hi)
    have et:(os.take (s+1)).foldl (Bk.told ky) vl=Bk.told ky ⟨a,b⟩ os[s]:=by
      rw [← List.take_append_getElem hi,List.foldl_append,← e2]; rfl
    rw [e]
    refine M.o_t (decide_eq_true (by omega)) (M.o_grdD (by omega) (M.o_bindE (in_ends _ _ _) (M.o_if (fun hb=>?_) (fun hb=>?_))))
    · rw [Bool.not_eq_true',Bool.and_eq_false_iff,decide_eq_false_iff_not,decide_eq_false_iff_not] at hb
      refine M.o_pure ⟨rfl,?_⟩
      rw [et,Bk.told,if_neg (by omega)]
    · rw [Bool.not_eq_false',Bool.and_eq_true,decide_eq_true_eq,decide_eq_true_eq] at hb
      refine M.o_bindE (contains_ends _ _) (M.o_if (fun hc=>?_) (fun hc=>?_))
      · refine M.o_pure ⟨rfl,?_⟩
        rw [et,Bk.told,if_pos hb,if_pos hc]
      · refine M.o_grd (gA2 (by omega) (by omega)) (M.o_pure ⟨rfl,?_⟩)
        rw [et,Bk.told,if_pos hb,if_neg (by rw [hc]; simp)]
  · rintro ⟨s,a,b⟩ ⟨e1,e2⟩
    dsimp only at e1 e2
    subst e1
    simp only [zbb]
    rw [List.take_length] at e2
    exact M.o_f (by simp) (M.o_pure e2)
/-- What a book at work knows of its years. -/
def Knows (ys:List Yr) (os:List Old10) (f l:Int) (m:List (Int × Span)):Prop:=∀ y,f<=y->y<=l->(lookM m y).getD default=Bk.kn ys os y
theorem opened_bad (hy:ys.length<=1000000) (ho:os.length<=1000000) (h:Bk.chkB ys os f l ≠ 0):(zar ys os f l).Ends (.inl (Bk.chkB ys os f l)):=by
  unfold zar
  exact M.i_bind (check_ends ys os f l hy ho) (M.i_t (bne_iff_ne.2 h) M.i_pure)
theorem opened_ok (hy:ys.length<=1000000) (ho:os.length<=1000000) (h0:Bk.chkB ys os f l=0):∃ m,(zar ys os f l).Ends (.inr (f,l,m,0))/\Knows ys os f l m:=by
  have h:=Bk.chk_ok h0
  have hf0:=h.f0
  have hfl:=h.fl
  have hl3:=h.l3
  obtain ⟨m1,g1,k1⟩:(M.iter (zaL l) (([]:List (Int × Span)),f)).Out (fun m=>∀ y,f<=y->y<=l->lookM m y=some ⟨0,2000⟩):=by
    refine M.o_for (Int.toNat (l+1-f)) (fun i (s:List (Int × Span) × Int)=>s.2=f+i/\∀ y,f<=y->y<f+i->lookM s.1 y=some ⟨0,2000⟩) ?_ ?_ ⟨by simp,fun y h1 h2=>by simp at h2; omega⟩
    · rintro i ⟨m,y⟩ hi ⟨e1,e2⟩
      dsimp only at e1 e2
      subst e1
      simp only [zaL]
      refine M.o_t (decide_eq_true (by omega)) (M.o_grd (gA2 (by omega) (by omega)) (M.o_pure ⟨by dsimp only; omega,fun z h1 h2=>?_⟩))
      rw [lookM_set]
      split
      · rfl
      · exact e2 z h1 (by omega)
    · rintro ⟨m,y⟩ ⟨e1,e2⟩
      dsimp only at e1 e2
      subst e1
      simp only [zaL]
      exact M.o_f (decide_eq_false (by omega)) (M.o_pure fun z h1 h2=>e2 z h1 (by omega))
  obtain ⟨m2,g2,k2⟩:(M.iter (zaE ys) (m1,0)).Out (fun m=>∀ y,f<=y->y<=l->lookM m y=some (Bk.rec ys y)):=by
    refine M.o_for ys.length (fun i (s:List (Int × Span) × Nat)=>s.2=i/\∀ y,f<=y->y<=l->lookM s.1 y=some (Bk.rec (ys.take i) y)) ?_ ?_ ⟨rfl,k1⟩
    · rintro i ⟨m,s⟩ hi ⟨e1,e2⟩
      dsimp only at e1 e2
      subst e1
      simp only [zaE]
      have e:ys.getD s default=ys[s]:=by rw [List.getD_eq_getElem?_getD,List.getElem?_eq_getElem hi,Option.getD_some]
      have hr:=h.y.in_ ys[s] (List.getElem_mem hi)
      rw [← e] at hr
      have et:=Bk.rec_take h.y.up hi
      refine M.o_t (decide_eq_true (by omega)) (M.o_grdD (by omega) (M.o_if (fun hb=>?_) (fun hb=>?_)))
      · refine M.o_pure ⟨rfl,fun y h1 h2=>?_⟩
        rw [lookM_set,et]
        split
        · rfl
        · exact e2 y h1 h2
      · rw [Bool.not_eq_false',decide_eq_true_eq] at hb
        refine M.o_pure ⟨rfl,fun y h1 h2=>?_⟩
        rw [et]
        split
        · rename_i hy'
          have k:=e2 _ hr.1 hr.2.1
          rw [k] at hb
          rw [hy',k]
          have h5:(ys.getD s default).lo=(Bk.rec (ys.take s) (ys.getD s default).year).lo:=congrArg Yr.lo hb
          have h6:(ys.getD s default).hi=(Bk.rec (ys.take s) (ys.getD s default).year).hi:=congrArg Yr.hi hb
          refine congrArg some ?_
          rw [h5,h6]
        · exact e2 y h1 h2
    · rintro ⟨m,s⟩ ⟨e1,e2⟩
      dsimp only at e1 e2
      subst e1
      simp only [zaE]
      rw [List.take_length] at e2
      exact M.o_f (by simp) (M.o_pure e2)
  have g3:=M.mapL_ends (body:=za5 os) (g:=fun ky vl=>os.foldl (Bk.told ky) vl) (m:=m2) (fun p _=>told_ends h.o p.1 p.2)
  refine ⟨m2.map fun p=>(p.1,os.foldl (Bk.told p.1) p.2),?_,fun y h1 h2=>?_⟩
  · unfold zar
    refine M.i_bind (check_ends ys os f l hy ho) ?_
    rw [h0]
    exact M.i_f rfl (M.i_bind g1 (M.i_bind g2 (M.i_bind g3 M.i_pure)))
  · have e:=lookM_map (fun ky vl=>os.foldl (Bk.told ky) vl) m2 y
    rw [e,k2 y h1 h2]
    rfl
/-- A round over the years of a book at work. -/
theorem years_out {S X:Type} {bd:S->Int × Span->M (S ⊕ X)} {Q:S ⊕ X->Prop} {m:List (Int × Span)} {a b c d:Int} {s0:S} (hd:d<=3000) (ha:0<=a) (hab:a<=b+1) (hb:b<=d) (hc:c<=a) (hm:Knows ys os c d m) (J:Int->S->Prop) (h0:J a s0)
    (hr:∀ y s,a<=y->y<=b->J y s->(bd s (y,Bk.kn ys os y)).Out (fun x=>match x with | .inl s'=>J (y+1) s' | .inr x=>Q (.inr x))) (hl:∀ s,J (b+1) s->Q (.inl s)) (yw:List Yr) (ow:List Old10) (cw dw:Int) :
    (zal (M.yl bd) (.inl s0) a b yw ow cw dw m).Out Q:=by
  unfold zal
  refine M.o_bind (P:=fun y=>match y with | .inl t=>Q t | .inr t=>Q t) ?_ (fun y hy=>by cases y with | inl t=>exact M.o_pure hy | inr t=>exact M.o_pure hy)
  refine M.o_for (Int.toNat (b+1-a)) (fun i (s:Int × (S ⊕ X))=>s.1=a+i/\∃ s',s.2 = .inl s'/\J (a+i) s') ?_ ?_ ⟨by simp,s0,rfl,by simpa using h0⟩
  · rintro i ⟨y,t⟩ hi ⟨e1,s',e2,hj⟩
    dsimp only at e1 e2
    subst e1 e2
    simp only [za9]
    rw [hm (a+i) (by omega) (by omega)]
    refine M.o_t (decide_eq_true (by omega)) ?_
    obtain ⟨x,g1,g2⟩:=hr (a+i) s' (by omega) (by omega) hj
    cases x with
    | inl s2 =>
      refine M.o_bindE (a:=(true,.inl s2)) (M.i_bind g1 M.i_pure) (M.o_f rfl (M.o_grd (gA2 (by omega) (by omega)) (M.o_pure ⟨by dsimp only; omega,s2,rfl,?_⟩)))
      dsimp only at g2
      rw [show a+((i+1:Nat):Int)=a+i+1 by omega]
      exact g2
    | inr x2=>exact M.o_bindE (a:=(false,.inr x2)) (M.i_bind g1 M.i_pure) (M.o_t rfl (M.o_pure g2))
  · rintro ⟨y,t⟩ ⟨e1,s',e2,hj⟩
    dsimp only at e1 e2
    subst e1 e2
    simp only [za9]
    refine M.o_f (decide_eq_false (by omega)) (M.o_pure ?_)
    refine hl s' ?_
    rwa [show a+(Int.toNat (b+1-a):Int)=b+1 by omega] at hj
theorem clash_out (h:Bk.Ok ys os f l) {m:List (Int × Span)} (hm:Knows ys os f l m):(zaP ys os f l m).Out (fun r=>(r=(0,false)/\Bk.Fine ys os f l)∨(r.2=true/\Bk.First ys os f l r.1)):=by
  have hf0:=h.f0
  have hfl:=h.fl
  have hl3:=h.l3
  unfold zaP zai
  refine M.o_bindE M.i_pure (M.o_bind (P:=fun x=>match x with | .inl (_:Unit)=>Bk.Fine ys os f l | .inr y=>Bk.First ys os f l y) ?_ ?_)
  · refine years_out hl3 hf0 (by omega) (Int.le_refl _) (Int.le_refl _) hm (fun y _=>∀ z,f<=z->z<y->(Bk.kn ys os z).lo<=(Bk.kn ys os z).hi) (fun z h1 h2=>by omega) ?_ ?_ _ _ _ _
    · intro y s h1 h2 hj
      simp only [zao]
      refine M.o_if (fun hb=>?_) (fun hb=>?_)
      · exact M.o_pure ⟨h1,h2,of_decide_eq_true hb,hj⟩
      · have:=of_decide_eq_false hb
        refine M.o_pure fun z h3 h4=>?_
        by_cases e:z=y
        · subst e; omega
        · exact hj z h3 (by omega)
    · intro s hj z h1 h2
      exact hj z h1 (by omega)
  · intro y hy
    cases y with
    | inl u=>exact M.o_pure (.inl ⟨rfl,hy⟩)
    | inr y=>exact M.o_pure (.inr ⟨rfl,hy⟩)
end Go.Proofs.YtdmdhmineljlhaaGreat
-- libO/BC.lean
namespace Go.Nm
namespace Bk
/-- The first year without a truth, or the error. -/
def ClE (ys:List Yr) (os:List Old10) (f l:Int) (r:Int × Int):Prop:=(chkB ys os f l ≠ 0/\r=(0,chkB ys os f l))∨(chkB ys os f l=0/\Fine ys os f l/\r=(0,5))∨(chkB ys os f l=0/\First ys os f l r.1/\r.2=0)
theorem ClE.uniq {ys:List Yr} {os:List Old10} {f l:Int} {r s:Int × Int} (h:ClE ys os f l r) (k:ClE ys os f l s):r=s:=by
  rcases h with ⟨h1,rfl⟩ | ⟨h1,h2,rfl⟩ | ⟨h1,h2,h3⟩
  · rcases k with ⟨k1,rfl⟩ | ⟨k1,_⟩ | ⟨k1,_⟩
    · rfl
    · exact absurd k1 h1
    · exact absurd k1 h1
  · rcases k with ⟨k1,rfl⟩ | ⟨k1,k2,rfl⟩ | ⟨k1,k2,k3⟩
    · exact absurd h1 k1
    · rfl
    · exact (k2.bad h2).elim
  · rcases k with ⟨k1,rfl⟩ | ⟨k1,k2,rfl⟩ | ⟨k1,k2,k3⟩
    · exact absurd h1 k1
    · exact (h2.bad k2).elim
    · exact Prod.ext (h2.uniq k2) (by rw [h3,k3])
/-- The highest stages of a year, or the error. -/
def HiE (ys:List Yr) (os:List Old10) (f l y:Int) (r:Int × Int × Int):Prop:=(chkB ys os f l ≠ 0/\r=(0,0,chkB ys os f l))∨(chkB ys os f l=0/\¬ (f<=y/\y<=l)/\r=(0,0,2))∨(chkB ys os f l=0/\(f<=y/\y<=l)/\¬ Fine ys os f l/\r=(0,0,6)) ∨
  (chkB ys os f l=0/\(f<=y/\y<=l)/\Fine ys os f l/\r=((kn ys os y).lo,(kn ys os y).hi,0))
theorem HiE.uniq {ys:List Yr} {os:List Old10} {f l y:Int} {r s:Int × Int × Int} (h:HiE ys os f l y r) (k:HiE ys os f l y s):r=s:=by
  rcases h with ⟨h1,rfl⟩ | ⟨h1,h2,rfl⟩ | ⟨h1,h2,h3,rfl⟩ | ⟨h1,h2,h3,rfl⟩ <;> rcases k with ⟨k1,rfl⟩ | ⟨k1,k2,rfl⟩ | ⟨k1,k2,k3,rfl⟩ | ⟨k1,k2,k3,rfl⟩ <;> first | rfl | contradiction
/-- A truth that can be. -/
def Can (ys:List Yr) (os:List Old10) (f:Int) (st:List Int):Prop:=∀ i,i<st.length->(kn ys os (f+i)).lo<=st.getD i 0/\st.getD i 0<=(kn ys os (f+i)).hi
def All2 (st:List Int):Prop:=∀ i,i<st.length->0<=st.getD i 0/\st.getD i 0<=2000
def HoE (ys:List Yr) (os:List Old10) (f l:Int) (st:List Int) (r:Bool × Int):Prop:=(chkB ys os f l ≠ 0/\r=(false,chkB ys os f l))∨(chkB ys os f l=0/\(st.length:Int) ≠ l-f+1/\r=(false,2))∨(chkB ys os f l=0/\(st.length:Int)=l-f+1/\¬ All2 st/\r=(false,4)) ∨
  (chkB ys os f l=0/\(st.length:Int)=l-f+1/\All2 st/\¬ Can ys os f st/\r=(false,0))∨(chkB ys os f l=0/\(st.length:Int)=l-f+1/\All2 st/\Can ys os f st/\r=(true,0))
theorem HoE.uniq {ys:List Yr} {os:List Old10} {f l:Int} {st:List Int} {r s:Bool × Int} (h:HoE ys os f l st r) (k:HoE ys os f l st s):r=s:=by
  rcases h with ⟨h1,rfl⟩ | ⟨h1,h2,rfl⟩ | ⟨h1,h2,h3,rfl⟩ | ⟨h1,h2,h3,h4,rfl⟩ | ⟨h1,h2,h3,h4,rfl⟩ <;> rcases k with ⟨k1,rfl⟩ | ⟨k1,k2,rfl⟩ | ⟨k1,k2,k3,rfl⟩ | ⟨k1,k2,k3,k4,rfl⟩ | ⟨k1,k2,k3,k4,rfl⟩ <;> first | rfl | contradiction
end Bk
end Go.Nm
namespace Go.Proofs.YtdmdhmineljlhaaGreat
open Go Go.Nm
variable {ys:List Yr} {os:List Old10} {f l:Int}
theorem of_holds (hy:ys.length<=1000000) (ho:os.length<=1000000) (st:List Int) (hs:st.length<=1000000):(zaD ys os f l st).Out (Bk.HoE ys os f l st):=by
  unfold zaD
  by_cases h0:Bk.chkB ys os f l=0
  · have h := Bk.chk_ok h0
    have hf0:=h.f0
    have hfl:=h.fl
    have hl3:=h.l3
    have hln:=h.ln
    obtain ⟨m,g1,hm⟩:=opened_ok hy ho h0
    refine M.o_bindE g1 (M.o_f rfl (M.o_grd (gA2 (by omega) (by omega)) (M.o_grd (gA2 (by omega) (by omega)) (M.o_if (fun hl=>?_) (fun hl=>?_)))))
    · exact M.o_pure (.inr (.inl ⟨h0,bne_iff_ne.1 hl,rfl⟩))
    · have hl:(st.length:Int)=l-f+1:=by simpa using hl
      refine M.o_bindE (every_int (p:=fun n=>decide (0<=n)&&decide (n<=2000)) hs (fun x _=>by unfold zbo; exact M.i_bind (in_ends _ _ _) M.i_pure)) (M.o_if (fun hb=>?_) (fun hb=>?_))
      · rw [Bool.not_eq_true'] at hb
        refine M.o_pure (.inr (.inr (.inl ⟨h0,hl,fun hA=>?_,rfl⟩)))
        have:=dur_all.2 (show DuR st from hA)
        rw [hb] at this
        cases this
      · rw [Bool.not_eq_false'] at hb
        have hA:Bk.All2 st:=dur_all.1 hb
        unfold zai
        refine M.o_bindE M.i_pure (M.o_bind (P:=fun x=>match x with | .inl (_:Unit)=>Bk.Can ys os f st | .inr (_:Unit)=>¬ Bk.Can ys os f st) ?_ ?_)
        · refine years_out hl3 hf0 (by omega) (Int.le_refl _) (Int.le_refl _) hm (fun y _=>∀ i:Nat,f+i<y->(Bk.kn ys os (f+i)).lo<=st.getD i 0/\st.getD i 0<=(Bk.kn ys os (f+i)).hi) (fun i h1=>by omega) ?_ ?_ _ _ _ _
          · intro y s h1 h2 hj
            obtain ⟨i,rfl⟩:∃ i:Nat,y=f+i:=⟨Int.toNat (y-f),by omega⟩
            simp only [zan]
            rw [show Int.toNat (f+i-f)=i by omega]
            refine M.o_grd (gA2 (by omega) (by omega)) (M.o_grd (gA2 (by omega) (by omega)) (M.o_bindE (in_ends _ _ _) (M.o_if (fun hb=>?_) (fun hb=>?_))))
            · rw [Bool.not_eq_true',Bool.and_eq_false_iff,decide_eq_false_iff_not,decide_eq_false_iff_not] at hb
              refine M.o_pure fun hC=>?_
              have:=hC i (by omega)
              omega
            · rw [Bool.not_eq_false',Bool.and_eq_true,decide_eq_true_eq,decide_eq_true_eq] at hb
              refine M.o_pure fun j h3=>?_
              by_cases e:j=i
              · subst e; exact hb
              · exact hj j (by omega)
          · intro s hj i hi
            exact hj i (by omega)
        · intro z hz
          cases z with
          | inl u=>exact M.o_pure (.inr (.inr (.inr (.inr ⟨h0,hl,hA,hz,rfl⟩))))
          | inr u=>exact M.o_pure (.inr (.inr (.inr (.inl ⟨h0,hl,hA,hz,rfl⟩))))
  · exact M.o_bindE (opened_bad hy ho h0) (M.o_t (bne_iff_ne.2 h0) (M.o_pure (.inl ⟨h0,rfl⟩)))
end Go.Proofs.YtdmdhmineljlhaaGreat
-- libO/BE.lean
namespace Go.Nm
namespace Bk
/-- What the years from one on can have. -/
def kl (ys:List Yr) (os:List Old10) (a:Int) (n:Nat):List Span:=(List.range n).map fun (i:Nat)=>kn ys os (a+(i:Int))
theorem kl_succ (ys:List Yr) (os:List Old10) (a:Int) (n:Nat):kl ys os a (n+1)=kl ys os a n++[kn ys os (a+(n:Int))]:=by
  unfold kl
  rw [List.range_succ,List.map_append]
  rfl
theorem kl_len (ys:List Yr) (os:List Old10) (a:Int) (n:Nat):(kl ys os a n).length=n:=by unfold kl; rw [List.length_map,List.length_range]
def In (f l fr to:Int):Prop:=f<=fr/\fr<=to/\to<=l
/-- The first error of a book, two years, a number, and that no truth can be. -/
def WrE (ys:List Yr) (os:List Old10) (f l fr to n a b e:Int):Prop:=(chkB ys os f l ≠ 0/\e=chkB ys os f l)∨(chkB ys os f l=0/\¬ In f l fr to/\e=2)∨(chkB ys os f l=0/\In f l fr to/\¬ (a<=n/\n<=b)/\e=4) ∨
  (chkB ys os f l=0/\In f l fr to/\(a<=n/\n<=b)/\¬ Fine ys os f l/\e=6)∨(chkB ys os f l=0/\In f l fr to/\(a<=n/\n<=b)/\Fine ys os f l/\e=0)
theorem WrE.uniq {ys:List Yr} {os:List Old10} {f l fr to n a b e e':Int} (h:WrE ys os f l fr to n a b e) (k:WrE ys os f l fr to n a b e'):e=e':=by
  rcases h with ⟨h1,rfl⟩ | ⟨h1,h2,rfl⟩ | ⟨h1,h2,h3,rfl⟩ | ⟨h1,h2,h3,h4,rfl⟩ | ⟨h1,h2,h3,h4,rfl⟩ <;> rcases k with ⟨k1,rfl⟩ | ⟨k1,k2,rfl⟩ | ⟨k1,k2,k3,rfl⟩ | ⟨k1,k2,k3,k4,rfl⟩ | ⟨k1,k2,k3,k4,rfl⟩ <;> first | rfl | contradiction
theorem WrE.ok {ys:List Yr} {os:List Old10} {f l fr to n a b:Int} (h:WrE ys os f l fr to n a b 0):chkB ys os f l=0/\In f l fr to/\(a<=n/\n<=b)/\Fine ys os f l:=by
  rcases h with ⟨h1,h2⟩ | ⟨h1,h2,h3⟩ | ⟨h1,h2,h3,h4⟩ | ⟨h1,h2,h3,h4,h5⟩ | ⟨h1,h2,h3,h4,h5⟩
  · exact absurd h2.symm h1
  · cases h3
  · cases h4
  · cases h5
  · exact ⟨h1,h2,h3,h4⟩
theorem WrE.last {ys:List Yr} {os:List Old10} {f l fr to n a b b' e:Int} (h:WrE ys os f l fr to n a b e) (hb:chkB ys os f l=0->In f l fr to->b=b'):WrE ys os f l fr to n a b' e:=by
  rcases h with ⟨h1,h2⟩ | ⟨h1,h2,h3⟩ | ⟨h1,h2,h3,h4⟩ | ⟨h1,h2,h3,h4,h5⟩ | ⟨h1,h2,h3,h4,h5⟩
  · exact .inl ⟨h1,h2⟩
  · exact .inr (.inl ⟨h1,h2,h3⟩)
  · exact .inr (.inr (.inl ⟨h1,h2,by rw [← hb h1 h2]; exact h3,h4⟩))
  · exact .inr (.inr (.inr (.inl ⟨h1,h2,by rw [← hb h1 h2]; exact h3,h4,h5⟩)))
  · exact .inr (.inr (.inr (.inr ⟨h1,h2,by rw [← hb h1 h2]; exact h3,h4,h5⟩)))
def many (p:Span->Bool) (ys:List Yr) (os:List Old10) (fr to:Int):Int:=((kl ys os fr (Int.toNat (to+1-fr))).countP p:Nat)
def lop (x:Int) (s:Span):Bool:=decide (x<=s.lo)
def hip (x:Int) (s:Span):Bool:=decide (x<=s.hi)
def PaE (ys:List Yr) (os:List Old10) (f l fr to st:Int) (r:Int × Int × Int):Prop:=(r.2.2 ≠ 0/\WrE ys os f l fr to st 0 2000 r.2.2/\r.1=0/\r.2.1=0)∨(r.2.2=0/\WrE ys os f l fr to st 0 2000 0/\r.1=many (lop st) ys os fr to/\r.2.1=many (hip st) ys os fr to)
theorem PaE.wr {ys:List Yr} {os:List Old10} {f l fr to st:Int} {r:Int × Int × Int} (h:PaE ys os f l fr to st r):WrE ys os f l fr to st 0 2000 r.2.2:=by
  rcases h with ⟨h1,h2,h3⟩ | ⟨h1,h2,h3⟩
  · exact h2
  · rw [h1]; exact h2
theorem PaE.uniq {ys:List Yr} {os:List Old10} {f l fr to st:Int} {r s:Int × Int × Int} (h:PaE ys os f l fr to st r) (k:PaE ys os f l fr to st s):r=s:=by
  have e:=h.wr.uniq k.wr
  obtain ⟨r1,r2,r3⟩:=r
  obtain ⟨s1,s2,s3⟩:=s
  dsimp only at e
  subst e
  rcases h with ⟨h1,h2,h3,h4⟩ | ⟨h1,h2,h3,h4⟩ <;> rcases k with ⟨k1,k2,k3,k4⟩ | ⟨k1,k2,k3,k4⟩ <;> dsimp only at h1 h3 h4 k1 k3 k4
  · rw [h3,h4,k3,k4]
  · exact absurd k1 h1
  · exact absurd h1 k1
  · rw [h3,h4,k3,k4]
/-- The highest number that so many have. -/
def Top (L:List Int) (t v:Int):Prop:=0<=v/\v<=2000/\t<=(L.countP (fun x=>decide (v<=x)):Nat)/\((L.countP (fun x=>decide (v+1<=x)):Nat):Int)<t
theorem cnt_mono {L:List Int} {v w:Int} (h:v<=w):L.countP (fun x=>decide (w<=x))<=L.countP (fun x=>decide (v<=x)):=by
  refine List.countP_mono_left fun x _ hx=>?_
  have:=of_decide_eq_true hx
  exact decide_eq_true (by omega)
theorem Top.uniq {L:List Int} {t v w:Int} (h:Top L t v) (k:Top L t w):v=w:=by
  obtain ⟨h1,h2,h3,h4⟩:=h
  obtain ⟨k1,k2,k3,k4⟩:=k
  rcases Int.lt_trichotomy v w with e | e | e
  · have:=cnt_mono (L:=L) (v:=v+1) (w:=w) (by omega)
    omega
  · exact e
  · have:=cnt_mono (L:=L) (v:=w+1) (w:=v) (by omega)
    omega
def ReE (ys:List Yr) (os:List Old10) (f l fr to t:Int) (r:Int × Int × Int):Prop:=(r.2.2 ≠ 0/\WrE ys os f l fr to t 1 (to-fr+1) r.2.2/\r.1=0/\r.2.1=0) ∨
  (r.2.2=0/\WrE ys os f l fr to t 1 (to-fr+1) 0/\Top ((kl ys os fr (Int.toNat (to+1-fr))).map Span.lo) t r.1/\Top ((kl ys os fr (Int.toNat (to+1-fr))).map Span.hi) t r.2.1)
theorem ReE.wr {ys:List Yr} {os:List Old10} {f l fr to t:Int} {r:Int × Int × Int} (h:ReE ys os f l fr to t r):WrE ys os f l fr to t 1 (to-fr+1) r.2.2:=by
  rcases h with ⟨h1,h2,h3⟩ | ⟨h1,h2,h3⟩
  · exact h2
  · rw [h1]; exact h2
theorem ReE.uniq {ys:List Yr} {os:List Old10} {f l fr to t:Int} {r s:Int × Int × Int} (h:ReE ys os f l fr to t r) (k:ReE ys os f l fr to t s):r=s:=by
  have e:=h.wr.uniq k.wr
  obtain ⟨r1,r2,r3⟩:=r
  obtain ⟨s1,s2,s3⟩:=s
  dsimp only at e
  subst e
  rcases h with ⟨h1,h2,h3,h4⟩ | ⟨h1,h2,h3,h4⟩ <;> rcases k with ⟨k1,k2,k3,k4⟩ | ⟨k1,k2,k3,k4⟩ <;> dsimp only at h1 h3 h4 k1 k3 k4
  · rw [h3,h4,k3,k4]
  · exact absurd k1 h1
  · exact absurd h1 k1
  · rw [h3.uniq k3,h4.uniq k4]
end Bk
end Go.Nm
namespace Go.Proofs.YtdmdhmineljlhaaGreat
open Go Go.Nm
variable {ys:List Yr} {os:List Old10} {f l:Int}
theorem between_out (hy:ys.length<=1000000) (ho:os.length<=1000000) (fr to n a b:Int):(zbg ys os f l fr to n a b).Out (fun r=>match r with | .inl e=>e ≠ 0/\Bk.WrE ys os f l fr to n a b e | .inr (f',l',m,z)=>f'=f/\l'=l/\z=0/\Bk.WrE ys os f l fr to n a b 0/\Knows ys os f l m):=by
  unfold zbg
  by_cases h0:Bk.chkB ys os f l=0
  · have h:=Bk.chk_ok h0
    obtain ⟨m,g1,hm⟩:=opened_ok hy ho h0
    refine M.o_bindE g1 (M.o_f rfl (M.o_bindE (in_ends _ _ _) (M.o_bindE (a:=(decide (f<=fr)&&decide (fr<=to))&&(decide (f<=to)&&decide (to<=l))) (M.i_opt (fun h=>by rw [Bool.not_not] at h; rw [h]; exact in_ends _ _ _) (fun h=>by rw [Bool.not_not] at h; rw [h]; rfl)) (M.o_if (fun hb=>?_) (fun hb=>?_)))))
    · have hI:¬ Bk.In f l fr to:=by
        rintro ⟨i1,i2,i3⟩
        rw [decide_eq_true i1,decide_eq_true i2,decide_eq_true i3,decide_eq_true (show f<=to by omega)] at hb
        cases hb
      exact M.o_pure ⟨by decide,.inr (.inl ⟨h0,hI,rfl⟩)⟩
    · have hI:Bk.In f l fr to:=by
        rw [Bool.or_eq_false_iff,Bool.not_eq_false',Bool.not_eq_false'] at hb
        have:=hb.2
        rw [Bool.and_eq_true,Bool.and_eq_true,Bool.and_eq_true,decide_eq_true_eq,decide_eq_true_eq,decide_eq_true_eq,decide_eq_true_eq] at this
        exact ⟨this.1.1,this.1.2,this.2.2⟩
      refine M.o_bindE (in_ends _ _ _) (M.o_if (fun hb=>?_) (fun hb=>?_))
      · rw [Bool.not_eq_true',Bool.and_eq_false_iff,decide_eq_false_iff_not,decide_eq_false_iff_not] at hb
        exact M.o_pure ⟨by decide,.inr (.inr (.inl ⟨h0,hI,by omega,rfl⟩))⟩
      · rw [Bool.not_eq_false',Bool.and_eq_true,decide_eq_true_eq,decide_eq_true_eq] at hb
        refine M.o_bind (clash_out h hm) ?_
        rintro ⟨y',c⟩ (⟨e,hF⟩ | ⟨e,hF⟩)
        · rw [Prod.mk.injEq] at e
          obtain ⟨rfl,rfl⟩:=e
          exact M.o_f rfl (M.o_pure ⟨rfl,rfl,rfl,.inr (.inr (.inr (.inr ⟨h0,hI,hb,hF,rfl⟩))),hm⟩)
        · dsimp only at e hF
          subst e
          exact M.o_t rfl (M.o_pure ⟨by decide,.inr (.inr (.inr (.inl ⟨h0,hI,hb,fun hh=>hF.bad hh,rfl⟩)))⟩)
  · exact M.o_bindE (opened_bad hy ho h0) (M.o_t (bne_iff_ne.2 h0) (M.o_pure ⟨h0,.inl ⟨h0,rfl⟩⟩))
theorem cnt_succ (p:Span->Bool) (a:Int) (n:Nat):((Bk.kl ys os a (n+1)).countP p:Int)=((Bk.kl ys os a n).countP p:Int)+(if p (Bk.kn ys os (a+(n:Int)))=true then 1 else 0):=by
  rw [Bk.kl_succ,List.countP_append]
  simp only [List.countP_cons,List.countP_nil]
  split <;> simp
theorem cnt_le (p:Span->Bool) (a:Int) (n:Nat):(Bk.kl ys os a n).countP p<=n:=by
  have:=List.countP_le_length (p:=p) (l:=Bk.kl ys os a n)
  rwa [Bk.kl_len] at this
theorem of_passed (hy:ys.length<=1000000) (ho:os.length<=1000000) (fr to st:Int):(zaj ys os f l fr to st).Out (Bk.PaE ys os f l fr to st):=by
  unfold zaj
  refine M.o_bind (between_out hy ho fr to st 0 2000) ?_
  rintro (e | ⟨f',l',m,z⟩) h
  · exact M.o_t (bne_iff_ne.2 h.1) (M.o_pure (.inl ⟨h.1,h.2,rfl,rfl⟩))
  · obtain ⟨rfl,rfl,rfl,hw,hm⟩:=h
    obtain ⟨h0,⟨i1,i2,i3⟩,hn,hF⟩:=hw.ok
    have h:=Bk.chk_ok h0
    have hf0:=h.f0
    have hl3:=h.l3
    have hln:=h.ln
    unfold zai
    refine M.o_f rfl (M.o_bindE M.i_pure (M.o_bind (P:=fun x=>match x with | .inl s=>s=(Bk.many (Bk.lop st) ys os fr to,Bk.many (Bk.hip st) ys os fr to) | .inr (_:Unit)=>False) ?_ ?_))
    · refine years_out (s0:=((0:Int),(0:Int))) hl3 (by omega) (by omega) i3 i1 hm (fun y s=>∃ n:Nat,y=fr+n/\s=(((Bk.kl ys os fr n).countP (Bk.lop st):Int),((Bk.kl ys os fr n).countP (Bk.hip st):Int))) ⟨0,by omega,rfl⟩ ?_ ?_ _ _ _ _
      · rintro y ⟨s,s2⟩ h1 h2 ⟨n,rfl,e⟩
        obtain ⟨rfl,rfl⟩:=Prod.mk.inj e
        have c1:=cnt_le (ys:=ys) (os:=os) (Bk.lop st) fr n
        have c2:=cnt_le (ys:=ys) (os:=os) (Bk.hip st) fr n
        have d1:=cnt_succ (ys:=ys) (os:=os) (Bk.lop st) fr n
        have d2:=cnt_succ (ys:=ys) (os:=os) (Bk.hip st) fr n
        simp only [zau]
        refine M.o_bindE M.i_pure (M.o_bindE M.i_pure (M.o_bindE M.i_pure (M.o_if (fun hb=>?_) (fun hb=>?_))))
        · have hb':Bk.lop st (Bk.kn ys os (fr+(n:Int)))=true:=hb
          rw [if_pos hb'] at d1
          refine M.o_grd (gA2 (by omega) (by omega)) (M.o_bindE M.i_pure (M.o_bindE M.i_pure (M.o_bindE M.i_pure (M.o_if (fun hc=>?_) (fun hc=>?_)))))
          · have hc':Bk.hip st (Bk.kn ys os (fr+(n:Int)))=true:=hc
            rw [if_pos hc'] at d2
            exact M.o_grd (gA2 (by omega) (by omega)) (M.o_pure ⟨n+1,by omega,by rw [d1,d2]⟩)
          · have hc':Bk.hip st (Bk.kn ys os (fr+(n:Int)))=false:=hc
            rw [if_neg (by rw [hc']; simp)] at d2
            exact M.o_pure ⟨n+1,by omega,by rw [d1,d2,Int.add_zero]⟩
        · have hb':Bk.lop st (Bk.kn ys os (fr+(n:Int)))=false:=hb
          rw [if_neg (by rw [hb']; simp)] at d1
          refine M.o_bindE M.i_pure (M.o_bindE M.i_pure (M.o_bindE M.i_pure (M.o_if (fun hc=>?_) (fun hc=>?_))))
          · have hc':Bk.hip st (Bk.kn ys os (fr+(n:Int)))=true:=hc
            rw [if_pos hc'] at d2
            exact M.o_grd (gA2 (by omega) (by omega)) (M.o_pure ⟨n+1,by omega,by rw [d1,d2,Int.add_zero]⟩)
          · have hc':Bk.hip st (Bk.kn ys os (fr+(n:Int)))=false:=hc
            rw [if_neg (by rw [hc']; simp)] at d2
            exact M.o_pure ⟨n+1,by omega,by rw [d1,d2,Int.add_zero,Int.add_zero]⟩
      · rintro s ⟨n,e,rfl⟩
        unfold Bk.many
        rw [show Int.toNat (to+1-fr)=n by omega]
    · intro x hx
      cases x with
      | inl s=>subst hx; exact M.o_pure (.inr ⟨rfl,hw,rfl,rfl⟩)
      | inr u=>exact hx.elim
end Go.Proofs.YtdmdhmineljlhaaGreat
-- libO/BH.lean
namespace Go.Nm
namespace Bk
theorem chk_of {ys:List Yr} {os:List Old10} {f l:Int} (h:Ok ys os f l):chkB ys os f l=0:=by
  have h1:=h.f0
  have h2:=h.fl
  have h3:=h.l3
  have h4:=h.ln
  have h5:=h.y60
  have h6:=h.o8
  have hfr:frB f l=true:=by
    simp only [frB,Bool.and_eq_true,decide_eq_true_eq]
    omega
  have hfew:os.all fewO=true:=by
    rw [List.all_eq_true]
    intro o ho
    have:=h.few o ho
    exact decide_eq_true (by omega)
  have hb:os.all (oB f l)=true:=by
    rw [List.all_eq_true]
    intro o ho
    have k1:=h.o.in_ o ho
    have k2:=h.ris o ho
    simp only [oB,Bool.and_eq_true,decide_eq_true_eq]
    exact ⟨⟨⟨⟨k1.1,k1.2.1⟩,by omega,k1.2.2.1⟩,k1.2.2.2.1,k1.2.2.2.2⟩,k2⟩
  have he:Pk.fe (errY f l ys) ys.length=0:=by
    rw [Pk.fe_all]
    intro i hi
    have e:ys.getD i default=ys[i]:=by rw [List.getD_eq_getElem?_getD,List.getElem?_eq_getElem hi,Option.getD_some]
    have k1:=h.y.in_ ys[i] (List.getElem_mem hi)
    unfold errY
    rw [if_neg,if_neg]
    · rintro ⟨h0,hle⟩
      have e2:ys.getD (i-1) default=ys[i-1]:=by rw [List.getD_eq_getElem?_getD,List.getElem?_eq_getElem (by omega),Option.getD_some]
      rw [e,e2] at hle
      have:=List.pairwise_iff_getElem.1 h.y.up (i-1) i (by omega) hi (by omega)
      omega
    · rw [e]
      have:yrB f l ys[i]=true:=by
        simp only [yrB,Bool.and_eq_true,decide_eq_true_eq]
        omega
      rw [this]
      simp
  unfold chkB
  rw [if_neg (by rw [hfr]; simp),if_neg (by rw [hfew]; simp; omega),if_neg (by rw [he]; simp),if_neg (by rw [hb]; simp)]
/-- A truth of a book. -/
structure Tr (ys:List Yr) (os:List Old10) (f l:Int) (t:List Int):Prop where
  ok:Ok ys os f l
  len:(t.length:Int)=l-f+1
  all:All2 t
  can:Can ys os f t
theorem Tr.at_ {ys:List Yr} {os:List Old10} {f l:Int} {t:List Int} (h:Tr ys os f l t) {y:Int} (h1:f<=y) (h2:y<=l):(kn ys os y).lo<=t.getD (Int.toNat (y-f)) 0/\t.getD (Int.toNat (y-f)) 0<=(kn ys os y).hi:=by
  have hl:=h.len
  have k:=h.can (Int.toNat (y-f)) (by omega)
  rwa [show f+((Int.toNat (y-f):Nat):Int)=y by omega] at k
theorem Tr.fine {ys:List Yr} {os:List Old10} {f l:Int} {t:List Int} (h:Tr ys os f l t):Fine ys os f l:=fun z h1 h2=>by
  have:=h.at_ h1 h2
  omega
/-- An old note that a truth bears out. -/
structure Nt (f l:Int) (t:List Int) (o:Old10):Prop where
  a:f<=o.src
  b:o.src<=o.dst
  c:o.dst<=l
  s1:1<=o.stage
  s2:o.stage<=2000
  few:o.passed.length<=10
  up:o.passed.Pairwise (· < ·)
  mem:∀ y,y∈o.passed↔(o.src<=y/\y<=o.dst)/\o.stage<=t.getD (Int.toNat (y-f)) 0
theorem Nt.rin {f l:Int} {t:List Int} {o:Old10} (h:Nt f l t o):Rin o.passed o.src o.dst:=by
  intro i hi
  have e:o.passed.getD i 0=o.passed[i]:=by rw [List.getD_eq_getElem?_getD,List.getElem?_eq_getElem hi,Option.getD_some]
  rw [e]
  refine ⟨((h.mem _).1 (List.getElem_mem hi)).1,fun h0=>?_⟩
  have e2:o.passed.getD (i-1) 0=o.passed[i-1]:=by rw [List.getD_eq_getElem?_getD,List.getElem?_eq_getElem (by omega),Option.getD_some]
  rw [e2]
  exact List.pairwise_iff_getElem.1 h.up (i-1) i (by omega) hi (by omega)
/-- Recorded years that a truth bears out. -/
structure Yt (f l:Int) (t:List Int) (ys:List Yr):Prop where
  in_:∀ r∈ys,(f<=r.year/\r.year<=l/\0<=r.lo/\r.lo<=r.hi/\r.hi<=2000)/\r.lo<=t.getD (Int.toNat (r.year-f)) 0/\t.getD (Int.toNat (r.year-f)) 0<=r.hi
  up:ys.Pairwise fun a b=>a.year<b.year
/-- What is borne out is a book with a truth. -/
theorem Tr.of {ys:List Yr} {os:List Old10} {f l:Int} {t:List Int} (h0:0<=f) (h1:f<=l) (h2:l<=3000) (h3:l-f<1000) (hy:ys.length<=60) (ho:os.length<=8) (hl:(t.length:Int)=l-f+1) (ha:All2 t) (hY:Yt f l t ys) (hO:∀ o∈os,Nt f l t o):Tr ys os f l t:=by
  have oky:OkY f l ys:=⟨fun r hr=>(hY.in_ r hr).1,hY.up⟩
  refine ⟨⟨h0,h1,h2,h3,hy,ho,fun o h=>(hO o h).few,oky,⟨fun o h=>?_⟩,fun o h=>(hO o h).rin⟩,hl,ha,fun i hi=>?_⟩
  · have k:=hO o h
    exact ⟨k.a,k.b,k.c,k.s1,k.s2⟩
  · rw [← can_iff oky (ha i hi).1 (ha i hi).2]
    unfold Bk.can
    rw [Bool.and_eq_true,List.all_eq_true,List.all_eq_true]
    refine ⟨fun r hr=>?_,fun o hm=>?_⟩
    · have k:=(hY.in_ r hr).2
      by_cases e:r.year=f+i
      · rw [e,show Int.toNat (f+(i:Int)-f)=i by omega] at k
        rw [decide_eq_false (by omega),decide_eq_false (by omega)]
        simp
      · rw [beq_eq_false_iff_ne.2 e]
        rfl
    · have k:=hO o hm
      by_cases e:o.src<=f+i/\f+i<=o.dst
      · have m:=k.mem (f+i)
        rw [show Int.toNat (f+(i:Int)-f)=i by omega] at m
        rw [Bool.or_eq_true]
        right
        rw [beq_iff_eq,Bool.eq_iff_iff,List.contains_iff_mem,m,decide_eq_true_eq]
        exact ⟨fun h=>h.2,fun h=>⟨e,h⟩⟩
      · rw [Bool.or_eq_true]
        left
        rw [Bool.not_eq_true',Bool.and_eq_false_iff,decide_eq_false_iff_not,decide_eq_false_iff_not]
        omega
end Bk
end Go.Nm
namespace Go.Proofs.YtdmdhmineljlhaaGreat
open Go Go.Nm
variable {ys:List Yr} {os:List Old10} {f l:Int} {t:List Int} {b:List UInt8}
end Go.Proofs.YtdmdhmineljlhaaGreat
-- libO/BI.lean
namespace Go.Nm
namespace Bk
/-- What a truth has from one year on. -/
def vl (t:List Int) (f a:Int) (n:Nat):List Int:=(List.range n).map fun (i:Nat)=>t.getD (Int.toNat (a+(i:Int)-f)) 0
def ct (t:List Int) (f a:Int) (n:Nat) (st:Int):Nat:=(vl t f a n).countP fun x=>decide (st<=x)
theorem vl_succ (t:List Int) (f a:Int) (n:Nat):vl t f a (n+1)=vl t f a n++[t.getD (Int.toNat (a+(n:Int)-f)) 0]:=by
  unfold vl
  rw [List.range_succ,List.map_append]
  rfl
theorem vl_len (t:List Int) (f a:Int) (n:Nat):(vl t f a n).length=n:=by unfold vl; rw [List.length_map,List.length_range]
theorem ct_succ (t:List Int) (f a:Int) (n:Nat) (st:Int):ct t f a (n+1) st=ct t f a n st+(if st<=t.getD (Int.toNat (a+(n:Int)-f)) 0 then 1 else 0):=by
  unfold ct
  rw [vl_succ,List.countP_append]
  simp [List.countP_cons]
theorem ct_le (t:List Int) (f a:Int) (n:Nat) (st:Int):ct t f a n st<=n:=by
  have:=List.countP_le_length (p:=fun x=>decide (st<=x)) (l:=vl t f a n)
  rwa [vl_len] at this
theorem mapc {g h:Nat->Int} {n:Nat} (hgh:∀ i,i<n->g i<=h i) (st:Int):((List.range n).map g).countP (fun x=>decide (st<=x))<=((List.range n).map h).countP (fun x=>decide (st<=x)):=by
  rw [List.countP_map,List.countP_map]
  refine List.countP_mono_left fun i hi hx=>?_
  have h1:=hgh i (List.mem_range.1 hi)
  have h2:st<=g i:=of_decide_eq_true hx
  exact decide_eq_true (by omega)
theorem Top.le {A B:List Int} {t u v:Int} (hc:∀ x,A.countP (fun y=>decide (x<=y))<=B.countP (fun y=>decide (x<=y))) (hu:Top A t u) (hv:Top B t v):u<=v:=by
  obtain ⟨h1,h2,h3,h4⟩:=hu
  obtain ⟨k1,k2,k3,k4⟩:=hv
  refine Int.not_lt.1 fun e=>?_
  have:=cnt_mono (L:=B) (v:=v+1) (w:=u) (by omega)
  have:=hc u
  omega
theorem los (ys:List Yr) (os:List Old10) (a:Int) (n:Nat):(kl ys os a n).map Span.lo=(List.range n).map fun (i:Nat)=>(kn ys os (a+(i:Int))).lo:=by unfold kl; rw [List.map_map]; rfl
theorem his (ys:List Yr) (os:List Old10) (a:Int) (n:Nat):(kl ys os a n).map Span.hi=(List.range n).map fun (i:Nat)=>(kn ys os (a+(i:Int))).hi:=by unfold kl; rw [List.map_map]; rfl
theorem many_lo (ys:List Yr) (os:List Old10) (fr to st:Int):many (lop st) ys os fr to=(((kl ys os fr (Int.toNat (to+1-fr))).map Span.lo).countP (fun x=>decide (st<=x)):Nat):=by unfold many; rw [List.countP_map]; rfl
theorem many_hi (ys:List Yr) (os:List Old10) (fr to st:Int):many (hip st) ys os fr to=(((kl ys os fr (Int.toNat (to+1-fr))).map Span.hi).countP (fun x=>decide (st<=x)):Nat):=by unfold many; rw [List.countP_map]; rfl
theorem Tr.lo_ct {ys:List Yr} {os:List Old10} {f l:Int} {t:List Int} (h:Tr ys os f l t) {fr to:Int} (hI:In f l fr to) (st:Int):((kl ys os fr (Int.toNat (to+1-fr))).map Span.lo).countP (fun x=>decide (st<=x))<=(vl t f fr (Int.toNat (to+1-fr))).countP (fun x=>decide (st<=x)):=by
  obtain ⟨i1,i2,i3⟩:=hI
  rw [los]
  exact mapc (fun i hi=>(h.at_ (y:=fr+i) (by omega) (by omega)).1) st
theorem Tr.ct_hi {ys:List Yr} {os:List Old10} {f l:Int} {t:List Int} (h:Tr ys os f l t) {fr to:Int} (hI:In f l fr to) (st:Int):(vl t f fr (Int.toNat (to+1-fr))).countP (fun x=>decide (st<=x))<=((kl ys os fr (Int.toNat (to+1-fr))).map Span.hi).countP (fun x=>decide (st<=x)):=by
  obtain ⟨i1,i2,i3⟩:=hI
  rw [his]
  exact mapc (fun i hi=>(h.at_ (y:=fr+i) (by omega) (by omega)).2) st
/-- What is told of a book with a truth. -/
theorem Tr.wr {ys:List Yr} {os:List Old10} {f l:Int} {t:List Int} (h:Tr ys os f l t) {fr to n a b:Int} (hI:In f l fr to) (hn:a<=n/\n<=b):WrE ys os f l fr to n a b 0:=.inr (.inr (.inr (.inr ⟨chk_of h.ok,hI,hn,h.fine,rfl⟩)))
end Bk
end Go.Nm
namespace Go.Proofs.YtdmdhmineljlhaaGreat
open Go Go.Nm
variable {ys:List Yr} {os:List Old10} {f l:Int} {t:List Int}
theorem counted_ends (ys:List Yr) (os:List Old10) {fr to:Int} (st:Int) (h1:f<=fr) (h2:fr<=to+1) (h3:to<=l) (hf:0<=f) (hl:l<=3000) (hlen:(t.length:Int)=l-f+1):(zbP ys os f l t fr to st).Ends (Bk.ct t f fr (Int.toNat (to+1-fr)) st:Nat):=by
  refine M.Out.ends ?_
  unfold zbP
  refine M.o_bind (P:=fun n=>n=((Bk.ct t f fr (Int.toNat (to+1-fr)) st:Nat):Int)) ?_ (fun n e=>M.o_pure e)
  refine M.o_for (Int.toNat (to+1-fr)) (fun i (s:Nat × Int)=>s=(Bk.ct t f fr i st,fr+(i:Int))) ?_ ?_ (by simp [Bk.ct,Bk.vl])
  · rintro i ⟨n,y⟩ hi e
    obtain ⟨rfl,rfl⟩:=Prod.mk.inj e
    have d:=Bk.ct_succ t f fr i st
    have c:=Bk.ct_le t f fr i st
    have hs:fr+((i+1:Nat):Int)=fr+i+1:=by omega
    simp only [zbh]
    refine M.o_t (decide_eq_true (by omega)) (M.o_grd (gA2 (by omega) (by omega)) (M.o_grd (gA2 (by omega) (by omega)) (M.o_if (fun hb=>?_) (fun hb=>?_))))
    · rw [if_pos (of_decide_eq_true hb)] at d
      exact M.o_grd (gA2 (by omega) (by omega)) (M.o_grd (gA2 (by omega) (by omega)) (M.o_pure (by dsimp only; rw [d,hs])))
    · rw [if_neg (of_decide_eq_false hb)] at d
      exact M.o_grd (gA2 (by omega) (by omega)) (M.o_pure (by simp only [d,hs,Nat.add_zero]))
  · rintro ⟨n,y⟩ e
    obtain ⟨rfl,rfl⟩:=Prod.mk.inj e
    simp only [zbh]
    exact M.o_f (decide_eq_false (by omega)) (M.o_pure rfl)
theorem tr_passed (h:Bk.Tr ys os f l t) {fr to st:Int} (hI:Bk.In f l fr to) (hs:0<=st/\st<=2000):(zaj ys os f l fr to st).Ends (Bk.many (Bk.lop st) ys os fr to,Bk.many (Bk.hip st) ys os fr to,0):=by
  have h60:=h.ok.y60
  have h8:=h.ok.o8
  obtain ⟨r,g,e⟩:=of_passed (ys:=ys) (os:=os) (f:=f) (l:=l) (by omega) (by omega) fr to st
  have k:Bk.PaE ys os f l fr to st (Bk.many (Bk.lop st) ys os fr to,Bk.many (Bk.hip st) ys os fr to,0):=.inr ⟨rfl,h.wr hI hs,rfl,rfl⟩
  rw [← e.uniq k]
  exact g
theorem tr_holds (h:Bk.Tr ys os f l t):(zaD ys os f l t).Ends (true,0):=by
  have h60:=h.ok.y60
  have h8:=h.ok.o8
  have hl:=h.len
  have h1:=h.ok.ln
  obtain ⟨r,g,e⟩:=of_holds (ys:=ys) (os:=os) (f:=f) (l:=l) (by omega) (by omega) t (by omega)
  have k:Bk.HoE ys os f l t (true,0):=.inr (.inr (.inr (.inr ⟨Bk.chk_of h.ok,h.len,h.all,h.can,rfl⟩)))
  rw [← e.uniq k]
  exact g
end Go.Proofs.YtdmdhmineljlhaaGreat
namespace Go.Nm
namespace Ct
/-- A chart that is right, with a truth and the stops of its clock. -/
structure Rt (pl ph base sc off:Int) (ms:List CMk) (nt:List CNt) (ts ss st:List Int):Prop where
  n1:1<=ms.length
  n40:ms.length<=40
  tl:ts.length=ms.length
  sl:ss.length=ms.length
  p1:1<=pl
  p2:pl<=ph
  p3:ph<=600
  b:-1000000<=base/\base<=1000000
  s:0<=sc/\sc<=1000
  o:0<=off/\off<=1000
  m:∀ i,i<ms.length->(0<=(ms.getD i default).place/\(ms.getD i default).place<=10000)/\0<=(ms.getD i default).height/\(ms.getD i default).height<=1000
  up:∀ i,i+1<ms.length->(ms.getD i default).place<(ms.getD (i+1) default).place
  t:∀ i,i<ms.length->0<=ts.getD i 0/\ts.getD i 0<=1000000
  g:∀ i,i+1<ms.length->pl*((ms.getD (i+1) default).place-(ms.getD i default).place)<=ts.getD (i+1) 0-ts.getD i 0/\((i:Int)∈st∨ts.getD (i+1) 0-ts.getD i 0<=ph*((ms.getD (i+1) default).place-(ms.getD i default).place))
  h:∀ i,i<ms.length->base+sc*(ms.getD i default).height-off<=ss.getD i 0/\ss.getD i 0<=base+sc*(ms.getD i default).height+off
  n20:nt.length<=20
  nd:(nt.map CNt.mark).Nodup
  n:∀ x∈nt,∃ i:Nat,i<ms.length/\x.mark=i/\(0<=x.tlo/\x.tlo<=ts.getD i 0/\ts.getD i 0<=x.thi/\x.thi<=10000000)/\(-3000000<=x.slo/\x.slo<=ss.getD i 0/\ss.getD i 0<=x.shi/\x.shi<=3000000)
  sr:st.Pairwise (· < ·)
  si:∀ x∈st,0<=x/\x+2<=(ms.length:Int)
/-- Spans of time that hold the truth. -/
def TIn (ts:List Int) (l:List Span):Prop:=l.length=ts.length/\∀ i,i<ts.length->(-100000000<=(l.getD i default).lo/\(l.getD i default).lo<=ts.getD i 0)/\ts.getD i 0<=(l.getD i default).hi/\(l.getD i default).hi<=100000000
/-- Spans of stages that hold the truth. -/
def SIn (ss:List Int) (l:List Span):Prop:=l.length=ss.length/\∀ i,i<ss.length->(-3000000<=(l.getD i default).lo/\(l.getD i default).lo<=ss.getD i 0)/\ss.getD i 0<=(l.getD i default).hi/\(l.getD i default).hi<=3000000
/-- Minutes of the gaps that hold the truth. -/
def GIn (ts:List Int) (k:Nat) (l:List Span):Prop:=l.length=k/\∀ i,i<k->(0<=(l.getD i default).lo/\(l.getD i default).lo<=ts.getD (i+1) 0-ts.getD i 0)/\ts.getD (i+1) 0-ts.getD i 0<=(l.getD i default).hi/\(l.getD i default).hi<=200000000
/-- The notes by their marks. -/
def MpO (nt:List CNt) (mp:List (Int × CNt)):Prop:=∀ p∈mp,p.2∈nt/\p.1=p.2.mark
/-- The gaps in which the clock stops. -/
def StO (st:List Int) (sb:List Bool):Prop:=∀ x∈st,sb.getD (Int.toNat x) false=true
theorem setM_mem {m:List (Int × CNt)} {k:Int} {v:CNt}:∀ {p},p∈setM m k v->p=(k,v)∨p∈m:=by
  induction m with
  | nil=>intro p h; exact .inl (by simpa [setM] using h)
  | cons q m ih =>
    intro p h
    unfold setM at h
    split at h
    · rcases List.mem_cons.1 h with h | h
      · exact .inl h
      · exact .inr (List.mem_cons_of_mem _ h)
    · rcases List.mem_cons.1 h with h | h
      · exact .inr (by rw [h]; exact List.mem_cons_self)
      · rcases ih h with h | h
        · exact .inl h
        · exact .inr (List.mem_cons_of_mem _ h)
theorem lookM_mem {m:List (Int × CNt)} {k:Int} {v:CNt} (h:lookM m k=some v):(k,v)∈m:=by
  obtain ⟨q,hq⟩:=lookM_of h
  exact List.mem_of_getElem? hq
theorem memD {α:Type} (l:List α) {i:Nat} (h:i<l.length) (d:α):l.getD i d∈l:=by rw [List.getD_eq_getElem?_getD,List.getElem?_eq_getElem h,Option.getD_some]; exact List.getElem_mem h
theorem pairD {l:List Int} (h:l.Pairwise (· < ·)) {i j:Nat} (hij:i<j) (hj:j<l.length):l.getD i 0<l.getD j 0:=by
  rw [List.getD_eq_getElem?_getD,List.getD_eq_getElem?_getD,List.getElem?_eq_getElem hj,List.getElem?_eq_getElem (by omega)]
  exact List.pairwise_iff_getElem.1 h i j (by omega) hj hij
end Ct
end Go.Nm
namespace Go.Proofs.YtdmdhmineljlhaaGreat
open Go Go.Nm
theorem o_yes {α:Type} {c:Bool} {m:M Bool} {k:Bool->M α} {Q:α->Prop} (hc:c=true) (h:m.Ends true) (hk:(k true).Out Q):(M.bind (M.opt c m false) k).Out Q:=by subst hc; exact M.o_bindE h hk
theorem cin_true {n a b:Int} (h1:a<=n) (h2:n<=b):(zaf n a b).Ends true:=by
  have:(zaf n a b).Ends (decide (a<=n)&&decide (n<=b)):=M.i_pure
  rwa [gA2 h1 h2] at this
theorem within_true {s:Span} {a b:Int} (h1:a<=s.lo) (h2:s.lo<=s.hi) (h3:s.hi<=b):(zaM s a b).Ends true:=by
  refine M.Out.ends ?_
  unfold zaM
  exact M.o_bindE (cin_true h1 (by omega)) (o_yes rfl (cin_true h2 h3) (M.o_pure rfl))
theorem every_note (l:List CNt) (so:CNt->M Bool) (h:∀ t∈l,(so t).Ends true):(zb0 l so).Ends true:=by
  unfold zb0 zaG zbO
  refine M.i_bind (a:=false) (M.i_bind (a:=-1) (M.i_bind (a:=(.inr ():Int ⊕ Unit)) ?_ M.i_pure) M.i_pure) M.i_pure
  refine M.i_for (fun i=>i) l.length (fun i hi=>?_) ?_
  · simp only [zay]
    refine M.i_t (decide_eq_true (by omega)) (M.i_grd (decide_eq_true (by omega)) (M.i_bind (a:=false) ?_ (M.i_f rfl M.i_pure)))
    unfold zbm
    exact M.i_bind (h _ (Ct.memD l hi default)) M.i_pure
  · simp only [zay]
    exact M.i_f (decide_eq_false (by omega)) M.i_pure
theorem every_span (l:List Span) (so:Span->M Bool) (h:∀ t∈l,(so t).Ends true):(zax l so).Ends true:=by
  unfold zax zbS zbx
  refine M.i_bind (a:=false) (M.i_bind (a:=-1) (M.i_bind (a:=(.inr ():Int ⊕ Unit)) ?_ M.i_pure) M.i_pure) M.i_pure
  refine M.i_for (fun i=>i) l.length (fun i hi=>?_) ?_
  · simp only [zap]
    refine M.i_t (decide_eq_true (by omega)) (M.i_grd (decide_eq_true (by omega)) (M.i_bind (a:=false) ?_ (M.i_f rfl M.i_pure)))
    unfold zaW
    exact M.i_bind (h _ (Ct.memD l hi default)) M.i_pure
  · simp only [zap]
    exact M.i_f (decide_eq_false (by omega)) M.i_pure
theorem no_note (l:List CNt) (f:CNt->M Bool) (h:∀ t∈l,(f t).Ends false):(zaG l f).Ends false:=by
  unfold zaG zbO
  refine M.i_bind (a:=-1) (M.i_bind (a:=(.inr ():Int ⊕ Unit)) ?_ M.i_pure) M.i_pure
  refine M.i_for (fun i=>i) l.length (fun i hi=>?_) ?_
  · simp only [zay]
    exact M.i_t (decide_eq_true (by omega)) (M.i_grd (decide_eq_true (by omega)) (M.i_bind (h _ (Ct.memD l hi default)) (M.i_f rfl M.i_pure)))
  · simp only [zay]
    exact M.i_f (decide_eq_false (by omega)) M.i_pure
section
variable {pl ph base sc off:Int} {ms:List CMk} {nt:List CNt} {ts ss st:List Int}
theorem ccheck_ends (R:Ct.Rt pl ph base sc off ms nt ts ss st):(zbq pl ph base sc off ms nt).Ends 0:=by
  obtain ⟨n1,n40,tl,sl,p1,p2,p3,hb,hs,ho,hm,hup,ht,hg,hh,n20,nd,hn,sr,si⟩:=R
  refine M.Out.ends ?_
  unfold zbq
  refine M.o_bindE (cin_true (by omega) (by omega)) (M.o_f (by rw [decide_eq_false (by omega)]; rfl) ?_)
  refine M.o_bindE (within_true p1 p2 p3) (o_yes rfl (cin_true hb.1 hb.2) (o_yes rfl (cin_true hs.1 hs.2) (o_yes rfl (cin_true ho.1 ho.2) (M.o_f rfl ?_))))
  refine M.o_bind (P:=fun r=>r = .inr ()) (M.o_for ms.length (fun i (z:Int × Nat)=>z.2=i/\(i=0->z.1 = -1)/\(0<i->z.1=(ms.getD (i-1) default).place)) ?_ ?_ ⟨rfl,fun _=>rfl,fun h=>by omega⟩) ?_
  · rintro i ⟨last,_⟩ hi ⟨rfl,h0,h1⟩
    dsimp only at h0 h1 hi
    rename_i i
    have a1:=hm i hi
    simp only [za0]
    refine M.o_t (decide_eq_true (by omega)) (M.o_grd (decide_eq_true (by omega)) (M.o_bindE (cin_true a1.1.1 a1.1.2) (o_yes rfl (cin_true a1.2.1 a1.2.2) (M.o_f rfl (M.o_f (decide_eq_false ?_) (M.o_pure ⟨rfl,fun h=>by omega,fun _=>rfl⟩))))))
    by_cases e:i=0
    · have:=h0 e
      omega
    · have e1:=h1 (by omega)
      have e2:=hup (i-1) (by omega)
      rw [show i-1+1=i by omega] at e2
      omega
  · rintro ⟨last,_⟩ ⟨rfl,_⟩
    simp only [za0]
    exact M.o_f (decide_eq_false (by omega)) (M.o_pure rfl)
  rintro _ rfl
  refine M.o_bindE (every_note nt _ fun x hx=>?_) (M.o_f rfl ?_)
  · obtain ⟨i,hi,e,ht',hs'⟩:=hn x hx
    refine M.Out.ends ?_
    unfold zbv zcj
    refine M.o_bindE (a:=true) (M.Out.ends ?_) (M.o_pure rfl)
    exact M.o_grd (gA2 (by omega) (by omega)) (M.o_bindE (cin_true (by omega) (by omega)) (o_yes rfl (within_true (by dsimp only; omega) (by dsimp only; omega) (by dsimp only; omega)) (o_yes rfl (within_true (by dsimp only; omega) (by dsimp only; omega) (by dsimp only; omega)) (M.o_pure rfl))))
  refine M.o_bind (P:=fun r=>r = .inr ()) (M.o_for nt.length (fun i (z:Nat)=>z=i) ?_ ?_ rfl) ?_
  · rintro _ i hi rfl
    simp only [zaX]
    refine M.o_t (decide_eq_true (by omega)) (M.o_grd (decide_eq_true (by omega)) (M.o_bindE (no_note _ _ fun x hx=>?_) (M.o_f rfl (M.o_pure rfl))))
    have hne:(x.mark==(nt.getD i default).mark)=false:=by
      rw [beq_eq_false_iff_ne]
      intro e
      obtain ⟨j,hj,rfl⟩:=mem_getD hx default
      rw [List.length_take] at hj
      have e2:(nt.take i).getD j default=nt.getD j default:=by rw [List.getD_eq_getElem?_getD,List.getElem?_take,if_pos (by omega),← List.getD_eq_getElem?_getD]
      rw [e2] at e
      have a1:(nt.map CNt.mark)[j]?=some (nt.getD j default).mark:=by rw [List.getElem?_map,List.getElem?_eq_getElem (by omega),getD_el nt (by omega)]; rfl
      have a2:(nt.map CNt.mark)[i]?=some (nt.getD i default).mark:=by rw [List.getElem?_map,List.getElem?_eq_getElem hi,getD_el nt hi]; rfl
      have:=(List.getElem?_inj (by rw [List.length_map]; omega) nd).1 (a1.trans ((congrArg some e).trans a2.symm))
      omega
    unfold zbn
    rw [hne]
    exact M.i_pure
  · rintro _ rfl
    simp only [zaX]
    exact M.o_f (decide_eq_false (by omega)) (M.o_pure rfl)
  rintro _ rfl
  exact M.o_pure rfl
theorem copened_out (R:Ct.Rt pl ph base sc off ms nt ts ss st):(zbR pl ph base sc off ms nt).Out (fun r=>∃ mp,Ct.MpO nt mp/\r = .inr (pl,ph,base,sc,off,mp,List.replicate 40 false,0)):=by
  unfold zbR
  refine M.o_bindE (ccheck_ends R) (M.o_f rfl (M.o_bind (P:=fun mp=>Ct.MpO nt mp) (M.o_for nt.length (fun i (z:List (Int × CNt) × Nat)=>z.2=i/\Ct.MpO nt z.1) ?_ ?_ ⟨rfl,fun p hp=>by cases hp⟩) ?_))
  · rintro i ⟨mp,_⟩ hi ⟨rfl,h⟩
    rename_i i
    dsimp only at h hi
    simp only [za4]
    refine M.o_t (decide_eq_true (by omega)) (M.o_grd (decide_eq_true (by omega)) (M.o_pure ⟨rfl,fun p hp=>?_⟩))
    rcases Ct.setM_mem hp with rfl | hp
    · exact ⟨Ct.memD nt hi default,rfl⟩
    · exact h p hp
  · rintro ⟨mp,_⟩ ⟨rfl,h⟩
    simp only [za4]
    exact M.o_f (decide_eq_false (by omega)) (M.o_pure h)
  · intro mp h
    exact M.o_pure ⟨mp,h,rfl⟩
theorem stop_out (R:Ct.Rt pl ph base sc off ms nt ts ss st) (a b c d e:Int) (f:List CNt) (mp:List (Int × CNt)):(zbw a b c d e ms f mp (List.replicate 40 false) st).Out (fun r=>r.1=true/\Ct.StO st r.2):=by
  have si:=R.si
  have sr:=R.sr
  have n40:=R.n40
  unfold zbw
  refine M.o_bind (P:=fun r=>∃ l,r = .inr l/\Ct.StO st l) (M.o_for st.length (fun i (z:List Bool × Int × Nat)=>z.2.2=i/\z.1.length=40/\(i=0->z.2.1 = -1)/\(0<i->z.2.1=st.getD (i-1) 0)/\∀ j,j<i->z.1.getD (Int.toNat (st.getD j 0)) false=true) ?_ ?_ ⟨rfl,by simp,fun _=>rfl,fun h=>by omega,fun j hj=>by omega⟩) ?_
  · rintro i ⟨l,last,_⟩ hi ⟨rfl,hl,h0,h1,h2⟩
    rename_i i
    dsimp only at hi hl h0 h1 h2
    have a1:=si _ (Ct.memD st hi 0)
    have hlast:-1<=last/\last+1<=st.getD i 0:=by
      by_cases e:i=0
      · have:=h0 e
        omega
      · have e1:=h1 (by omega)
        have e2:=Ct.pairD sr (show i-1<i by omega) hi
        have e3:=si _ (Ct.memD st (show i-1<st.length by omega) 0)
        omega
    simp only [za1]
    refine M.o_t (decide_eq_true (by omega)) (M.o_grd (decide_eq_true (by omega)) (M.o_grd (gA2 (by omega) (by omega)) (M.o_bindE (cin_true (by omega) (by omega)) (M.o_f rfl (M.o_grd (gA2 (by omega) (by omega)) (M.o_pure ⟨rfl,by simp [hl],fun h=>by omega,fun _=>rfl,fun j hj=>?_⟩))))))
    dsimp only
    rw [gset _ _ _ _ _ (by omega)]
    split
    · rfl
    · rename_i hne
      refine h2 j ?_
      by_cases e:j=i
      · subst e
        exact absurd rfl hne
      · omega
  · rintro ⟨l,last,_⟩ ⟨rfl,hl,h0,h1,h2⟩
    simp only [za1]
    refine M.o_f (decide_eq_false (by omega)) (M.o_pure ⟨l,rfl,fun x hx=>?_⟩)
    obtain ⟨j,hj,rfl⟩:=mem_getD hx 0
    exact h2 j hj
  · rintro _ ⟨l,rfl,h⟩
    exact M.o_pure ⟨rfl,h⟩
theorem begun_out (R:Ct.Rt pl ph base sc off ms nt ts ss st):(zbG pl ph base sc off ms nt st).Out (fun r=>∃ mp sb,Ct.MpO nt mp/\Ct.StO st sb/\r=(pl,ph,base,sc,off,mp,sb,0)):=by
  unfold zbG
  refine M.o_bind (copened_out R) ?_
  rintro _ ⟨mp,hmp,rfl⟩
  refine M.o_t rfl (M.o_bind (stop_out R ..) ?_)
  rintro ⟨_,sb⟩ ⟨rfl,hs⟩
  exact M.o_f rfl (M.o_pure ⟨mp,sb,hmp,hs,rfl⟩)
theorem common_out (f:Span) (l:List Span) {x:Int} (hf:f.lo<=x/\x<=f.hi) (hl:∀ s∈l,s.lo<=x/\x<=s.hi):(zaq f l).Out (fun r=>(f.lo<=r.1/\r.1<=x)/\x<=r.2/\r.2<=f.hi):=by
  unfold zaq
  refine M.o_bind (M.o_for l.length (fun i (z:Int × Int × Nat)=>z.2.2=i/\(f.lo<=z.1/\z.1<=x)/\x<=z.2.1/\z.2.1<=f.hi) ?_ ?_ ⟨rfl,⟨Int.le_refl _,hf.1⟩,hf.2,Int.le_refl _⟩) (fun r h=>M.o_pure h)
  · rintro i ⟨a,b,_⟩ hi ⟨rfl,h⟩
    rename_i i
    dsimp only at hi h
    have:=hl _ (Ct.memD l hi default)
    simp only [zaw]
    exact M.o_t (decide_eq_true (by omega)) (M.o_grd (decide_eq_true (by omega)) (M.o_pure ⟨rfl,⟨by dsimp only; omega,by dsimp only; omega⟩,by dsimp only; omega,by dsimp only; omega⟩))
  · rintro ⟨a,b,_⟩ ⟨rfl,h⟩
    simp only [zaw]
    exact M.o_f (decide_eq_false (by omega)) (M.o_pure h)
theorem stages_out (R:Ct.Rt pl ph base sc off ms nt ts ss st) {mp:List (Int × CNt)} (hmp:Ct.MpO nt mp) {i:Nat} (hi:i<ms.length) :
    (zbA pl ph base sc off ms nt mp (i:Int)).Out (fun r=>(-3000000<=r.1/\r.1<=ss.getD i 0)/\ss.getD i 0<=r.2/\r.2<=3000000):=by
  have hb:=R.b
  have hs:=R.s
  have ho:=R.o
  have hm:=R.m i hi
  have hh:=R.h i hi
  have q0:0<=sc*(ms.getD i default).height:=Int.mul_nonneg hs.1 hm.2.1
  have q1:sc*(ms.getD i default).height<=1000*1000:=Int.mul_le_mul hs.2 hm.2.2 hm.2.1 (by omega)
  unfold zbA
  rw [Int.toNat_natCast]
  refine M.o_grd (gA2 (by omega) (by omega)) (M.o_grd (gA2 (by omega) (by omega)) (M.o_grd (gA2 (by omega) (by omega)) (M.o_grd (gA2 (by omega) (by omega)) (M.o_grd (gA2 (by omega) (by omega)) (?_)))))
  refine M.o_if (fun h=>?_) (fun _=>M.o_pure ⟨⟨by dsimp only; omega,by dsimp only; omega⟩,by dsimp only; omega,by dsimp only; omega⟩)
  obtain ⟨v,hv⟩:=Option.isSome_iff_exists.1 h
  rw [hv]
  obtain ⟨h1,h2⟩:=hmp _ (Ct.lookM_mem hv)
  obtain ⟨j,hj,e,_,hst⟩:=R.n _ h1
  obtain rfl:i=j:=by
    have e:v.mark=(j:Int):=e
    have h2:(i:Int)=v.mark:=h2
    omega
  refine M.o_bind (common_out (x:=ss.getD i 0) _ _ ⟨by dsimp only; omega,by dsimp only; omega⟩ fun s hs=>?_) (fun r hr=>M.o_pure ⟨⟨by have:=hr.1.1; dsimp only at this ⊢; omega,hr.1.2⟩,hr.2.1,by have:=hr.2.2; dsimp only at this ⊢; omega⟩)
  rw [List.mem_singleton] at hs
  subst hs
  exact ⟨hst.2.1,hst.2.2.1⟩
theorem all_out (R:Ct.Rt pl ph base sc off ms nt ts ss st) {mp:List (Int × CNt)} (hmp:Ct.MpO nt mp):(zbf pl ph base sc off ms nt mp).Out (fun r=>Ct.SIn ss r.1/\r.2=true):=by
  have n40:=R.n40
  have sl:=R.sl
  unfold zbf
  refine M.o_bind (P:=fun r=>r.1=r.2/\Ct.SIn ss r.2) (M.o_for ms.length (fun i (z:Nat × List Span)=>z.1=i/\z.2.length=i/\∀ j,j<i->(-3000000<=(z.2.getD j default).lo/\(z.2.getD j default).lo<=ss.getD j 0)/\ss.getD j 0<=(z.2.getD j default).hi/\(z.2.getD j default).hi<=3000000) ?_ ?_ ⟨rfl,rfl,fun j hj=>by omega⟩) ?_
  · rintro i ⟨_,l⟩ hi ⟨rfl,hl,h⟩
    rename_i i
    dsimp only at hi hl h
    simp only [zaY]
    refine M.o_t (decide_eq_true (by omega)) (M.o_bind (stages_out R hmp hi) ?_)
    rintro ⟨a,b⟩ hab
    dsimp only at hab
    refine M.o_grd (decide_eq_true (by simp; omega)) (M.o_pure ⟨rfl,by simp [hl],fun j hj=>?_⟩)
    dsimp only
    rw [List.getD_eq_getElem?_getD,List.getElem?_append]
    split
    · rename_i hjl
      rw [← List.getD_eq_getElem?_getD]
      exact h j (by omega)
    · obtain rfl:j=i:=by omega
      rw [show j-l.length=0 by omega]
      exact hab
  · rintro ⟨_,l⟩ ⟨rfl,hl,h⟩
    dsimp only at hl h
    simp only [zaY]
    exact M.o_f (decide_eq_false (by omega)) (M.o_pure ⟨rfl,by dsimp only; omega,fun i hi=>h i (by omega)⟩)
  · rintro ⟨l',l⟩ ⟨e,h⟩
    dsimp only at e h
    subst e
    refine M.o_bindE (every_span _ _ fun s hs=>?_) (M.o_pure ⟨h,rfl⟩)
    obtain ⟨i,hi,rfl⟩:=mem_getD hs default
    have:=h.2 i (by rw [← h.1]; exact hi)
    unfold zbN
    rw [decide_eq_true (by omega)]
    exact M.i_pure
theorem noted_out (R:Ct.Rt pl ph base sc off ms nt ts ss st) {mp:List (Int × CNt)} (hmp:Ct.MpO nt mp):(zbM pl ph base sc off ms nt mp).Out (fun l=>Ct.TIn ts l):=by
  have n40:=R.n40
  have n1:=R.n1
  have tl:=R.tl
  unfold zbM
  refine M.o_grd (gA2 (by omega) (by omega)) (M.o_grd (List.all_eq_true.2 fun p hp=>?_) (M.o_pure ⟨by unfold notedE; simp; omega,fun i hi=>?_⟩))
  · obtain ⟨h1,h2⟩:=hmp p hp
    obtain ⟨j,hj,e,_⟩:=R.n _ h1
    exact gA2 (by omega) (by omega)
  · have ht:=R.t i (by omega)
    have e:(notedE ms.length mp).getD i default=match lookM mp (i:Int) with
      | some n=>n.time
      | none=>⟨-100000000,100000000⟩:=by
      unfold notedE
      rw [List.getD_eq_getElem?_getD,List.getElem?_map,List.getElem?_range (by omega)]
      rfl
    rw [e]
    cases hv:lookM mp (i:Int) with
    | none=>exact ⟨⟨by dsimp only; omega,by dsimp only; omega⟩,by dsimp only; omega,by dsimp only; omega⟩
    | some v =>
      obtain ⟨h1,h2⟩:=hmp _ (Ct.lookM_mem hv)
      obtain ⟨j,hj,e,hst,_⟩:=R.n _ h1
      obtain rfl:i=j:=by
        have e:v.mark=(j:Int):=e
        have h2:(i:Int)=v.mark:=h2
        omega
      dsimp only at hst
      unfold CNt.time
      exact ⟨⟨by dsimp only; omega,by dsimp only; omega⟩,by dsimp only; omega,by dsimp only; omega⟩
theorem gaps_out (R:Ct.Rt pl ph base sc off ms nt ts ss st) (c d e:Int) (f:List CNt) (mp:List (Int × CNt)) {sb:List Bool} (hs:Ct.StO st sb) :
    (zbz (M.yl zam) (.inl []) pl ph c d e ms f mp sb).Out (fun y=>∃ l,y = .inl l/\Ct.GIn ts (ms.length-1) l):=by
  have n40:=R.n40
  have n1:=R.n1
  have p1:=R.p1
  have p2:=R.p2
  have p3:=R.p3
  unfold zbz
  refine M.o_bind (P:=fun y=>∃ l,y = .inr (.inl l)/\Ct.GIn ts (ms.length-1) l) (M.o_for (ms.length-1) (fun i (z:Nat × (List Span ⊕ Unit))=>z.1=i/\∃ l,z.2 = .inl l/\Ct.GIn ts i l) ?_ ?_ ⟨rfl,[],rfl,rfl,fun i hi=>by omega⟩) ?_
  · rintro i ⟨_,_⟩ hi ⟨rfl,l,rfl,hl,h⟩
    rename_i i
    dsimp only at hi hl h
    have m1:=R.m i (by omega)
    have m2:=R.m (i+1) (by omega)
    have hu:=R.up i (by omega)
    have hg:=R.g i (by omega)
    have t1:=R.t i (by omega)
    have t2:=R.t (i+1) (by omega)
    have q0:0<=pl*((ms.getD (i+1) default).place-(ms.getD i default).place):=Int.mul_nonneg (by omega) (by omega)
    have q1:pl*((ms.getD (i+1) default).place-(ms.getD i default).place)<=600*10000:=Int.mul_le_mul (by omega) (by omega) (by omega) (by omega)
    have q2:0<=ph*((ms.getD (i+1) default).place-(ms.getD i default).place):=Int.mul_nonneg (by omega) (by omega)
    have q3:ph*((ms.getD (i+1) default).place-(ms.getD i default).place)<=600*10000:=Int.mul_le_mul (by omega) (by omega) (by omega) (by omega)
    have step:∀ s:Span,s.lo=pl*((ms.getD (i+1) default).place-(ms.getD i default).place)->ts.getD (i+1) 0-ts.getD i 0<=s.hi->s.hi<=200000000->Ct.GIn ts (i+1) (l++[s]):=by
      intro s h1 h2 h3
      refine ⟨by simp [hl],fun j hj=>?_⟩
      rw [List.getD_eq_getElem?_getD,List.getElem?_append]
      split
      · rename_i hjl
        rw [← List.getD_eq_getElem?_getD]
        exact h j (by omega)
      · obtain rfl:j=i:=by omega
        rw [show j-l.length=0 by omega]
        exact ⟨⟨by rw [show ([s]:List Span)[0]?=some s from rfl,Option.getD_some]; omega,by rw [show ([s]:List Span)[0]?=some s from rfl,Option.getD_some]; omega⟩,h2,h3⟩
    have ye:∀ s:Span,(M.yl zam (.inl l) ((i:Int),s)).Ends (true,.inl (l++[s])):=fun s=>M.i_bind (a:=(.inl (l++[s]):List Span ⊕ Unit)) (M.i_grd (decide_eq_true (by simp; omega)) M.i_pure) M.i_pure
    simp only [zba]
    rw [show Int.toNat ((i:Int)+1)=i+1 by omega]
    refine M.o_t (decide_eq_true (by omega)) (M.o_grd (gA2 (by omega) (by omega)) (M.o_grd (gA2 (by omega) (by omega)) (M.o_grd (decide_eq_true (by omega)) (M.o_grd (gA2 (by omega) (by omega)) (M.o_grd (gA2 (by omega) (by omega)) (M.o_grd (gA2 (by omega) (by omega)) (M.o_grd (gA2 (by omega) (by omega)) (?_))))))))
    refine M.o_if (fun hb=>?_) (fun hb=>?_)
    · exact M.o_bindE (ye _) (M.o_f rfl (M.o_pure ⟨rfl,_,rfl,step _ rfl (by dsimp only; omega) (by dsimp only; omega)⟩))
    · refine M.o_bindE (ye _) (M.o_f rfl (M.o_pure ⟨rfl,_,rfl,step _ rfl ?_ (by dsimp only; omega)⟩))
      rcases hg.2 with h1 | h1
      · have:=hs _ h1
        rw [Int.toNat_natCast,hb] at this
        cases this
      · exact h1
  · rintro ⟨_,_⟩ ⟨rfl,l,rfl,h⟩
    simp only [zba]
    exact M.o_f (decide_eq_false (by omega)) (M.o_pure ⟨l,rfl,h⟩)
  · rintro _ ⟨l,rfl,h⟩
    exact M.o_pure ⟨l,rfl,h⟩
theorem narrow_out {l:List Span} (h:Ct.TIn ts l) (h40:ts.length<=40) {i:Nat} (hi:i<ts.length) {m:Int} (hm:m=(i:Int)) {s:Span} (hs:s.lo<=ts.getD i 0/\ts.getD i 0<=s.hi):(zat m s l).Out (fun r=>Ct.TIn ts r):=by
  subst hm
  obtain ⟨hl,h⟩:=h
  have hh:=h i hi
  unfold zat
  rw [Int.toNat_natCast]
  refine M.o_grd (gA2 (by omega) (by omega)) (M.o_bind (common_out (x:=ts.getD i 0) _ _ ⟨hh.1.2,hh.2.1⟩ fun q hq=>?_) ?_)
  · rw [List.mem_singleton] at hq
    subst hq
    exact hs
  · rintro ⟨a,b⟩ hr
    dsimp only at hr
    refine M.o_pure ⟨by simp [hl],fun j hj=>?_⟩
    rw [gset _ _ _ _ _ (by omega)]
    split
    · rename_i e
      subst e
      exact ⟨⟨by dsimp only; omega,by dsimp only; omega⟩,by dsimp only; omega,by dsimp only; omega⟩
    · exact h j hj
theorem narrowed_out (R:Ct.Rt pl ph base sc off ms nt ts ss st) {mp:List (Int × CNt)} {sb:List Bool} (hs:Ct.StO st sb) {times:List Span} (hT:Ct.TIn ts times) :
    (zak pl ph base sc off ms nt mp sb times).Out (fun r=>Ct.TIn ts r.1/\r.2=true):=by
  have n40:=R.n40
  have n1:=R.n1
  have tl:=R.tl
  have hTl:=hT.1
  unfold zak
  refine M.o_bindE (a:=times) (M.i_grd (decide_eq_true (by omega)) (M.i_grd (decide_eq_true (by simp; omega)) M.i_pure)) (M.o_bindE (a:=()) M.i_pure (M.o_bind (gaps_out R _ _ _ _ _ hs) ?_))
  rintro _ ⟨l,rfl,hl,hG⟩
  dsimp only
  refine M.o_bind (P:=fun r=>Ct.TIn ts r.2) (M.o_for (ms.length-1) (fun i (z:List Span × Nat)=>z.2=i/\Ct.TIn ts z.1) ?_ ?_ ⟨rfl,hT⟩) ?_
  · rintro i ⟨l2,_⟩ hi ⟨rfl,h⟩
    rename_i i
    dsimp only at hi h
    have hll:=h.1
    have h1:=h.2 i (by omega)
    have h2:=hG i (by omega)
    have t1:=R.t i (by omega)
    have t2:=R.t (i+1) (by omega)
    simp only [zas]
    refine M.o_t (decide_eq_true (by omega)) (M.o_grd (decide_eq_true (by omega)) (M.o_grd (decide_eq_true (by omega)) (M.o_grd (gA2 (by omega) (by omega)) (M.o_grd (gA2 (by omega) (by omega)) (M.o_bind (narrow_out h (by omega) (i:=i+1) (by omega) (by omega) ⟨by dsimp only; omega,by dsimp only; omega⟩) (fun r hr=>M.o_pure ⟨rfl,hr⟩))))))
  · rintro ⟨l2,_⟩ ⟨rfl,h⟩
    simp only [zas]
    exact M.o_f (decide_eq_false (by omega)) (M.o_pure h)
  rintro ⟨_,l4⟩ h4
  dsimp only at h4 ⊢
  refine M.o_bind (P:=fun r=>Ct.TIn ts r.2) (M.o_for (ms.length-1) (fun i (z:List Span × Int)=>z.2=(ms.length:Int)-2-i/\Ct.TIn ts z.1) ?_ ?_ ⟨by dsimp only; omega,h4⟩) ?_
  · rintro i ⟨l2,g⟩ hi ⟨e,h⟩
    dsimp only at e h
    have hll:=h.1
    obtain ⟨k,rfl⟩:∃ k:Nat,g=(k:Int):=⟨Int.toNat g,by omega⟩
    have h1:=h.2 (k+1) (by omega)
    have h2:=hG k (by omega)
    have t1:=R.t k (by omega)
    have t2:=R.t (k+1) (by omega)
    simp only [zav]
    rw [show Int.toNat ((k:Int)+1)=k+1 by omega,Int.toNat_natCast]
    refine M.o_t (decide_eq_true (by omega)) (M.o_grd (gA2 (by omega) (by omega)) (M.o_grd (gA2 (by omega) (by omega)) (M.o_grd (gA2 (by omega) (by omega)) (M.o_grd (gA2 (by omega) (by omega)) (M.o_grd (gA2 (by omega) (by omega)) (M.o_bind (narrow_out h (by omega) (i:=k) (by omega) rfl ⟨by dsimp only; omega,by dsimp only; omega⟩) (fun r hr=>M.o_grd (gA2 (by omega) (by omega)) (M.o_pure ⟨by dsimp only; omega,hr⟩))))))))
  · rintro ⟨l2,g⟩ ⟨e,h⟩
    dsimp only at e
    simp only [zav]
    exact M.o_f (decide_eq_false (by omega)) (M.o_pure h)
  rintro ⟨_,l7⟩ h7
  dsimp only at h7 ⊢
  refine M.o_bindE (every_span _ _ fun s hs=>?_) (M.o_pure ⟨h7,rfl⟩)
  obtain ⟨i,hi,rfl⟩:=mem_getD hs default
  have:=h7.2 i (by rw [← h7.1]; exact hi)
  unfold zbL
  rw [decide_eq_true (by omega)]
  exact M.i_pure
theorem times_out (R:Ct.Rt pl ph base sc off ms nt ts ss st) {mp:List (Int × CNt)} (hmp:Ct.MpO nt mp) {sb:List Bool} (hs:Ct.StO st sb):(zbW pl ph base sc off ms nt mp sb).Out (fun r=>Ct.TIn ts r.1/\r.2=true):=by
  unfold zbW
  refine M.o_bind (all_out R hmp) ?_
  rintro ⟨l,_⟩ ⟨_,rfl⟩
  refine M.o_f rfl (M.o_bind (noted_out R hmp) fun l2 h2=>M.o_bind (narrowed_out R hs h2) ?_)
  rintro ⟨l3,_⟩ ⟨h3,rfl⟩
  exact M.o_pure ⟨h3,rfl⟩
theorem read_out (R:Ct.Rt pl ph base sc off ms nt ts ss st):(zbD pl ph base sc off ms nt st).Out (fun r=>∃ mp sb l1 l2,Ct.MpO nt mp/\Ct.StO st sb/\Ct.TIn ts l1/\Ct.SIn ss l2/\r = .inr (pl,ph,base,sc,off,mp,sb,l1,l2,0)):=by
  unfold zbD
  refine M.o_bind (begun_out R) ?_
  rintro _ ⟨mp,sb,hmp,hs,rfl⟩
  refine M.o_f rfl (M.o_bind (times_out R hmp hs) ?_)
  rintro ⟨l1,_⟩ ⟨h1,rfl⟩
  refine M.o_f rfl (M.o_bind (all_out R hmp) ?_)
  rintro ⟨l2,_⟩ ⟨h2,rfl⟩
  exact M.o_pure ⟨mp,sb,l1,l2,hmp,hs,h1,h2,rfl⟩
end
end Go.Proofs.YtdmdhmineljlhaaGreat
namespace Go.Nm
namespace Ct
theorem short:∀ {l:List Int} {n:Nat},l.Pairwise (· < ·)->(∀ x∈l,0<=x/\x<(n:Int))->l.length<=n:=by
  intro l n hp hb
  exact nodup_bound n l (hp.imp fun h=>by omega) hb
/-- Marks that are made, one by one. -/
structure Mk (pl ph base sc off:Int) (k:Nat) (place time:Int) (l:List CMk) (l2 l3 l4:List Int):Prop where
  e1:l.length=k
  e2:l2.length=k
  e3:l3.length=k
  p:0<=place/\place<=30*(k:Int)
  ti:0<=time/\time<=300+1000*(k:Int)
  la:0<k->(l.getD (k-1) default).place=place/\l2.getD (k-1) 0=time
  m:∀ i,i<k->(0<=(l.getD i default).place/\(l.getD i default).place<=30*(k:Int))/\0<=(l.getD i default).height/\(l.getD i default).height<60
  up:∀ i,i+1<k->(l.getD i default).place<(l.getD (i+1) default).place
  t:∀ i,i<k->0<=l2.getD i 0/\l2.getD i 0<=300+1000*(k:Int)
  g:∀ i,i+1<k->pl*((l.getD (i+1) default).place-(l.getD i default).place)<=l2.getD (i+1) 0-l2.getD i 0/\((i:Int)∈l4∨l2.getD (i+1) 0-l2.getD i 0<=ph*((l.getD (i+1) default).place-(l.getD i default).place))
  h:∀ i,i<k->base+sc*(l.getD i default).height-off<=l3.getD i 0/\l3.getD i 0<=base+sc*(l.getD i default).height+off
  sr:l4.Pairwise (· < ·)
  si:∀ x∈l4,0<=x/\x+2<=(k:Int)
theorem apL {α:Type} {l:List α} {x d:α} {j:Nat} (h:j<l.length):(l++[x]).getD j d=l.getD j d:=by
  rw [List.getD_eq_getElem?_getD,List.getElem?_append_left h,← List.getD_eq_getElem?_getD]
theorem apE {α:Type} {l:List α} {x d:α} {j:Nat} (h:l.length=j):(l++[x]).getD j d=x:=by
  subst h
  rw [List.getD_eq_getElem?_getD,List.getElem?_append_right (Nat.le_refl _),Nat.sub_self]
  rfl
theorem Mk.zero {pl ph base sc off time:Int} (h:0<=time/\time<300):Mk pl ph base sc off 0 0 time [] [] [] [] :=
  ⟨rfl,rfl,rfl,by omega,by omega,fun h=>by omega,fun i hi=>by omega,fun i hi=>by omega,fun i hi=>by omega,fun i hi=>by omega,fun i hi=>by omega,List.Pairwise.nil,fun x hx=>by cases hx⟩
theorem Mk.step {pl ph base sc off:Int} {k:Nat} {place time:Int} {l:List CMk} {l2 l3 l4:List Int} (M:Mk pl ph base sc off k place time l l2 l3 l4) {p' t' hh s:Int} {l4':List Int}
    (hp:0<=p'/\p'<=30*((k:Int)+1)) (ht:0<=t'/\t'<=300+1000*((k:Int)+1)) (hg:0<k->place<p'/\pl*(p'-place)<=t'-time/\((k:Int)-1∈l4'∨t'-time<=ph*(p'-place)))
    (hq:0<=hh/\hh<60) (hs:base+sc*hh-off<=s/\s<=base+sc*hh+off) (h4:l4'=l4∨(0<k/\l4'=l4++[(k:Int)-1])) :
    Mk pl ph base sc off (k+1) p' t' (l++[⟨p',hh⟩]) (l2++[t']) (l3++[s]) l4':=by
  obtain ⟨e1,e2,e3,p,ti,la,m,up,tt,g,h,sr,si⟩:=M
  have sub:∀ x∈l4,x∈l4':=by
    rcases h4 with rfl | ⟨_,rfl⟩
    · exact fun x hx=>hx
    · exact fun x hx=>List.mem_append_left _ hx
  refine ⟨by simp [e1],by simp [e2],by simp [e3],by push_cast; omega,by push_cast; omega,fun _=>⟨?_,?_⟩,fun i hi=>?_,fun i hi=>?_,fun i hi=>?_,fun i hi=>?_,fun i hi=>?_,?_,?_⟩
  · rw [Nat.add_sub_cancel,apE e1]
  · rw [Nat.add_sub_cancel,apE e2]
  · by_cases c:i<k
    · have:=m i c
      rw [apL (by omega)]
      omega
    · rw [apE (by omega)]
      dsimp only
      omega
  · by_cases c:i+1<k
    · rw [apL (by omega),apL (by omega)]
      exact up i c
    · have:=(la (by omega)).1
      rw [show k-1=i by omega] at this
      rw [apL (by omega),apE (by omega),this]
      exact (hg (by omega)).1
  · by_cases c:i<k
    · have:=tt i c
      rw [apL (by omega)]
      omega
    · rw [apE (by omega)]
      omega
  · by_cases c:i+1<k
    · rw [apL (by omega),apL (by omega),apL (by omega),apL (by omega)]
      obtain ⟨g1,g2⟩:=g i c
      exact ⟨g1,g2.imp (fun x=>sub _ x) id⟩
    · have a1:=la (by omega)
      have a2:=hg (by omega)
      rw [show k-1=i by omega] at a1
      rw [apE (l:=l) (by omega),apL (l:=l) (by omega),apE (l:=l2) (by omega),apL (l:=l2) (by omega),a1.1,a1.2]
      refine ⟨a2.2.1,?_⟩
      rw [show (i:Int)=(k:Int)-1 by omega]
      exact a2.2.2
  · by_cases c:i<k
    · rw [apL (by omega),apL (by omega)]
      exact h i c
    · rw [apE (by omega),apE (by omega)]
      exact hs
  · rcases h4 with rfl | ⟨_,rfl⟩
    · exact sr
    · rw [List.pairwise_append]
      refine ⟨sr,List.pairwise_singleton _ _,fun a ha b hb=>?_⟩
      rw [List.mem_singleton] at hb
      have:=si a ha
      omega
  · intro x hx
    rcases h4 with rfl | ⟨h0,rfl⟩
    · have:=si x hx
      omega
    · rcases List.mem_append.1 hx with hx | hx
      · have:=si x hx
        omega
      · rw [List.mem_singleton] at hx
        omega
/-- Notes that hold the truth. -/
def NO (n:Nat) (ts ss:List Int) (nt:List CNt):Prop:=∀ x∈nt,∃ i:Nat,i<n/\x.mark=i/\(0<=x.tlo/\x.tlo<=ts.getD i 0/\ts.getD i 0<=x.thi/\x.thi<=10000000)/\(-3000000<=x.slo/\x.slo<=ss.getD i 0/\ss.getD i 0<=x.shi/\x.shi<=3000000)
theorem swap_perm (l:List CNt) {i j:Nat} (hi:i<l.length) (hj:j<l.length):((l.set i (l.getD j default)).set j (l.getD i default)).Perm l:=by
  rw [getD_el l hi,getD_el l hj]
  exact List.set_set_perm hi hj
end Ct
end Go.Nm
namespace Go.Proofs.YtdmdhmineljlhaaGreat
open Go Go.Nm
section
variable {b:List UInt8}
theorem made02_b0 {pl r6 base sc off:Int} {stop:Bool} (h1:1<=pl/\pl<=12) (h6:0<=r6/\r6<6) (hb:-50<=base/\base<=400) (hs:0<=sc/\sc<12) (ho:0<=off/\off<9) {time:Int} (ht:0<=time/\time<300) {n:Int} (hn:1<=n/\n<=14) {c u x:Int} (hS:SOk c u x) (hc:c<=1000) :
    (M.iter (zaJ b stop pl base sc off r6) (u,x,0,time,n,[],[],[],[])).Out (fun y=>SOk (c+200) y.1 y.2.1/\∃ p t l l2 l3 l4,y.2.2=(l,l2,l3,l4,l4,l3,l2,l)/\Ct.Mk pl (pl+r6) base sc off (Int.toNat n) p t l l2 l3 l4):=by
  refine M.o_for (Int.toNat n) (fun i (z:Int × Int × Int × Int × Int × List CMk × List Int × List Int × List Int)=>z.2.2.2.2.1=n-(i:Int)/\SOk (c+8*(i:Int)) z.1 z.2.1/\Ct.Mk pl (pl+r6) base sc off i z.2.2.1 z.2.2.2.1 z.2.2.2.2.2.1 z.2.2.2.2.2.2.1 z.2.2.2.2.2.2.2.1 z.2.2.2.2.2.2.2.2) ?_ ?_ ⟨by dsimp only; omega,hS.mono (by omega),Ct.Mk.zero ht⟩
  · rintro i ⟨u,x,place,time,m,l,l2,l3,l4⟩ hi ⟨e,hS,hM⟩
    dsimp only at e hS hM
    have e1:=hM.e1
    have e2:=hM.e2
    have e3:=hM.e3
    have hp:=hM.p
    have hti:=hM.ti
    have e4:l4.length<=14:=by
      have:=Ct.short hM.sr (n:=14) (fun x hx=>by have:=hM.si x hx; omega)
      omega
    simp only [zaJ]
    refine M.o_t (decide_eq_true (by omega)) (M.o_if (fun hk=>?_) (fun hk=>?_))
    · have hk:=of_decide_eq_true hk
      refine M.o_bind (within_out hS (by omega) (by omega) (by omega) (by omega)) ?_
      rintro ⟨far,u9,x9⟩ ⟨k9,f1,f2⟩
      dsimp only at k9 f1 f2 ⊢
      have q0:pl*1<=pl*far:=Int.mul_le_mul_of_nonneg_left f1 (by omega)
      have q1:pl*far<=12*30:=Int.mul_le_mul (by omega) (by omega) (by omega) (by omega)
      have q2:pl*far<=(pl+r6)*far:=Int.mul_le_mul_of_nonneg_right (by omega) (by omega)
      have q3:(pl+r6)*far<=17*30:=Int.mul_le_mul (by omega) (by omega) (by omega) (by omega)
      refine M.o_grd (gA2 (by omega) (by omega)) (M.o_grd (gA2 (by omega) (by omega)) (M.o_grd (gA2 (by omega) (by omega)) (M.o_bind (within_out k9 (by omega) (by omega) (by omega) (by omega)) ?_)))
      rintro ⟨r10,ut,xt⟩ ⟨kt,f3,f4⟩
      dsimp only at kt f3 f4 ⊢
      have ee:place+far-place=far:=by omega
      refine M.o_grd (gA2 (by omega) (by omega)) (M.o_if (fun hst=>?_) (fun hst=>?_))
      · refine M.o_bind (next_out kt (by omega) (by omega)) ?_
        rintro ⟨r11,uu,xu⟩ ⟨ku,gu,_⟩
        have gu:=gu (by omega)
        dsimp only at ku gu ⊢
        refine M.o_if (fun hz=>?_) (fun hz=>?_)
        · refine M.o_grd (gA2 (by omega) (by omega)) (M.o_grd (decide_eq_true (by simp; omega)) (M.o_bind (next_out ku (by omega) (by omega)) ?_))
          rintro ⟨r12,uv,xv⟩ ⟨kv,gv,_⟩
          have gv:=gv (by omega)
          dsimp only at kv gv ⊢
          refine M.o_grd (gA2 (by omega) (by omega)) ?_
          refine M.o_bind (next_out kv (by omega) (by omega)) ?_
          rintro ⟨r13,ua,xa⟩ ⟨ka,ga,_⟩
          have ga:=ga (by omega)
          dsimp only at ka ga ⊢
          have q0:0<=sc*r13:=Int.mul_nonneg hs.1 ga.1
          have q1:sc*r13<=12*60:=Int.mul_le_mul (by omega) (by omega) (by omega) (by omega)
          refine M.o_grd (gA2 (by omega) (by omega)) (M.o_grd (gA2 (by omega) (by omega)) (M.o_grd (gA2 (by omega) (by omega)) (M.o_grd (gA2 (by omega) (by omega)) (M.o_grd (decide_eq_true (by simp; omega)) (M.o_grd (decide_eq_true (by simp; omega)) (M.o_bind (within_out ka (by omega) (by omega) (by omega) (by omega)) ?_))))))
          rintro ⟨r14,ub,xb⟩ ⟨kb,g1,g2⟩
          dsimp only at kb g1 g2 ⊢
          refine M.o_grd (decide_eq_true (by simp; omega)) (M.o_grd (gA2 (by omega) (by omega)) (M.o_pure ⟨by dsimp only; omega,kb.mono (by omega),?_⟩))
          dsimp only
          exact hM.step (by omega) (by omega) (fun _=>⟨by omega,by rw [ee]; omega,.inl (by rw [e1]; simp)⟩) ga ⟨g1,g2⟩ (.inr ⟨by omega,by rw [e1]⟩)
        · refine M.o_bind (next_out ku (by omega) (by omega)) ?_
          rintro ⟨r13,ua,xa⟩ ⟨ka,ga,_⟩
          have ga:=ga (by omega)
          dsimp only at ka ga ⊢
          have q0:0<=sc*r13:=Int.mul_nonneg hs.1 ga.1
          have q1:sc*r13<=12*60:=Int.mul_le_mul (by omega) (by omega) (by omega) (by omega)
          refine M.o_grd (gA2 (by omega) (by omega)) (M.o_grd (gA2 (by omega) (by omega)) (M.o_grd (gA2 (by omega) (by omega)) (M.o_grd (gA2 (by omega) (by omega)) (M.o_grd (decide_eq_true (by simp; omega)) (M.o_grd (decide_eq_true (by simp; omega)) (M.o_bind (within_out ka (by omega) (by omega) (by omega) (by omega)) ?_))))))
          rintro ⟨r14,ub,xb⟩ ⟨kb,g1,g2⟩
          dsimp only at kb g1 g2 ⊢
          refine M.o_grd (decide_eq_true (by simp; omega)) (M.o_grd (gA2 (by omega) (by omega)) (M.o_pure ⟨by dsimp only; omega,kb.mono (by omega),?_⟩))
          dsimp only
          exact hM.step (by omega) (by omega) (fun _=>⟨by omega,by rw [ee]; omega,.inr (by rw [ee]; omega)⟩) ga ⟨g1,g2⟩ (.inl rfl)
      · refine M.o_bind (next_out kt (by omega) (by omega)) ?_
        rintro ⟨r13,ua,xa⟩ ⟨ka,ga,_⟩
        have ga:=ga (by omega)
        dsimp only at ka ga ⊢
        have q0:0<=sc*r13:=Int.mul_nonneg hs.1 ga.1
        have q1:sc*r13<=12*60:=Int.mul_le_mul (by omega) (by omega) (by omega) (by omega)
        refine M.o_grd (gA2 (by omega) (by omega)) (M.o_grd (gA2 (by omega) (by omega)) (M.o_grd (gA2 (by omega) (by omega)) (M.o_grd (gA2 (by omega) (by omega)) (M.o_grd (decide_eq_true (by simp; omega)) (M.o_grd (decide_eq_true (by simp; omega)) (M.o_bind (within_out ka (by omega) (by omega) (by omega) (by omega)) ?_))))))
        rintro ⟨r14,ub,xb⟩ ⟨kb,g1,g2⟩
        dsimp only at kb g1 g2 ⊢
        refine M.o_grd (decide_eq_true (by simp; omega)) (M.o_grd (gA2 (by omega) (by omega)) (M.o_pure ⟨by dsimp only; omega,kb.mono (by omega),?_⟩))
        dsimp only
        exact hM.step (by omega) (by omega) (fun _=>⟨by omega,by rw [ee]; omega,.inr (by rw [ee]; omega)⟩) ga ⟨g1,g2⟩ (.inl rfl)
    · have hk:=of_decide_eq_false hk
      refine M.o_bind (next_out hS (by omega) (by omega)) ?_
      rintro ⟨r13,ua,xa⟩ ⟨ka,ga,_⟩
      have ga:=ga (by omega)
      dsimp only at ka ga ⊢
      have q0:0<=sc*r13:=Int.mul_nonneg hs.1 ga.1
      have q1:sc*r13<=12*60:=Int.mul_le_mul (by omega) (by omega) (by omega) (by omega)
      refine M.o_grd (gA2 (by omega) (by omega)) (M.o_grd (gA2 (by omega) (by omega)) (M.o_grd (gA2 (by omega) (by omega)) (M.o_grd (gA2 (by omega) (by omega)) (M.o_grd (decide_eq_true (by simp; omega)) (M.o_grd (decide_eq_true (by simp; omega)) (M.o_bind (within_out ka (by omega) (by omega) (by omega) (by omega)) ?_))))))
      rintro ⟨r14,ub,xb⟩ ⟨kb,g1,g2⟩
      dsimp only at kb g1 g2 ⊢
      refine M.o_grd (decide_eq_true (by simp; omega)) (M.o_grd (gA2 (by omega) (by omega)) (M.o_pure ⟨by dsimp only; omega,kb.mono (by omega),?_⟩))
      dsimp only
      exact hM.step (by omega) (by omega) (fun h=>by omega) ga ⟨g1,g2⟩ (.inl rfl)
  · rintro ⟨u,x,place,time,m,l,l2,l3,l4⟩ ⟨e,hS,hM⟩
    dsimp only at e hS hM
    simp only [zaJ]
    exact M.o_f (decide_eq_false (by omega)) (M.o_pure ⟨hS.mono (by omega),_,_,_,_,_,_,rfl,hM⟩)
theorem made02_b1 {pl ph base sc off p t:Int} {n:Nat} {ms:List CMk} {ts ss st:List Int} (hb:-50<=base/\base<=400) (hs:0<=sc/\sc<12) (ho:0<=off/\off<9) (hM:Ct.Mk pl ph base sc off n p t ms ts ss st) (hn:n<=14) {c u x:Int} (hS:SOk c u x) (hc:c<=10000) :
    (M.iter (zaB b ss ts ms) (u,x,0,[])).Out (fun y=>SOk (c+200) y.1 y.2.1/\∃ nt,y.2.2=(nt,nt)/\Ct.NO n ts ss nt/\(nt.map CNt.mark).Nodup/\nt.length<=20):=by
  have e1:=hM.e1
  have e2:=hM.e2
  have e3:=hM.e3
  refine M.o_for n (fun i (z:Int × Int × Nat × List CNt)=>z.2.2.1=i/\SOk (c+6*(i:Int)) z.1 z.2.1/\Ct.NO n ts ss z.2.2.2/\(z.2.2.2.map CNt.mark).Nodup/\z.2.2.2.length<=i/\∀ y∈z.2.2.2,y.mark<(i:Int)) ?_ ?_ ⟨rfl,hS.mono (by omega),(fun y hy=>by cases hy),List.nodup_nil,Nat.le_refl _,(fun y hy=>by cases hy)⟩
  · rintro i ⟨u,x,_,nt⟩ hi ⟨rfl,hS,hN,hd,hl,hlt⟩
    rename_i i
    dsimp only at hi hS hN hd hl hlt
    simp only [zaB]
    refine M.o_t (by rw [decide_eq_true (by omega),decide_eq_true (by omega)]; rfl) (M.o_bind (next_out hS (by omega) (by omega)) ?_)
    rintro ⟨r15,u1,x1⟩ ⟨k1,_,_⟩
    dsimp only at k1 ⊢
    refine M.o_if (fun hz=>?_) (fun hz=>M.o_grd (gA2 (by omega) (by omega)) (M.o_pure ⟨rfl,k1.mono (by omega),hN,hd,by dsimp only; omega,fun y hy=>by have:=hlt y hy; omega⟩))
    have a1:=hM.t i hi
    have a2:=hM.h i hi
    have a3:=hM.m i hi
    have q0:0<=sc*(ms.getD i default).height:=Int.mul_nonneg hs.1 a3.2.1
    have q1:sc*(ms.getD i default).height<=12*60:=Int.mul_le_mul (by omega) (by omega) (by omega) (by omega)
    refine M.o_grd (decide_eq_true (by omega)) (M.o_grd (decide_eq_true (by omega)) (M.o_bind (next_out k1 (by omega) (by omega)) ?_))
    rintro ⟨r16,u2,x2⟩ ⟨k2,g2,_⟩
    have g2:=g2 (by omega)
    dsimp only at k2 g2 ⊢
    refine M.o_grd (gA2 (by omega) (by omega)) (M.o_bind (next_out k2 (by omega) (by omega)) ?_)
    rintro ⟨r17,u3,x3⟩ ⟨k3,g3,_⟩
    have g3:=g3 (by omega)
    dsimp only at k3 g3 ⊢
    refine M.o_grd (gA2 (by omega) (by omega)) (M.o_bind (next_out k3 (by omega) (by omega)) ?_)
    rintro ⟨r18,u4,x4⟩ ⟨k4,g4,_⟩
    have g4:=g4 (by omega)
    dsimp only at k4 g4 ⊢
    refine M.o_grd (gA2 (by omega) (by omega)) (M.o_bind (next_out k4 (by omega) (by omega)) ?_)
    rintro ⟨r19,u5,x5⟩ ⟨k5,g5,_⟩
    have g5:=g5 (by omega)
    dsimp only at k5 g5 ⊢
    refine M.o_grd (gA2 (by omega) (by omega)) (M.o_grd (decide_eq_true (by simp; omega)) (M.o_grd (gA2 (by omega) (by omega)) (M.o_pure ⟨rfl,k5.mono (by omega),fun y hy=>?_,?_,by simp; omega,fun y hy=>?_⟩)))
    · rcases List.mem_append.1 hy with hy | hy
      · exact hN y hy
      · rw [List.mem_singleton] at hy
        subst hy
        exact ⟨i,hi,rfl,⟨by dsimp only; omega,by dsimp only; omega,by dsimp only; omega,by dsimp only; omega⟩,by dsimp only; omega,by dsimp only; omega,by dsimp only; omega,by dsimp only; omega⟩
    · rw [List.map_append,List.nodup_append]
      refine ⟨hd,by simp,fun a ha b hb=>?_⟩
      obtain ⟨y,hy,rfl⟩:=List.mem_map.1 ha
      simp only [List.map_cons,List.map_nil,List.mem_singleton] at hb
      have:=hlt y hy
      omega
    · rcases List.mem_append.1 hy with hy | hy
      · have:=hlt y hy
        omega
      · rw [List.mem_singleton] at hy
        subst hy
        dsimp only
        omega
  · rintro ⟨u,x,i,nt⟩ ⟨e,hS,hN,hd,hl,hlt⟩
    dsimp only at e hS hN hd hl hlt
    simp only [zaB]
    exact M.o_f (by rw [decide_eq_false (by omega)]; rfl) (M.o_pure ⟨hS.mono (by omega),nt,rfl,hN,hd,by omega⟩)
theorem made02_b2 {nt:List CNt} (hn:nt.length<=20) {c u x:Int} (hS:SOk c u x) (hc:c<=100000) :
    (M.iter (zaz b) (u,x,nt,(nt.length:Int)-1)).Out (fun y=>y.1.Perm nt/\y.2.1=y.1):=by
  refine M.o_for (nt.length-1) (fun i (z:Int × Int × List CNt × Int)=>z.2.2.2=(nt.length:Int)-1-(i:Int)/\SOk (c+(i:Int)) z.1 z.2.1/\z.2.2.1.Perm nt) ?_ ?_ ⟨by dsimp only; omega,hS.mono (by omega),List.Perm.refl _⟩
  · rintro i ⟨u,x,l,k⟩ hi ⟨e,hS,hp⟩
    dsimp only at e hS hp
    have hl:=hp.length_eq
    simp only [zaz]
    refine M.o_t (decide_eq_true (by omega)) (M.o_grd (gA2 (by omega) (by omega)) (M.o_bind (next_out hS (by omega) (by omega)) ?_))
    rintro ⟨r,u1,x1⟩ ⟨k1,g1,_⟩
    have g1:=g1 (by omega)
    dsimp only at k1 g1 ⊢
    refine M.o_grd (gA2 (by omega) (by omega)) (M.o_grd (gA2 (by omega) (by omega)) (M.o_grd (gA2 (by omega) (by rw [List.length_set]; omega)) (M.o_grd (gA2 (by omega) (by omega)) (M.o_pure ⟨by dsimp only; omega,k1.mono (by omega),(Ct.swap_perm l (by omega) (by omega)).trans hp⟩))))
  · rintro ⟨u,x,l,k⟩ ⟨e,hS,hp⟩
    dsimp only at e hS hp
    simp only [zaz]
    exact M.o_f (decide_eq_false (by omega)) (M.o_pure ⟨hp,rfl⟩)
theorem made02_out {marks:Int} {stop:Bool} (hm:1<=marks/\marks<=14) {u x:Int} (hS:SOk 0 u x) :
    (zbF b u x marks stop).Out (fun y=>Ct.Rt y.1 y.2.1 y.2.2.1 y.2.2.2.1 y.2.2.2.2.1 y.2.2.2.2.2.1 y.2.2.2.2.2.2.1 y.2.2.2.2.2.2.2.1 y.2.2.2.2.2.2.2.2.1 y.2.2.2.2.2.2.2.2.2.1/\(-50<=y.2.2.1/\y.2.2.1<=400)/\∀ i,i<y.2.2.2.2.2.1.length->-2000<=y.2.2.2.2.2.2.2.2.1.getD i 0/\y.2.2.2.2.2.2.2.2.1.getD i 0<=2000):=by
  unfold zbF
  refine M.o_bind (within_out hS (by omega) (by omega) (by omega) (by omega)) ?_
  rintro ⟨pl,u1,x1⟩ ⟨k1,a1,a2⟩
  dsimp only at k1 a1 a2 ⊢
  refine M.o_bind (within_out k1 (by omega) (by omega) (by omega) (by omega)) ?_
  rintro ⟨base,u2,x2⟩ ⟨k2,b1,b2⟩
  dsimp only at k2 b1 b2 ⊢
  refine M.o_bind (next_out k2 (by omega) (by omega)) ?_
  rintro ⟨sc,u3,x3⟩ ⟨k3,c1,_⟩
  have c1:=c1 (by omega)
  dsimp only at k3 c1 ⊢
  refine M.o_bind (next_out k3 (by omega) (by omega)) ?_
  rintro ⟨off,u4,x4⟩ ⟨k4,d1,_⟩
  have d1:=d1 (by omega)
  dsimp only at k4 d1 ⊢
  refine M.o_bind (next_out k4 (by omega) (by omega)) ?_
  rintro ⟨r6,u5,x5⟩ ⟨k5,e1,_⟩
  have e1:=e1 (by omega)
  dsimp only at k5 e1 ⊢
  refine M.o_grd (gA2 (by omega) (by omega)) (M.o_bind (next_out k5 (by omega) (by omega)) ?_)
  rintro ⟨time,u6,x6⟩ ⟨k6,f1,_⟩
  have f1:=f1 (by omega)
  dsimp only at k6 f1 ⊢
  refine M.o_bind (within_out k6 (by omega) (by omega) (by omega) (by omega)) ?_
  rintro ⟨n,u7,x7⟩ ⟨k7,g1,g2⟩
  dsimp only at k7 g1 g2 ⊢
  refine M.o_bind (made02_b0 (stop:=stop) ⟨a1,a2⟩ e1 ⟨b1,b2⟩ c1 d1 f1 (n:=n) ⟨g1,by omega⟩ k7 (by omega)) ?_
  rintro ⟨u8,x8,_⟩ ⟨k8,p,t,ms,ts,ss,st,rfl,hM⟩
  dsimp only at k8 ⊢
  refine M.o_bind (made02_b1 ⟨b1,b2⟩ c1 d1 hM (by omega) k8 (by omega)) ?_
  rintro ⟨u9,x9,_⟩ ⟨k9,nt,rfl,hN,hd,hl⟩
  dsimp only at k9 ⊢
  refine M.o_bind (made02_b2 hl k9 (by omega)) ?_
  rintro ⟨l1,l2,u10,x10⟩ ⟨hp,e⟩
  dsimp only at hp e
  subst e
  have q1:=hM.e1
  have q2:=hM.e2
  have q3:=hM.e3
  refine M.o_pure ⟨⟨by dsimp only; omega,by dsimp only; omega,by dsimp only; omega,by dsimp only; omega,a1,by dsimp only; omega,by dsimp only; omega,by dsimp only; omega,by dsimp only; omega,by dsimp only; omega,fun i hi=>?_,fun i hi=>hM.up i (by dsimp only at hi; omega),fun i hi=>?_,fun i hi=>hM.g i (by dsimp only at hi; omega),fun i hi=>hM.h i (by dsimp only at hi; omega),?_,?_,fun y hy=>?_,hM.sr,fun y hy=>?_⟩,⟨b1,b2⟩,fun i hi=>?_⟩
  · dsimp only at hi ⊢
    have:=hM.m i (by omega)
    omega
  · dsimp only at hi ⊢
    have:=hM.t i (by omega)
    omega
  · dsimp only
    rw [hp.length_eq]
    exact hl
  · exact (hp.map CNt.mark).nodup_iff.2 hd
  · dsimp only
    rw [q1]
    exact hN y (hp.mem_iff.1 hy)
  · dsimp only at hy ⊢
    have:=hM.si y hy
    omega
  · dsimp only at hi ⊢
    have h1:=hM.m i (by omega)
    have h2:=hM.h i (by omega)
    have q0:0<=sc*(ms.getD i default).height:=Int.mul_nonneg c1.1 h1.2.1
    have q1:sc*(ms.getD i default).height<=12*60:=Int.mul_le_mul (by omega) (by omega) (by omega) (by omega)
    omega
end
end Go.Proofs.YtdmdhmineljlhaaGreat
