/- Part 3 of the texts on which the proof rests. Conditions: none. -/
import Derived.Test.YtbgoclcmgbpckabGreatZA2
set_option linter.unusedVariables false
set_option linter.unusedSimpArgs false
set_option linter.unusedSectionVars false
section
set_option maxRecDepth 100000
set_option maxHeartbeats 16000000
namespace Go.Proofs.YtbgoclcmgbpckabGreat
open Go Go.Nm
attribute [local irreducible] gd execOp SL SLD SLT WR
def zaf (n aa greatest:Int):M Bool :=
  M.pure ((decide (aa<=n))&&(decide (n<=greatest)))
theorem zai {R}(n aa greatest){r}(hM:(zaf n aa greatest).Ends r)(w)(H:St w w [] R):Ret Tryz.prog 63 #[I n,I aa,I greatest] w fun v w'=>∃ y0,y0=r/\v=B y0/\St w w' [] R:=by
 refine ret_of_W Tryz.func63 rfl rfl rfl ?_;refine kg 16 ?_;exact rt

def zcf (s:List Sect) (f:Sect->M Bool):Nat->M (Nat ⊕ (Int ⊕ Unit)):=fun s2 =>
  bif decide ((s2:Int)<(s.length:Int)) then (
  M.grd (decide ((s2:Int)<(s.length:Int))) <|
  M.bind (f (s.getD s2 default)) fun r2 =>
  bif r2 then (
  M.pure (.inr (.inl (s2:Int))))
  else (
  M.pure (.inl (s2+1))))
  else (
  M.pure (.inr (.inr ())))
def zdE (s:List Sect) (f:Sect->M Bool):M Int :=
  M.bind (M.iter (zcf s f) 0) fun x_=>match x_ with
  | (.inl s3)=>(
  M.pure s3)
  | (.inr (_:Unit))=>(
  M.pure (-1))
theorem zgm {R ae ab ac}(s f)(ah:Reads R ae)(ai:Sl ae ab s)(ao:FnM Tryz.prog R ac f){r}(hM:(zdE s f).Ends r)(w)(H:St w w [] R):Ret Tryz.prog 245 #[ab,ac] w fun v w'=>∃ y0,y0=r/\v=I y0/\St w w' [] R:=by
 refine ret_of_W Tryz.func245 rfl rfl rfl ?_;have ay:=(ai).len_le;refine kg 12 ?_;obtain ⟨ap,aj,ak⟩:=M.e_bind hM;obtain ⟨az,aj⟩:=M.e_iter aj;refine W.loop (fun m σ W=>∃ (s2:Nat) (ρ:Env),σ=upds ρ [(0,ab),(1,ac),(7,I (s.length:Int)),(8,I (s2:Int))]/\M.iterN (zcf s f) m s2=some ap/\St w W [] R) ?_ ?_
 ·exact kY
 rintro aA σ aB ⟨s2,ρ,rfl,aq,H⟩;obtain ⟨aC,aD,aE,hM,al⟩:=M.e_iterN aq;refine kI 5 ?_ ?_
 ·intro au hM;obtain ⟨aF,hM⟩:=M.e_gq hM;refine kg 14 ?_;obtain ⟨am,av,aa⟩:=Sect_atA ai (i:=(s2:Int)) (by omega) (by omega);replace aa:Sl _ am (s.getD s2 default).rows:=aa;have aG:=aa.len_le;refine s_val (x_ld (v:=.agg #[I ((s.getD s2 default).place),am]) rfl (ld_ag Ag95.h Sz95.h (At.mono av (ah.at H)))) ?_;obtain ⟨r2,aw,hM⟩:=M.e_bind hM;refine t_callM H ao rfl rfl (s.getD s2 default) (ah.app _) ⟨_,Sect_mk aa,rfl⟩ aw ?_;intro aH H;refine kI 1 ?_ ?_
  ·intro ax hM;refine kg 5 ?_;obtain rfl:=M.e_inr hM al;replace hM:=ak;exact rt
  intro ax hM;exact kX 5
 intro au hM;refine W.exit ?_;obtain rfl:=M.e_inr hM al;replace hM:=ak;refine kg 4 ?_;exact rt

def zda (s:List Sect) (f:Sect->M Bool):M Bool :=
  M.bind (zdE s f) fun r2 =>
  M.pure (decide (0<=r2))
theorem ze0 {R aa ab ac}(s f)(ae:Reads R aa)(ah:Sl aa ab s)(ai:FnM Tryz.prog R ac f){r}(hM:(zda s f).Ends r)(w)(H:St w w [] R):Ret Tryz.prog 214 #[ab,ac] w fun v w'=>∃ y0,y0=r/\v=B y0/\St w w' [] R:=by
 refine ret_of_W Tryz.func214 rfl rfl rfl ?_;refine kC 8 @zgm ?_;intro aj r2 hM H;refine kg 3 ?_;exact rt

def zcp (x:Sect) (aa:Sect->M Bool):M Bool :=
  M.bind (aa x) fun r2 =>
  M.pure (!r2)
theorem zgF {R aa ab ac ae}(x ah)(ai:Reads R aa)(aj:Sl aa ab x.rows)(ak:FnM Tryz.prog R ae ah)(am:Has R (cBlk ac [ae] 285)){r}(hM:(zcp x ah).Ends r)(w)(H:St w w [] R):Ret Tryz.prog 215 #[.agg #[I x.place,ab],Pq ac] w fun v w'=>∃ y0,y0=r/\v=B y0/\St w w' [] R:=by
 refine ret_of_W Tryz.func215 rfl rfl rfl ?_;refine kB 2 ?_;intro ao ap H;refine kg 6 ?_;obtain ⟨r2,al,hM⟩:=M.e_bind hM;refine t_callM H ak rfl rfl x (ai.app _) ⟨_,Sect_mk aj,rfl⟩ al ?_;intro aq H;refine kg 3 ?_;exact rt

def zbJ (l:List Sect) (so:Sect->M Bool):M Bool :=
  M.bind (zda l (fun aa=>zcp aa so)) fun r2 =>
  M.pure (!r2)
theorem ze1 {R ae aa ah}(l so)(aj:Reads R ae)(ak:Sl ae aa l)(al:FnM Tryz.prog R ah so){r}(hM:(zbJ l so).Ends r)(w)(H:St w w [] R):Ret Tryz.prog 158 #[aa,ah] w fun v w'=>∃ y0,y0=r/\v=B y0/\St w w' [] R:=by
 refine ret_of_W Tryz.func158 rfl rfl rfl ?_;refine kB 2 ?_;intro ab aB H;refine kg 5 ?_;refine s_val (x_mf (fs:=[]) (cs:=[Pq ab]) rfl rfl) ?_;obtain ⟨aC,am,hM⟩:=M.e_bind hM;refine s_call cq [aa,.func (.func 215) #[] #[Pq ab]] rfl (ze0 l (fun ac=>zcp ac so) (aj.app _) ak ⟨215,[Pq ab],rfl,cq,fun ai aD aE ao ac aF ap aq au av=>by obtain ⟨aG,rfl,aw⟩:=Sect_arg au; exact (zgF ac so aq aw (FnM.app (al.app _) _) (Has.app (Has.here (k:=0) rfl) _) av ai (St.refl ap)).mono fun ao ai ⟨aH,ax,ay,az⟩=>by subst ax; exact ⟨ay,az⟩⟩ am _ (H.gt 1)) ?_;rintro _ aI ⟨r2,rfl,rfl,aA⟩;replace H:=H.bk aA;refine kg 3 ?_;exact rt

def zcq (x:Sect):M Bool :=
  M.bind (zaf (x.rows.length:Int) 2 8) fun r2 =>
  M.pure r2
theorem zfm {R aa ab}(x)(ae:Reads R aa)(ac:Sl aa ab x.rows){r}(hM:(zcq x).Ends r)(w)(H:St w w [] R):Ret Tryz.prog 157 #[.agg #[I x.place,ab]] w fun v w'=>∃ y0,y0=r/\v=B y0/\St w w' [] R:=by
 refine ret_of_W Tryz.func157 rfl rfl rfl ?_;refine kB 2 ?_;intro ah ai H;have aj:=(ac).len_le;refine kC 7 @zai ?_;intro ak r2 hM H;refine kg 2 ?_;exact rt

def zcx (x:Sect):(Int × Int × Nat)->M ((Int × Int × Nat) ⊕ ((Int × Int) ⊕ (Int × Int))):=fun (s,s2,s3) =>
  bif decide ((s3:Int)<(x.rows.length:Int)) then (
  M.grd (decide ((s3:Int)<(x.rows.length:Int))) <|
  M.gi (s+1) <|
  M.bind (zaf ((x.rows.getD s3 default).stage) (s+1) 2000) fun r2 =>
  M.bind (M.opt (!(!r2)) (zaf ((x.rows.getD s3 default).carry) s2 100000) false) fun r3 =>
  bif ((!r2)||(!r3)) then (
  M.pure (.inr (.inl (s,s2))))
  else (
  M.pure (.inl ((x.rows.getD s3 default).stage,(x.rows.getD s3 default).carry,s3+1))))
  else (
  M.pure (.inr (.inr (s,s2))))
def zcN (x:Sect):M Bool :=
  M.bind (M.iter (zcx x) (-1,0,0)) fun x_=>match x_ with
  | (.inl (s4,s5))=>(
  M.pure false)
  | (.inr (s6,s7))=>(
  M.bind (zaf x.place 0 10000) fun r4 =>
  M.pure r4)
theorem zgd {R ab aa}(x)(aw:Reads R ab)(ak:Sl ab aa x.rows){r}(hM:(zcN x).Ends r)(w)(H:St w w [] R):Ret Tryz.prog 159 #[.agg #[I x.place,aa]] w fun v w'=>∃ y0,y0=r/\v=B y0/\St w w' [] R:=by
 refine ret_of_W Tryz.func159 rfl rfl rfl ?_;refine kB 2 ?_;intro ac ax H;refine kA 5 ?_;intro ae ay H;refine ksw ?_;intro az H;have aA:=(ak).len_le;refine kg 10 ?_;obtain ⟨al,ah,ai⟩:=M.e_bind hM;obtain ⟨aB,ah⟩:=M.e_iter ah;refine W.loop (fun m σ W=>∃ (s:Int) (s2:Int) (s3:Nat) (ρ:Env),σ=upds ρ [(1,Pq ac),(3,Pq ae),(8,aa),(9,I (x.rows.length:Int)),(10,I (s3:Int))]/\M.iterN (zcx x) m (s,s2,s3)=some al/\St w W [cBlk ae [I s,I s2] 97,cBlk ac [I x.place,aa] 95] R) ?_ ?_
 ·exact kY
 rintro aC σ aD ⟨s,s2,s3,ρ,rfl,am,H⟩;obtain ⟨aE,aF,aG,hM,aj⟩:=M.e_iterN am;refine kI 5 ?_ ?_
 ·intro ao hM;obtain ⟨aH,hM⟩:=M.e_gq hM;refine kA 7 ?_;intro aI aJ H;refine ksw ?_;intro aK H;obtain ⟨aL,hM⟩:=M.e_gq hM;refine kC 9 @zai ?_;intro aM r2 hM H;refine kg 6 ?_;obtain ⟨r3,ap,hM⟩:=M.e_bind hM;refine t_gcall (!(!r2)) (gy_f rfl) cq (B r3) (fun _=>[I ((x.rows.getD s3 default).carry),I s2,I 100000]) (fun hg=>lst3 (gd_of hg (I ((x.rows.getD s3 default).carry))) (gd_of hg (I s2)) rfl) H (fun hg=>(zai ((x.rows.getD s3 default).carry) s2 100000 (M.e_opt ap hg) _ (H.give (A:=[]) rfl)).mono fun v_ w_ ⟨y_,aq,au,H_⟩=>by subst aq; exact ⟨au,H.via H_⟩) ?_;intro aN H;refine kI 3 ?_ ?_
  ·intro av hM;refine kg 4 ?_;obtain rfl:=M.e_inr hM aj;replace hM:=ai;exact rt
  intro av hM;refine kS 3 ?_;intro aO H;exact kXp 5 [1,2]
 intro ao hM;refine W.exit ?_;obtain rfl:=M.e_inr hM aj;replace hM:=ai;refine kC 4 @zai ?_;intro aP r4 hM H;refine kg 2 ?_;replace H:=H.pk [];exact rt

def zcW (s:List Mrk) (f:Mrk->M Bool):Nat->M (Nat ⊕ (Int ⊕ Unit)):=fun s2 =>
  bif decide ((s2:Int)<(s.length:Int)) then (
  M.grd (decide ((s2:Int)<(s.length:Int))) <|
  M.bind (f (s.getD s2 default)) fun r2 =>
  bif r2 then (
  M.pure (.inr (.inl (s2:Int))))
  else (
  M.pure (.inl (s2+1))))
  else (
  M.pure (.inr (.inr ())))
def zdl (s:List Mrk) (f:Mrk->M Bool):M Int :=
  M.bind (M.iter (zcW s f) 0) fun x_=>match x_ with
  | (.inl s3)=>(
  M.pure s3)
  | (.inr (_:Unit))=>(
  M.pure (-1))
theorem zf2 {R ac aa ab}(s f)(au:Reads R ac)(aj:Sl ac aa s)(ak:FnM Tryz.prog R ab f){r}(hM:(zdl s f).Ends r)(w)(H:St w w [] R):Ret Tryz.prog 246 #[aa,ab] w fun v w'=>∃ y0,y0=r/\v=I y0/\St w w' [] R:=by
 refine ret_of_W Tryz.func246 rfl rfl rfl ?_;have av:=(aj).len_le;refine kg 12 ?_;obtain ⟨al,ae,ah⟩:=M.e_bind hM;obtain ⟨aw,ae⟩:=M.e_iter ae;refine W.loop (fun m σ W=>∃ (s2:Nat) (ρ:Env),σ=upds ρ [(0,aa),(1,ab),(7,I (s.length:Int)),(8,I (s2:Int))]/\M.iterN (zcW s f) m s2=some al/\St w W [] R) ?_ ?_
 ·exact kY
 rintro ax σ ay ⟨s2,ρ,rfl,am,H⟩;obtain ⟨az,aA,aB,hM,ai⟩:=M.e_iterN am;refine kI 5 ?_ ?_
 ·intro ao hM;obtain ⟨aC,hM⟩:=M.e_gq hM;refine kg 15 ?_;obtain ⟨r2,ap,hM⟩:=M.e_bind hM;refine t_callM H ak rfl rfl (s.getD s2 default) Reads.none ⟨_,rfl,rfl⟩ ap ?_;intro aD H;refine kI 1 ?_ ?_
  ·intro aq hM;refine kg 5 ?_;obtain rfl:=M.e_inr hM ai;replace hM:=ah;exact rt
  intro aq hM;exact kX 5
 intro ao hM;refine W.exit ?_;obtain rfl:=M.e_inr hM ai;replace hM:=ah;refine kg 4 ?_;exact rt

def zdz (s:List Mrk) (f:Mrk->M Bool):M Bool :=
  M.bind (zdl s f) fun r2 =>
  M.pure (decide (0<=r2))
theorem zf6 {R aa ab ac}(s f)(ae:Reads R aa)(ah:Sl aa ab s)(ai:FnM Tryz.prog R ac f){r}(hM:(zdz s f).Ends r)(w)(H:St w w [] R):Ret Tryz.prog 216 #[ab,ac] w fun v w'=>∃ y0,y0=r/\v=B y0/\St w w' [] R:=by
 refine ret_of_W Tryz.func216 rfl rfl rfl ?_;refine kC 8 @zf2 ?_;intro aj r2 hM H;refine kg 3 ?_;exact rt

def zcv (x:Mrk) (aa:Mrk->M Bool):M Bool :=
  M.bind (aa x) fun r2 =>
  M.pure (!r2)
theorem zfZ {R aa ab}(x ac)(ae:FnM Tryz.prog R ab ac)(ai:Has R (cBlk aa [ab] 288)){r}(hM:(zcv x ac).Ends r)(w)(H:St w w [] R):Ret Tryz.prog 217 #[.agg #[I x.place,I x.lo,I x.hi],Pq aa] w fun v w'=>∃ y0,y0=r/\v=B y0/\St w w' [] R:=by
 refine ret_of_W Tryz.func217 rfl rfl rfl ?_;refine kB 2 ?_;intro aj ak H;refine kg 6 ?_;obtain ⟨r2,ah,hM⟩:=M.e_bind hM;refine t_callM H ae rfl rfl x Reads.none ⟨_,rfl,rfl⟩ ah ?_;intro al H;refine kg 3 ?_;exact rt

def zbE (l:List Mrk) (so:Mrk->M Bool):M Bool :=
  M.bind (zdz l (fun aa=>zcv aa so)) fun r2 =>
  M.pure (!r2)
theorem zfd {R ae aa ah}(l so)(aj:Reads R ae)(ak:Sl ae aa l)(al:FnM Tryz.prog R ah so){r}(hM:(zbE l so).Ends r)(w)(H:St w w [] R):Ret Tryz.prog 160 #[aa,ah] w fun v w'=>∃ y0,y0=r/\v=B y0/\St w w' [] R:=by
 refine ret_of_W Tryz.func160 rfl rfl rfl ?_;refine kB 2 ?_;intro ab az H;refine kg 5 ?_;refine s_val (x_mf (fs:=[]) (cs:=[Pq ab]) rfl rfl) ?_;obtain ⟨aA,am,hM⟩:=M.e_bind hM;refine s_call cq [aa,.func (.func 217) #[] #[Pq ab]] rfl (zf6 l (fun ac=>zcv ac so) (aj.app _) ak ⟨217,[Pq ab],rfl,cq,fun ai aB aC ao ac aD ap aE aq au=>by obtain rfl:=Mrk_arg aq; exact (zfZ ac so (FnM.app (al.app _) _) (Has.app (Has.here (k:=0) rfl) _) au ai (St.refl ap)).mono fun ao ai ⟨aF,av,aw,ax⟩=>by subst av; exact ⟨aw,ax⟩⟩ am _ (H.gt 1)) ?_;rintro _ aG ⟨r2,rfl,rfl,ay⟩;replace H:=H.bk ay;refine kg 3 ?_;exact rt

def zbq (s:Span) (aa greatest:Int):M Bool :=
  M.bind (zaf s.lo aa greatest) fun r2 =>
  M.bind (M.opt r2 (zaf s.hi s.lo greatest) false) fun r3 =>
  M.pure (r2&&r3)
theorem zek {R}(s aa greatest){r}(hM:(zbq s aa greatest).Ends r)(w)(H:St w w [] R):Ret Tryz.prog 218 #[.agg #[I s.lo,I s.hi],I aa,I greatest] w fun v w'=>∃ y0,y0=r/\v=B y0/\St w w' [] R:=by
 refine ret_of_W Tryz.func218 rfl rfl rfl ?_;refine kB 2 ?_;intro ah ai H;refine kC 8 @zai ?_;intro aj r2 hM H;refine kg 6 ?_;obtain ⟨r3,ab,hM⟩:=M.e_bind hM;refine t_gcall r2 (gy_t rfl) cq (B r3) (fun _=>[I s.hi,I s.lo,I greatest]) (fun hg=>lst3 (gd_of hg (I s.hi)) (gd_of hg (I s.lo)) (gd_of hg (I greatest))) H (fun hg=>(zai s.hi s.lo greatest (M.e_opt ab hg) _ (H.give (A:=[]) rfl)).mono fun v_ w_ ⟨y_,ac,ae,H_⟩=>by subst ac; exact ⟨ae,H.via H_⟩) ?_;intro ak H;refine kg 3 ?_;exact rt

def zbi (m_:Mrk):M Bool :=
  M.bind (zaf m_.place 0 10000) fun r2 =>
  M.bind (M.opt r2 (zbq (⟨(m_.lo:Int),(m_.hi:Int)⟩:Span) 0 2000) false) fun r3 =>
  M.pure (r2&&r3)
theorem zft {R}(m_){r}(hM:(zbi m_).Ends r)(w)(H:St w w [] R):Ret Tryz.prog 161 #[.agg #[I m_.place,I m_.lo,I m_.hi]] w fun v w'=>∃ y0,y0=r/\v=B y0/\St w w' [] R:=by
 refine ret_of_W Tryz.func161 rfl rfl rfl ?_;refine kB 2 ?_;intro ae ah H;refine kC 6 @zai ?_;intro ai r2 hM H;refine kg 3 ?_;obtain ⟨r3,aa,hM⟩:=M.e_bind hM;refine t_gcall r2 (gy_t rfl) cq (B r3) (fun _=>[.agg #[I m_.lo,I m_.hi],I 0,I 2000]) (fun hg=>lst3 (gd_of hg (.agg #[I m_.lo,I m_.hi])) rfl rfl) H (fun hg=>(zek (⟨(m_.lo:Int),(m_.hi:Int)⟩:Span) 0 2000 (M.e_opt aa hg) _ (H.give (A:=[]) rfl)).mono fun v_ w_ ⟨y_,ab,ac,H_⟩=>by subst ab; exact ⟨ac,H.via H_⟩) ?_;intro aj H;refine kg 3 ?_;exact rt

def zbF (s:List Rch) (f:Rch->M Bool):Nat->M (Nat ⊕ (Int ⊕ Unit)):=fun s2 =>
  bif decide ((s2:Int)<(s.length:Int)) then (
  M.grd (decide ((s2:Int)<(s.length:Int))) <|
  M.bind (f (s.getD s2 default)) fun r2 =>
  bif r2 then (
  M.pure (.inr (.inl (s2:Int))))
  else (
  M.pure (.inl (s2+1))))
  else (
  M.pure (.inr (.inr ())))
def zdD (s:List Rch) (f:Rch->M Bool):M Int :=
  M.bind (M.iter (zbF s f) 0) fun x_=>match x_ with
  | (.inl s3)=>(
  M.pure s3)
  | (.inr (_:Unit))=>(
  M.pure (-1))
theorem zgC {R ac aa ab}(s f)(au:Reads R ac)(aj:Sl ac aa s)(ak:FnM Tryz.prog R ab f){r}(hM:(zdD s f).Ends r)(w)(H:St w w [] R):Ret Tryz.prog 247 #[aa,ab] w fun v w'=>∃ y0,y0=r/\v=I y0/\St w w' [] R:=by
 refine ret_of_W Tryz.func247 rfl rfl rfl ?_;have av:=(aj).len_le;refine kg 12 ?_;obtain ⟨al,ae,ah⟩:=M.e_bind hM;obtain ⟨aw,ae⟩:=M.e_iter ae;refine W.loop (fun m σ W=>∃ (s2:Nat) (ρ:Env),σ=upds ρ [(0,aa),(1,ab),(7,I (s.length:Int)),(8,I (s2:Int))]/\M.iterN (zbF s f) m s2=some al/\St w W [] R) ?_ ?_
 ·exact kY
 rintro ax σ ay ⟨s2,ρ,rfl,am,H⟩;obtain ⟨az,aA,aB,hM,ai⟩:=M.e_iterN am;refine kI 5 ?_ ?_
 ·intro ao hM;obtain ⟨aC,hM⟩:=M.e_gq hM;refine kg 15 ?_;obtain ⟨r2,ap,hM⟩:=M.e_bind hM;refine t_callM H ak rfl rfl (s.getD s2 default) Reads.none ⟨_,rfl,rfl⟩ ap ?_;intro aD H;refine kI 1 ?_ ?_
  ·intro aq hM;refine kg 5 ?_;obtain rfl:=M.e_inr hM ai;replace hM:=ah;exact rt
  intro aq hM;exact kX 5
 intro ao hM;refine W.exit ?_;obtain rfl:=M.e_inr hM ai;replace hM:=ah;refine kg 4 ?_;exact rt

def zdy (s:List Rch) (f:Rch->M Bool):M Bool :=
  M.bind (zdD s f) fun r2 =>
  M.pure (decide (0<=r2))
theorem zgJ {R aa ab ac}(s f)(ae:Reads R aa)(ah:Sl aa ab s)(ai:FnM Tryz.prog R ac f){r}(hM:(zdy s f).Ends r)(w)(H:St w w [] R):Ret Tryz.prog 219 #[ab,ac] w fun v w'=>∃ y0,y0=r/\v=B y0/\St w w' [] R:=by
 refine ret_of_W Tryz.func219 rfl rfl rfl ?_;refine kC 8 @zgC ?_;intro aj r2 hM H;refine kg 3 ?_;exact rt

def zce (x:Rch) (aa:Rch->M Bool):M Bool :=
  M.bind (aa x) fun r2 =>
  M.pure (!r2)
theorem zf4 {R aa ab}(x ac)(ae:FnM Tryz.prog R ab ac)(ai:Has R (cBlk aa [ab] 290)){r}(hM:(zce x ac).Ends r)(w)(H:St w w [] R):Ret Tryz.prog 220 #[.agg #[I x.up,I x.down,I x.lo,I x.hi,B x.narrow],Pq aa] w fun v w'=>∃ y0,y0=r/\v=B y0/\St w w' [] R:=by
 refine ret_of_W Tryz.func220 rfl rfl rfl ?_;refine kB 2 ?_;intro aj ak H;refine kg 6 ?_;obtain ⟨r2,ah,hM⟩:=M.e_bind hM;refine t_callM H ae rfl rfl x Reads.none ⟨_,rfl,rfl⟩ ah ?_;intro al H;refine kg 3 ?_;exact rt

def zck (l:List Rch) (so:Rch->M Bool):M Bool :=
  M.bind (zdy l (fun aa=>zce aa so)) fun r2 =>
  M.pure (!r2)
theorem zfW {R ae aa ah}(l so)(aj:Reads R ae)(ak:Sl ae aa l)(al:FnM Tryz.prog R ah so){r}(hM:(zck l so).Ends r)(w)(H:St w w [] R):Ret Tryz.prog 162 #[aa,ah] w fun v w'=>∃ y0,y0=r/\v=B y0/\St w w' [] R:=by
 refine ret_of_W Tryz.func162 rfl rfl rfl ?_;refine kB 2 ?_;intro ab az H;refine kg 5 ?_;refine s_val (x_mf (fs:=[]) (cs:=[Pq ab]) rfl rfl) ?_;obtain ⟨aA,am,hM⟩:=M.e_bind hM;refine s_call cq [aa,.func (.func 220) #[] #[Pq ab]] rfl (zgJ l (fun ac=>zce ac so) (aj.app _) ak ⟨220,[Pq ab],rfl,cq,fun ai aB aC ao ac aD ap aE aq au=>by obtain rfl:=Rch_arg aq; exact (zf4 ac so (FnM.app (al.app _) _) (Has.app (Has.here (k:=0) rfl) _) au ai (St.refl ap)).mono fun ao ai ⟨aF,av,aw,ax⟩=>by subst av; exact ⟨aw,ax⟩⟩ am _ (H.gt 1)) ?_;rintro _ aG ⟨r2,rfl,rfl,ay⟩;replace H:=H.bk ay;refine kg 3 ?_;exact rt

def zb1 (r_:Rch) (sections:Int):M Bool :=
  M.gi (sections-1) <|
  M.bind (zaf r_.up 0 (sections-1)) fun r2 =>
  M.grd ((!r2||(decide ((-9223372036854775808:Int)<=(r_.up+1))&&decide ((r_.up+1)<=(9223372036854775807:Int))))) <|
  M.bind (M.opt r2 (zaf r_.down (r_.up+1) (sections-1)) false) fun r3 =>
  M.bind (M.opt (r2&&r3) (zbq (⟨(r_.lo:Int),(r_.hi:Int)⟩:Span) 1 400) false) fun r4 =>
  M.pure ((r2&&r3)&&r4)
theorem zfB {R}(r_ sections){r}(hM:(zb1 r_ sections).Ends r)(w)(H:St w w [] R):Ret Tryz.prog 164 #[.agg #[I r_.up,I r_.down,I r_.lo,I r_.hi,B r_.narrow],I sections] w fun v w'=>∃ y0,y0=r/\v=B y0/\St w w' [] R:=by
 refine ret_of_W Tryz.func164 rfl rfl rfl ?_;refine kB 2 ?_;intro ai aj H;obtain ⟨ak,hM⟩:=M.e_gq hM;refine kC 8 @zai ?_;intro al r2 hM H;obtain ⟨aa,hM⟩:=M.e_grd hM;replace aa:=M.imp_of aa;simp only [Bool.and_eq_true,decide_eq_true_eq] at aa;refine kg 8 ?_;obtain ⟨r3,ae,hM⟩:=M.e_bind hM;refine t_gcall r2 (gy_t rfl) cq (B r3) (fun _=>[I r_.down,I (r_.up+1),I (sections-1)]) (fun hg=>lst3 (gd_of hg (I r_.down)) (gd_of hg (I (r_.up+1))) (gd_of hg (I (sections-1)))) H (fun hg=>(zai r_.down (r_.up+1) (sections-1) (M.e_opt ae hg) _ (H.give (A:=[]) rfl)).mono fun v_ w_ ⟨y_,ab,ac,H_⟩=>by subst ab; exact ⟨ac,H.via H_⟩) ?_;intro am H;refine kg 4 ?_;obtain ⟨r4,ah,hM⟩:=M.e_bind hM;refine t_gcall (r2&&r3) (gy_t rfl) cq (B r4) (fun _=>[.agg #[I r_.lo,I r_.hi],I 1,I 400]) (fun hg=>lst3 (gd_of hg (.agg #[I r_.lo,I r_.hi])) rfl rfl) H (fun hg=>(zek (⟨(r_.lo:Int),(r_.hi:Int)⟩:Span) 1 400 (M.e_opt ah hg) _ (H.give (A:=[]) rfl)).mono fun v_ w_ ⟨y_,ab,ac,H_⟩=>by subst ab; exact ⟨ac,H.via H_⟩) ?_;intro ao H;refine kg 3 ?_;exact rt

def zcP (r_:Rch) (aa:List Sect) (ab:List Mrk) (ac:List Rch):M Bool :=
  M.bind (zb1 r_ (aa.length:Int)) fun r2 =>
  M.pure r2
theorem zfb {R aa ab ac ae ah ai aj}(r_ ak al am)(ap:Reads R ab)(ao:Sl ab ac ak)(aq:Reads R ae)(au:Sl ae ah al)(av:Reads R ai)(aw:Sl ai aj am)(ax:Has R (cBlk aa [ac,ah,aj] 45)){r}(hM:(zcP r_ ak al am).Ends r)(w)(H:St w w [] R):Ret Tryz.prog 163 #[.agg #[I r_.up,I r_.down,I r_.lo,I r_.hi,B r_.narrow],Pq aa] w fun v w'=>∃ y0,y0=r/\v=B y0/\St w w' [] R:=by
 refine ret_of_W Tryz.func163 rfl rfl rfl ?_;refine kB 2 ?_;intro ay az H;have aA:=(ao).len_le;refine kC 8 @zfB ?_;intro aB r2 hM H;refine kg 2 ?_;exact rt

def zc1 (s_Sections:List Sect):(Int × Nat)->M ((Int × Nat) ⊕ (Unit ⊕ Unit)):=fun (last,s2) =>
  bif decide ((s2:Int)<(s_Sections.length:Int)) then (
  M.grd (decide ((s2:Int)<(s_Sections.length:Int))) <|
  M.bind (zcN (s_Sections.getD s2 default)) fun r6 =>
  bif ((!r6)||(decide (((s_Sections.getD s2 default).place)<=last))) then (
  M.pure (.inr (.inl ())))
  else (
  M.pure (.inl ((s_Sections.getD s2 default).place,s2+1))))
  else (
  M.pure (.inr (.inr ())))
def zcu (s_Sections:List Sect) (s_Marks:List Mrk) (s_Reaches:List Rch):M Int :=
  M.bind (zaf (s_Sections.length:Int) 2 6) fun r2 =>
  M.bind (M.opt (!(!r2)) (zaf (s_Marks.length:Int) 1 16) false) fun r3 =>
  M.bind (M.opt (!((!r2)||(!r3))) (zaf (s_Reaches.length:Int) 1 6) false) fun r4 =>
  M.bind (M.opt (!(((!r2)||(!r3))||(!r4))) (zbJ s_Sections (fun aa=>zcq aa)) false) fun r5 =>
  bif ((((!r2)||(!r3))||(!r4))||(!r5)) then (
  M.pure 3)
  else (
  M.bind (M.iter (zc1 s_Sections) (-1,0)) fun x_=>match x_ with
  | (.inl (_:Unit))=>(
  M.pure 70)
  | (.inr (_:Unit))=>(
  M.bind (zbE s_Marks (fun aa=>zbi aa)) fun r7 =>
  M.bind (M.opt (!(!r7)) (zck s_Reaches (fun aa=>zcP aa s_Sections s_Marks s_Reaches)) false) fun r8 =>
  bif ((!r7)||(!r8)) then (
  M.pure 70)
  else (
  M.pure 0)))
theorem zff {R aC ah aD aw aE aj}(s_Sections s_Marks s_Reaches)(ax:Reads R aC)(ak:Sl aC ah s_Sections)(aF:Reads R aD)(ay:Sl aD aw s_Marks)(aG:Reads R aE)(az:Sl aE aj s_Reaches){r}(hM:(zcu s_Sections s_Marks s_Reaches).Ends r)(w)(H:St w w [] R):Ret Tryz.prog 106 #[.agg #[ah,aw,aj]] w fun v w'=>∃ y0,y0=r/\v=I y0/\St w w' [] R:=by
 refine ret_of_W Tryz.func106 rfl rfl rfl ?_;refine kB 2 ?_;intro ai ba H;have bb:=(ak).len_le;refine kC 12 @zai ?_;intro bc r2 hM H;have bf:=(ay).len_le;refine kg 5 ?_;obtain ⟨r3,aP,hM⟩:=M.e_bind hM;refine t_gcall (!(!r2)) (gy_f rfl) cq (B r3) (fun _=>[I (s_Marks.length:Int),I 1,I 16]) (fun hg=>lst3 (gd_of hg (I (s_Marks.length:Int))) rfl rfl) H (fun hg=>(zai (s_Marks.length:Int) 1 16 (M.e_opt aP hg) _ (H.give (A:=[]) rfl)).mono fun v_ w_ ⟨y_,ac,ae,H_⟩=>by subst ac; exact ⟨ae,H.via H_⟩) ?_;intro bg H;have bh:=(az).len_le;refine kg 6 ?_;obtain ⟨r4,aQ,hM⟩:=M.e_bind hM;refine t_gcall (!((!r2)||(!r3))) (gy_f rfl) cq (B r4) (fun _=>[I (s_Reaches.length:Int),I 1,I 6]) (fun hg=>lst3 (gd_of hg (I (s_Reaches.length:Int))) rfl rfl) H (fun hg=>(zai (s_Reaches.length:Int) 1 6 (M.e_opt aQ hg) _ (H.give (A:=[]) rfl)).mono fun v_ w_ ⟨y_,ac,ae,H_⟩=>by subst ac; exact ⟨ae,H.via H_⟩) ?_;intro bi H;refine kg 6 ?_;obtain ⟨r5,aR,hM⟩:=M.e_bind hM;refine t_gcall (!(((!r2)||(!r3))||(!r4))) (gy_f rfl) cq (B r5) (fun _=>[ah,.func (.func 157) #[] #[]]) (fun hg=>lst2 (gd_of hg (ah)) (gd_of hg (.func (.func 157) #[] #[]))) H (fun hg=>(ze1 s_Sections (fun aa=>zcq aa) (ax.app _) ak ⟨157,[],rfl,cq,fun ab aH aI al aa aJ am aA ao ap=>by obtain ⟨bj,rfl,aS⟩:=Sect_arg ao; exact (zfm aa aA aS ap ab (St.refl am)).mono fun al ab ⟨aK,aq,au,av⟩=>by subst aq; exact ⟨au,av⟩⟩ (M.e_opt aR hg) _ (H.give (A:=[]) rfl)).mono fun v_ w_ ⟨y_,ac,ae,H_⟩=>by subst ac; exact ⟨ae,H.via H_⟩) ?_;intro bm H;refine kI 3 ?_ ?_
 ·intro aT hM;refine kg 4 ?_;exact rt
 intro aT hM;have bn:=(ak).len_le;refine kg 14 ?_;obtain ⟨aU,aL,aM⟩:=M.e_bind hM;obtain ⟨bo,aL⟩:=M.e_iter aL;refine W.loop (fun m σ W=>∃ (last:Int) (s2:Nat) (ρ:Env),σ=upds ρ [(1,Pq ai),(4,I last),(34,ah),(35,I (s_Sections.length:Int)),(36,I (s2:Int))]/\M.iterN (zc1 s_Sections) m (last,s2)=some aU/\St w W [cBlk ai [ah,aw,aj] 45] R) ?_ ?_
 ·exact kY
 rintro bp σ br ⟨last,s2,ρ,rfl,aV,H⟩;obtain ⟨bt,bu,bv,hM,aN⟩:=M.e_iterN aV;refine kI 5 ?_ ?_
 ·intro aW hM;obtain ⟨bw,hM⟩:=M.e_gq hM;refine kg 6 ?_;obtain ⟨aO,aX,aB⟩:=Sect_atA ak (i:=(s2:Int)) (by omega) (by omega);replace aB:Sl _ aO (s_Sections.getD s2 default).rows:=aB;have bx:=aB.len_le;refine s_val (x_ld (v:=.agg #[I ((s_Sections.getD s2 default).place),aO]) rfl (ld_ag Ag95.h Sz95.h (At.mono aX (ax.at H)))) ?_;refine kal ?_;intro bz bA H;refine kS 0 ?_;intro bB H;refine kC 5 @zgd ?_;intro bC r6 hM H;refine kI 8 ?_ ?_
  ·intro aY hM;refine kg 4 ?_;obtain rfl:=M.e_inr hM aN;replace hM:=aM;exact rt
  intro aY hM;exact kXp 10 [1]
 intro aW hM;refine W.exit ?_;obtain rfl:=M.e_inr hM aN;replace hM:=aM;refine kg 5 ?_;obtain ⟨bD,aZ,hM⟩:=M.e_bind hM;refine s_call cq [aw,.func (.func 161) #[] #[]] rfl (zfd s_Marks (fun aa=>zbi aa) (aF.app _) ay ⟨161,[],rfl,cq,fun ab aH aI al aa aJ am aA ao ap=>by obtain rfl:=Mrk_arg ao; exact (zft aa ap ab (St.refl am)).mono fun al ab ⟨aK,aq,au,av⟩=>by subst aq; exact ⟨au,av⟩⟩ aZ _ (H.gt 1)) ?_;rintro _ bE ⟨r7,rfl,rfl,a6⟩;replace H:=H.bk a6;refine kg 4 ?_;refine g_val (!(!r7)) (gy_f rfl) (fun hg=>x_mf (fs:=[]) (cs:=[Pq ai]) rfl rfl) ?_;obtain ⟨r8,a7,hM⟩:=M.e_bind hM;refine t_gcall (!(!r7)) (gy_f rfl) cq (B r8) (fun _=>[aj,.func (.func 163) #[] #[Pq ai]]) (fun hg=>lst2 (gd_of hg (aj)) (gd_of hg (.func (.func 163) #[] #[Pq ai]))) H (fun hg=>(zfW s_Reaches (fun aa=>zcP aa s_Sections s_Marks s_Reaches) (aG.app _) az ⟨163,[Pq ai],rfl,cq,fun ab aH aI al aa aJ am aA ao ap=>by obtain rfl:=Rch_arg ao; exact (zfb aa s_Sections s_Marks s_Reaches (Reads.app (ax.app _) _) ak (Reads.app (aF.app _) _) ay (Reads.app (aG.app _) _) az (Has.app (Has.here (k:=0) rfl) _) ap ab (St.refl am)).mono fun al ab ⟨aK,aq,au,av⟩=>by subst aq; exact ⟨au,av⟩⟩ (M.e_opt a7 hg) _ (H.give (A:=[]) rfl)).mono fun v_ w_ ⟨y_,ac,ae,H_⟩=>by subst ac; exact ⟨ae,H.via H_⟩) ?_;intro bF H;refine kI 3 ?_ ?_
 ·intro a8 hM;refine kg 4 ?_;exact rt
 intro a8 hM;refine kg 5 ?_;exact rt

def zcV (s_Sections:List Sect) (s_Marks:List Mrk) (s_Reaches:List Rch):M (Int ⊕ Int) :=
  M.bind (zcu s_Sections s_Marks s_Reaches) fun r2 =>
  bif r2 != 0 then (
  M.pure (.inl r2))
  else (
  M.pure (.inr 0))
theorem zfu {R ah aa ai ab aj ac}(s_Sections s_Marks s_Reaches)(aq:Reads R ah)(au:Sl ah aa s_Sections)(av:Reads R ai)(aw:Sl ai ab s_Marks)(ax:Reads R aj)(ay:Sl aj ac s_Reaches){r}(hM:(zcV s_Sections s_Marks s_Reaches).Ends r)(w)(H:St w w [] R):Ret Tryz.prog 62 #[.agg #[aa,ab,ac]] w fun v w'=>(∃ (y0:Int),(.inl y0)=r/\v = .tuple #[.pointer none,I y0]/\St w w' [] R)∨(∃ (y0:Int) (ak:Nat) (al:Nat),(.inr y0)=r/\v = .tuple #[Pq ak,I y0]/\St w w' [cBlk ak [aa,ab,ac,.map (some al)] 163,cMemI encSpt al (za3 s_Sections s_Marks s_Reaches)] R):=by
 refine ret_of_W Tryz.func62 rfl rfl rfl ?_;refine kB 2 ?_;intro az aA H;refine kC 7 @zff ?_;intro aB r2 hM H;refine kI 7 ?_ ?_
 ·intro am hM;refine kg 6 ?_;refine W.ret ?_;have ae:=M.e_pure hM;exact ⟨_,resE_tmp2 rfl,.inl (⟨r2,ae,rfl,(H.pk [])⟩)⟩
 intro am hM;refine kg 4 ?_;refine t_mkmemI encSpt (za3 s_Sections s_Marks s_Reaches) H ?_;intro ao aC H;refine kB 1 ?_;intro ap aD H;refine kg 3 ?_;refine W.ret ?_;have ae:=M.e_pure hM;exact ⟨_,resE_tmp2 rfl,.inr (⟨0,ap,ao,ae,rfl,(H.pk [0,1])⟩)⟩

def zd2 (s_Marks:List Mrk) (marks:List Int):(Int × Int × Nat)->M ((Int × Int × Nat) ⊕ Int):=fun (e2,last,s2) =>
  bif decide ((s2:Int)<(marks.length:Int)) then (
  M.grd (decide ((s2:Int)<(marks.length:Int))) <|
  M.grd ((!(e2==0)||(decide ((-9223372036854775808:Int)<=(last+1))&&decide ((last+1)<=(9223372036854775807:Int))))) <|
  M.bind (M.opt (e2==0) (zaf (marks.getD s2 0) (last+1) ((s_Marks.length:Int)-1)) false) fun r2 =>
  bif ((e2==0)&&(!r2)) then (
  M.pure (.inl (2,marks.getD s2 0,s2+1)))
  else (
  M.pure (.inl (e2,marks.getD s2 0,s2+1))))
  else (
  M.pure (.inr e2))
def zcT (s_Marks:List Mrk) (marks:List Int):(Int × Int × Nat)->M ((Int × Int × Nat) ⊕ Int):=fun (e2,last,s2) =>
  bif decide ((s2:Int)<(marks.length:Int)) then (
  M.grd (decide ((s2:Int)<(marks.length:Int))) <|
  M.grd ((!(e2==0)||(decide ((-9223372036854775808:Int)<=(last+1))&&decide ((last+1)<=(9223372036854775807:Int))))) <|
  M.bind (M.opt (e2==0) (zaf (marks.getD s2 0) (last+1) ((s_Marks.length:Int)-1)) false) fun r2 =>
  bif ((e2==0)&&(!r2)) then (
  M.pure (.inl (2,marks.getD s2 0,s2+1)))
  else (
  M.pure (.inl (e2,marks.getD s2 0,s2+1))))
  else (
  M.pure (.inr e2))
def zbG (s_Sections:List Sect) (s_Marks:List Mrk) (s_Reaches:List Rch) (marks:List Int):M (Int ⊕ Int) :=
  M.bind (zcV s_Sections s_Marks s_Reaches) fun x_=>match x_ with
  | (.inl r1)=>(
  M.bind (M.iter (zd2 s_Marks marks) (r1,-1,0)) fun e3 =>
  M.pure (.inl e3))
  | (.inr aa)=>(
  M.bind (M.iter (zcT s_Marks marks) (aa,-1,0)) fun e3 =>
  M.pure (.inr e3))
theorem zeV {R au aa av ab aw ac ax ah}(s_Sections s_Marks s_Reaches marks)(aD:Reads R au)(aE:Sl au aa s_Sections)(aF:Reads R av)(aj:Sl av ab s_Marks)(aG:Reads R aw)(aH:Sl aw ac s_Reaches)(a6:Reads R ax)(ay:Sl ax ah marks){r}(hM:(zbG s_Sections s_Marks s_Reaches marks).Ends r)(w)(H:St w w [] R):Ret Tryz.prog 26 #[.agg #[aa,ab,ac],ah] w fun v w'=>(∃ (y0:Int),(.inl y0)=r/\v = .tuple #[.pointer none,I y0]/\St w w' [] R)∨(∃ (y0:Int) (az:Nat) (aA:Nat),(.inr y0)=r/\v = .tuple #[Pq az,I y0]/\St w w' [cBlk az [aa,ab,ac,.map (some aA)] 163,cMemI encSpt aA (za3 s_Sections s_Marks s_Reaches)] R):=by
 refine ret_of_W Tryz.func26 rfl rfl rfl ?_;refine kB 2 ?_;intro ai a7 H;refine kg 6 ?_;obtain ⟨a8,aI,hM⟩:=M.e_bind hM;refine s_call cq [.agg #[aa,ab,ac]] rfl (zfu s_Sections s_Marks s_Reaches (aD.app _) aE (aF.app _) aj (aG.app _) aH aI _ (H.gt 1)) ?_;rintro vq ba (⟨r1,aJ,hvq,ak⟩ | ⟨bb,al,am,aK,hvq,ak⟩)
 ·subst aJ;subst vq;replace H:=H.bk ak;have bc:=(ay).len_le;refine kg 18 ?_;obtain ⟨aL,aB,aM⟩:=M.e_bind hM;obtain ⟨aN,aB⟩:=M.e_iter aB;refine W.loop (fun m σ W=>∃ (e2:Int) (last:Int) (s2:Nat) (ρ:Env),σ=upds ρ [(2,Pq ai),(6,.pointer none),(7,I e2),(8,I last),(16,ah),(17,I (marks.length:Int)),(18,I (s2:Int))]/\M.iterN (zd2 s_Marks marks) m (e2,last,s2)=some aL/\St w W [cBlk ai [aa,ab,ac] 45] R) ?_ ?_
  ·exact kY
  rintro bf σ bg ⟨e2,last,s2,ρ,rfl,aO,H⟩;obtain ⟨bh,bi,bj,hM,aP⟩:=M.e_iterN aO;refine kI 5 ?_ ?_
  ·intro aQ hM;obtain ⟨bm,hM⟩:=M.e_gq hM;obtain ⟨ao,hM⟩:=M.e_grd hM;replace ao:=M.imp_of ao;simp only [Bool.and_eq_true,decide_eq_true_eq] at ao;have bn:=(aj).len_le;refine kg 22 ?_;obtain ⟨r2,aR,hM⟩:=M.e_bind hM;refine t_gcall (e2==0) (gy_t rfl) cq (B r2) (fun _=>[I (marks.getD s2 0),I (last+1),I ((s_Marks.length:Int)-1)]) (fun hg=>lst3 (gd_of hg (I (marks.getD s2 0))) (gd_of hg (I (last+1))) (gd_of hg (I ((s_Marks.length:Int)-1)))) H (fun hg=>(zai (marks.getD s2 0) (last+1) ((s_Marks.length:Int)-1) (M.e_opt aR hg) _ (H.give (A:=[]) rfl)).mono fun v_ w_ ⟨y_,ae,ap,H_⟩=>by subst ae; exact ⟨ap,H.via H_⟩) ?_;intro bo H;refine kI 3 ?_ ?_
   ·intro aS hM;exact kX 11
   intro aS hM;exact kX 9
  intro aQ hM;refine W.exit ?_;obtain rfl:=M.e_inr hM aP;replace hM:=aM;refine kg 7 ?_;refine W.ret ?_;have ae:=M.e_pure hM;exact ⟨_,resE_tmp2 rfl,.inl (⟨e2,ae,rfl,(H.pk [])⟩)⟩
 subst aK;subst vq;replace H:=H.bk ak;have bp:=(ay).len_le;refine kg 18 ?_;obtain ⟨aT,aC,aU⟩:=M.e_bind hM;obtain ⟨aN,aC⟩:=M.e_iter aC;refine W.loop (fun m σ W=>∃ (e2:Int) (last:Int) (s2:Nat) (ρ:Env),σ=upds ρ [(2,Pq ai),(6,Pq al),(7,I e2),(8,I last),(16,ah),(17,I (marks.length:Int)),(18,I (s2:Int))]/\M.iterN (zcT s_Marks marks) m (e2,last,s2)=some aT/\St w W [cBlk al [aa,ab,ac,.map (some am)] 163,cMemI encSpt am (za3 s_Sections s_Marks s_Reaches),cBlk ai [aa,ab,ac] 45] R) ?_ ?_
 ·exact kY
 rintro br σ bt ⟨e2,last,s2,ρ,rfl,aV,H⟩;obtain ⟨bu,bv,bw,hM,aW⟩:=M.e_iterN aV;refine kI 5 ?_ ?_
 ·intro aX hM;obtain ⟨bx,hM⟩:=M.e_gq hM;obtain ⟨aq,hM⟩:=M.e_grd hM;replace aq:=M.imp_of aq;simp only [Bool.and_eq_true,decide_eq_true_eq] at aq;have bz:=(aj).len_le;refine kg 22 ?_;obtain ⟨r2,aY,hM⟩:=M.e_bind hM;refine t_gcall (e2==0) (gy_t rfl) cq (B r2) (fun _=>[I (marks.getD s2 0),I (last+1),I ((s_Marks.length:Int)-1)]) (fun hg=>lst3 (gd_of hg (I (marks.getD s2 0))) (gd_of hg (I (last+1))) (gd_of hg (I ((s_Marks.length:Int)-1)))) H (fun hg=>(zai (marks.getD s2 0) (last+1) ((s_Marks.length:Int)-1) (M.e_opt aY hg) _ (H.give (A:=[]) rfl)).mono fun v_ w_ ⟨y_,ae,ap,H_⟩=>by subst ae; exact ⟨ap,H.via H_⟩) ?_;intro bA H;refine kI 3 ?_ ?_
  ·intro aZ hM;exact kX 11
  intro aZ hM;exact kX 9
 intro aX hM;refine W.exit ?_;obtain rfl:=M.e_inr hM aW;replace hM:=aU;refine kg 7 ?_;refine W.ret ?_;have ae:=M.e_pure hM;exact ⟨_,resE_tmp2 rfl,.inr (⟨e2,al,am,ae,rfl,(H.pk [0,1])⟩)⟩

def zaP (s:List Int) (f:Int->M Bool):Nat->M (Nat ⊕ (Int ⊕ Unit)):=fun s2 =>
  bif decide ((s2:Int)<(s.length:Int)) then (
  M.grd (decide ((s2:Int)<(s.length:Int))) <|
  M.bind (f (s.getD s2 0)) fun r2 =>
  bif r2 then (
  M.pure (.inr (.inl (s2:Int))))
  else (
  M.pure (.inl (s2+1))))
  else (
  M.pure (.inr (.inr ())))
def zay (s:List Int) (f:Int->M Bool):M Int :=
  M.bind (M.iter (zaP s f) 0) fun x_=>match x_ with
  | (.inl s3)=>(
  M.pure s3)
  | (.inr (_:Unit))=>(
  M.pure (-1))
theorem zeN {R ac aa ab}(s f)(au:Reads R ac)(aj:Sl ac aa s)(ak:FnM Tryz.prog R ab f){r}(hM:(zay s f).Ends r)(w)(H:St w w [] R):Ret Tryz.prog 113 #[aa,ab] w fun v w'=>∃ y0,y0=r/\v=I y0/\St w w' [] R:=by
 refine ret_of_W Tryz.func113 rfl rfl rfl ?_;have av:=(aj).len_le;refine kg 12 ?_;obtain ⟨al,ae,ah⟩:=M.e_bind hM;obtain ⟨aw,ae⟩:=M.e_iter ae;refine W.loop (fun m σ W=>∃ (s2:Nat) (ρ:Env),σ=upds ρ [(0,aa),(1,ab),(7,I (s.length:Int)),(8,I (s2:Int))]/\M.iterN (zaP s f) m s2=some al/\St w W [] R) ?_ ?_
 ·exact kY
 rintro ax σ ay ⟨s2,ρ,rfl,am,H⟩;obtain ⟨az,aA,aB,hM,ai⟩:=M.e_iterN am;refine kI 5 ?_ ?_
 ·intro ao hM;obtain ⟨aC,hM⟩:=M.e_gq hM;refine kg 15 ?_;obtain ⟨r2,ap,hM⟩:=M.e_bind hM;refine t_callM H ak rfl rfl (s.getD s2 0) Reads.none (Arg.mkI (fun _=>none) _) ap ?_;intro aD H;refine kI 1 ?_ ?_
  ·intro aq hM;refine kg 5 ?_;obtain rfl:=M.e_inr hM ai;replace hM:=ah;exact rt
  intro aq hM;exact kX 5
 intro ao hM;refine W.exit ?_;obtain rfl:=M.e_inr hM ai;replace hM:=ah;refine kg 4 ?_;exact rt

def zaD (s:List Int) (f:Int->M Bool):M Bool :=
  M.bind (zay s f) fun r2 =>
  M.pure (decide (0<=r2))
theorem zdn {R aa ab ac}(s f)(ae:Reads R aa)(ah:Sl aa ab s)(ai:FnM Tryz.prog R ac f){r}(hM:(zaD s f).Ends r)(w)(H:St w w [] R):Ret Tryz.prog 71 #[ab,ac] w fun v w'=>∃ y0,y0=r/\v=B y0/\St w w' [] R:=by
 refine ret_of_W Tryz.func71 rfl rfl rfl ?_;refine kC 8 @zeN ?_;intro aj r2 hM H;refine kg 3 ?_;exact rt

def zcA (x:Int) (aa:Int->M Bool):M Bool :=
  M.bind (aa x) fun r2 =>
  M.pure (!r2)
theorem zfR {R aa ab}(x ac)(ae:FnM Tryz.prog R ab ac)(ai:Has R (cBlk aa [ab] 112)){r}(hM:(zcA x ac).Ends r)(w)(H:St w w [] R):Ret Tryz.prog 107 #[I x,Pq aa] w fun v w'=>∃ y0,y0=r/\v=B y0/\St w w' [] R:=by
 refine ret_of_W Tryz.func107 rfl rfl rfl ?_;refine kg 8 ?_;obtain ⟨r2,ah,hM⟩:=M.e_bind hM;refine t_callM H ae rfl rfl x Reads.none (Arg.mkI (fun _=>none) _) ah ?_;intro aj H;refine kg 3 ?_;exact rt

def za2 (l:List Int) (so:Int->M Bool):M Bool :=
  M.bind (zaD l (fun aa=>zcA aa so)) fun r2 =>
  M.pure (!r2)
theorem zd0 {R ae aa ah}(l so)(aj:Reads R ae)(ak:Sl ae aa l)(al:FnM Tryz.prog R ah so){r}(hM:(za2 l so).Ends r)(w)(H:St w w [] R):Ret Tryz.prog 64 #[aa,ah] w fun v w'=>∃ y0,y0=r/\v=B y0/\St w w' [] R:=by
 refine ret_of_W Tryz.func64 rfl rfl rfl ?_;refine kB 2 ?_;intro ab az H;refine kg 5 ?_;refine s_val (x_mf (fs:=[]) (cs:=[Pq ab]) rfl rfl) ?_;obtain ⟨aA,am,hM⟩:=M.e_bind hM;refine s_call cq [aa,.func (.func 107) #[] #[Pq ab]] rfl (zdn l (fun ac=>zcA ac so) (aj.app _) ak ⟨107,[Pq ab],rfl,cq,fun ai aB aC ao ac aD ap aE aq au=>by obtain rfl:=Arg.int aq; exact (zfR ac so (FnM.app (al.app _) _) (Has.app (Has.here (k:=0) rfl) _) au ai (St.refl ap)).mono fun ao ai ⟨aF,av,aw,ax⟩=>by subst av; exact ⟨aw,ax⟩⟩ am _ (H.gt 1)) ?_;rintro _ aG ⟨r2,rfl,rfl,ay⟩;replace H:=H.bk ay;refine kg 3 ?_;exact rt

def zba (ab:List Sect) (aa:List Mrk) (ac:List Rch) (a b:Int):M Bool :=
  M.grd (decide ((0:Int)<=a)&&decide (a<(aa.length:Int))) <|
  M.grd (decide ((0:Int)<=b)&&decide (b<(aa.length:Int))) <|
  M.pure ((decide (((aa.getD (Int.toNat a) default).place)<=((aa.getD (Int.toNat b) default).place)))&&(decide (((aa.getD (Int.toNat a) default).hi)<((aa.getD (Int.toNat b) default).lo))))
theorem zfv {R aa ab ac ae ah ai aj ao}(ak al am a b)(ap:Reads R ab)(aq:Sl ab ac ak)(au:Reads R ae)(av:Sl ae ah al)(aw:Reads R ai)(ax:Sl ai aj am)(ay:Has R (cBlk aa [ac,ah,aj,.map (some ao)] 163)){r}(hM:(zba ak al am a b).Ends r)(w)(H:St w w [] R):Ret Tryz.prog 67 #[Pq aa,I a,I b] w fun v w'=>∃ y0,y0=r/\v=B y0/\St w w' [] R:=by
 refine ret_of_W Tryz.func67 rfl rfl rfl ?_;refine kD 5 [] [] ?_;intro az H;obtain ⟨aA,hM⟩:=M.e_gq hM;obtain ⟨aB,hM⟩:=M.e_gq hM;refine kg 44 ?_;exact rt

def zcz (b:Int) (aa:List Sect) (ab:List Mrk) (ac:List Rch) (ae:Int):M Bool :=
  M.bind (zba aa ab ac ae b) fun r2 =>
  M.pure (!r2)
theorem zfw {R aa ab ac ae ah ai aj ak au al}(b am ao ap aq)(av:Reads R ac)(aw:Sl ac ae am)(ax:Reads R ah)(ay:Sl ah ai ao)(az:Reads R aj)(aA:Sl aj ak ap)(aB:Has R (cBlk ab [ae,ai,ak,.map (some au)] 163))(aC:Has R (cBlk aa [Pq ab] 102))(aD:Has R (cBlk al [I aq] 3)){r}(hM:(zcz b am ao ap aq).Ends r)(w)(H:St w w [] R):Ret Tryz.prog 66 #[I b,Pq aa,Pq al] w fun v w'=>∃ y0,y0=r/\v=B y0/\St w w' [] R:=by
 refine ret_of_W Tryz.func66 rfl rfl rfl ?_;refine kC 9 @zfv ?_;intro aE r2 hM H;refine kg 3 ?_;exact rt

def zcm (a:Int) (aa:List Int) (ab:List Sect) (ac:List Mrk) (ae:List Rch):M Bool :=
  M.bind (za2 aa (fun ah=>zcz ah ab ac ae a)) fun r2 =>
  M.pure r2
theorem zfh {R al am ah aa ao ap aq au av aw ax az}(a ai ab ac ae)(aA:Reads R am)(aB:Sl am ah ai)(aT:Has R (cBlk al [ah] 24))(aC:Reads R ap)(aD:Sl ap aq ab)(aE:Reads R au)(aF:Sl au av ac)(aG:Reads R aw)(aH:Sl aw ax ae)(aI:Has R (cBlk ao [aq,av,ax,.map (some az)] 163))(aJ:Has R (cBlk aa [Pq ao] 102)){r}(hM:(zcm a ai ab ac ae).Ends r)(w)(H:St w w [] R):Ret Tryz.prog 65 #[I a,Pq al,Pq aa] w fun v w'=>∃ y0,y0=r/\v=B y0/\St w w' [] R:=by
 refine ret_of_W Tryz.func65 rfl rfl rfl ?_;refine kB 2 ?_;intro aj aU H;refine kg 5 ?_;refine s_val (x_mf (fs:=[]) (cs:=[Pq aa,Pq aj]) rfl rfl) ?_;obtain ⟨aV,aK,hM⟩:=M.e_bind hM;refine s_call cq [ah,.func (.func 66) #[] #[Pq aa,Pq aj]] rfl (zd0 ai (fun ak=>zcz ak ab ac ae a) (aA.app _) aB ⟨66,[Pq aa,Pq aj],rfl,cq,fun ay aW aX aL ak aY aM aZ aN aO=>by obtain rfl:=Arg.int aN; exact (zfw ak ab ac ae a (Reads.app (aC.app _) _) aD (Reads.app (aE.app _) _) aF (Reads.app (aG.app _) _) aH (Has.app (aI.app _) _) (Has.app (aJ.app _) _) (Has.app (Has.here (k:=0) rfl) _) aO ay (St.refl aM)).mono fun aL ay ⟨a6,aP,aQ,aR⟩=>by subst aP; exact ⟨aQ,aR⟩⟩ aK _ (H.gt 1)) ?_;rintro _ a7 ⟨r2,rfl,rfl,aS⟩;replace H:=H.bk aS;refine kg 2 ?_;exact rt

def zcM (aa:List Sect) (ab:List Mrk) (ac:List Rch) (marks:List Int):M Bool :=
  M.bind (za2 marks (fun ae=>zcm ae marks aa ab ac)) fun r2 =>
  M.pure r2
theorem zeZ {R ak al am ao ap aq au az av ae}(aa ab ac marks)(aA:Reads R al)(aB:Sl al am aa)(aC:Reads R ao)(aD:Sl ao ap ab)(aE:Reads R aq)(aF:Sl aq au ac)(aG:Has R (cBlk ak [am,ap,au,.map (some az)] 163))(aw:Reads R av)(ax:Sl av ae marks){r}(hM:(zcM aa ab ac marks).Ends r)(w)(H:St w w [] R):Ret Tryz.prog 27 #[Pq ak,ae] w fun v w'=>∃ y0,y0=r/\v=B y0/\St w w' [] R:=by
 refine ret_of_W Tryz.func27 rfl rfl rfl ?_;refine kB 2 ?_;intro ah aQ H;refine kB 0 ?_;intro ai aR H;refine kg 5 ?_;refine s_val (x_mf (fs:=[]) (cs:=[Pq ai,Pq ah]) rfl rfl) ?_;obtain ⟨aS,aH,hM⟩:=M.e_bind hM;refine s_call cq [ae,.func (.func 65) #[] #[Pq ai,Pq ah]] rfl (zd0 marks (fun aj=>zcm aj marks aa ab ac) (aw.app _) ax ⟨65,[Pq ai,Pq ah],rfl,cq,fun ay aT aU aI aj aV aJ aW aK aL=>by obtain rfl:=Arg.int aK; exact (zfh aj marks aa ab ac (Reads.app (aw.app _) _) ax (Has.app (Has.here (k:=0) rfl) _) (Reads.app (aA.app _) _) aB (Reads.app (aC.app _) _) aD (Reads.app (aE.app _) _) aF (Has.app (aG.app _) _) (Has.app (Has.here (k:=1) rfl) _) aL ay (St.refl aJ)).mono fun aI ay ⟨aX,aM,aN,aO⟩=>by subst aM; exact ⟨aN,aO⟩⟩ aH _ (H.gt 2)) ?_;rintro _ aY ⟨r2,rfl,rfl,aP⟩;replace H:=H.bk aP;refine kg 2 ?_;replace H:=H.pk [];exact rt

def zc5 (l:List Int):(Int × Nat)->M ((Int × Nat) ⊕ Int):=fun (first2,s) =>
  bif decide ((s:Int)<(l.length:Int)) then (
  M.grd (decide ((s:Int)<(l.length:Int))) <|
  M.pure (.inl (min first2 (l.getD s 0),s+1)))
  else (
  M.pure (.inr first2))
def zcU (first:Int) (l:List Int):M Int :=
  M.bind (M.iter (zc5 l) (first,0)) fun first3 =>
  M.pure first3
theorem ze3 {R ab aa}(first l)(am:Reads R ab)(ae:Sl ab aa l){r}(hM:(zcU first l).Ends r)(w)(H:St w w [] R):Ret Tryz.prog 68 #[I first,aa] w fun v w'=>∃ y0,y0=r/\v=I y0/\St w w' [] R:=by
 refine ret_of_W Tryz.func68 rfl rfl rfl ?_;have ao:=(ae).len_le;refine kg 12 ?_;obtain ⟨ah,ac,ai⟩:=M.e_bind hM;obtain ⟨ap,ac⟩:=M.e_iter ac;refine W.loop (fun m σ W=>∃ (first2:Int) (s:Nat) (ρ:Env),σ=upds ρ [(0,I first2),(7,aa),(8,I (l.length:Int)),(9,I (s:Int))]/\M.iterN (zc5 l) m (first2,s)=some ah/\St w W [] R) ?_ ?_
 ·exact kY
 rintro aq σ au ⟨first2,s,ρ,rfl,aj,H⟩;obtain ⟨av,aw,ax,hM,ak⟩:=M.e_iterN aj;refine kI 5 ?_ ?_
 ·intro al hM;obtain ⟨ay,hM⟩:=M.e_gq hM;exact kX 19
 intro al hM;refine W.exit ?_;obtain rfl:=M.e_inr hM ak;replace hM:=ai;refine kg 5 ?_;exact rt

def zcc (ac:List Sect) (aa:List Mrk) (marks:List Int) (ab:Int):(Int × Int × Nat)->M ((Int × Int × Nat) ⊕ (Int × Int)):=fun (s2,s3,s4) =>
  bif decide ((s4:Int)<(marks.length:Int)) then (
  M.grd (decide ((s4:Int)<(marks.length:Int))) <|
  M.grd (decide ((0:Int)<=(marks.getD s4 0))&&decide ((marks.getD s4 0)<(aa.length:Int))) <|
  M.grd (decide ((0:Int)<=ab)&&decide (ab<(ac.length:Int))) <|
  bif decide (((aa.getD (Int.toNat (marks.getD s4 0)) default).place)<=((ac.getD (Int.toNat ab) default).place)) then (
  M.bind (zcU s3 ([((aa.getD (Int.toNat (marks.getD s4 0)) default).hi:Int)])) fun r2 =>
  bif decide (((ac.getD (Int.toNat ab) default).place)<=((aa.getD (Int.toNat (marks.getD s4 0)) default).place)) then (
  M.pure (.inl (max s2 ((aa.getD (Int.toNat (marks.getD s4 0)) default).lo),r2,s4+1)))
  else (
  M.pure (.inl (s2,r2,s4+1))))
  else (
  bif decide (((ac.getD (Int.toNat ab) default).place)<=((aa.getD (Int.toNat (marks.getD s4 0)) default).place)) then (
  M.pure (.inl (max s2 ((aa.getD (Int.toNat (marks.getD s4 0)) default).lo),s3,s4+1)))
  else (
  M.pure (.inl (s2,s3,s4+1)))))
  else (
  M.pure (.inr (s2,s3)))
def zcb (aa:List Sect) (ab:List Mrk) (ae:List Rch) (marks:List Int) (ac:Int):M (Int × Int) :=
  M.bind (M.iter (zcc aa ab marks ac) (0,2000,0)) fun (s5,s6) =>
  M.pure (s5,s6)
theorem zgD {R ac ai aj ak al am ao ax ap ae}(ah aa aq marks ab)(aH:Reads R ai)(aI:Sl ai aj ah)(aJ:Reads R ak)(aK:Sl ak al aa)(aL:Reads R am)(aM:Sl am ao aq)(aN:Has R (cBlk ac [aj,al,ao,.map (some ax)] 163))(aO:Reads R ap)(ay:Sl ap ae marks){r}(hM:(zcb ah aa aq marks ab).Ends r)(w)(H:St w w [] R):Ret Tryz.prog 28 #[Pq ac,ae,I ab] w fun v w'=>∃ y0 y1,(y0,y1)=r/\v = .agg #[I y0,I y1]/\St w w' [] R:=by
 refine ret_of_W Tryz.func28 rfl rfl rfl ?_;refine kA 2 ?_;intro au aP H;refine kA 4 ?_;intro av aQ H;refine ksw ?_;intro aR H;have aS:=(ay).len_le;refine kg 9 ?_;obtain ⟨az,aw,aA⟩:=M.e_bind hM;obtain ⟨aT,aw⟩:=M.e_iter aw;refine W.loop (fun m σ W=>∃ (s2:Int) (s3:Int) (s4:Nat) (ρ:Env),σ=upds ρ [(0,Pq ac),(2,I ab),(6,Pq au),(7,Pq av),(12,ae),(13,I (marks.length:Int)),(14,I (s4:Int))]/\M.iterN (zcc ah aa marks ab) m (s2,s3,s4)=some az/\St w W [cBlk av [I s2,I s3] 27,cBlk au [I 0,I 0] 27] R) ?_ ?_
 ·exact kY
 rintro aU σ aV ⟨s2,s3,s4,ρ,rfl,aB,H⟩;obtain ⟨aW,aX,aY,hM,aC⟩:=M.e_iterN aB;refine kI 5 ?_ ?_
 ·intro aD hM;obtain ⟨aZ,hM⟩:=M.e_gq hM;obtain ⟨a6,hM⟩:=M.e_gq hM;refine kA 19 ?_;intro a7 a8 H;refine ksw ?_;intro ba H;refine kD 3 [0,1,2] [] ?_;intro bb H;obtain ⟨bc,hM⟩:=M.e_gq hM;refine kI 13 ?_ ?_
  ·intro aE hM;refine kL 6 (α:=Int) [(aa.getD (Int.toNat (marks.getD s4 0)) default).hi] ?_;intro bf bg H;refine kC 0 @ze3 ?_;intro bh r2 hM H;refine kS 1 ?_;intro bi H;refine kD 2 [0,1,2,3] [] ?_;intro bj H;refine kI 13 ?_ ?_
   ·intro aF hM;refine kS 8 ?_;intro bm H;refine s_nil ?_;replace H:=H.pk [2,3];exact kX 4
   intro aF hM;refine W.skip ?_;replace H:=H.pk [2,3];exact kX 4
  intro aE hM;refine kD 2 [0,1,2] [] ?_;intro bn H;refine kI 13 ?_ ?_
  ·intro aG hM;refine kS 8 ?_;intro bo H;exact kXp 5 [1,2]
  intro aG hM;exact kXp 5 [1,2]
 intro aD hM;refine W.exit ?_;obtain rfl:=M.e_inr hM aC;replace hM:=aA;refine kS 3 ?_;intro bp H;exact kR 1 []

def zc4 (s_Sections:List Sect) (s_Marks:List Mrk) (s_Reaches:List Rch) (marks:List Int):(Nat × (List Span))->M ((Nat × (List Span)) ⊕ ((List Span) × (List Span))):=fun (s2,l) =>
  bif decide ((s2:Int)<(s_Sections.length:Int)) then (
  M.bind (zcb s_Sections s_Marks s_Reaches marks (s2:Int)) fun (r0,aa) =>
  M.grd (decide ((l.length+([(⟨(r0:Int),(aa:Int)⟩:Span)]).length)*16<=140737488355328)) <|
  M.pure (.inl (s2+1,l++([(⟨(r0:Int),(aa:Int)⟩:Span)]))))
  else (
  M.pure (.inr (l,l)))
def zca (s_Sections:List Sect) (s_Marks:List Mrk) (s_Reaches:List Rch) (marks:List Int):M ((List Span) × Int) :=
  M.bind (zbG s_Sections s_Marks s_Reaches marks) fun x_=>match x_ with
  | (.inl r1)=>(
  bif r1 != 0 then (
  M.pure (([]),r1))
  else (
  M.fail))
  | (.inr aa)=>(
  bif aa != 0 then (
  M.fail)
  else (
  M.bind (zcM s_Sections s_Marks s_Reaches marks) fun r2 =>
  bif !r2 then (
  M.pure (([]),7))
  else (
  M.bind (M.iter (zc4 s_Sections s_Marks s_Reaches marks) (0,[])) fun (l2,l3) =>
  M.pure (l3,0))))
theorem zgG {R ak aa al ab am ac ao ae}(s_Sections s_Marks s_Reaches marks)(aw:Reads R ak)(ap:Sl ak aa s_Sections)(ax:Reads R al)(ay:Sl al ab s_Marks)(az:Reads R am)(aA:Sl am ac s_Reaches)(aB:Reads R ao)(aC:Sl ao ae marks){r}(hM:(zca s_Sections s_Marks s_Reaches marks).Ends r)(w)(H:St w w [] R):Ret Tryz.prog 8 #[.agg #[aa,ab,ac],ae] w fun v w'=>∃ y0 y1 u0,(y0,y1)=r/\v = .tuple #[u0,I y1]/\St w w' [cOwn (α:=Span) 27 u0 y0] R:=by
 refine ret_of_W Tryz.func8 rfl rfl rfl ?_;refine kB 2 ?_;intro aD aQ H;refine kg 7 ?_;obtain ⟨aR,aE,hM⟩:=M.e_bind hM;refine s_call cq [.agg #[aa,ab,ac],ae] rfl (zeV s_Sections s_Marks s_Reaches marks (aw.app _) ap (ax.app _) ay (az.app _) aA (aB.app _) aC aE _ (H.gt 1)) ?_;rintro vq aS (⟨r1,aF,hvq,ah⟩ | ⟨aT,aq,au,aG,hvq,ah⟩)
 ·subst aF;subst vq;replace H:=H.bk ah;refine kI 14 ?_ ?_
  ·intro aH hM;refine kg 6 ?_;refine W.ret ?_;have ai:=M.e_pure hM;replace H:=H.nilOwn (α:=Span) 27;exact ⟨_,resE_tmp2 rfl,⟨([]),r1,(.slice none 0 0),ai,rfl,(H.pk [0])⟩⟩
  intro aH hM;exact (M.e_fail hM).elim
 subst aG;subst vq;replace H:=H.bk ah;refine kI 14 ?_ ?_
 ·intro aI hM;exact (M.e_fail hM).elim
 intro aI hM;refine kC 4 @zeZ ?_;intro aU r2 hM H;refine kI 3 ?_ ?_
 ·intro aJ hM;refine kg 5 ?_;replace H:=H.pk [];refine W.ret ?_;have ai:=M.e_pure hM;replace H:=H.nilOwn (α:=Span) 27;exact ⟨_,resE_tmp2 rfl,⟨([]),7,(.slice none 0 0),ai,rfl,H⟩⟩
 intro aJ hM;have aV:=(ap).len_le;refine kg 14 ?_;replace H:=H.nilOwn (α:=Span) 27;obtain ⟨aK,av,aL⟩:=M.e_bind hM;obtain ⟨aW,av⟩:=M.e_iter av;refine W.loop (fun m σ W=>∃ (s2:Nat) (l:List Span) (aj:Value) (ρ:Env),σ=upds ρ [(1,ae),(6,Pq aq),(8,aj),(27,I (s_Sections.length:Int)),(28,I (s2:Int))]/\M.iterN (zc4 s_Sections s_Marks s_Reaches marks) m (s2,l)=some aK/\St w W [cOwn (α:=Span) 27 aj l,cBlk aq [aa,ab,ac,.map (some au)] 163,cMemI encSpt au (za3 s_Sections s_Marks s_Reaches),cBlk aD [aa,ab,ac] 45] R) ?_ ?_
 ·exact kY
 rintro aX σ aY ⟨s2,l,aj,ρ,rfl,aM,H⟩;obtain ⟨aZ,a6,a7,hM,aN⟩:=M.e_iterN aM;refine kI 5 ?_ ?_
 ·intro aO hM;refine kC 13 @zgD ?_;intro a8 r0 aP hM H;refine kL 0 (α:=Span) [⟨r0,aP⟩] ?_;intro ba bb H;obtain ⟨bc,hM⟩:=M.e_gq hM;refine kP 0 ?_;intro bf bg H;exact kXp 6 [1,2,3,4]
 intro aO hM;refine W.exit ?_;obtain rfl:=M.e_inr hM aN;replace hM:=aL;replace H:=H.pk [0];refine kg 6 ?_;exact rt

end Go.Proofs.YtbgoclcmgbpckabGreat
end
section
set_option maxRecDepth 100000
set_option maxHeartbeats 16000000
namespace Go.Proofs.YtbgoclcmgbpckabGreat
open Go Go.Nm
attribute [local irreducible] gd execOp SL SLD SLT WR
def zbS (bytes:List UInt8):M (Int × Int) :=
  M.pure (0,0)
theorem zdj {R ab aa}(bytes)(ae:Reads R ab)(ah:Sl ab aa bytes){r}(hM:(zbS bytes).Ends r)(w)(H:St w w [] R):Ret Tryz.prog 5 #[aa] w fun v w'=>∃ y0 y1 ac,(y0,y1)=r/\v=Pq ac/\St w w' [cBlk ac [aa,I y0,I y1] 77] R:=by
 refine ret_of_W Tryz.func5 rfl rfl rfl ?_;refine kB 8 ?_;intro ai aj H;refine kg 2 ?_;exact rt

def zaY (v n:Int):M Int :=
  bif decide (n<1) then (
  M.pure 0)
  else (
  M.grd (decide ((0:Int)<n)) <|
  bif decide ((Int.tmod v n)<0) then (
  M.gi ((Int.tmod v n)+n) <|
  M.pure ((Int.tmod v n)+n))
  else (
  M.pure (Int.tmod v n)))
theorem zef {R}(v n){r}(hM:(zaY v n).Ends r)(w)(H:St w w [] R):Ret Tryz.prog 11 #[I v,I n] w fun v w'=>∃ y0,y0=r/\v=I y0/\St w w' [] R:=by
 refine ret_of_W Tryz.func11 rfl rfl rfl ?_;refine kI 10 ?_ ?_
 ·intro aa hM;refine kg 4 ?_;exact rt
 intro aa hM;obtain ⟨ac,hM⟩:=M.e_gq hM;refine kg 5 ?_;refine s_val (x_rem (a:=v) (b:=n) rfl rfl (by omega)) ?_;refine kI 8 ?_ ?_
 ·intro ab hM;obtain ⟨ae,hM⟩:=M.e_gq hM;refine kg 11 ?_;exact rt
 intro ab hM;refine kg 6 ?_;exact rt

def zbN (s_used s_mix n b:Int):M (Int × Int × Int) :=
  M.gi (5*s_mix) <|
  M.gi ((5*s_mix)+b) <|
  M.gi (((5*s_mix)+b)+1) <|
  M.grd (decide ((0:Int)<=(((5*s_mix)+b)+1))&&decide ((0:Int)<251)) <|
  M.gi (s_used+1) <|
  bif decide (256<n) then (
  M.gi (256*b) <|
  M.gi ((256*b)+((((5*s_mix)+b)+1) % 251)) <|
  M.grd (decide ((0:Int)<=((256*b)+((((5*s_mix)+b)+1) % 251)))&&decide ((0:Int)<n)) <|
  M.pure ((((256*b)+((((5*s_mix)+b)+1) % 251)) % n),(s_used+1),((((5*s_mix)+b)+1) % 251)))
  else (
  M.grd (decide ((0:Int)<=b)&&decide ((0:Int)<n)) <|
  M.pure ((b % n),(s_used+1),((((5*s_mix)+b)+1) % 251)))
def zab (s_bytes:List UInt8) (s_used s_mix n:Int):M (Int × Int × Int) :=
  bif ((decide (n<2))||((s_bytes.length:Int)==0)) then (
  M.pure (0,s_used,s_mix))
  else (
  M.grd (decide ((0:Int)<=s_used)&&decide ((0:Int)<(s_bytes.length:Int))) <|
  M.grd (decide ((0:Int)<=(s_used % (s_bytes.length:Int)))&&decide ((s_used % (s_bytes.length:Int))<(s_bytes.length:Int))) <|
  M.grd (decide ((0:Int)<=((s_bytes.getD (Int.toNat (s_used % (s_bytes.length:Int))) 0).toNat:Int))&&decide (((s_bytes.getD (Int.toNat (s_used % (s_bytes.length:Int))) 0).toNat:Int)<(256:Int))) <|
  bif decide ((s_bytes.length:Int)<=s_used) then (
  M.gi (11*s_mix) <|
  M.grd (decide (0<=s_used)&&decide (s_used<=(9223372036854775807:Int))&&decide ((0:Int)<(s_bytes.length:Int))) <|
  M.gi ((11*s_mix)+(s_used / (s_bytes.length:Int))) <|
  M.gi (((s_bytes.getD (Int.toNat (s_used % (s_bytes.length:Int))) 0).toNat:Int)+((11*s_mix)+(s_used / (s_bytes.length:Int)))) <|
  zbN s_used s_mix n (((s_bytes.getD (Int.toNat (s_used % (s_bytes.length:Int))) 0).toNat:Int)+((11*s_mix)+(s_used / (s_bytes.length:Int)))))
  else (
  zbN s_used s_mix n ((s_bytes.getD (Int.toNat (s_used % (s_bytes.length:Int))) 0).toNat:Int)))
theorem zac {R aa ae ac}(s_bytes s_used s_mix n)(ah:Reads R ae)(ab:Sl ae ac s_bytes){r}(hM:(zab s_bytes s_used s_mix n).Ends r)(w)(H:St w w [cBlk aa [ac,I s_used,I s_mix] 77] R):Ret Tryz.prog 9 #[Pq aa,I n] w fun v w'=>∃ y0 y1 y2,(y0,y1,y2)=r/\v=I y0/\St w w' [cBlk aa [ac,I y1,I y2] 77] R:=by
 refine ret_of_W Tryz.func9 rfl rfl rfl ?_;have al:=(ab).len_le;refine kI 18 ?_ ?_
 ·intro ai hM;refine kg 4 ?_;exact rt
 intro ai hM;refine kD 2 [0] [] ?_;intro am H;have ao:=(ab).len_le;obtain ⟨ap,hM⟩:=M.e_gq hM;refine kg 13 ?_;refine d_q rfl (fun w' H=>x_rem' (a:=s_used) (b:=(s_bytes.length:Int)) rfl rfl (by omega)) ?_;obtain ⟨aq,hM⟩:=M.e_gq hM;refine kg 1 ?_;refine d_q rfl (fun w' H=>x_ld (v:=.int .u8 (((s_bytes.getD (Int.toNat (s_used % (s_bytes.length:Int))) 0).toNat:Int))) rfl (ld_sc Sc5.h (At.mono (UInt8_at ab (i:=s_used % (s_bytes.length:Int)) (by omega) (by omega)) (ah.at H)))) ?_;obtain ⟨au,hM⟩:=M.e_gq hM;refine d_q rfl (fun w' H=>x_conv64 (kd:=.u8) (a:=((s_bytes.getD (Int.toNat (s_used % (s_bytes.length:Int))) 0).toNat:Int)) Tryz.underlying5 Tryz.underlying3 rfl (by omega)) ?_;refine kg 2 ?_;refine W.seqJ (fun σ W=>∃ (b:Int) (ρ:Env),σ=upds ρ [(0,Pq aa),(1,I n),(5,I b)]/\(zbN s_used s_mix n b).Ends r/\St w W [cBlk aa [ac,I s_used,I s_mix] 77] R) ?_ ?_
 ·refine kD 1 [0] [] ?_;intro av H;have aw:=(ab).len_le;refine kI 11 ?_ ?_
  ·intro aj hM;refine kD 0 [0] [] ?_;intro ax H;obtain ⟨ay,hM⟩:=M.e_gq hM;have az:=(ab).len_le;obtain ⟨aA,hM⟩:=M.e_gq hM;obtain ⟨aB,hM⟩:=M.e_gq hM;obtain ⟨aC,hM⟩:=M.e_gq hM;refine kg 20 ?_;exact ⟨((s_bytes.getD (Int.toNat (s_used % (s_bytes.length:Int))) 0).toNat:Int)+((11*s_mix)+(s_used / (s_bytes.length:Int))),_,jQ,hM,H⟩
  intro aj hM;refine W.skip ?_;exact ⟨((s_bytes.getD (Int.toNat (s_used % (s_bytes.length:Int))) 0).toNat:Int),_,jQ,hM,H⟩
 rintro _ aD ⟨b,ρ,rfl,hM,H⟩;unfold zbN at hM;obtain ⟨aE,hM⟩:=M.e_gq hM;obtain ⟨aF,hM⟩:=M.e_gq hM;obtain ⟨aG,hM⟩:=M.e_gq hM;obtain ⟨aH,hM⟩:=M.e_gq hM;refine kg 11 ?_;refine s_val (x_rem' (a:=((5*s_mix)+b)+1) (b:=251) rfl rfl (by omega)) ?_;refine kS 2 ?_;intro aI H;obtain ⟨aJ,hM⟩:=M.e_gq hM;refine kS 10 ?_;intro aK H;refine kI 7 ?_ ?_
 ·intro ak hM;obtain ⟨aL,hM⟩:=M.e_gq hM;obtain ⟨aM,hM⟩:=M.e_gq hM;obtain ⟨aN,hM⟩:=M.e_gq hM;refine kg 14 ?_;refine s_val (x_rem' (a:=(256*b)+((((5*s_mix)+b)+1) % 251)) (b:=n) rfl rfl (by omega)) ?_;refine kg 2 ?_;exact rt
 intro ak hM;obtain ⟨aO,hM⟩:=M.e_gq hM;refine kg 5 ?_;refine s_val (x_rem' (a:=b) (b:=n) rfl rfl (by omega)) ?_;refine kg 2 ?_;exact rt

def zae (s_bytes:List UInt8) (s_used s_mix lo hi:Int):M (Int × Int × Int) :=
  M.gi (hi-lo) <|
  M.gi ((hi-lo)+1) <|
  M.bind (zab s_bytes s_used s_mix ((hi-lo)+1)) fun (r2,q1,q2) =>
  M.gi (lo+r2) <|
  M.pure ((lo+r2),q1,q2)
theorem zad {R aa ac ab}(s_bytes s_used s_mix lo hi)(ae:Reads R ac)(ah:Sl ac ab s_bytes){r}(hM:(zae s_bytes s_used s_mix lo hi).Ends r)(w)(H:St w w [cBlk aa [ab,I s_used,I s_mix] 77] R):Ret Tryz.prog 17 #[Pq aa,I lo,I hi] w fun v w'=>∃ y0 y1 y2,(y0,y1,y2)=r/\v=I y0/\St w w' [cBlk aa [ab,I y1,I y2] 77] R:=by
 refine ret_of_W Tryz.func17 rfl rfl rfl ?_;obtain ⟨ai,hM⟩:=M.e_gq hM;obtain ⟨aj,hM⟩:=M.e_gq hM;refine kC 12 @zac ?_;intro ak r2 q1 q2 hM H;obtain ⟨al,hM⟩:=M.e_gq hM;refine kg 3 ?_;exact rt

end Go.Proofs.YtbgoclcmgbpckabGreat
end
section
set_option maxRecDepth 100000
set_option maxHeartbeats 16000000
namespace Go.Proofs.YtbgoclcmgbpckabGreat
open Go Go.Nm
attribute [local irreducible] gd execOp SL SLD SLT WR
def za4 (s_bytes:List UInt8) (stop:Bool) (r2 r3 r4 r5 r6:Int):(Int × Int × Int × Int × Int × (List CMk) × (List Int) × (List Int) × (List Int))->M ((Int × Int × Int × Int × Int × (List CMk) × (List Int) × (List Int) × (List Int)) ⊕ (Int × Int × (List CMk) × (List Int) × (List Int) × (List Int) × (List Int) × (List Int) × (List Int) × (List CMk))):=fun (s2,s3,place,time,n,l,l2,l3,l4) =>
  bif decide (0<n) then (
  bif decide (0<(l.length:Int)) then (
  M.bind (zae s_bytes s2 s3 1 30) fun (r9,ao,ap) =>
  M.gi (place+r9) <|
  M.gi (r2*r9) <|
  M.gi ((r2+r6)*r9) <|
  M.bind (zae s_bytes ao ap (r2*r9) ((r2+r6)*r9)) fun (ab,aq,au) =>
  M.gi (time+ab) <|
  bif stop then (
  M.bind (zab s_bytes aq au 5) fun (av,al,am) =>
  bif (stop&&(av==0)) then (
  M.gi ((l.length:Int)-1) <|
  M.grd (decide ((l4.length+([((l.length:Int)-1:Int)]).length)*8<=140737488355328)) <|
  M.bind (zab s_bytes al am 400) fun (ae,aw,ax) =>
  M.gi ((time+ab)+ae) <|
  M.bind (zab s_bytes aw ax 60) fun (aa,ah,ai) =>
  M.gi (r4*aa) <|
  M.gi (r3+(r4*aa)) <|
  M.gi ((r3+(r4*aa))-r5) <|
  M.gi ((r3+(r4*aa))+r5) <|
  M.grd (decide ((l.length+([(⟨(place+r9:Int),(aa:Int)⟩:CMk)]).length)*16<=140737488355328)) <|
  M.grd (decide ((l2.length+([((time+ab)+ae:Int)]).length)*8<=140737488355328)) <|
  M.bind (zae s_bytes ah ai ((r3+(r4*aa))-r5) ((r3+(r4*aa))+r5)) fun (ac,aj,ak) =>
  M.grd (decide ((l3.length+([(ac:Int)]).length)*8<=140737488355328)) <|
  M.gi (n-1) <|
  M.pure (.inl (aj,ak,place+r9,(time+ab)+ae,n-1,l++([(⟨(place+r9:Int),(aa:Int)⟩:CMk)]),l2++([((time+ab)+ae:Int)]),l3++([(ac:Int)]),l4++([((l.length:Int)-1:Int)]))))
  else (
  M.bind (zab s_bytes al am 60) fun (aa,ah,ai) =>
  M.gi (r4*aa) <|
  M.gi (r3+(r4*aa)) <|
  M.gi ((r3+(r4*aa))-r5) <|
  M.gi ((r3+(r4*aa))+r5) <|
  M.grd (decide ((l.length+([(⟨(place+r9:Int),(aa:Int)⟩:CMk)]).length)*16<=140737488355328)) <|
  M.grd (decide ((l2.length+([(time+ab:Int)]).length)*8<=140737488355328)) <|
  M.bind (zae s_bytes ah ai ((r3+(r4*aa))-r5) ((r3+(r4*aa))+r5)) fun (ac,aj,ak) =>
  M.grd (decide ((l3.length+([(ac:Int)]).length)*8<=140737488355328)) <|
  M.gi (n-1) <|
  M.pure (.inl (aj,ak,place+r9,time+ab,n-1,l++([(⟨(place+r9:Int),(aa:Int)⟩:CMk)]),l2++([(time+ab:Int)]),l3++([(ac:Int)]),l4))))
  else (
  M.fail))
  else (
  M.bind (zab s_bytes s2 s3 60) fun (aa,ah,ai) =>
  M.gi (r4*aa) <|
  M.gi (r3+(r4*aa)) <|
  M.gi ((r3+(r4*aa))-r5) <|
  M.gi ((r3+(r4*aa))+r5) <|
  M.grd (decide ((l.length+([(⟨(place:Int),(aa:Int)⟩:CMk)]).length)*16<=140737488355328)) <|
  M.grd (decide ((l2.length+([(time:Int)]).length)*8<=140737488355328)) <|
  M.bind (zae s_bytes ah ai ((r3+(r4*aa))-r5) ((r3+(r4*aa))+r5)) fun (ac,aj,ak) =>
  M.grd (decide ((l3.length+([(ac:Int)]).length)*8<=140737488355328)) <|
  M.gi (n-1) <|
  M.pure (.inl (aj,ak,place,time,n-1,l++([(⟨(place:Int),(aa:Int)⟩:CMk)]),l2++([(time:Int)]),l3++([(ac:Int)]),l4))))
  else (
  M.pure (.inr (s2,s3,l,l2,l3,l4,l4,l3,l2,l)))
def zbk (s_bytes:List UInt8) (aa ab:List Int) (am:List CMk):(Int × Int × Nat × (List CNt))->M ((Int × Int × Nat × (List CNt)) ⊕ (Int × Int × (List CNt) × (List CNt))):=fun (s6,s7,i,ac) =>
  bif ((decide ((i:Int)<(am.length:Int)))&&(decide ((ac.length:Int)<20))) then (
  M.bind (zab s_bytes s6 s7 2) fun (ao,ak,al) =>
  bif ao==0 then (
  M.grd (decide ((i:Int)<(ab.length:Int))) <|
  M.grd (decide ((i:Int)<(aa.length:Int))) <|
  M.bind (zab s_bytes ak al 40) fun (ae,ap,aq) =>
  M.gi ((ab.getD i 0)-ae) <|
  M.bind (zab s_bytes ap aq 40) fun (ah,au,av) =>
  M.gi ((ab.getD i 0)+ah) <|
  M.bind (zab s_bytes au av 9) fun (ai,aw,ax) =>
  M.gi ((aa.getD i 0)-ai) <|
  M.bind (zab s_bytes aw ax 9) fun (aj,ay,az) =>
  M.gi ((aa.getD i 0)+aj) <|
  M.grd (decide ((ac.length+([(⟨(i:Int),(max 0 ((ab.getD i 0)-ae):Int),((ab.getD i 0)+ah:Int),((aa.getD i 0)-ai:Int),((aa.getD i 0)+aj:Int)⟩:CNt)]).length)*40<=140737488355328)) <|
  M.gi ((i:Int)+1) <|
  M.pure (.inl (ay,az,i+1,ac++([(⟨(i:Int),(max 0 ((ab.getD i 0)-ae):Int),((ab.getD i 0)+ah:Int),((aa.getD i 0)-ai:Int),((aa.getD i 0)+aj:Int)⟩:CNt)]))))
  else (
  M.gi ((i:Int)+1) <|
  M.pure (.inl (ak,al,i+1,ac))))
  else (
  M.pure (.inr (s6,s7,ac,ac)))
def za0 (s_bytes:List UInt8):(Int × Int × (List CNt) × Int)->M ((Int × Int × (List CNt) × Int) ⊕ ((List CNt) × (List CNt) × Int × Int)):=fun (ac,ae,aa,i2) =>
  bif decide (0<i2) then (
  M.gi (i2+1) <|
  M.bind (zab s_bytes ac ae (i2+1)) fun (ab,ah,ai) =>
  M.grd (decide ((0:Int)<=ab)&&decide (ab<(aa.length:Int))) <|
  M.grd (decide ((0:Int)<=i2)&&decide (i2<(aa.length:Int))) <|
  M.grd (decide ((0:Int)<=ab)&&decide (ab<((aa.set (Int.toNat i2) (aa.getD (Int.toNat ab) default)).length:Int))) <|
  M.gi (i2-1) <|
  M.pure (.inl (ah,ai,(aa.set (Int.toNat i2) (aa.getD (Int.toNat ab) default)).set (Int.toNat ab) (aa.getD (Int.toNat i2) default),i2-1)))
  else (
  M.pure (.inr (aa,aa,ac,ae)))
def zb8 (s_bytes:List UInt8) (s_used s_mix marks:Int) (stop:Bool):M (Int × Int × Int × Int × Int × (List CMk) × (List CNt) × (List Int) × (List Int) × (List Int) × Int × Int) :=
  M.bind (zae s_bytes s_used s_mix 1 12) fun (r2,q1,q2) =>
  M.bind (zae s_bytes q1 q2 (-50) 400) fun (r3,ah,ai) =>
  M.bind (zab s_bytes ah ai 12) fun (r4,aj,ak) =>
  M.bind (zab s_bytes aj ak 9) fun (r5,al,am) =>
  M.bind (zab s_bytes al am 6) fun (r6,ao,ap) =>
  M.gi (r2+r6) <|
  M.bind (zab s_bytes ao ap 300) fun (r7,aq,au) =>
  M.bind (zae s_bytes aq au 1 marks) fun (r8,av,aw) =>
  M.bind (M.iter (za4 s_bytes stop r2 r3 r4 r5 r6) (av,aw,0,r7,r8,[],[],[],[])) fun (s4,s5,l5,l6,l7,l8,l9,aa,ab,ac) =>
  M.bind (M.iter (zbk s_bytes aa ab ac) (s4,s5,0,[])) fun (s8,s9,aA,ae) =>
  M.bind (M.iter (za0 s_bytes) (s8,s9,ae,(ae.length:Int)-1)) fun (aB,ax,ay,az) =>
  M.pure (r2,(r2+r6),r3,r4,r5,ac,ax,ab,aa,l9,ay,az)
theorem zfT {R ai bJ aA}(s_bytes s_used s_mix marks stop)(aq:Reads R bJ)(au:Sl bJ aA s_bytes){r}(hM:(zb8 s_bytes s_used s_mix marks stop).Ends r)(w)(H:St w w [cBlk ai [aA,I s_used,I s_mix] 77] R):Ret Tryz.prog 4 #[Pq ai,I marks,B stop] w fun v w'=>∃ y0 y1 y2 y3 y4 y5 y6 y7 y8 y9 bK bL u0 u1 u2 u3 u4,(y0,y1,y2,y3,y4,y5,y6,y7,y8,y9,bK,bL)=r/\v = .tuple #[.agg #[I y0,I y1,I y2,I y3,I y4,u0,u1],.agg #[u2,u3,u4]]/\St w w' [cOwn (α:=CMk) 73 u0 y5,cOwn (α:=CNt) 75 u1 y6,cOwn (α:=Int) 3 u2 y7,cOwn (α:=Int) 3 u3 y8,cOwn (α:=Int) 3 u4 y9,cBlk ai [aA,I bK,I bL] 77] R:=by
 refine ret_of_W Tryz.func4 rfl rfl rfl ?_;refine kg 2 ?_;refine kal ?_;intro aw d6 H;refine kal ?_;intro ax d7 H;refine kg 4 ?_;obtain ⟨d8,bX,hM⟩:=M.e_bind hM;refine s_call cq [Pq ai,I 1,I 12] rfl (zad s_bytes s_used s_mix 1 12 (aq.app _) au bX _ ((H.pk [2,0,1]).gt 2)) ?_;rintro _ d9 ⟨r2,q1,q2,rfl,rfl,ah⟩;replace H:=H.pk [2,0,1] |>.bk ah
 refine s_val (y_bld [I r2,I 0] rfl rfl jF) ?_;refine kg 1 ?_;obtain ⟨ea,bY,hM⟩:=M.e_bind hM;refine s_call cq [Pq ai,I (-50),I 400] rfl (zad s_bytes q1 q2 (-50) 400 (aq.app _) au bY _ (H.gt 2)) ?_;rintro _ eb ⟨r3,bZ,b4,rfl,rfl,ah⟩;replace H:=H.bk ah;refine kg 1 ?_;obtain ⟨ec,b6,hM⟩:=M.e_bind hM;refine s_call cq [Pq ai,I 12] rfl (zac s_bytes bZ b4 12 (aq.app _) au b6 _ (H.gt 2)) ?_;rintro _ ed ⟨r4,b7,b8,rfl,rfl,ah⟩;replace H:=H.bk ah;refine kg 1 ?_;obtain ⟨ef,b9,hM⟩:=M.e_bind hM;refine s_call cq [Pq ai,I 9] rfl (zac s_bytes b7 b8 9 (aq.app _) au b9 _ (H.gt 2)) ?_;rintro _ eg ⟨r5,cb,cc,rfl,rfl,ah⟩;replace H:=H.bk ah;refine s_val (y_bld [I r2,I 0,I r3,I r4,I r5,.slice none 0 0,.slice none 0 0] rfl rfl jF) ?_;refine kal ?_;intro av ei H;refine ksw ?_;intro ej H;refine kg 2 ?_;refine W.drawTS (fun W=>St w W [cBlk av [I r2,I 0,I r3,I r4,I r5,.slice none 0 0,.slice none 0 0] 31,cBlk ax [.slice none 0 0,.slice none 0 0,.slice none 0 0] 33,cBlk aw [I 0,I 0,I 0,I 0,I 0,.slice none 0 0,.slice none 0 0] 31] R) (.q 0 (.q 1 (.q 2 (.q 3 (.l 4 (.q 5 (.q 6 (.q 7 .nil)))))))) 8 [8] mixed (by decide +kernel) rfl ?_;intro em aF;replace H:=H.ext aF;refine ⟨(H.pk [0,2,3]),?_⟩;refine kg 4 ?_;refine ts_l rfl ?_;obtain ⟨eo,cd,hM⟩:=M.e_bind hM;refine s_call cq [Pq ai,I 6] rfl (zac s_bytes cb cc 6 (aq.app _) au cd _ ((H.pk [1,0,2,3]).gt 3)) ?_;rintro _ ep ⟨r6,ce,cf,rfl,rfl,ah⟩;replace H:=H.pk [1,0,2,3] |>.bk ah
 refine s_nil ⟨(H.pk [1,2,3]),?_⟩;obtain ⟨eq,hM⟩:=M.e_gq hM;refine kg 4 ?_;refine sr_l rfl ?_;refine ksw ?_;intro er H;refine s_nil ⟨trivial,?_⟩;refine sr_nil ?_;refine kg 2 ?_;refine kal ?_;intro ay eu H;refine kg 4 ?_;obtain ⟨ew,cg,hM⟩:=M.e_bind hM;refine s_call cq [Pq ai,I 300] rfl (zac s_bytes ce cf 300 (aq.app _) au cg _ ((H.pk [1,0,2,3,4]).gt 4)) ?_;rintro _ ey ⟨r7,ch,cj,rfl,rfl,ah⟩;replace H:=H.pk [1,0,2,3,4] |>.bk ah
 refine kg 8 ?_;obtain ⟨ez,ck,hM⟩:=M.e_bind hM;refine s_call cq [Pq ai,I 1,I marks] rfl (zad s_bytes ch cj 1 marks (aq.app _) au ck _ (H.gt 4)) ?_;rintro _ eA ⟨r8,cn,cp,rfl,rfl,ah⟩;replace H:=H.bk ah;refine kg 3 ?_;replace H:=H.nilOwn (α:=CMk) 73;replace H:=H.nilOwn (α:=Int) 3;replace H:=H.nilOwn (α:=Int) 3;replace H:=H.nilOwn (α:=Int) 3;obtain ⟨cr,aZ,ct⟩:=M.e_bind hM;obtain ⟨bM,aZ⟩:=M.e_iter aZ;refine W.loop (fun m σ W=>∃ (s2:Int) (s3:Int) (place:Int) (time:Int) (n:Int) (l:List CMk) (l2:List Int) (l3:List Int) (l4:List Int) (ak:Value) (al:Value) (am:Value) (aj:Value) (ρ:Env),σ=upds ρ [(0,Pq ai),(2,B stop),(6,Pq aw),(7,Pq ax),(8,Pq av),(9,Pq ay),(10,I place),(11,I time),(12,I n)]/\M.iterN (za4 s_bytes stop r2 r3 r4 r5 r6) m (s2,s3,place,time,n,l,l2,l3,l4)=some cr/\St w W [cOwn (α:=Int) 3 aj l4,cOwn (α:=Int) 3 am l3,cOwn (α:=Int) 3 al l2,cOwn (α:=CMk) 73 ak l,cBlk ai [aA,I s2,I s3] 77,cBlk ay [al,am,aj] 33,cBlk av [I r2,I (r2+r6),I r3,I r4,I r5,ak,.slice none 0 0] 31,cBlk ax [.slice none 0 0,.slice none 0 0,.slice none 0 0] 33,cBlk aw [I 0,I 0,I 0,I 0,I 0,.slice none 0 0,.slice none 0 0] 31] R) ?_ ?_
 ·exact ⟨_,cn,cp,0,r7,r8,[],[],[],[],(.slice none 0 0),(.slice none 0 0),(.slice none 0 0),(.slice none 0 0),_,jQ,aZ,H⟩
 rintro eB σ eC ⟨s2,s3,place,time,n,l,l2,l3,l4,ak,al,am,aj,ρ,rfl,cu,H⟩;obtain ⟨aJ,aK,eD,hM,aI⟩:=M.e_iterN cu;refine kg 6 ?_;refine W.cnd hM rfl (fun cv hM=>?_) (fun cv hM=>?_)
 ·have eE:=((H.os 3)).len_le;refine kg 11 ?_;refine W.cnd hM rfl (fun cB hM=>?_) (fun cB hM=>?_)
  ·refine kg 3 ?_;obtain ⟨eF,cC,hM⟩:=M.e_bind hM;refine s_call cq [Pq ai,I 1,I 30] rfl (zad s_bytes s2 s3 1 30 (aq.app _) au cC _ ((H.pk [4,0,1,2,3,5,6,7,8]).gt 8)) ?_;rintro _ eG ⟨r9,cD,cE,rfl,rfl,ah⟩;replace H:=H.pk [4,0,1,2,3,5,6,7,8] |>.bk ah
   obtain ⟨eH,hM⟩:=M.e_gq hM;obtain ⟨eI,hM⟩:=M.e_gq hM;obtain ⟨eJ,hM⟩:=M.e_gq hM;refine kg 23 ?_;obtain ⟨eK,cF,hM⟩:=M.e_bind hM;refine s_call cq [Pq ai,I (r2*r9),I ((r2+r6)*r9)] rfl (zad s_bytes cD cE (r2*r9) ((r2+r6)*r9) (aq.app _) au cF _ (H.gt 8)) ?_;rintro _ eL ⟨ao,cG,cH,rfl,rfl,ah⟩;replace H:=H.bk ah;obtain ⟨eM,hM⟩:=M.e_gq hM;refine kg 8 ?_;refine g_splitV stop (I 0) (gy_t rfl) (fun aY=>?_) (fun aY=>?_)
   ·replace hM:=M.e_t hM aY;obtain ⟨eN,cI,hM⟩:=M.e_bind hM;refine s_call cq [Pq ai,I 5] (lst2 (gd_of (c:=stop) aY (Pq ai)) rfl) (zac s_bytes cG cH 5 (aq.app _) au cI _ (H.gt 8)) ?_;rintro _ eO ⟨eP,bN,bO,rfl,rfl,ah⟩;replace H:=H.bk ah;refine kg 3 ?_;refine W.cnd hM rfl (fun cJ hM=>?_) (fun cJ hM=>?_)
    ·have eQ:=((H.os 4)).len_le;obtain ⟨eR,hM⟩:=M.e_gq hM;refine kg 8 ?_;refine t_bs (α:=Int) T24.h [I ((l.length:Int)-1)] [((l.length:Int)-1:Int)] H rfl (.cons rfl (Flat.rep_enc _ ((l.length:Int)-1:Int))<|.nil) rfl rfl rfl ?_;intro bP eS H;obtain ⟨eT,hM⟩:=M.e_gq hM;refine t_app (α:=Int) (k:=2) (l:=l4) (l2:=[((l.length:Int)-1:Int)]) (l':=l4++([((l.length:Int)-1:Int)])) (vy:=bP) T24.h rfl H rfl rfl rfl (H.os 0) (H.ol 0) (rfl) (by first | omega | (simp only [List.length_nil] at *; omega)) ?_;intro aQ eU H;replace H:=H.nf;refine kg 1 ?_;refine t_sw 6 2 [aQ] aQ H rfl rfl Sz24.h (Sl.cells (H.os 2)) rfl rfl (by simp only [List.all_cons,List.all_nil,Bool.true_and,Bool.and_true,Sl.oc (H.os 2)]; try rfl) ?_;intro eV H;refine kg 4 ?_;obtain ⟨eW,cK,hM⟩:=M.e_bind hM;refine s_call cq [Pq ai,I 400] rfl (zac s_bytes bN bO 400 (aq.app _) au cK _ ((H.pk [1,0,2,3,4,5,6,7,8,9]).gt 9)) ?_;rintro _ eX ⟨az,cL,cM,rfl,rfl,ah⟩;replace H:=H.pk [1,0,2,3,4,5,6,7,8,9] |>.bk ah
     obtain ⟨eY,hM⟩:=M.e_gq hM;refine kg 7 ?_;obtain ⟨eZ,cN,hM⟩:=M.e_bind hM;refine s_call cq [Pq ai,I 60] rfl (zac s_bytes cL cM 60 (aq.app _) au cN _ (H.gt 9)) ?_;rintro _ e6 ⟨ac,aG,aH,rfl,rfl,ah⟩;replace H:=H.bk ah;refine s_val (y_bld [I (place+r9),I ac] rfl rfl jF) ?_;refine kal ?_;intro aX e7 H;refine ksw ?_;intro e8 H;obtain ⟨e9,hM⟩:=M.e_gq hM;obtain ⟨fa,hM⟩:=M.e_gq hM;refine kg 13 ?_;refine W.drawTS (fun W=>St w W [cBlk aX [I (place+r9),I ac] 73,cOwn (α:=Int) 3 bP ([((l.length:Int)-1:Int)]),cOwn (α:=Int) 3 aQ (l4++([((l.length:Int)-1:Int)])),cBlk ay [al,am,aQ] 33,cBlk av [I r2,I (r2+r6),I r3,I r4,I r5,ak,.slice none 0 0] 31,cBlk ax [.slice none 0 0,.slice none 0 0,.slice none 0 0] 33,cBlk aw [I 0,I 0,I 0,I 0,I 0,.slice none 0 0,.slice none 0 0] 31] R) (.q 0 (.q 1 (.q 2 (.q 5 (.q 6 (.q 7 (.q 10 (.q 11 (.q 12 (.q 13 (.q 14 (.q 15 (.q 16 (.q 17 (.q 18 (.q 19 (.q 20 (.l2 3 (.l2 4 (.q 24 (.l 8 (.l 9 (.l 21 (.l 22 (.l 23 .nil)))))) 8 (.l 4 (.q 24 (.l 9 (.l 21 (.l 22 (.l 23 .nil))))))) 8 (.l 3 (.l 4 (.q 24 (.l 9 (.l 21 (.l 22 (.l 23 .nil))))))))))))))))))))))))) 25 [25,26,27,28,29] mixed (by decide +kernel) rfl ?_;intro fb aF;replace H:=H.ext aF;refine ⟨(H.pk [0,2,3,7,8,9,10]),?_⟩;obtain ⟨fd,hM⟩:=M.e_gq hM;obtain ⟨ff,hM⟩:=M.e_gq hM;refine kg 17 ?_;refine ts_l2 rfl rfl ?_ ?_
     ·refine t_bs (α:=CMk) T28.h [.agg #[I (place+r9),I ac]] [(⟨(place+r9:Int),(ac:Int)⟩:CMk)] H rfl (.cons rfl (Flat.rep_enc _ (⟨(place+r9:Int),(ac:Int)⟩:CMk))<|.nil) rfl rfl rfl ?_;intro bQ fg H;refine s_nil ⟨(H.pk [1,3,4,8,9,10,11]),?_⟩;refine ts_l2 rfl rfl ?_ ?_
      ·obtain ⟨fh,hM⟩:=M.e_gq hM;refine t_app (α:=CMk) (k:=7) (l:=l) (l2:=[(⟨(place+r9:Int),(ac:Int)⟩:CMk)]) (l':=l++([(⟨(place+r9:Int),(ac:Int)⟩:CMk)])) (vy:=bQ) T28.h rfl H rfl rfl rfl (H.os 0) (H.ol 0) (rfl) (by first | omega | (simp only [List.length_nil] at *; omega)) ?_;intro a6 fi H;replace H:=H.nf;refine s_nil ⟨(H.pk [1,3,4,8,9,10,11]),?_⟩;refine kg 1 ?_;refine ts_l rfl ?_;refine t_bs (α:=Int) T24.h [I ((time+ao)+az)] [((time+ao)+az:Int)] H rfl (.cons rfl (Flat.rep_enc _ ((time+ao)+az:Int))<|.nil) rfl rfl rfl ?_;intro cO fj H;refine s_nil ⟨(H.pk [2,4,5,9,10,11,12]),?_⟩;refine ts_l rfl ?_;obtain ⟨fk,hM⟩:=M.e_gq hM;refine t_app (α:=Int) (k:=7) (l:=l2) (l2:=[((time+ao)+az:Int)]) (l':=l2++([((time+ao)+az:Int)])) (vy:=cO) T24.h rfl H rfl rfl rfl (H.os 0) (H.ol 0) (rfl) (by first | omega | (simp only [List.length_nil] at *; omega)) ?_;intro a7 fm H;replace H:=H.nf;refine s_nil ⟨(H.pk [2,4,5,9,10,11,12]),?_⟩;refine ts_l rfl ?_;obtain ⟨fo,cP,hM⟩:=M.e_bind hM;refine s_call cq [Pq ai,I ((r3+(r4*ac))-r5),I ((r3+(r4*ac))+r5)] rfl (zad s_bytes aG aH ((r3+(r4*ac))-r5) ((r3+(r4*ac))+r5) (aq.app _) au cP _ ((H.pk [3,0,1,2,4,5,6,7,8,9,10,11,12]).gt 12)) ?_;rintro _ fp ⟨ae,aD,aE,rfl,rfl,ah⟩;replace H:=H.pk [3,0,1,2,4,5,6,7,8,9,10,11,12] |>.bk ah
       refine s_nil ⟨(H.pk [3,4,5,9,10,11,12]),?_⟩;refine ts_l rfl ?_;refine t_bs (α:=Int) T24.h [I ae] [(ae:Int)] H rfl (.cons rfl (Flat.rep_enc _ (ae:Int))<|.nil) rfl rfl rfl ?_;intro cQ fq H;refine s_nil ⟨(H.pk [4,5,6,10,11,12,13]),?_⟩;refine ts_l rfl ?_;obtain ⟨fu,hM⟩:=M.e_gq hM;refine t_app (α:=Int) (k:=7) (l:=l3) (l2:=[(ae:Int)]) (l':=l3++([(ae:Int)])) (vy:=cQ) T24.h rfl H rfl rfl rfl (H.os 0) (H.ol 0) (rfl) (by first | omega | (simp only [List.length_nil] at *; omega)) ?_;intro a8 fv H;replace H:=H.nf;refine s_nil ⟨(H.pk [4,5,6,10,11,12,13]),?_⟩;refine kg 1 ?_;refine sr_l rfl ?_;refine t_sw 11 5 [a6] a6 H rfl rfl Sz28.h (Sl.cells (H.os 9)) rfl rfl (by simp only [List.all_cons,List.all_nil,Bool.true_and,Bool.and_true,Sl.oc (H.os 9)]; try rfl) ?_;intro fw H;refine s_nil ⟨trivial,?_⟩;refine sr_l rfl ?_;refine kg 1 ?_;refine s_nil ⟨trivial,?_⟩;refine sr_l rfl ?_;refine t_sw 10 0 [a7] a7 H rfl rfl Sz24.h (Sl.cells (H.os 8)) rfl rfl (by simp only [List.all_cons,List.all_nil,Bool.true_and,Bool.and_true,Sl.oc (H.os 8)]; try rfl) ?_;intro fx H;refine s_nil ⟨trivial,?_⟩;refine sr_l rfl ?_;refine kg 1 ?_;refine s_nil ⟨trivial,?_⟩;refine sr_l rfl ?_;refine t_sw 10 1 [a8] a8 H rfl rfl Sz24.h (Sl.cells (H.os 7)) rfl rfl (by simp only [List.all_cons,List.all_nil,Bool.true_and,Bool.and_true,Sl.oc (H.os 7)]; try rfl) ?_;intro fy H;refine s_nil ⟨trivial,?_⟩;refine sr_nil ?_;replace H:=H.pk [1,6,7,8,9,10,11,12,13];obtain ⟨fA,hM⟩:=M.e_gq hM;refine kg 5 ?_;exact ⟨aJ,aK,aD,aE,place+r9,(time+ao)+az,n-1,l++([(⟨(place+r9:Int),(ac:Int)⟩:CMk)]),l2++([((time+ao)+az:Int)]),l3++([(ae:Int)]),l4++([((l.length:Int)-1:Int)]),a6,a7,a8,aQ,_,jQ,M.e_inl hM aI,(H.pk [1,2,3,4,0,5,6,7,8])⟩
      refine t_bs (α:=Int) T24.h [I ((time+ao)+az)] [((time+ao)+az:Int)] H rfl (.cons rfl (Flat.rep_enc _ ((time+ao)+az:Int))<|.nil) rfl rfl rfl ?_;intro cR fB H;refine s_nil ⟨(H.pk [2,4,5,9,10,11,12]),?_⟩;refine ts_l rfl ?_;obtain ⟨fC,hM⟩:=M.e_gq hM;refine t_app (α:=CMk) (k:=8) (l:=l) (l2:=[(⟨(place+r9:Int),(ac:Int)⟩:CMk)]) (l':=l++([(⟨(place+r9:Int),(ac:Int)⟩:CMk)])) (vy:=bQ) T28.h rfl H rfl rfl rfl (H.os 1) (H.ol 1) (rfl) (by first | omega | (simp only [List.length_nil] at *; omega)) ?_;intro ba fD H;replace H:=H.nf;refine s_nil ⟨(H.pk [2,4,5,9,10,11,12]),?_⟩;refine kg 1 ?_;refine ts_l rfl ?_;obtain ⟨fE,hM⟩:=M.e_gq hM;refine t_app (α:=Int) (k:=7) (l:=l2) (l2:=[((time+ao)+az:Int)]) (l':=l2++([((time+ao)+az:Int)])) (vy:=cR) T24.h rfl H rfl rfl rfl (H.os 0) (H.ol 0) (rfl) (by first | omega | (simp only [List.length_nil] at *; omega)) ?_;intro bb fF H;replace H:=H.nf;refine s_nil ⟨(H.pk [2,4,5,9,10,11,12]),?_⟩;refine ts_l rfl ?_;obtain ⟨fG,cS,hM⟩:=M.e_bind hM;refine s_call cq [Pq ai,I ((r3+(r4*ac))-r5),I ((r3+(r4*ac))+r5)] rfl (zad s_bytes aG aH ((r3+(r4*ac))-r5) ((r3+(r4*ac))+r5) (aq.app _) au cS _ ((H.pk [3,0,1,2,4,5,6,7,8,9,10,11,12]).gt 12)) ?_;rintro _ fH ⟨ae,aD,aE,rfl,rfl,ah⟩;replace H:=H.pk [3,0,1,2,4,5,6,7,8,9,10,11,12] |>.bk ah
      refine s_nil ⟨(H.pk [3,4,5,9,10,11,12]),?_⟩;refine ts_l rfl ?_;refine t_bs (α:=Int) T24.h [I ae] [(ae:Int)] H rfl (.cons rfl (Flat.rep_enc _ (ae:Int))<|.nil) rfl rfl rfl ?_;intro cT fI H;refine s_nil ⟨(H.pk [4,5,6,10,11,12,13]),?_⟩;refine ts_l rfl ?_;obtain ⟨fJ,hM⟩:=M.e_gq hM;refine t_app (α:=Int) (k:=7) (l:=l3) (l2:=[(ae:Int)]) (l':=l3++([(ae:Int)])) (vy:=cT) T24.h rfl H rfl rfl rfl (H.os 0) (H.ol 0) (rfl) (by first | omega | (simp only [List.length_nil] at *; omega)) ?_;intro bc fK H;replace H:=H.nf;refine s_nil ⟨(H.pk [4,5,6,10,11,12,13]),?_⟩;refine kg 1 ?_;refine sr_l rfl ?_;refine t_sw 11 5 [ba] ba H rfl rfl Sz28.h (Sl.cells (H.os 9)) rfl rfl (by simp only [List.all_cons,List.all_nil,Bool.true_and,Bool.and_true,Sl.oc (H.os 9)]; try rfl) ?_;intro fL H;refine s_nil ⟨trivial,?_⟩;refine sr_l rfl ?_;refine kg 1 ?_;refine s_nil ⟨trivial,?_⟩;refine sr_l rfl ?_;refine t_sw 10 0 [bb] bb H rfl rfl Sz24.h (Sl.cells (H.os 8)) rfl rfl (by simp only [List.all_cons,List.all_nil,Bool.true_and,Bool.and_true,Sl.oc (H.os 8)]; try rfl) ?_;intro fM H;refine s_nil ⟨trivial,?_⟩;refine sr_l rfl ?_;refine kg 1 ?_;refine s_nil ⟨trivial,?_⟩;refine sr_l rfl ?_;refine t_sw 10 1 [bc] bc H rfl rfl Sz24.h (Sl.cells (H.os 7)) rfl rfl (by simp only [List.all_cons,List.all_nil,Bool.true_and,Bool.and_true,Sl.oc (H.os 7)]; try rfl) ?_;intro fN H;refine s_nil ⟨trivial,?_⟩;refine sr_nil ?_;replace H:=H.pk [1,6,7,8,9,10,11,12,13];obtain ⟨fO,hM⟩:=M.e_gq hM;refine kg 5 ?_;exact ⟨aJ,aK,aD,aE,place+r9,(time+ao)+az,n-1,l++([(⟨(place+r9:Int),(ac:Int)⟩:CMk)]),l2++([((time+ao)+az:Int)]),l3++([(ae:Int)]),l4++([((l.length:Int)-1:Int)]),ba,bb,bc,aQ,_,jQ,M.e_inl hM aI,(H.pk [1,2,3,4,0,5,6,7,8])⟩
     refine t_bs (α:=Int) T24.h [I ((time+ao)+az)] [((time+ao)+az:Int)] H rfl (.cons rfl (Flat.rep_enc _ ((time+ao)+az:Int))<|.nil) rfl rfl rfl ?_;intro cU fP H;refine s_nil ⟨(H.pk [1,3,4,8,9,10,11]),?_⟩;refine ts_l rfl ?_;refine t_bs (α:=CMk) T28.h [.agg #[I (place+r9),I ac]] [(⟨(place+r9:Int),(ac:Int)⟩:CMk)] H rfl (.cons rfl (Flat.rep_enc _ (⟨(place+r9:Int),(ac:Int)⟩:CMk))<|.nil) rfl rfl rfl ?_;intro cV fQ H;refine s_nil ⟨(H.pk [2,4,5,9,10,11,12]),?_⟩;refine ts_l rfl ?_;obtain ⟨fR,hM⟩:=M.e_gq hM;refine t_app (α:=CMk) (k:=8) (l:=l) (l2:=[(⟨(place+r9:Int),(ac:Int)⟩:CMk)]) (l':=l++([(⟨(place+r9:Int),(ac:Int)⟩:CMk)])) (vy:=cV) T28.h rfl H rfl rfl rfl (H.os 0) (H.ol 0) (rfl) (by first | omega | (simp only [List.length_nil] at *; omega)) ?_;intro bf fS H;replace H:=H.nf;refine s_nil ⟨(H.pk [2,4,5,9,10,11,12]),?_⟩;refine kg 1 ?_;refine ts_l rfl ?_;obtain ⟨fT,hM⟩:=M.e_gq hM;refine t_app (α:=Int) (k:=7) (l:=l2) (l2:=[((time+ao)+az:Int)]) (l':=l2++([((time+ao)+az:Int)])) (vy:=cU) T24.h rfl H rfl rfl rfl (H.os 1) (H.ol 1) (rfl) (by first | omega | (simp only [List.length_nil] at *; omega)) ?_;intro bg fU H;replace H:=H.nf;refine s_nil ⟨(H.pk [2,4,5,9,10,11,12]),?_⟩;refine ts_l rfl ?_;obtain ⟨fV,cW,hM⟩:=M.e_bind hM;refine s_call cq [Pq ai,I ((r3+(r4*ac))-r5),I ((r3+(r4*ac))+r5)] rfl (zad s_bytes aG aH ((r3+(r4*ac))-r5) ((r3+(r4*ac))+r5) (aq.app _) au cW _ ((H.pk [3,0,1,2,4,5,6,7,8,9,10,11,12]).gt 12)) ?_;rintro _ fW ⟨ae,aD,aE,rfl,rfl,ah⟩;replace H:=H.pk [3,0,1,2,4,5,6,7,8,9,10,11,12] |>.bk ah
     refine s_nil ⟨(H.pk [3,4,5,9,10,11,12]),?_⟩;refine ts_l rfl ?_;refine t_bs (α:=Int) T24.h [I ae] [(ae:Int)] H rfl (.cons rfl (Flat.rep_enc _ (ae:Int))<|.nil) rfl rfl rfl ?_;intro cX fX H;refine s_nil ⟨(H.pk [4,5,6,10,11,12,13]),?_⟩;refine ts_l rfl ?_;obtain ⟨fY,hM⟩:=M.e_gq hM;refine t_app (α:=Int) (k:=7) (l:=l3) (l2:=[(ae:Int)]) (l':=l3++([(ae:Int)])) (vy:=cX) T24.h rfl H rfl rfl rfl (H.os 0) (H.ol 0) (rfl) (by first | omega | (simp only [List.length_nil] at *; omega)) ?_;intro bh fZ H;replace H:=H.nf;refine s_nil ⟨(H.pk [4,5,6,10,11,12,13]),?_⟩;refine kg 1 ?_;refine sr_l rfl ?_;refine t_sw 11 5 [bf] bf H rfl rfl Sz28.h (Sl.cells (H.os 9)) rfl rfl (by simp only [List.all_cons,List.all_nil,Bool.true_and,Bool.and_true,Sl.oc (H.os 9)]; try rfl) ?_;intro f6 H;refine s_nil ⟨trivial,?_⟩;refine sr_l rfl ?_;refine kg 1 ?_;refine s_nil ⟨trivial,?_⟩;refine sr_l rfl ?_;refine t_sw 10 0 [bg] bg H rfl rfl Sz24.h (Sl.cells (H.os 8)) rfl rfl (by simp only [List.all_cons,List.all_nil,Bool.true_and,Bool.and_true,Sl.oc (H.os 8)]; try rfl) ?_;intro f9 H;refine s_nil ⟨trivial,?_⟩;refine sr_l rfl ?_;refine kg 1 ?_;refine s_nil ⟨trivial,?_⟩;refine sr_l rfl ?_;refine t_sw 10 1 [bh] bh H rfl rfl Sz24.h (Sl.cells (H.os 7)) rfl rfl (by simp only [List.all_cons,List.all_nil,Bool.true_and,Bool.and_true,Sl.oc (H.os 7)]; try rfl) ?_;intro gc H;refine s_nil ⟨trivial,?_⟩;refine sr_nil ?_;replace H:=H.pk [1,6,7,8,9,10,11,12,13];obtain ⟨gf,hM⟩:=M.e_gq hM;refine kg 5 ?_;exact ⟨aJ,aK,aD,aE,place+r9,(time+ao)+az,n-1,l++([(⟨(place+r9:Int),(ac:Int)⟩:CMk)]),l2++([((time+ao)+az:Int)]),l3++([(ae:Int)]),l4++([((l.length:Int)-1:Int)]),bf,bg,bh,aQ,_,jQ,M.e_inl hM aI,(H.pk [1,2,3,4,0,5,6,7,8])⟩
    refine kg 5 ?_;obtain ⟨gg,cY,hM⟩:=M.e_bind hM;refine s_call cq [Pq ai,I 60] rfl (zac s_bytes bN bO 60 (aq.app _) au cY _ (H.gt 8)) ?_;rintro _ gh ⟨ac,aG,aH,rfl,rfl,ah⟩;replace H:=H.bk ah;refine s_val (y_bld [I (place+r9),I ac] rfl rfl jF) ?_;refine kal ?_;intro aX gi H;refine ksw ?_;intro gj H;obtain ⟨gk,hM⟩:=M.e_gq hM;obtain ⟨gl,hM⟩:=M.e_gq hM;refine kg 13 ?_;refine W.drawTS (fun W=>St w W [cBlk aX [I (place+r9),I ac] 73,cOwn (α:=Int) 3 aj l4,cBlk ay [al,am,aj] 33,cBlk av [I r2,I (r2+r6),I r3,I r4,I r5,ak,.slice none 0 0] 31,cBlk ax [.slice none 0 0,.slice none 0 0,.slice none 0 0] 33,cBlk aw [I 0,I 0,I 0,I 0,I 0,.slice none 0 0,.slice none 0 0] 31] R) (.q 0 (.q 1 (.q 2 (.q 5 (.q 6 (.q 7 (.q 10 (.q 11 (.q 12 (.q 13 (.q 14 (.q 15 (.q 16 (.q 17 (.q 18 (.q 19 (.q 20 (.l2 3 (.l2 4 (.q 24 (.l 8 (.l 9 (.l 21 (.l 22 (.l 23 .nil)))))) 8 (.l 4 (.q 24 (.l 9 (.l 21 (.l 22 (.l 23 .nil))))))) 8 (.l 3 (.l 4 (.q 24 (.l 9 (.l 21 (.l 22 (.l 23 .nil))))))))))))))))))))))))) 25 [25,26,27,28,29] mixed (by decide +kernel) rfl ?_;intro gm aF;replace H:=H.ext aF;refine ⟨(H.pk [0,2,6,7,8,9]),?_⟩;obtain ⟨gn,hM⟩:=M.e_gq hM;obtain ⟨gp,hM⟩:=M.e_gq hM;refine kg 17 ?_;refine ts_l2 rfl rfl ?_ ?_
    ·refine t_bs (α:=CMk) T28.h [.agg #[I (place+r9),I ac]] [(⟨(place+r9:Int),(ac:Int)⟩:CMk)] H rfl (.cons rfl (Flat.rep_enc _ (⟨(place+r9:Int),(ac:Int)⟩:CMk))<|.nil) rfl rfl rfl ?_;intro bR gq H;refine s_nil ⟨(H.pk [1,3,7,8,9,10]),?_⟩;refine ts_l2 rfl rfl ?_ ?_
     ·obtain ⟨gr,hM⟩:=M.e_gq hM;refine t_app (α:=CMk) (k:=6) (l:=l) (l2:=[(⟨(place+r9:Int),(ac:Int)⟩:CMk)]) (l':=l++([(⟨(place+r9:Int),(ac:Int)⟩:CMk)])) (vy:=bR) T28.h rfl H rfl rfl rfl (H.os 0) (H.ol 0) (rfl) (by first | omega | (simp only [List.length_nil] at *; omega)) ?_;intro bi gw H;replace H:=H.nf;refine s_nil ⟨(H.pk [1,3,7,8,9,10]),?_⟩;refine kg 1 ?_;refine ts_l rfl ?_;refine t_bs (α:=Int) T24.h [I (time+ao)] [(time+ao:Int)] H rfl (.cons rfl (Flat.rep_enc _ (time+ao:Int))<|.nil) rfl rfl rfl ?_;intro cZ gx H;refine s_nil ⟨(H.pk [2,4,8,9,10,11]),?_⟩;refine ts_l rfl ?_;obtain ⟨gy,hM⟩:=M.e_gq hM;refine t_app (α:=Int) (k:=6) (l:=l2) (l2:=[(time+ao:Int)]) (l':=l2++([(time+ao:Int)])) (vy:=cZ) T24.h rfl H rfl rfl rfl (H.os 0) (H.ol 0) (rfl) (by first | omega | (simp only [List.length_nil] at *; omega)) ?_;intro bj gz H;replace H:=H.nf;refine s_nil ⟨(H.pk [2,4,8,9,10,11]),?_⟩;refine ts_l rfl ?_;obtain ⟨gA,c4,hM⟩:=M.e_bind hM;refine s_call cq [Pq ai,I ((r3+(r4*ac))-r5),I ((r3+(r4*ac))+r5)] rfl (zad s_bytes aG aH ((r3+(r4*ac))-r5) ((r3+(r4*ac))+r5) (aq.app _) au c4 _ ((H.pk [3,0,1,2,4,5,6,7,8,9,10,11]).gt 11)) ?_;rintro _ gB ⟨ae,aD,aE,rfl,rfl,ah⟩;replace H:=H.pk [3,0,1,2,4,5,6,7,8,9,10,11] |>.bk ah
      refine s_nil ⟨(H.pk [3,4,8,9,10,11]),?_⟩;refine ts_l rfl ?_;refine t_bs (α:=Int) T24.h [I ae] [(ae:Int)] H rfl (.cons rfl (Flat.rep_enc _ (ae:Int))<|.nil) rfl rfl rfl ?_;intro c6 gC H;refine s_nil ⟨(H.pk [4,5,9,10,11,12]),?_⟩;refine ts_l rfl ?_;obtain ⟨gD,hM⟩:=M.e_gq hM;refine t_app (α:=Int) (k:=6) (l:=l3) (l2:=[(ae:Int)]) (l':=l3++([(ae:Int)])) (vy:=c6) T24.h rfl H rfl rfl rfl (H.os 0) (H.ol 0) (rfl) (by first | omega | (simp only [List.length_nil] at *; omega)) ?_;intro bm gE H;replace H:=H.nf;refine s_nil ⟨(H.pk [4,5,9,10,11,12]),?_⟩;refine kg 1 ?_;refine sr_l rfl ?_;refine t_sw 10 5 [bi] bi H rfl rfl Sz28.h (Sl.cells (H.os 8)) rfl rfl (by simp only [List.all_cons,List.all_nil,Bool.true_and,Bool.and_true,Sl.oc (H.os 8)]; try rfl) ?_;intro gF H;refine s_nil ⟨trivial,?_⟩;refine sr_l rfl ?_;refine kg 1 ?_;refine s_nil ⟨trivial,?_⟩;refine sr_l rfl ?_;refine t_sw 9 0 [bj] bj H rfl rfl Sz24.h (Sl.cells (H.os 7)) rfl rfl (by simp only [List.all_cons,List.all_nil,Bool.true_and,Bool.and_true,Sl.oc (H.os 7)]; try rfl) ?_;intro gG H;refine s_nil ⟨trivial,?_⟩;refine sr_l rfl ?_;refine kg 1 ?_;refine s_nil ⟨trivial,?_⟩;refine sr_l rfl ?_;refine t_sw 9 1 [bm] bm H rfl rfl Sz24.h (Sl.cells (H.os 6)) rfl rfl (by simp only [List.all_cons,List.all_nil,Bool.true_and,Bool.and_true,Sl.oc (H.os 6)]; try rfl) ?_;intro gH H;refine s_nil ⟨trivial,?_⟩;refine sr_nil ?_;replace H:=H.pk [1,5,6,7,8,9,10,11,12];obtain ⟨gI,hM⟩:=M.e_gq hM;refine kg 5 ?_;exact ⟨aJ,aK,aD,aE,place+r9,time+ao,n-1,l++([(⟨(place+r9:Int),(ac:Int)⟩:CMk)]),l2++([(time+ao:Int)]),l3++([(ae:Int)]),l4,bi,bj,bm,aj,_,jQ,M.e_inl hM aI,(H.pk [1,2,3,4,0,5,6,7,8])⟩
     refine t_bs (α:=Int) T24.h [I (time+ao)] [(time+ao:Int)] H rfl (.cons rfl (Flat.rep_enc _ (time+ao:Int))<|.nil) rfl rfl rfl ?_;intro c7 gJ H;refine s_nil ⟨(H.pk [2,4,8,9,10,11]),?_⟩;refine ts_l rfl ?_;obtain ⟨gK,hM⟩:=M.e_gq hM;refine t_app (α:=CMk) (k:=7) (l:=l) (l2:=[(⟨(place+r9:Int),(ac:Int)⟩:CMk)]) (l':=l++([(⟨(place+r9:Int),(ac:Int)⟩:CMk)])) (vy:=bR) T28.h rfl H rfl rfl rfl (H.os 1) (H.ol 1) (rfl) (by first | omega | (simp only [List.length_nil] at *; omega)) ?_;intro bn gL H;replace H:=H.nf;refine s_nil ⟨(H.pk [2,4,8,9,10,11]),?_⟩;refine kg 1 ?_;refine ts_l rfl ?_;obtain ⟨gM,hM⟩:=M.e_gq hM;refine t_app (α:=Int) (k:=6) (l:=l2) (l2:=[(time+ao:Int)]) (l':=l2++([(time+ao:Int)])) (vy:=c7) T24.h rfl H rfl rfl rfl (H.os 0) (H.ol 0) (rfl) (by first | omega | (simp only [List.length_nil] at *; omega)) ?_;intro bo gN H;replace H:=H.nf;refine s_nil ⟨(H.pk [2,4,8,9,10,11]),?_⟩;refine ts_l rfl ?_;obtain ⟨gO,c8,hM⟩:=M.e_bind hM;refine s_call cq [Pq ai,I ((r3+(r4*ac))-r5),I ((r3+(r4*ac))+r5)] rfl (zad s_bytes aG aH ((r3+(r4*ac))-r5) ((r3+(r4*ac))+r5) (aq.app _) au c8 _ ((H.pk [3,0,1,2,4,5,6,7,8,9,10,11]).gt 11)) ?_;rintro _ gP ⟨ae,aD,aE,rfl,rfl,ah⟩;replace H:=H.pk [3,0,1,2,4,5,6,7,8,9,10,11] |>.bk ah
     refine s_nil ⟨(H.pk [3,4,8,9,10,11]),?_⟩;refine ts_l rfl ?_;refine t_bs (α:=Int) T24.h [I ae] [(ae:Int)] H rfl (.cons rfl (Flat.rep_enc _ (ae:Int))<|.nil) rfl rfl rfl ?_;intro c9 gQ H;refine s_nil ⟨(H.pk [4,5,9,10,11,12]),?_⟩;refine ts_l rfl ?_;obtain ⟨gS,hM⟩:=M.e_gq hM;refine t_app (α:=Int) (k:=6) (l:=l3) (l2:=[(ae:Int)]) (l':=l3++([(ae:Int)])) (vy:=c9) T24.h rfl H rfl rfl rfl (H.os 0) (H.ol 0) (rfl) (by first | omega | (simp only [List.length_nil] at *; omega)) ?_;intro bp gT H;replace H:=H.nf;refine s_nil ⟨(H.pk [4,5,9,10,11,12]),?_⟩;refine kg 1 ?_;refine sr_l rfl ?_;refine t_sw 10 5 [bn] bn H rfl rfl Sz28.h (Sl.cells (H.os 8)) rfl rfl (by simp only [List.all_cons,List.all_nil,Bool.true_and,Bool.and_true,Sl.oc (H.os 8)]; try rfl) ?_;intro gU H;refine s_nil ⟨trivial,?_⟩;refine sr_l rfl ?_;refine kg 1 ?_;refine s_nil ⟨trivial,?_⟩;refine sr_l rfl ?_;refine t_sw 9 0 [bo] bo H rfl rfl Sz24.h (Sl.cells (H.os 7)) rfl rfl (by simp only [List.all_cons,List.all_nil,Bool.true_and,Bool.and_true,Sl.oc (H.os 7)]; try rfl) ?_;intro gV H;refine s_nil ⟨trivial,?_⟩;refine sr_l rfl ?_;refine kg 1 ?_;refine s_nil ⟨trivial,?_⟩;refine sr_l rfl ?_;refine t_sw 9 1 [bp] bp H rfl rfl Sz24.h (Sl.cells (H.os 6)) rfl rfl (by simp only [List.all_cons,List.all_nil,Bool.true_and,Bool.and_true,Sl.oc (H.os 6)]; try rfl) ?_;intro gW H;refine s_nil ⟨trivial,?_⟩;refine sr_nil ?_;replace H:=H.pk [1,5,6,7,8,9,10,11,12];obtain ⟨gX,hM⟩:=M.e_gq hM;refine kg 5 ?_;exact ⟨aJ,aK,aD,aE,place+r9,time+ao,n-1,l++([(⟨(place+r9:Int),(ac:Int)⟩:CMk)]),l2++([(time+ao:Int)]),l3++([(ae:Int)]),l4,bn,bo,bp,aj,_,jQ,M.e_inl hM aI,(H.pk [1,2,3,4,0,5,6,7,8])⟩
    refine t_bs (α:=Int) T24.h [I (time+ao)] [(time+ao:Int)] H rfl (.cons rfl (Flat.rep_enc _ (time+ao:Int))<|.nil) rfl rfl rfl ?_;intro da gY H;refine s_nil ⟨(H.pk [1,3,7,8,9,10]),?_⟩;refine ts_l rfl ?_;refine t_bs (α:=CMk) T28.h [.agg #[I (place+r9),I ac]] [(⟨(place+r9:Int),(ac:Int)⟩:CMk)] H rfl (.cons rfl (Flat.rep_enc _ (⟨(place+r9:Int),(ac:Int)⟩:CMk))<|.nil) rfl rfl rfl ?_;intro db gZ H;refine s_nil ⟨(H.pk [2,4,8,9,10,11]),?_⟩;refine ts_l rfl ?_;obtain ⟨g0,hM⟩:=M.e_gq hM;refine t_app (α:=CMk) (k:=7) (l:=l) (l2:=[(⟨(place+r9:Int),(ac:Int)⟩:CMk)]) (l':=l++([(⟨(place+r9:Int),(ac:Int)⟩:CMk)])) (vy:=db) T28.h rfl H rfl rfl rfl (H.os 0) (H.ol 0) (rfl) (by first | omega | (simp only [List.length_nil] at *; omega)) ?_;intro br hZ H;replace H:=H.nf;refine s_nil ⟨(H.pk [2,4,8,9,10,11]),?_⟩;refine kg 1 ?_;refine ts_l rfl ?_;obtain ⟨ia,hM⟩:=M.e_gq hM;refine t_app (α:=Int) (k:=6) (l:=l2) (l2:=[(time+ao:Int)]) (l':=l2++([(time+ao:Int)])) (vy:=da) T24.h rfl H rfl rfl rfl (H.os 1) (H.ol 1) (rfl) (by first | omega | (simp only [List.length_nil] at *; omega)) ?_;intro bt ib H;replace H:=H.nf;refine s_nil ⟨(H.pk [2,4,8,9,10,11]),?_⟩;refine ts_l rfl ?_;obtain ⟨ic,dc,hM⟩:=M.e_bind hM;refine s_call cq [Pq ai,I ((r3+(r4*ac))-r5),I ((r3+(r4*ac))+r5)] rfl (zad s_bytes aG aH ((r3+(r4*ac))-r5) ((r3+(r4*ac))+r5) (aq.app _) au dc _ ((H.pk [3,0,1,2,4,5,6,7,8,9,10,11]).gt 11)) ?_;rintro _ ie ⟨ae,aD,aE,rfl,rfl,ah⟩;replace H:=H.pk [3,0,1,2,4,5,6,7,8,9,10,11] |>.bk ah
    refine s_nil ⟨(H.pk [3,4,8,9,10,11]),?_⟩;refine ts_l rfl ?_;refine t_bs (α:=Int) T24.h [I ae] [(ae:Int)] H rfl (.cons rfl (Flat.rep_enc _ (ae:Int))<|.nil) rfl rfl rfl ?_;intro dg ig H;refine s_nil ⟨(H.pk [4,5,9,10,11,12]),?_⟩;refine ts_l rfl ?_;obtain ⟨ii,hM⟩:=M.e_gq hM;refine t_app (α:=Int) (k:=6) (l:=l3) (l2:=[(ae:Int)]) (l':=l3++([(ae:Int)])) (vy:=dg) T24.h rfl H rfl rfl rfl (H.os 0) (H.ol 0) (rfl) (by first | omega | (simp only [List.length_nil] at *; omega)) ?_;intro bu ij H;replace H:=H.nf;refine s_nil ⟨(H.pk [4,5,9,10,11,12]),?_⟩;refine kg 1 ?_;refine sr_l rfl ?_;refine t_sw 10 5 [br] br H rfl rfl Sz28.h (Sl.cells (H.os 8)) rfl rfl (by simp only [List.all_cons,List.all_nil,Bool.true_and,Bool.and_true,Sl.oc (H.os 8)]; try rfl) ?_;intro ik H;refine s_nil ⟨trivial,?_⟩;refine sr_l rfl ?_;refine kg 1 ?_;refine s_nil ⟨trivial,?_⟩;refine sr_l rfl ?_;refine t_sw 9 0 [bt] bt H rfl rfl Sz24.h (Sl.cells (H.os 7)) rfl rfl (by simp only [List.all_cons,List.all_nil,Bool.true_and,Bool.and_true,Sl.oc (H.os 7)]; try rfl) ?_;intro il H;refine s_nil ⟨trivial,?_⟩;refine sr_l rfl ?_;refine kg 1 ?_;refine s_nil ⟨trivial,?_⟩;refine sr_l rfl ?_;refine t_sw 9 1 [bu] bu H rfl rfl Sz24.h (Sl.cells (H.os 6)) rfl rfl (by simp only [List.all_cons,List.all_nil,Bool.true_and,Bool.and_true,Sl.oc (H.os 6)]; try rfl) ?_;intro im H;refine s_nil ⟨trivial,?_⟩;refine sr_nil ?_;replace H:=H.pk [1,5,6,7,8,9,10,11,12];obtain ⟨io,hM⟩:=M.e_gq hM;refine kg 5 ?_;exact ⟨aJ,aK,aD,aE,place+r9,time+ao,n-1,l++([(⟨(place+r9:Int),(ac:Int)⟩:CMk)]),l2++([(time+ao:Int)]),l3++([(ae:Int)]),l4,br,bt,bu,aj,_,jQ,M.e_inl hM aI,(H.pk [1,2,3,4,0,5,6,7,8])⟩
   replace hM:=M.e_f hM aY;exact (M.e_fail hM).elim
  refine kg 5 ?_;obtain ⟨iq,dh,hM⟩:=M.e_bind hM;refine s_call cq [Pq ai,I 60] rfl (zac s_bytes s2 s3 60 (aq.app _) au dh _ ((H.pk [4,0,1,2,3,5,6,7,8]).gt 8)) ?_;rintro _ ir ⟨ac,aG,aH,rfl,rfl,ah⟩;replace H:=H.pk [4,0,1,2,3,5,6,7,8] |>.bk ah
  refine s_val (y_bld [I place,I ac] rfl rfl jF) ?_;refine kal ?_;intro aX iw H;refine ksw ?_;intro iy H;obtain ⟨iz,hM⟩:=M.e_gq hM;obtain ⟨iA,hM⟩:=M.e_gq hM;refine kg 13 ?_;refine W.drawTS (fun W=>St w W [cBlk aX [I place,I ac] 73,cOwn (α:=Int) 3 aj l4,cBlk ay [al,am,aj] 33,cBlk av [I r2,I (r2+r6),I r3,I r4,I r5,ak,.slice none 0 0] 31,cBlk ax [.slice none 0 0,.slice none 0 0,.slice none 0 0] 33,cBlk aw [I 0,I 0,I 0,I 0,I 0,.slice none 0 0,.slice none 0 0] 31] R) (.q 0 (.q 1 (.q 2 (.q 5 (.q 6 (.q 7 (.q 10 (.q 11 (.q 12 (.q 13 (.q 14 (.q 15 (.q 16 (.q 17 (.q 18 (.q 19 (.q 20 (.l2 3 (.l2 4 (.q 24 (.l 8 (.l 9 (.l 21 (.l 22 (.l 23 .nil)))))) 8 (.l 4 (.q 24 (.l 9 (.l 21 (.l 22 (.l 23 .nil))))))) 8 (.l 3 (.l 4 (.q 24 (.l 9 (.l 21 (.l 22 (.l 23 .nil))))))))))))))))))))))))) 25 [25,26,27,28,29] mixed (by decide +kernel) rfl ?_;intro iB aF;replace H:=H.ext aF;refine ⟨(H.pk [0,2,6,7,8,9]),?_⟩;obtain ⟨iC,hM⟩:=M.e_gq hM;obtain ⟨iD,hM⟩:=M.e_gq hM;refine kg 17 ?_;refine ts_l2 rfl rfl ?_ ?_
  ·refine t_bs (α:=CMk) T28.h [.agg #[I place,I ac]] [(⟨(place:Int),(ac:Int)⟩:CMk)] H rfl (.cons rfl (Flat.rep_enc _ (⟨(place:Int),(ac:Int)⟩:CMk))<|.nil) rfl rfl rfl ?_;intro bS iE H;refine s_nil ⟨(H.pk [1,3,7,8,9,10]),?_⟩;refine ts_l2 rfl rfl ?_ ?_
   ·obtain ⟨iF,hM⟩:=M.e_gq hM;refine t_app (α:=CMk) (k:=6) (l:=l) (l2:=[(⟨(place:Int),(ac:Int)⟩:CMk)]) (l':=l++([(⟨(place:Int),(ac:Int)⟩:CMk)])) (vy:=bS) T28.h rfl H rfl rfl rfl (H.os 0) (H.ol 0) (rfl) (by first | omega | (simp only [List.length_nil] at *; omega)) ?_;intro bv iG H;replace H:=H.nf;refine s_nil ⟨(H.pk [1,3,7,8,9,10]),?_⟩;refine kg 1 ?_;refine ts_l rfl ?_;refine t_bs (α:=Int) T24.h [I time] [(time:Int)] H rfl (.cons rfl (Flat.rep_enc _ (time:Int))<|.nil) rfl rfl rfl ?_;intro di iH H;refine s_nil ⟨(H.pk [2,4,8,9,10,11]),?_⟩;refine ts_l rfl ?_;obtain ⟨iI,hM⟩:=M.e_gq hM;refine t_app (α:=Int) (k:=6) (l:=l2) (l2:=[(time:Int)]) (l':=l2++([(time:Int)])) (vy:=di) T24.h rfl H rfl rfl rfl (H.os 0) (H.ol 0) (rfl) (by first | omega | (simp only [List.length_nil] at *; omega)) ?_;intro bw iJ H;replace H:=H.nf;refine s_nil ⟨(H.pk [2,4,8,9,10,11]),?_⟩;refine ts_l rfl ?_;obtain ⟨iK,dj,hM⟩:=M.e_bind hM;refine s_call cq [Pq ai,I ((r3+(r4*ac))-r5),I ((r3+(r4*ac))+r5)] rfl (zad s_bytes aG aH ((r3+(r4*ac))-r5) ((r3+(r4*ac))+r5) (aq.app _) au dj _ ((H.pk [3,0,1,2,4,5,6,7,8,9,10,11]).gt 11)) ?_;rintro _ iL ⟨ae,aD,aE,rfl,rfl,ah⟩;replace H:=H.pk [3,0,1,2,4,5,6,7,8,9,10,11] |>.bk ah
    refine s_nil ⟨(H.pk [3,4,8,9,10,11]),?_⟩;refine ts_l rfl ?_;refine t_bs (α:=Int) T24.h [I ae] [(ae:Int)] H rfl (.cons rfl (Flat.rep_enc _ (ae:Int))<|.nil) rfl rfl rfl ?_;intro dk iM H;refine s_nil ⟨(H.pk [4,5,9,10,11,12]),?_⟩;refine ts_l rfl ?_;obtain ⟨iN,hM⟩:=M.e_gq hM;refine t_app (α:=Int) (k:=6) (l:=l3) (l2:=[(ae:Int)]) (l':=l3++([(ae:Int)])) (vy:=dk) T24.h rfl H rfl rfl rfl (H.os 0) (H.ol 0) (rfl) (by first | omega | (simp only [List.length_nil] at *; omega)) ?_;intro bx iO H;replace H:=H.nf;refine s_nil ⟨(H.pk [4,5,9,10,11,12]),?_⟩;refine kg 1 ?_;refine sr_l rfl ?_;refine t_sw 10 5 [bv] bv H rfl rfl Sz28.h (Sl.cells (H.os 8)) rfl rfl (by simp only [List.all_cons,List.all_nil,Bool.true_and,Bool.and_true,Sl.oc (H.os 8)]; try rfl) ?_;intro iP H;refine s_nil ⟨trivial,?_⟩;refine sr_l rfl ?_;refine kg 1 ?_;refine s_nil ⟨trivial,?_⟩;refine sr_l rfl ?_;refine t_sw 9 0 [bw] bw H rfl rfl Sz24.h (Sl.cells (H.os 7)) rfl rfl (by simp only [List.all_cons,List.all_nil,Bool.true_and,Bool.and_true,Sl.oc (H.os 7)]; try rfl) ?_;intro iQ H;refine s_nil ⟨trivial,?_⟩;refine sr_l rfl ?_;refine kg 1 ?_;refine s_nil ⟨trivial,?_⟩;refine sr_l rfl ?_;refine t_sw 9 1 [bx] bx H rfl rfl Sz24.h (Sl.cells (H.os 6)) rfl rfl (by simp only [List.all_cons,List.all_nil,Bool.true_and,Bool.and_true,Sl.oc (H.os 6)]; try rfl) ?_;intro iR H;refine s_nil ⟨trivial,?_⟩;refine sr_nil ?_;replace H:=H.pk [1,5,6,7,8,9,10,11,12];obtain ⟨iS,hM⟩:=M.e_gq hM;refine kg 5 ?_;exact ⟨aJ,aK,aD,aE,place,time,n-1,l++([(⟨(place:Int),(ac:Int)⟩:CMk)]),l2++([(time:Int)]),l3++([(ae:Int)]),l4,bv,bw,bx,aj,_,jQ,M.e_inl hM aI,(H.pk [1,2,3,4,0,5,6,7,8])⟩
   refine t_bs (α:=Int) T24.h [I time] [(time:Int)] H rfl (.cons rfl (Flat.rep_enc _ (time:Int))<|.nil) rfl rfl rfl ?_;intro dm iT H;refine s_nil ⟨(H.pk [2,4,8,9,10,11]),?_⟩;refine ts_l rfl ?_;obtain ⟨iU,hM⟩:=M.e_gq hM;refine t_app (α:=CMk) (k:=7) (l:=l) (l2:=[(⟨(place:Int),(ac:Int)⟩:CMk)]) (l':=l++([(⟨(place:Int),(ac:Int)⟩:CMk)])) (vy:=bS) T28.h rfl H rfl rfl rfl (H.os 1) (H.ol 1) (rfl) (by first | omega | (simp only [List.length_nil] at *; omega)) ?_;intro bz iV H;replace H:=H.nf;refine s_nil ⟨(H.pk [2,4,8,9,10,11]),?_⟩;refine kg 1 ?_;refine ts_l rfl ?_;obtain ⟨iW,hM⟩:=M.e_gq hM;refine t_app (α:=Int) (k:=6) (l:=l2) (l2:=[(time:Int)]) (l':=l2++([(time:Int)])) (vy:=dm) T24.h rfl H rfl rfl rfl (H.os 0) (H.ol 0) (rfl) (by first | omega | (simp only [List.length_nil] at *; omega)) ?_;intro bA iX H;replace H:=H.nf;refine s_nil ⟨(H.pk [2,4,8,9,10,11]),?_⟩;refine ts_l rfl ?_;obtain ⟨iY,dp,hM⟩:=M.e_bind hM;refine s_call cq [Pq ai,I ((r3+(r4*ac))-r5),I ((r3+(r4*ac))+r5)] rfl (zad s_bytes aG aH ((r3+(r4*ac))-r5) ((r3+(r4*ac))+r5) (aq.app _) au dp _ ((H.pk [3,0,1,2,4,5,6,7,8,9,10,11]).gt 11)) ?_;rintro _ iZ ⟨ae,aD,aE,rfl,rfl,ah⟩;replace H:=H.pk [3,0,1,2,4,5,6,7,8,9,10,11] |>.bk ah
   refine s_nil ⟨(H.pk [3,4,8,9,10,11]),?_⟩;refine ts_l rfl ?_;refine t_bs (α:=Int) T24.h [I ae] [(ae:Int)] H rfl (.cons rfl (Flat.rep_enc _ (ae:Int))<|.nil) rfl rfl rfl ?_;intro dq i0 H;refine s_nil ⟨(H.pk [4,5,9,10,11,12]),?_⟩;refine ts_l rfl ?_;obtain ⟨i6,hM⟩:=M.e_gq hM;refine t_app (α:=Int) (k:=6) (l:=l3) (l2:=[(ae:Int)]) (l':=l3++([(ae:Int)])) (vy:=dq) T24.h rfl H rfl rfl rfl (H.os 0) (H.ol 0) (rfl) (by first | omega | (simp only [List.length_nil] at *; omega)) ?_;intro bB i7 H;replace H:=H.nf;refine s_nil ⟨(H.pk [4,5,9,10,11,12]),?_⟩;refine kg 1 ?_;refine sr_l rfl ?_;refine t_sw 10 5 [bz] bz H rfl rfl Sz28.h (Sl.cells (H.os 8)) rfl rfl (by simp only [List.all_cons,List.all_nil,Bool.true_and,Bool.and_true,Sl.oc (H.os 8)]; try rfl) ?_;intro i8 H;refine s_nil ⟨trivial,?_⟩;refine sr_l rfl ?_;refine kg 1 ?_;refine s_nil ⟨trivial,?_⟩;refine sr_l rfl ?_;refine t_sw 9 0 [bA] bA H rfl rfl Sz24.h (Sl.cells (H.os 7)) rfl rfl (by simp only [List.all_cons,List.all_nil,Bool.true_and,Bool.and_true,Sl.oc (H.os 7)]; try rfl) ?_;intro i9 H;refine s_nil ⟨trivial,?_⟩;refine sr_l rfl ?_;refine kg 1 ?_;refine s_nil ⟨trivial,?_⟩;refine sr_l rfl ?_;refine t_sw 9 1 [bB] bB H rfl rfl Sz24.h (Sl.cells (H.os 6)) rfl rfl (by simp only [List.all_cons,List.all_nil,Bool.true_and,Bool.and_true,Sl.oc (H.os 6)]; try rfl) ?_;intro ja H;refine s_nil ⟨trivial,?_⟩;refine sr_nil ?_;replace H:=H.pk [1,5,6,7,8,9,10,11,12];obtain ⟨jb,hM⟩:=M.e_gq hM;refine kg 5 ?_;exact ⟨aJ,aK,aD,aE,place,time,n-1,l++([(⟨(place:Int),(ac:Int)⟩:CMk)]),l2++([(time:Int)]),l3++([(ae:Int)]),l4,bz,bA,bB,aj,_,jQ,M.e_inl hM aI,(H.pk [1,2,3,4,0,5,6,7,8])⟩
  refine t_bs (α:=Int) T24.h [I time] [(time:Int)] H rfl (.cons rfl (Flat.rep_enc _ (time:Int))<|.nil) rfl rfl rfl ?_;intro dr jc H;refine s_nil ⟨(H.pk [1,3,7,8,9,10]),?_⟩;refine ts_l rfl ?_;refine t_bs (α:=CMk) T28.h [.agg #[I place,I ac]] [(⟨(place:Int),(ac:Int)⟩:CMk)] H rfl (.cons rfl (Flat.rep_enc _ (⟨(place:Int),(ac:Int)⟩:CMk))<|.nil) rfl rfl rfl ?_;intro dt jd H;refine s_nil ⟨(H.pk [2,4,8,9,10,11]),?_⟩;refine ts_l rfl ?_;obtain ⟨je,hM⟩:=M.e_gq hM;refine t_app (α:=CMk) (k:=7) (l:=l) (l2:=[(⟨(place:Int),(ac:Int)⟩:CMk)]) (l':=l++([(⟨(place:Int),(ac:Int)⟩:CMk)])) (vy:=dt) T28.h rfl H rfl rfl rfl (H.os 0) (H.ol 0) (rfl) (by first | omega | (simp only [List.length_nil] at *; omega)) ?_;intro bC jf H;replace H:=H.nf;refine s_nil ⟨(H.pk [2,4,8,9,10,11]),?_⟩;refine kg 1 ?_;refine ts_l rfl ?_;obtain ⟨jg,hM⟩:=M.e_gq hM;refine t_app (α:=Int) (k:=6) (l:=l2) (l2:=[(time:Int)]) (l':=l2++([(time:Int)])) (vy:=dr) T24.h rfl H rfl rfl rfl (H.os 1) (H.ol 1) (rfl) (by first | omega | (simp only [List.length_nil] at *; omega)) ?_;intro bD jh H;replace H:=H.nf;refine s_nil ⟨(H.pk [2,4,8,9,10,11]),?_⟩;refine ts_l rfl ?_;obtain ⟨ji,du,hM⟩:=M.e_bind hM;refine s_call cq [Pq ai,I ((r3+(r4*ac))-r5),I ((r3+(r4*ac))+r5)] rfl (zad s_bytes aG aH ((r3+(r4*ac))-r5) ((r3+(r4*ac))+r5) (aq.app _) au du _ ((H.pk [3,0,1,2,4,5,6,7,8,9,10,11]).gt 11)) ?_;rintro _ jj ⟨ae,aD,aE,rfl,rfl,ah⟩;replace H:=H.pk [3,0,1,2,4,5,6,7,8,9,10,11] |>.bk ah
  refine s_nil ⟨(H.pk [3,4,8,9,10,11]),?_⟩;refine ts_l rfl ?_;refine t_bs (α:=Int) T24.h [I ae] [(ae:Int)] H rfl (.cons rfl (Flat.rep_enc _ (ae:Int))<|.nil) rfl rfl rfl ?_;intro dv jk H;refine s_nil ⟨(H.pk [4,5,9,10,11,12]),?_⟩;refine ts_l rfl ?_;obtain ⟨jl,hM⟩:=M.e_gq hM;refine t_app (α:=Int) (k:=6) (l:=l3) (l2:=[(ae:Int)]) (l':=l3++([(ae:Int)])) (vy:=dv) T24.h rfl H rfl rfl rfl (H.os 0) (H.ol 0) (rfl) (by first | omega | (simp only [List.length_nil] at *; omega)) ?_;intro bE jm H;replace H:=H.nf;refine s_nil ⟨(H.pk [4,5,9,10,11,12]),?_⟩;refine kg 1 ?_;refine sr_l rfl ?_;refine t_sw 10 5 [bC] bC H rfl rfl Sz28.h (Sl.cells (H.os 8)) rfl rfl (by simp only [List.all_cons,List.all_nil,Bool.true_and,Bool.and_true,Sl.oc (H.os 8)]; try rfl) ?_;intro jn H;refine s_nil ⟨trivial,?_⟩;refine sr_l rfl ?_;refine kg 1 ?_;refine s_nil ⟨trivial,?_⟩;refine sr_l rfl ?_;refine t_sw 9 0 [bD] bD H rfl rfl Sz24.h (Sl.cells (H.os 7)) rfl rfl (by simp only [List.all_cons,List.all_nil,Bool.true_and,Bool.and_true,Sl.oc (H.os 7)]; try rfl) ?_;intro jo H;refine s_nil ⟨trivial,?_⟩;refine sr_l rfl ?_;refine kg 1 ?_;refine s_nil ⟨trivial,?_⟩;refine sr_l rfl ?_;refine t_sw 9 1 [bE] bE H rfl rfl Sz24.h (Sl.cells (H.os 6)) rfl rfl (by simp only [List.all_cons,List.all_nil,Bool.true_and,Bool.and_true,Sl.oc (H.os 6)]; try rfl) ?_;intro jp H;refine s_nil ⟨trivial,?_⟩;refine sr_nil ?_;replace H:=H.pk [1,5,6,7,8,9,10,11,12];obtain ⟨jq,hM⟩:=M.e_gq hM;refine kg 5 ?_;exact ⟨aJ,aK,aD,aE,place,time,n-1,l++([(⟨(place:Int),(ac:Int)⟩:CMk)]),l2++([(time:Int)]),l3++([(ae:Int)]),l4,bC,bD,bE,aj,_,jQ,M.e_inl hM aI,(H.pk [1,2,3,4,0,5,6,7,8])⟩
 refine W.exit ?_;obtain rfl:=M.e_inr hM aI;replace hM:=ct;refine kg 6 ?_;replace H:=H.nilOwn (α:=CNt) 75;obtain ⟨dx,bF,dy⟩:=M.e_bind hM;obtain ⟨bM,bF⟩:=M.e_iter bF;refine W.loop (fun m σ W=>∃ (s6:Int) (s7:Int) (i:Nat) (aL:List CNt) (aS:Value) (ρ:Env),σ=upds ρ [(0,Pq ai),(6,Pq aw),(7,Pq ax),(8,Pq av),(9,Pq ay),(16,I (i:Int))]/\M.iterN (zbk s_bytes l3 l2 l) m (s6,s7,i,aL)=some dx/\St w W [cOwn (α:=CNt) 75 aS aL,cOwn (α:=Int) 3 aj l4,cOwn (α:=Int) 3 am l3,cOwn (α:=Int) 3 al l2,cOwn (α:=CMk) 73 ak l,cBlk ai [aA,I s6,I s7] 77,cBlk ay [al,am,aj] 33,cBlk av [I r2,I (r2+r6),I r3,I r4,I r5,ak,aS] 31,cBlk ax [.slice none 0 0,.slice none 0 0,.slice none 0 0] 33,cBlk aw [I 0,I 0,I 0,I 0,I 0,.slice none 0 0,.slice none 0 0] 31] R) ?_ ?_
 ·exact ⟨_,s2,s3,0,[],(.slice none 0 0),_,jQ,bF,H⟩
 rintro jr σ js ⟨s6,s7,i,aL,aS,ρ,rfl,dz,H⟩;obtain ⟨bT,bU,jt,hM,bG⟩:=M.e_iterN dz;have ju:=((H.os 4)).len_le;refine kg 15 ?_;refine W.cnd hM rfl (fun dA hM=>?_) (fun dA hM=>?_)
 ·refine kg 6 ?_;obtain ⟨jv,dB,hM⟩:=M.e_bind hM;refine s_call cq [Pq ai,I 2] rfl (zac s_bytes s6 s7 2 (aq.app _) au dB _ ((H.pk [5,0,1,2,3,4,6,7,8,9]).gt 9)) ?_;rintro _ jw ⟨jx,bV,bW,rfl,rfl,ah⟩;replace H:=H.pk [5,0,1,2,3,4,6,7,8,9] |>.bk ah
  refine kg 2 ?_;refine W.cnd hM rfl (fun dC hM=>?_) (fun dC hM=>?_)
  ·refine W.drawTS (fun W=>St w W [cOwn (α:=Int) 3 aj l4,cOwn (α:=Int) 3 am l3,cOwn (α:=Int) 3 al l2,cOwn (α:=CMk) 73 ak l,cBlk ay [al,am,aj] 33,cBlk av [I r2,I (r2+r6),I r3,I r4,I r5,ak,aS] 31,cBlk ax [.slice none 0 0,.slice none 0 0,.slice none 0 0] 33,cBlk aw [I 0,I 0,I 0,I 0,I 0,.slice none 0 0,.slice none 0 0] 31] R) (.q 0 (.q 1 (.q 2 (.q 3 (.q 4 (.q 5 (.q 6 (.q 7 (.q 8 (.q 12 (.q 13 (.q 14 (.q 15 (.q 16 (.q 17 (.q 21 (.q 22 (.q 23 (.q 24 (.q 25 (.q 26 (.q 29 (.q 30 (.q 31 (.q 32 (.q 33 (.q 34 (.l 9 (.q 10 (.q 11 (.l 18 (.q 19 (.q 20 (.l 27 (.q 28 (.l 35 (.q 36 (.q 37 (.q 38 (.l 39 (.l 40 (.q 41 .nil)))))))))))))))))))))))))))))))))))))))))) 42 [42] mixed (by decide +kernel) rfl ?_;intro jy aF;replace H:=H.ext aF;refine ⟨(H.pk [2,3,4,5,6,7,8,9]),?_⟩;obtain ⟨jz,hM⟩:=M.e_gq hM;obtain ⟨jD,hM⟩:=M.e_gq hM;refine kg 27 ?_;refine ts_l rfl ?_;obtain ⟨jH,dD,hM⟩:=M.e_bind hM;refine s_call cq [Pq ai,I 40] rfl (zac s_bytes bV bW 40 (aq.app _) au dD _ (H.gt 9)) ?_;rintro _ jI ⟨aM,dE,dF,rfl,rfl,ah⟩;replace H:=H.bk ah;refine s_nil ⟨(H.pk [2,3,4,5,6,7,8,9]),?_⟩;obtain ⟨jJ,hM⟩:=M.e_gq hM;refine kg 2 ?_;refine ts_l rfl ?_;obtain ⟨jM,dG,hM⟩:=M.e_bind hM;refine s_call cq [Pq ai,I 40] rfl (zac s_bytes dE dF 40 (aq.app _) au dG _ (H.gt 9)) ?_;rintro _ jN ⟨aN,dH,dJ,rfl,rfl,ah⟩;replace H:=H.bk ah;refine s_nil ⟨(H.pk [2,3,4,5,6,7,8,9]),?_⟩;obtain ⟨jP,hM⟩:=M.e_gq hM;refine kg 1 ?_;refine ts_q rfl (fun w' H=>y_bld [I (max 0 ((l2.getD i 0)-aM)),I ((l2.getD i 0)+aN)] rfl rfl jF) ?_;refine ts_l rfl ?_;obtain ⟨jR,dK,hM⟩:=M.e_bind hM;refine s_call cq [Pq ai,I 9] rfl (zac s_bytes dH dJ 9 (aq.app _) au dK _ (H.gt 9)) ?_;rintro _ jT ⟨aO,dL,dM,rfl,rfl,ah⟩;replace H:=H.bk ah;refine s_nil ⟨(H.pk [2,3,4,5,6,7,8,9]),?_⟩;obtain ⟨jW,hM⟩:=M.e_gq hM;refine kg 1 ?_;refine ts_l rfl ?_;obtain ⟨jY,dN,hM⟩:=M.e_bind hM;refine s_call cq [Pq ai,I 9] rfl (zac s_bytes dL dM 9 (aq.app _) au dN _ (H.gt 9)) ?_;rintro _ jZ ⟨aP,dO,dP,rfl,rfl,ah⟩;replace H:=H.bk ah;refine s_nil ⟨(H.pk [2,3,4,5,6,7,8,9]),?_⟩;obtain ⟨j0,hM⟩:=M.e_gq hM;refine kg 1 ?_;refine ts_q rfl (fun w' H=>y_bld [I ((l3.getD i 0)-aO),I ((l3.getD i 0)+aP)] rfl rfl jF) ?_;refine ts_q rfl (fun w' H=>y_bld [I (i:Int),I (max 0 ((l2.getD i 0)-aM)),I ((l2.getD i 0)+aN),I ((l3.getD i 0)-aO),I ((l3.getD i 0)+aP)] rfl rfl jF) ?_;refine ts_l rfl ?_;refine t_bs (α:=CNt) T29.h [.agg #[I (i:Int),I (max 0 ((l2.getD i 0)-aM)),I ((l2.getD i 0)+aN),I ((l3.getD i 0)-aO),I ((l3.getD i 0)+aP)]] [(⟨(i:Int),(max 0 ((l2.getD i 0)-aM):Int),((l2.getD i 0)+aN:Int),((l3.getD i 0)-aO:Int),((l3.getD i 0)+aP:Int)⟩:CNt)] H rfl (.cons rfl (Flat.rep_enc _ (⟨(i:Int),(max 0 ((l2.getD i 0)-aM):Int),((l2.getD i 0)+aN:Int),((l3.getD i 0)-aO:Int),((l3.getD i 0)+aP:Int)⟩:CNt))<|.nil) rfl rfl rfl ?_;intro dQ j7 H;refine s_nil ⟨(H.pk [3,4,5,6,7,8,9,10]),?_⟩;refine ts_l rfl ?_;obtain ⟨j8,hM⟩:=M.e_gq hM;refine t_app (α:=CNt) (k:=2) (l:=aL) (l2:=[(⟨(i:Int),(max 0 ((l2.getD i 0)-aM):Int),((l2.getD i 0)+aN:Int),((l3.getD i 0)-aO:Int),((l3.getD i 0)+aP:Int)⟩:CNt)]) (l':=aL++([(⟨(i:Int),(max 0 ((l2.getD i 0)-aM):Int),((l2.getD i 0)+aN:Int),((l3.getD i 0)-aO:Int),((l3.getD i 0)+aP:Int)⟩:CNt)])) (vy:=dQ) T29.h rfl H rfl rfl rfl (H.os 0) (H.ol 0) (rfl) (by first | omega | (simp only [List.length_nil] at *; omega)) ?_;intro bH j9 H;replace H:=H.nf;refine s_nil ⟨(H.pk [3,4,5,6,7,8,9,10]),?_⟩;refine kg 2 ?_;refine sr_l rfl ?_;refine t_sw 8 6 [bH] bH H rfl rfl Sz29.h (Sl.cells (H.os 2)) rfl rfl (by simp only [List.all_cons,List.all_nil,Bool.true_and,Bool.and_true,Sl.oc (H.os 2)]; try rfl) ?_;intro ke H;refine s_nil ⟨trivial,?_⟩;refine sr_nil ?_;obtain ⟨kh,hM⟩:=M.e_gq hM;refine kg 5 ?_;exact ⟨bT,bU,dO,dP,i+1,aL++([(⟨(i:Int),(max 0 ((l2.getD i 0)-aM):Int),((l2.getD i 0)+aN:Int),((l3.getD i 0)-aO:Int),((l3.getD i 0)+aP:Int)⟩:CNt)]),bH,_,jQ,M.e_inl hM bG,(H.pk [2,3,4,5,6,1,7,8,9,10])⟩
  obtain ⟨ki,hM⟩:=M.e_gq hM;refine kg 6 ?_;exact ⟨bT,bU,bV,bW,i+1,aL,aS,_,jQ,M.e_inl hM bG,(H.pk [1,2,3,4,5,0,6,7,8,9])⟩
 refine W.exit ?_;obtain rfl:=M.e_inr hM bG;replace hM:=dy;have kj:=((H.os 0)).len_le;refine kg 10 ?_;obtain ⟨dR,bI,dS⟩:=M.e_bind hM;obtain ⟨bM,bI⟩:=M.e_iter bI;refine W.loop (fun m σ W=>∃ (aT:Int) (aU:Int) (aa:List CNt) (i2:Int) (ap:Value) (ρ:Env),σ=upds ρ [(0,Pq ai),(6,Pq aw),(7,Pq ax),(8,Pq av),(9,Pq ay),(17,I i2)]/\M.iterN (za0 s_bytes) m (aT,aU,aa,i2)=some dR/\St w W [cOwn (α:=CNt) 75 ap aa,cOwn (α:=Int) 3 aj l4,cOwn (α:=Int) 3 am l3,cOwn (α:=Int) 3 al l2,cOwn (α:=CMk) 73 ak l,cBlk ai [aA,I aT,I aU] 77,cBlk ay [al,am,aj] 33,cBlk av [I r2,I (r2+r6),I r3,I r4,I r5,ak,ap] 31,cBlk ax [.slice none 0 0,.slice none 0 0,.slice none 0 0] 33,cBlk aw [I 0,I 0,I 0,I 0,I 0,.slice none 0 0,.slice none 0 0] 31] R) ?_ ?_
 ·exact ⟨_,s6,s7,aL,(aL.length:Int)-1,aS,_,jQ,bI,H⟩
 rintro km σ ko ⟨aT,aU,aa,i2,ap,ρ,rfl,dU,H⟩;obtain ⟨aV,aW,kq,hM,aR⟩:=M.e_iterN dU;refine kg 6 ?_;refine W.cnd hM rfl (fun dV hM=>?_) (fun dV hM=>?_)
 ·obtain ⟨kr,hM⟩:=M.e_gq hM;refine kg 8 ?_;obtain ⟨kw,dW,hM⟩:=M.e_bind hM;refine s_call cq [Pq ai,I (i2+1)] rfl (zac s_bytes aT aU (i2+1) (aq.app _) au dW _ ((H.pk [5,0,1,2,3,4,6,7,8,9]).gt 9)) ?_;rintro _ kx ⟨ab,aB,aC,rfl,rfl,ah⟩;replace H:=H.pk [5,0,1,2,3,4,6,7,8,9] |>.bk ah
  refine kg 2 ?_;refine W.drawTS (fun W=>St w W [cBlk ai [aA,I aB,I aC] 77,cOwn (α:=Int) 3 aj l4,cOwn (α:=Int) 3 am l3,cOwn (α:=Int) 3 al l2,cOwn (α:=CMk) 73 ak l,cBlk ay [al,am,aj] 33,cBlk av [I r2,I (r2+r6),I r3,I r4,I r5,ak,ap] 31,cBlk ax [.slice none 0 0,.slice none 0 0,.slice none 0 0] 33,cBlk aw [I 0,I 0,I 0,I 0,I 0,.slice none 0 0,.slice none 0 0] 31] R) (.q 0 (.q 1 (.q 2 (.q 3 (.q 4 (.q 5 (.q 6 (.q 7 (.q 8 (.q 11 (.q 12 (.q 13 (.l2 9 (.l2 10 (.l 14 (.l 15 (.l 16 (.l 17 (.l 18 .nil))))) 14 (.l2 10 (.l 15 (.l 16 (.l 17 (.l 18 .nil)))) 15 (.l 10 (.l 16 (.l 17 (.l 18 .nil)))))) 14 (.l2 9 (.l2 10 (.l 15 (.l 16 (.l 17 (.l 18 .nil)))) 15 (.l 10 (.l 16 (.l 17 (.l 18 .nil))))) 15 (.l 9 (.l 10 (.l 16 (.l 17 (.l 18 .nil))))))))))))))))))) 19 [19] mixed (by decide +kernel) rfl ?_;intro kz aF;replace H:=H.ext aF;refine ⟨(H.pk [0,2,3,4,5,6,7,8,9]),?_⟩;obtain ⟨kE,hM⟩:=M.e_gq hM;obtain ⟨kF,hM⟩:=M.e_gq hM;obtain ⟨kH,hM⟩:=M.e_gq hM;refine kg 12 ?_;refine ts_l2 rfl rfl ?_ ?_
  ·refine kg 1 ?_;refine s_nil ⟨(H.pk [0,2,3,4,5,6,7,8,9]),?_⟩;refine ts_l2 rfl rfl ?_ ?_
   ·refine kg 1 ?_;refine s_nil ⟨(H.pk [0,2,3,4,5,6,7,8,9]),?_⟩;refine ts_l rfl ?_;refine kg 1 ?_;refine s_nil ⟨(H.pk [0,2,3,4,5,6,7,8,9]),?_⟩;refine ts_l rfl ?_;refine kg 1 ?_;refine s_nil ⟨(H.pk [0,2,3,4,5,6,7,8,9]),?_⟩;refine ts_l rfl ?_;refine kg 1 ?_;refine s_nil ⟨(H.pk [0,2,3,4,5,6,7,8,9]),?_⟩;refine ts_l rfl ?_;refine t_ost (k:=1) (i:=i2) (l:=aa) (l':=aa.set (Int.toNat i2) (aa.getD (Int.toNat ab) default)) (val:=.agg #[I ((aa.getD (Int.toNat ab) default).mark),I ((aa.getD (Int.toNat ab) default).tlo),I ((aa.getD (Int.toNat ab) default).thi),I ((aa.getD (Int.toNat ab) default).slo),I ((aa.getD (Int.toNat ab) default).shi)]) (L':=[cBlk ai [aA,I aB,I aC] 77,cOwn (α:=CNt) 75 ap (aa.set (Int.toNat i2) (aa.getD (Int.toNat ab) default)),cOwn (α:=Int) 3 aj l4,cOwn (α:=Int) 3 am l3,cOwn (α:=Int) 3 al l2,cOwn (α:=CMk) 73 ak l,cBlk ay [al,am,aj] 33,cBlk av [I r2,I (r2+r6),I r3,I r4,I r5,ak,ap] 31,cBlk ax [.slice none 0 0,.slice none 0 0,.slice none 0 0] 33,cBlk aw [I 0,I 0,I 0,I 0,I 0,.slice none 0 0,.slice none 0 0] 31]) H rfl Sz75.h (by omega) (by omega) (aa.getD (Int.toNat ab) default) rfl rfl rfl rfl rfl ?_;intro kJ H;refine s_nil ⟨(H.pk [0,2,3,4,5,6,7,8,9]),?_⟩;refine ts_l rfl ?_;refine kg 1 ?_;refine s_nil ⟨(H.pk [0,2,3,4,5,6,7,8,9]),?_⟩;refine kg 1 ?_;refine sr_l rfl ?_;refine t_ost (k:=1) (i:=ab) (l:=aa.set (Int.toNat i2) (aa.getD (Int.toNat ab) default)) (l':=(aa.set (Int.toNat i2) (aa.getD (Int.toNat ab) default)).set (Int.toNat ab) (aa.getD (Int.toNat i2) default)) (val:=.agg #[I ((aa.getD (Int.toNat i2) default).mark),I ((aa.getD (Int.toNat i2) default).tlo),I ((aa.getD (Int.toNat i2) default).thi),I ((aa.getD (Int.toNat i2) default).slo),I ((aa.getD (Int.toNat i2) default).shi)]) (L':=[cBlk ai [aA,I aB,I aC] 77,cOwn (α:=CNt) 75 ap ((aa.set (Int.toNat i2) (aa.getD (Int.toNat ab) default)).set (Int.toNat ab) (aa.getD (Int.toNat i2) default)),cOwn (α:=Int) 3 aj l4,cOwn (α:=Int) 3 am l3,cOwn (α:=Int) 3 al l2,cOwn (α:=CMk) 73 ak l,cBlk ay [al,am,aj] 33,cBlk av [I r2,I (r2+r6),I r3,I r4,I r5,ak,ap] 31,cBlk ax [.slice none 0 0,.slice none 0 0,.slice none 0 0] 33,cBlk aw [I 0,I 0,I 0,I 0,I 0,.slice none 0 0,.slice none 0 0] 31]) H rfl Sz75.h (by omega) (by omega) (aa.getD (Int.toNat i2) default) rfl rfl rfl rfl rfl ?_;intro kK H;refine s_nil ⟨trivial,?_⟩;refine sr_nil ?_;obtain ⟨kM,hM⟩:=M.e_gq hM;refine kg 5 ?_;exact ⟨aV,aW,aB,aC,(aa.set (Int.toNat i2) (aa.getD (Int.toNat ab) default)).set (Int.toNat ab) (aa.getD (Int.toNat i2) default),i2-1,ap,_,jQ,M.e_inl hM aR,(H.pk [1,2,3,4,5,0,6,7,8,9])⟩
   refine kg 1 ?_;refine s_nil ⟨(H.pk [0,2,3,4,5,6,7,8,9]),?_⟩;refine ts_l2 rfl rfl ?_ ?_
   ·refine kg 1 ?_;refine s_nil ⟨(H.pk [0,2,3,4,5,6,7,8,9]),?_⟩;refine ts_l rfl ?_;refine kg 1 ?_;refine s_nil ⟨(H.pk [0,2,3,4,5,6,7,8,9]),?_⟩;refine ts_l rfl ?_;refine kg 1 ?_;refine s_nil ⟨(H.pk [0,2,3,4,5,6,7,8,9]),?_⟩;refine ts_l rfl ?_;refine t_ost (k:=1) (i:=i2) (l:=aa) (l':=aa.set (Int.toNat i2) (aa.getD (Int.toNat ab) default)) (val:=.agg #[I ((aa.getD (Int.toNat ab) default).mark),I ((aa.getD (Int.toNat ab) default).tlo),I ((aa.getD (Int.toNat ab) default).thi),I ((aa.getD (Int.toNat ab) default).slo),I ((aa.getD (Int.toNat ab) default).shi)]) (L':=[cBlk ai [aA,I aB,I aC] 77,cOwn (α:=CNt) 75 ap (aa.set (Int.toNat i2) (aa.getD (Int.toNat ab) default)),cOwn (α:=Int) 3 aj l4,cOwn (α:=Int) 3 am l3,cOwn (α:=Int) 3 al l2,cOwn (α:=CMk) 73 ak l,cBlk ay [al,am,aj] 33,cBlk av [I r2,I (r2+r6),I r3,I r4,I r5,ak,ap] 31,cBlk ax [.slice none 0 0,.slice none 0 0,.slice none 0 0] 33,cBlk aw [I 0,I 0,I 0,I 0,I 0,.slice none 0 0,.slice none 0 0] 31]) H rfl Sz75.h (by omega) (by omega) (aa.getD (Int.toNat ab) default) rfl rfl rfl rfl rfl ?_;intro kQ H;refine s_nil ⟨(H.pk [0,2,3,4,5,6,7,8,9]),?_⟩;refine ts_l rfl ?_;refine kg 1 ?_;refine s_nil ⟨(H.pk [0,2,3,4,5,6,7,8,9]),?_⟩;refine kg 1 ?_;refine sr_l rfl ?_;refine t_ost (k:=1) (i:=ab) (l:=aa.set (Int.toNat i2) (aa.getD (Int.toNat ab) default)) (l':=(aa.set (Int.toNat i2) (aa.getD (Int.toNat ab) default)).set (Int.toNat ab) (aa.getD (Int.toNat i2) default)) (val:=.agg #[I ((aa.getD (Int.toNat i2) default).mark),I ((aa.getD (Int.toNat i2) default).tlo),I ((aa.getD (Int.toNat i2) default).thi),I ((aa.getD (Int.toNat i2) default).slo),I ((aa.getD (Int.toNat i2) default).shi)]) (L':=[cBlk ai [aA,I aB,I aC] 77,cOwn (α:=CNt) 75 ap ((aa.set (Int.toNat i2) (aa.getD (Int.toNat ab) default)).set (Int.toNat ab) (aa.getD (Int.toNat i2) default)),cOwn (α:=Int) 3 aj l4,cOwn (α:=Int) 3 am l3,cOwn (α:=Int) 3 al l2,cOwn (α:=CMk) 73 ak l,cBlk ay [al,am,aj] 33,cBlk av [I r2,I (r2+r6),I r3,I r4,I r5,ak,ap] 31,cBlk ax [.slice none 0 0,.slice none 0 0,.slice none 0 0] 33,cBlk aw [I 0,I 0,I 0,I 0,I 0,.slice none 0 0,.slice none 0 0] 31]) H rfl Sz75.h (by omega) (by omega) (aa.getD (Int.toNat i2) default) rfl rfl rfl rfl rfl ?_;intro kT H;refine s_nil ⟨trivial,?_⟩;refine sr_nil ?_;obtain ⟨kU,hM⟩:=M.e_gq hM;refine kg 5 ?_;exact ⟨aV,aW,aB,aC,(aa.set (Int.toNat i2) (aa.getD (Int.toNat ab) default)).set (Int.toNat ab) (aa.getD (Int.toNat i2) default),i2-1,ap,_,jQ,M.e_inl hM aR,(H.pk [1,2,3,4,5,0,6,7,8,9])⟩
   refine kg 1 ?_;refine s_nil ⟨(H.pk [0,2,3,4,5,6,7,8,9]),?_⟩;refine ts_l rfl ?_;refine kg 1 ?_;refine s_nil ⟨(H.pk [0,2,3,4,5,6,7,8,9]),?_⟩;refine ts_l rfl ?_;refine kg 1 ?_;refine s_nil ⟨(H.pk [0,2,3,4,5,6,7,8,9]),?_⟩;refine ts_l rfl ?_;refine t_ost (k:=1) (i:=i2) (l:=aa) (l':=aa.set (Int.toNat i2) (aa.getD (Int.toNat ab) default)) (val:=.agg #[I ((aa.getD (Int.toNat ab) default).mark),I ((aa.getD (Int.toNat ab) default).tlo),I ((aa.getD (Int.toNat ab) default).thi),I ((aa.getD (Int.toNat ab) default).slo),I ((aa.getD (Int.toNat ab) default).shi)]) (L':=[cBlk ai [aA,I aB,I aC] 77,cOwn (α:=CNt) 75 ap (aa.set (Int.toNat i2) (aa.getD (Int.toNat ab) default)),cOwn (α:=Int) 3 aj l4,cOwn (α:=Int) 3 am l3,cOwn (α:=Int) 3 al l2,cOwn (α:=CMk) 73 ak l,cBlk ay [al,am,aj] 33,cBlk av [I r2,I (r2+r6),I r3,I r4,I r5,ak,ap] 31,cBlk ax [.slice none 0 0,.slice none 0 0,.slice none 0 0] 33,cBlk aw [I 0,I 0,I 0,I 0,I 0,.slice none 0 0,.slice none 0 0] 31]) H rfl Sz75.h (by omega) (by omega) (aa.getD (Int.toNat ab) default) rfl rfl rfl rfl rfl ?_;intro kV H;refine s_nil ⟨(H.pk [0,2,3,4,5,6,7,8,9]),?_⟩;refine ts_l rfl ?_;refine kg 1 ?_;refine s_nil ⟨(H.pk [0,2,3,4,5,6,7,8,9]),?_⟩;refine kg 1 ?_;refine sr_l rfl ?_;refine t_ost (k:=1) (i:=ab) (l:=aa.set (Int.toNat i2) (aa.getD (Int.toNat ab) default)) (l':=(aa.set (Int.toNat i2) (aa.getD (Int.toNat ab) default)).set (Int.toNat ab) (aa.getD (Int.toNat i2) default)) (val:=.agg #[I ((aa.getD (Int.toNat i2) default).mark),I ((aa.getD (Int.toNat i2) default).tlo),I ((aa.getD (Int.toNat i2) default).thi),I ((aa.getD (Int.toNat i2) default).slo),I ((aa.getD (Int.toNat i2) default).shi)]) (L':=[cBlk ai [aA,I aB,I aC] 77,cOwn (α:=CNt) 75 ap ((aa.set (Int.toNat i2) (aa.getD (Int.toNat ab) default)).set (Int.toNat ab) (aa.getD (Int.toNat i2) default)),cOwn (α:=Int) 3 aj l4,cOwn (α:=Int) 3 am l3,cOwn (α:=Int) 3 al l2,cOwn (α:=CMk) 73 ak l,cBlk ay [al,am,aj] 33,cBlk av [I r2,I (r2+r6),I r3,I r4,I r5,ak,ap] 31,cBlk ax [.slice none 0 0,.slice none 0 0,.slice none 0 0] 33,cBlk aw [I 0,I 0,I 0,I 0,I 0,.slice none 0 0,.slice none 0 0] 31]) H rfl Sz75.h (by omega) (by omega) (aa.getD (Int.toNat i2) default) rfl rfl rfl rfl rfl ?_;intro kW H;refine s_nil ⟨trivial,?_⟩;refine sr_nil ?_;obtain ⟨kZ,hM⟩:=M.e_gq hM;refine kg 5 ?_;exact ⟨aV,aW,aB,aC,(aa.set (Int.toNat i2) (aa.getD (Int.toNat ab) default)).set (Int.toNat ab) (aa.getD (Int.toNat i2) default),i2-1,ap,_,jQ,M.e_inl hM aR,(H.pk [1,2,3,4,5,0,6,7,8,9])⟩
  refine kg 1 ?_;refine s_nil ⟨(H.pk [0,2,3,4,5,6,7,8,9]),?_⟩;refine ts_l2 rfl rfl ?_ ?_
  ·refine kg 1 ?_;refine s_nil ⟨(H.pk [0,2,3,4,5,6,7,8,9]),?_⟩;refine ts_l2 rfl rfl ?_ ?_
   ·refine kg 1 ?_;refine s_nil ⟨(H.pk [0,2,3,4,5,6,7,8,9]),?_⟩;refine ts_l rfl ?_;refine kg 1 ?_;refine s_nil ⟨(H.pk [0,2,3,4,5,6,7,8,9]),?_⟩;refine ts_l rfl ?_;refine kg 1 ?_;refine s_nil ⟨(H.pk [0,2,3,4,5,6,7,8,9]),?_⟩;refine ts_l rfl ?_;refine t_ost (k:=1) (i:=i2) (l:=aa) (l':=aa.set (Int.toNat i2) (aa.getD (Int.toNat ab) default)) (val:=.agg #[I ((aa.getD (Int.toNat ab) default).mark),I ((aa.getD (Int.toNat ab) default).tlo),I ((aa.getD (Int.toNat ab) default).thi),I ((aa.getD (Int.toNat ab) default).slo),I ((aa.getD (Int.toNat ab) default).shi)]) (L':=[cBlk ai [aA,I aB,I aC] 77,cOwn (α:=CNt) 75 ap (aa.set (Int.toNat i2) (aa.getD (Int.toNat ab) default)),cOwn (α:=Int) 3 aj l4,cOwn (α:=Int) 3 am l3,cOwn (α:=Int) 3 al l2,cOwn (α:=CMk) 73 ak l,cBlk ay [al,am,aj] 33,cBlk av [I r2,I (r2+r6),I r3,I r4,I r5,ak,ap] 31,cBlk ax [.slice none 0 0,.slice none 0 0,.slice none 0 0] 33,cBlk aw [I 0,I 0,I 0,I 0,I 0,.slice none 0 0,.slice none 0 0] 31]) H rfl Sz75.h (by omega) (by omega) (aa.getD (Int.toNat ab) default) rfl rfl rfl rfl rfl ?_;intro lb H;refine s_nil ⟨(H.pk [0,2,3,4,5,6,7,8,9]),?_⟩;refine ts_l rfl ?_;refine kg 1 ?_;refine s_nil ⟨(H.pk [0,2,3,4,5,6,7,8,9]),?_⟩;refine kg 1 ?_;refine sr_l rfl ?_;refine t_ost (k:=1) (i:=ab) (l:=aa.set (Int.toNat i2) (aa.getD (Int.toNat ab) default)) (l':=(aa.set (Int.toNat i2) (aa.getD (Int.toNat ab) default)).set (Int.toNat ab) (aa.getD (Int.toNat i2) default)) (val:=.agg #[I ((aa.getD (Int.toNat i2) default).mark),I ((aa.getD (Int.toNat i2) default).tlo),I ((aa.getD (Int.toNat i2) default).thi),I ((aa.getD (Int.toNat i2) default).slo),I ((aa.getD (Int.toNat i2) default).shi)]) (L':=[cBlk ai [aA,I aB,I aC] 77,cOwn (α:=CNt) 75 ap ((aa.set (Int.toNat i2) (aa.getD (Int.toNat ab) default)).set (Int.toNat ab) (aa.getD (Int.toNat i2) default)),cOwn (α:=Int) 3 aj l4,cOwn (α:=Int) 3 am l3,cOwn (α:=Int) 3 al l2,cOwn (α:=CMk) 73 ak l,cBlk ay [al,am,aj] 33,cBlk av [I r2,I (r2+r6),I r3,I r4,I r5,ak,ap] 31,cBlk ax [.slice none 0 0,.slice none 0 0,.slice none 0 0] 33,cBlk aw [I 0,I 0,I 0,I 0,I 0,.slice none 0 0,.slice none 0 0] 31]) H rfl Sz75.h (by omega) (by omega) (aa.getD (Int.toNat i2) default) rfl rfl rfl rfl rfl ?_;intro lc H;refine s_nil ⟨trivial,?_⟩;refine sr_nil ?_;obtain ⟨ld,hM⟩:=M.e_gq hM;refine kg 5 ?_;exact ⟨aV,aW,aB,aC,(aa.set (Int.toNat i2) (aa.getD (Int.toNat ab) default)).set (Int.toNat ab) (aa.getD (Int.toNat i2) default),i2-1,ap,_,jQ,M.e_inl hM aR,(H.pk [1,2,3,4,5,0,6,7,8,9])⟩
   refine kg 1 ?_;refine s_nil ⟨(H.pk [0,2,3,4,5,6,7,8,9]),?_⟩;refine ts_l rfl ?_;refine kg 1 ?_;refine s_nil ⟨(H.pk [0,2,3,4,5,6,7,8,9]),?_⟩;refine ts_l rfl ?_;refine kg 1 ?_;refine s_nil ⟨(H.pk [0,2,3,4,5,6,7,8,9]),?_⟩;refine ts_l rfl ?_;refine t_ost (k:=1) (i:=i2) (l:=aa) (l':=aa.set (Int.toNat i2) (aa.getD (Int.toNat ab) default)) (val:=.agg #[I ((aa.getD (Int.toNat ab) default).mark),I ((aa.getD (Int.toNat ab) default).tlo),I ((aa.getD (Int.toNat ab) default).thi),I ((aa.getD (Int.toNat ab) default).slo),I ((aa.getD (Int.toNat ab) default).shi)]) (L':=[cBlk ai [aA,I aB,I aC] 77,cOwn (α:=CNt) 75 ap (aa.set (Int.toNat i2) (aa.getD (Int.toNat ab) default)),cOwn (α:=Int) 3 aj l4,cOwn (α:=Int) 3 am l3,cOwn (α:=Int) 3 al l2,cOwn (α:=CMk) 73 ak l,cBlk ay [al,am,aj] 33,cBlk av [I r2,I (r2+r6),I r3,I r4,I r5,ak,ap] 31,cBlk ax [.slice none 0 0,.slice none 0 0,.slice none 0 0] 33,cBlk aw [I 0,I 0,I 0,I 0,I 0,.slice none 0 0,.slice none 0 0] 31]) H rfl Sz75.h (by omega) (by omega) (aa.getD (Int.toNat ab) default) rfl rfl rfl rfl rfl ?_;intro lg H;refine s_nil ⟨(H.pk [0,2,3,4,5,6,7,8,9]),?_⟩;refine ts_l rfl ?_;refine kg 1 ?_;refine s_nil ⟨(H.pk [0,2,3,4,5,6,7,8,9]),?_⟩;refine kg 1 ?_;refine sr_l rfl ?_;refine t_ost (k:=1) (i:=ab) (l:=aa.set (Int.toNat i2) (aa.getD (Int.toNat ab) default)) (l':=(aa.set (Int.toNat i2) (aa.getD (Int.toNat ab) default)).set (Int.toNat ab) (aa.getD (Int.toNat i2) default)) (val:=.agg #[I ((aa.getD (Int.toNat i2) default).mark),I ((aa.getD (Int.toNat i2) default).tlo),I ((aa.getD (Int.toNat i2) default).thi),I ((aa.getD (Int.toNat i2) default).slo),I ((aa.getD (Int.toNat i2) default).shi)]) (L':=[cBlk ai [aA,I aB,I aC] 77,cOwn (α:=CNt) 75 ap ((aa.set (Int.toNat i2) (aa.getD (Int.toNat ab) default)).set (Int.toNat ab) (aa.getD (Int.toNat i2) default)),cOwn (α:=Int) 3 aj l4,cOwn (α:=Int) 3 am l3,cOwn (α:=Int) 3 al l2,cOwn (α:=CMk) 73 ak l,cBlk ay [al,am,aj] 33,cBlk av [I r2,I (r2+r6),I r3,I r4,I r5,ak,ap] 31,cBlk ax [.slice none 0 0,.slice none 0 0,.slice none 0 0] 33,cBlk aw [I 0,I 0,I 0,I 0,I 0,.slice none 0 0,.slice none 0 0] 31]) H rfl Sz75.h (by omega) (by omega) (aa.getD (Int.toNat i2) default) rfl rfl rfl rfl rfl ?_;intro li H;refine s_nil ⟨trivial,?_⟩;refine sr_nil ?_;obtain ⟨lj,hM⟩:=M.e_gq hM;refine kg 5 ?_;exact ⟨aV,aW,aB,aC,(aa.set (Int.toNat i2) (aa.getD (Int.toNat ab) default)).set (Int.toNat ab) (aa.getD (Int.toNat i2) default),i2-1,ap,_,jQ,M.e_inl hM aR,(H.pk [1,2,3,4,5,0,6,7,8,9])⟩
  refine kg 1 ?_;refine s_nil ⟨(H.pk [0,2,3,4,5,6,7,8,9]),?_⟩;refine ts_l rfl ?_;refine kg 1 ?_;refine s_nil ⟨(H.pk [0,2,3,4,5,6,7,8,9]),?_⟩;refine ts_l rfl ?_;refine kg 1 ?_;refine s_nil ⟨(H.pk [0,2,3,4,5,6,7,8,9]),?_⟩;refine ts_l rfl ?_;refine kg 1 ?_;refine s_nil ⟨(H.pk [0,2,3,4,5,6,7,8,9]),?_⟩;refine ts_l rfl ?_;refine t_ost (k:=1) (i:=i2) (l:=aa) (l':=aa.set (Int.toNat i2) (aa.getD (Int.toNat ab) default)) (val:=.agg #[I ((aa.getD (Int.toNat ab) default).mark),I ((aa.getD (Int.toNat ab) default).tlo),I ((aa.getD (Int.toNat ab) default).thi),I ((aa.getD (Int.toNat ab) default).slo),I ((aa.getD (Int.toNat ab) default).shi)]) (L':=[cBlk ai [aA,I aB,I aC] 77,cOwn (α:=CNt) 75 ap (aa.set (Int.toNat i2) (aa.getD (Int.toNat ab) default)),cOwn (α:=Int) 3 aj l4,cOwn (α:=Int) 3 am l3,cOwn (α:=Int) 3 al l2,cOwn (α:=CMk) 73 ak l,cBlk ay [al,am,aj] 33,cBlk av [I r2,I (r2+r6),I r3,I r4,I r5,ak,ap] 31,cBlk ax [.slice none 0 0,.slice none 0 0,.slice none 0 0] 33,cBlk aw [I 0,I 0,I 0,I 0,I 0,.slice none 0 0,.slice none 0 0] 31]) H rfl Sz75.h (by omega) (by omega) (aa.getD (Int.toNat ab) default) rfl rfl rfl rfl rfl ?_;intro lk H;refine s_nil ⟨(H.pk [0,2,3,4,5,6,7,8,9]),?_⟩;refine ts_l rfl ?_;refine kg 1 ?_;refine s_nil ⟨(H.pk [0,2,3,4,5,6,7,8,9]),?_⟩;refine kg 1 ?_;refine sr_l rfl ?_;refine t_ost (k:=1) (i:=ab) (l:=aa.set (Int.toNat i2) (aa.getD (Int.toNat ab) default)) (l':=(aa.set (Int.toNat i2) (aa.getD (Int.toNat ab) default)).set (Int.toNat ab) (aa.getD (Int.toNat i2) default)) (val:=.agg #[I ((aa.getD (Int.toNat i2) default).mark),I ((aa.getD (Int.toNat i2) default).tlo),I ((aa.getD (Int.toNat i2) default).thi),I ((aa.getD (Int.toNat i2) default).slo),I ((aa.getD (Int.toNat i2) default).shi)]) (L':=[cBlk ai [aA,I aB,I aC] 77,cOwn (α:=CNt) 75 ap ((aa.set (Int.toNat i2) (aa.getD (Int.toNat ab) default)).set (Int.toNat ab) (aa.getD (Int.toNat i2) default)),cOwn (α:=Int) 3 aj l4,cOwn (α:=Int) 3 am l3,cOwn (α:=Int) 3 al l2,cOwn (α:=CMk) 73 ak l,cBlk ay [al,am,aj] 33,cBlk av [I r2,I (r2+r6),I r3,I r4,I r5,ak,ap] 31,cBlk ax [.slice none 0 0,.slice none 0 0,.slice none 0 0] 33,cBlk aw [I 0,I 0,I 0,I 0,I 0,.slice none 0 0,.slice none 0 0] 31]) H rfl Sz75.h (by omega) (by omega) (aa.getD (Int.toNat i2) default) rfl rfl rfl rfl rfl ?_;intro lm H;refine s_nil ⟨trivial,?_⟩;refine sr_nil ?_;obtain ⟨lp,hM⟩:=M.e_gq hM;refine kg 5 ?_;exact ⟨aV,aW,aB,aC,(aa.set (Int.toNat i2) (aa.getD (Int.toNat ab) default)).set (Int.toNat ab) (aa.getD (Int.toNat i2) default),i2-1,ap,_,jQ,M.e_inl hM aR,(H.pk [1,2,3,4,5,0,6,7,8,9])⟩
 refine W.exit ?_;obtain rfl:=M.e_inr hM aR;replace hM:=dS;refine W.seq ?_;refine W.draw (fun W=>St w W [cOwn (α:=CNt) 75 ap aa,cOwn (α:=Int) 3 aj l4,cOwn (α:=Int) 3 am l3,cOwn (α:=Int) 3 al l2,cOwn (α:=CMk) 73 ak l,cBlk ai [aA,I aT,I aU] 77,cBlk ay [al,am,aj] 33,cBlk av [I r2,I (r2+r6),I r3,I r4,I r5,ak,ap] 31] R) [(0,true),(1,true),(2,false),(3,false)] mixed (by decide +kernel) rfl ?_;intro lq aF;replace H:=H.ext aF;refine ⟨(H.pk [0,1,2,3,4,5,6,7]),?_⟩;refine kg 2 ?_;refine d_l rfl ?_;refine t_sw 9 0 [I r2,I (r2+r6),I r3,I r4,I r5,ak,ap] (.agg #[I r2,I (r2+r6),I r3,I r4,I r5,ak,ap]) H rfl rfl Sz31.h rfl rfl rfl (by simp only [List.all_cons,List.all_nil,Bool.true_and,Bool.and_true,Sl.oc (H.os 4),Sl.oc (H.os 0)]; try rfl) ?_;intro lr H;refine s_nil ⟨(H.pk [0,1,2,3,4,5,6,7]),?_⟩;refine d_l rfl ?_;refine t_sw 8 0 [al,am,aj] (.agg #[al,am,aj]) H rfl rfl Sz33.h rfl rfl rfl (by simp only [List.all_cons,List.all_nil,Bool.true_and,Bool.and_true,Sl.oc (H.os 3),Sl.oc (H.os 2),Sl.oc (H.os 1)]; try rfl) ?_;intro lu H;refine s_nil ⟨(H.pk [0,1,2,3,4,5,6,7]),?_⟩;refine d_nil ?_;replace H:=H.pk [0,1,2,3,4,5,8,9];refine W.ret ?_;have dX:=(H.bl 7)
 have dY:=(H.bl 6)
 have dZ:=M.e_pure hM;exact ⟨_,(resE_ofn (vs:=[.agg #[I r2,I (r2+r6),I r3,I r4,I r5,ak,ap],.agg #[al,am,aj]]) rfl rfl (.cell (v:=.agg #[I r2,I (r2+r6),I r3,I r4,I r5,ak,ap]) rfl (run_loadVar_ag (ds:=[I r2,I (r2+r6),I r3,I r4,I r5,ak,ap]) Ag31.h Sz31.h dX rfl rfl)<|.cell (v:=.agg #[al,am,aj]) rfl (run_loadVar_ag (ds:=[al,am,aj]) Ag33.h Sz33.h dY rfl rfl)<|.nil)),⟨r2,(r2+r6),r3,r4,r5,l,aa,l2,l3,l4,aT,aU,ak,ap,al,am,aj,dZ,rfl,(H.pk [4,0,3,2,1,5])⟩⟩

end Go.Proofs.YtbgoclcmgbpckabGreat
end
section
set_option maxRecDepth 100000
set_option maxHeartbeats 16000000
namespace Go.Proofs.YtbgoclcmgbpckabGreat
open Go Go.Nm
attribute [local irreducible] gd execOp SL SLD SLT WR
def zcF (s_bytes:List UInt8):(Int × Int × Int × Int × Int × (List FRow))->M ((Int × Int × Int × Int × Int × (List FRow)) ⊕ (Int × Int × (List FRow) × (List FRow))):=fun (s2,s3,s4,carry,k,l) =>
  bif decide (0<k) then (
  M.grd (decide ((l.length+([(⟨(s4:Int),(carry:Int)⟩:FRow)]).length)*16<=140737488355328)) <|
  M.bind (zae s_bytes s2 s3 1 200) fun (r8,aa,ab) =>
  M.gi (s4+r8) <|
  M.bind (zab s_bytes aa ab 2000) fun (r9,ac,ae) =>
  M.gi (carry+r9) <|
  M.gi (k-1) <|
  M.pure (.inl (ac,ae,s4+r8,carry+r9,k-1,l++([(⟨(s4:Int),(carry:Int)⟩:FRow)]))))
  else (
  M.pure (.inr (s2,s3,l,l)))
def zcj (s_bytes:List UInt8) (marks:Int) (lies:Bool) (place stage:Int):(Int × Int × Int × (List Mrk))->M ((Int × Int × Int × (List Mrk)) ⊕ (Int × Int × (List Mrk) × (List Mrk))):=fun (s7,s8,k2,l7) =>
  bif ((decide (0<k2))&&(decide ((l7.length:Int)<marks))) then (
  M.bind (zab s_bytes s7 s8 2) fun (aa,ah,ai) =>
  M.bind (zab s_bytes ah ai 20) fun (ab,aj,ak) =>
  M.gi (aa*ab) <|
  M.gi (place+(aa*ab)) <|
  M.bind (zab s_bytes aj ak 9) fun (ac,al,am) =>
  M.gi (stage-ac) <|
  M.bind (zab s_bytes al am 9) fun (ae,ao,ap) =>
  M.gi (stage+ae) <|
  bif lies then (
  M.fail)
  else (
  M.grd (decide ((l7.length+([(⟨(place+(aa*ab):Int),(max 0 (stage-ac):Int),(stage+ae:Int)⟩:Mrk)]).length)*24<=140737488355328)) <|
  M.gi (k2-1) <|
  M.pure (.inl (ao,ap,k2-1,l7++([(⟨(place+(aa*ab):Int),(max 0 (stage-ac):Int),(stage+ae:Int)⟩:Mrk)])))))
  else (
  M.pure (.inr (s7,s8,l7,l7)))
def zcZ (s_bytes:List UInt8) (marks:Int) (lies:Bool) (place stage n:Int) (l9:List Sect) (ac:List Mrk) (ae ah:List Int) (l3:List FRow) (ai aj ak:Int):M ((Int × Int × Int × Int × Int × (List Sect) × (List Mrk) × (List Int) × (List Int)) ⊕ (Int × Int × (List Sect) × (List Mrk) × (List Int) × (List Int) × (List Int) × (List Int) × (List Mrk) × (List Sect))) :=
  M.bind (zab s_bytes aj ak 3) fun (al,am,ao) =>
  M.bind (M.iter (zcj s_bytes marks lies place stage) (am,ao,al,ac)) fun (s9,ap,l5,l8) =>
  M.bind (zae s_bytes s9 ap 21 200) fun (aa,aq,au) =>
  M.gi (place+aa) <|
  M.bind (zab s_bytes aq au 20) fun (ab,av,aw) =>
  M.gi (stage-ab) <|
  M.gi (n-1) <|
  M.pure (.inl (av,aw,place+aa,stage-ab,n-1,l9++([(⟨(place:Int),l3⟩:Sect)]),l8,ae++([(stage:Int)]),ah++([(ai:Int)])))
def zcl (s_bytes:List UInt8) (marks:Int) (lies:Bool):(Int × Int × Int × Int × Int × (List Sect) × (List Mrk) × (List Int) × (List Int))->M ((Int × Int × Int × Int × Int × (List Sect) × (List Mrk) × (List Int) × (List Int)) ⊕ (Int × Int × (List Sect) × (List Mrk) × (List Int) × (List Int) × (List Int) × (List Int) × (List Mrk) × (List Sect))):=fun (ae,ah,place,stage,n,l9,ac,aa,ab) =>
  bif decide (0<n) then (
  M.bind (zab s_bytes ae ah 60) fun (r5,aj,ak) =>
  M.bind (zab s_bytes aj ak 50) fun (r6,al,am) =>
  M.bind (zae s_bytes al am 2 4) fun (r7,ao,ap) =>
  M.bind (M.iter (zcF s_bytes) (ao,ap,r5,r6,r7,[])) fun (s5,s6,l2,l3) =>
  M.grd (decide ((l9.length+([(⟨(place:Int),l3⟩:Sect)]).length)*32<=140737488355328)) <|
  M.grd (decide ((aa.length+([(stage:Int)]).length)*8<=140737488355328)) <|
  M.bind (zae s_bytes s5 s6 30 90) fun (ai,aq,au) =>
  M.grd (decide ((ab.length+([(ai:Int)]).length)*8<=140737488355328)) <|
  zcZ s_bytes marks lies place stage n l9 ac aa ab l3 ai aq au)
  else (
  M.pure (.inr (ae,ah,l9,ac,aa,ab,ab,aa,ac,l9)))
def zbC (s_bytes:List UInt8) (ab:List Int) (ae:List Sect):(Int × Int × Int × (List Rch))->M ((Int × Int × Int × (List Rch)) ⊕ ((List Rch) × (List Rch) × Int × Int)):=fun (ak,al,n2,ah) =>
  bif decide (0<n2) then (
  M.bind (zab s_bytes ak al ((ae.length:Int)-1)) fun (aa,ao,ap) =>
  M.bind (zab s_bytes ao ap 4) fun (am,aq,au) =>
  M.gi (((ae.length:Int)-1)-aa) <|
  M.bind (zae s_bytes aq au 1 (((ae.length:Int)-1)-aa)) fun (ac,av,aw) =>
  M.gi (aa+ac) <|
  M.grd (decide ((0:Int)<=aa)&&decide (aa<(ab.length:Int))) <|
  M.grd (decide ((0:Int)<=(aa+ac))&&decide ((aa+ac)<(ab.length:Int))) <|
  M.bind (zab s_bytes av aw 8) fun (ai,ax,ay) =>
  M.gi ((min (ab.getD (Int.toNat aa) 0) (ab.getD (Int.toNat (aa+ac)) 0))-ai) <|
  M.bind (zab s_bytes ax ay 8) fun (aj,az,aA) =>
  M.gi ((max (ab.getD (Int.toNat aa) 0) (ab.getD (Int.toNat (aa+ac)) 0))+aj) <|
  M.grd (decide ((ah.length+([(⟨(aa:Int),(aa+ac:Int),((min (ab.getD (Int.toNat aa) 0) (ab.getD (Int.toNat (aa+ac)) 0))-ai:Int),((max (ab.getD (Int.toNat aa) 0) (ab.getD (Int.toNat (aa+ac)) 0))+aj:Int),(am==0)⟩:Rch)]).length)*40<=140737488355328)) <|
  M.gi (n2-1) <|
  M.pure (.inl (az,aA,n2-1,ah++([(⟨(aa:Int),(aa+ac:Int),((min (ab.getD (Int.toNat aa) 0) (ab.getD (Int.toNat (aa+ac)) 0))-ai:Int),((max (ab.getD (Int.toNat aa) 0) (ab.getD (Int.toNat (aa+ac)) 0))+aj:Int),(am==0)⟩:Rch)]))))
  else (
  M.pure (.inr (ah,ah,ak,al)))
def zaE (s_bytes:List UInt8) (ac ae:Int) (aa ah:List Int) (ab:List Sect) (ai:List Mrk):M ((List Sect) × (List Mrk) × (List Rch) × (List Int) × (List Int) × Int × Int) :=
  M.bind (zae s_bytes ac ae 1 4) fun (aj,ak,al) =>
  M.bind (M.iter (zbC s_bytes aa ab) (ak,al,aj,[])) fun (aq,am,ao,ap) =>
  M.pure (ab,ai,am,ah,aa,ao,ap)
def zbR (s_bytes:List UInt8) (s_used s_mix marks:Int) (lies:Bool):M ((List Sect) × (List Mrk) × (List Rch) × (List Int) × (List Int) × Int × Int) :=
  M.bind (zab s_bytes s_used s_mix 50) fun (r2,q1,q2) =>
  M.bind (zae s_bytes q1 q2 100 400) fun (r3,aj,ak) =>
  M.bind (zae s_bytes aj ak 2 5) fun (r4,al,am) =>
  M.bind (M.iter (zcl s_bytes marks lies) (al,am,r2,r3,r4,[],[],[],[])) fun (ae,ah,ao,ap,aq,au,ai,aa,ac,ab) =>
  bif (ac.length:Int)==0 then (
  M.grd (decide (0<(ab.length:Int))) <|
  M.grd (decide (0<(aa.length:Int))) <|
  M.gi ((aa.getD 0 0)-5) <|
  M.gi ((aa.getD 0 0)+5) <|
  M.grd (decide ((ac.length+([(⟨((ab.getD 0 default).place:Int),((aa.getD 0 0)-5:Int),((aa.getD 0 0)+5:Int)⟩:Mrk)]).length)*24<=140737488355328)) <|
  zaE s_bytes ae ah ai aa ab (ac++([(⟨((ab.getD 0 default).place:Int),((aa.getD 0 0)-5:Int),((aa.getD 0 0)+5:Int)⟩:Mrk)])))
  else (
  zaE s_bytes ae ah ai aa ab ac)
theorem zgn {R ab bt aB}(s_bytes s_used s_mix marks lies)(ac:Reads R bt)(ae:Sl bt aB s_bytes){r}(hM:(zbR s_bytes s_used s_mix marks lies).Ends r)(w)(H:St w w [cBlk ab [aB,I s_used,I s_mix] 77] R):Ret Tryz.prog 7 #[Pq ab,I marks,B lies] w fun v w'=>∃ y0 y1 y2 y3 y4 y5 y6 u0 rr1 bu u3 u4 u5 u6,(y0,y1,y2,y3,y4,y5,y6)=r/\v = .tuple #[.agg #[u0,u3,u4],.agg #[u5,u6]]/\St w w' [cOwn (α:=Raw 1) 95 u0 rr1,cRo bu,cOwn (α:=Mrk) 99 u3 y1,cOwn (α:=Rch) 101 u4 y2,cOwn (α:=Int) 3 u5 y3,cOwn (α:=Int) 3 u6 y4,cBlk ab [aB,I y5,I y6] 77] R/\RepR (α:=Sect) bu.cells rr1 y0:=by
 refine ret_of_W Tryz.func7 rfl rfl rfl ?_;refine kA 2 ?_;intro am dW H;refine kal ?_;intro ao dX H;refine kA 3 ?_;intro ap dY H;refine kA 3 ?_;intro aq dZ H;refine kg 4 ?_;obtain ⟨d6,bJ,hM⟩:=M.e_bind hM;refine s_call cq [Pq ab,I 50] rfl (zac s_bytes s_used s_mix 50 (ac.app _) ae bJ _ ((H.pk [4,0,1,2,3]).gt 4)) ?_;rintro _ d7 ⟨r2,q1,q2,rfl,rfl,aa⟩;replace H:=H.pk [4,0,1,2,3] |>.bk aa
 refine kC 1 @zad ?_;intro d8 r3 d9 ea hM H;refine kC 7 @zad ?_;intro eb r4 bK bL hM H;refine kg 3 ?_;obtain ⟨bv,H⟩:=H.emptyE;replace H:=H.nilOwn (α:=Raw 1) 95;have bM:RepR (α:=Sect) (n:=1) bv.cells [] []:=.nil;replace H:=H.nilOwn (α:=Mrk) 99;replace H:=H.nilOwn (α:=Int) 3;replace H:=H.nilOwn (α:=Int) 3;obtain ⟨bN,ba,bO⟩:=M.e_bind hM;obtain ⟨bb,ba⟩:=M.e_iter ba;refine W.loop (fun m σ W=>∃ (aI:Int) (aJ:Int) (place:Int) (stage:Int) (n:Int) (l9:List Sect) (aE:List Mrk) (aj:List Int) (ai:List Int) (av:Value) (aF:Value) (aC:Value) (aD:Value) (ak:List (Raw 1)) (B_l9:Base) (ρ:Env),σ=upds ρ [(0,Pq ab),(1,I marks),(2,B lies),(6,Pq am),(7,Pq ao),(8,Pq ap),(9,Pq aq),(10,I place),(11,I stage),(12,I n)]/\M.iterN (zcl s_bytes marks lies) m (aI,aJ,place,stage,n,l9,aE,aj,ai)=some bN/\St w W [cOwn (α:=Int) 3 aD ai,cOwn (α:=Int) 3 aC aj,cOwn (α:=Mrk) 99 aF aE,cOwn (α:=Raw 1) 95 av ak,cRo B_l9,cBlk ab [aB,I aI,I aJ] 77,cBlk aq [aC,aD] 47,cBlk ap [av,aF,.slice none 0 0] 45,cBlk ao [.slice none 0 0,.slice none 0 0] 47,cBlk am [.slice none 0 0,.slice none 0 0,.slice none 0 0] 45] R/\RepR (α:=Sect) B_l9.cells ak l9) ?_ ?_
 ·exact ⟨_,bK,bL,r2,r3,r4,[],[],[],[],(.slice none 0 0),(.slice none 0 0),(.slice none 0 0),(.slice none 0 0),[],bv,_,jQ,ba,H,bM⟩
 rintro ec σ ed ⟨aI,aJ,place,stage,n,l9,aE,aj,ai,av,aF,aC,aD,ak,B_l9,ρ,rfl,bP,H,ah⟩;obtain ⟨bQ,bR,bS,hM,bw⟩:=M.e_iterN bP;refine kI 6 ?_ ?_
 ·intro bT hM;refine kA 7 ?_;intro bc ef H;refine ksw ?_;intro eg H;refine kg 4 ?_;obtain ⟨ei,bU,hM⟩:=M.e_bind hM;refine s_call cq [Pq ab,I 60] rfl (zac s_bytes aI aJ 60 (ac.app _) ae bU _ ((H.pk [6,0,1,2,3,4,5,7,8,9,10]).gt 10)) ?_;rintro _ ej ⟨r5,bV,bW,rfl,rfl,aa⟩;replace H:=H.pk [6,0,1,2,3,4,5,7,8,9,10] |>.bk aa
  refine kg 1 ?_;obtain ⟨em,bX,hM⟩:=M.e_bind hM;refine s_call cq [Pq ab,I 50] rfl (zac s_bytes bV bW 50 (ac.app _) ae bX _ (H.gt 10)) ?_;rintro _ eo ⟨r6,bY,bZ,rfl,rfl,aa⟩;replace H:=H.bk aa;refine kg 7 ?_;obtain ⟨ep,b4,hM⟩:=M.e_bind hM;refine s_call cq [Pq ab,I 2,I 4] rfl (zad s_bytes bY bZ 2 4 (ac.app _) ae b4 _ (H.gt 10)) ?_;rintro _ eq ⟨r7,er,eu,rfl,rfl,aa⟩;replace H:=H.bk aa;refine kg 3 ?_;replace H:=H.nilOwn (α:=FRow) 97;obtain ⟨b6,bx,b7⟩:=M.e_bind hM;obtain ⟨bb,bx⟩:=M.e_iter bx;refine W.loop (fun m σ W=>∃ (s2:Int) (s3:Int) (s4:Int) (carry:Int) (k:Int) (l:List FRow) (ax:Value) (ρ:Env),σ=upds ρ [(0,Pq ab),(1,I marks),(2,B lies),(6,Pq am),(7,Pq ao),(8,Pq ap),(9,Pq aq),(10,I place),(11,I stage),(12,I n),(13,Pq bc),(14,I s4),(15,I carry),(16,I k)]/\M.iterN (zcF s_bytes) m (s2,s3,s4,carry,k,l)=some b6/\St w W [cOwn (α:=FRow) 97 ax l,cBlk ab [aB,I s2,I s3] 77,cBlk bc [I place,ax] 95,cOwn (α:=Int) 3 aD ai,cOwn (α:=Int) 3 aC aj,cOwn (α:=Mrk) 99 aF aE,cOwn (α:=Raw 1) 95 av ak,cRo B_l9,cBlk aq [aC,aD] 47,cBlk ap [av,aF,.slice none 0 0] 45,cBlk ao [.slice none 0 0,.slice none 0 0] 47,cBlk am [.slice none 0 0,.slice none 0 0,.slice none 0 0] 45] R) ?_ ?_
  ·exact kY
  rintro ew σ ey ⟨s2,s3,s4,carry,k,l,ax,ρ,rfl,b8,H⟩;obtain ⟨ez,eA,eB,hM,b9⟩:=M.e_iterN b8;refine kI 6 ?_ ?_
  ·intro cb hM;refine kL 10 (α:=FRow) [⟨s4,carry⟩] ?_;intro eC eD H;obtain ⟨eE,hM⟩:=M.e_gq hM;refine kP 0 ?_;intro eF eG H;refine kS 1 ?_;intro eH H;refine kg 4 ?_;obtain ⟨eI,cc,hM⟩:=M.e_bind hM;refine s_call cq [Pq ab,I 1,I 200] rfl (zad s_bytes s2 s3 1 200 (ac.app _) ae cc _ ((H.pk [2,0,1,3,4,5,6,7,8,9,10,11,12]).gt 12)) ?_;rintro _ eJ ⟨r8,cd,ce,rfl,rfl,aa⟩;replace H:=H.pk [2,0,1,3,4,5,6,7,8,9,10,11,12] |>.bk aa
   obtain ⟨eK,hM⟩:=M.e_gq hM;refine kg 3 ?_;obtain ⟨eL,cf,hM⟩:=M.e_bind hM;refine s_call cq [Pq ab,I 2000] rfl (zac s_bytes cd ce 2000 (ac.app _) ae cf _ (H.gt 12)) ?_;rintro _ eM ⟨r9,eN,eO,rfl,rfl,aa⟩;replace H:=H.bk aa;obtain ⟨eP,hM⟩:=M.e_gq hM;obtain ⟨eQ,hM⟩:=M.e_gq hM;exact kXp 9 [2,0,3,4,5,6,7,8,9,10,11,12]
  intro cb hM;refine W.exit ?_;obtain rfl:=M.e_inr hM b9;replace hM:=b7;refine W.seqJ (fun σ W=>∃ (al:Int) (ay:Int) (az:Int) (bz:Value) (bA:Value) (aw:Base) (bB:Value) (bf:List (Raw 1)) (aA:Base) (aK:Base) (aL:Base) (aM:Value) (aN:Value) (aO:Value) (aP:List (Raw 1)) (ρ:Env),σ=upds ρ [(0,Pq ab),(1,I marks),(2,B lies),(6,Pq am),(7,Pq ao),(8,Pq ap),(9,Pq aq),(10,I place),(11,I stage),(12,I n)]/\(zcZ s_bytes marks lies place stage n l9 aE aj ai l al ay az).Ends bS/\St w W [cOwn (α:=Int) 3 bz ([(al:Int)]),cBlk ab [aB,I ay,I az] 77,cOwn (α:=Int) 3 bA ([(stage:Int)]),cRo aw,cOwn (α:=Raw 1) 95 bB bf,cRo aA,cRo aK,cRo aL,cBlk bc [I place,ax] 95,cOwn (α:=Int) 3 aM (ai++([(al:Int)])),cOwn (α:=Int) 3 aN (aj++([(stage:Int)])),cOwn (α:=Mrk) 99 aF aE,cOwn (α:=Raw 1) 95 aO aP,cRo B_l9,cBlk aq [aN,aM] 47,cBlk ap [aO,aF,.slice none 0 0] 45,cBlk ao [.slice none 0 0,.slice none 0 0] 47,cBlk am [.slice none 0 0,.slice none 0 0,.slice none 0 0] 45] R/\RepR (α:=Sect) aA.cells bf ([(⟨(place:Int),l⟩:Sect)])/\RepR (α:=Sect) aw.cells aP (l9++([(⟨(place:Int),l⟩:Sect)]))) ?_ ?_
  ·refine kDS 0 [2,5,7,8,9,10,11] (.q 0 (.q 1 (.q 2 (.q 5 (.q 6 (.q 7 (.q 10 (.q 11 (.q 12 (.l2 3 (.l2 4 (.q 16 (.l 8 (.l 9 (.l 13 (.l 14 (.l 15 .nil)))))) 8 (.l 4 (.q 16 (.l 9 (.l 13 (.l 14 (.l 15 .nil))))))) 8 (.l 3 (.l 4 (.q 16 (.l 9 (.l 13 (.l 14 (.l 15 .nil))))))))))))))))) 17 [17,18,19,20,21] ?_;intro eR H;refine kg 9 ?_;refine ts_l2 rfl rfl ?_ ?_
   ·obtain ⟨aK,H⟩:=H.emptyE;obtain ⟨aL,H,cg⟩:=H.freezeE (k:=1) rfl;replace H:=H.nf;have aR:=cg;obtain ⟨aA,H,eS,ch⟩:=H.joinE (i:=0) (j:=1) rfl rfl;replace aR:=aR.mono ch;obtain ⟨au,bC⟩:∃ r:Raw 1,r.cs=[I place,ax]:=⟨Raw.of [I place,ax] rfl (by simp only [List.all_cons,List.all_nil,Bool.true_and,Bool.and_true,Sl.oc aR]; try rfl),rfl⟩
    have aS:RepR (α:=Sect) aA.cells [au] [(⟨(place:Int),l⟩:Sect)]:=.cons (by rw [bC]; exact ⟨_,rfl,aR⟩)<|.nil
    refine t_bs (α:=Raw 1) T41.h [.agg #[I place,ax]] [au] H rfl (.cons (by rw [show (Flat.enc au:List Value)=au.cs from rfl,bC]; rfl) (Flat.rep_enc _ _)<|.nil) rfl rfl rfl ?_;intro aT eT H;replace H:=H.nf;refine kN ?_;refine ts_l2 rfl rfl ?_ ?_
    ·obtain ⟨eU,hM⟩:=M.e_gq hM;have aU:=aS;obtain ⟨aw,H,cj,ck⟩:=H.joinE (i:=10) (j:=1) rfl rfl;replace ah:=ah.mono cj;replace aU:=aU.mono ck;have bg:=ah.app aU;refine t_app (α:=Raw 1) (k:=10) (l:=ak) (l2:=[au]) (l':=ak++([au])) (vy:=aT) T41.h rfl H rfl rfl rfl (H.os 1) (H.ol 1) (rfl) (by have a_:=ah.len; have b_:=aU.len; (try simp only [List.length_nil] at *); first | omega | (rw [a_,b_]; omega)) ?_;intro bh eV H;replace H:=H.nf;refine kN ?_;refine kL 2 (α:=Int) [stage] ?_;intro cn eW H;refine kN ?_;refine ts_l rfl ?_;obtain ⟨eX,hM⟩:=M.e_gq hM;refine kP 0 ?_;intro cp eY H;refine kN ?_;refine ts_l rfl ?_;obtain ⟨eZ,cr,hM⟩:=M.e_bind hM;refine s_call cq [Pq ab,I 30,I 90] rfl (zad s_bytes s2 s3 30 90 (ac.app _) ae cr _ ((H.pk [6,0,1,2,3,4,5,7,8,9,10,11,12,13,14,15,16]).gt 16)) ?_;rintro _ e6 ⟨al,ay,az,rfl,rfl,aa⟩;replace H:=H.pk [6,0,1,2,3,4,5,7,8,9,10,11,12,13,14,15,16] |>.bk aa
     refine kN ?_;refine kL 1 (α:=Int) [al] ?_;intro ct e7 H;refine kN ?_;refine ts_l rfl ?_;obtain ⟨e8,hM⟩:=M.e_gq hM;refine kP 0 ?_;intro cu e9 H;refine kN ?_;refine kg 1 ?_;refine sr_l rfl ?_;refine t_sw 15 0 [bh] bh H rfl rfl Sz41.h (Sl.cells (rowSl rfl (H.get (k:=12) rfl) (roLe _ (H.get (k:=3) rfl)) bg)) rfl rfl (by simp only [List.all_cons,List.all_nil,Bool.true_and,Bool.and_true,Sl.oc (rowSl rfl (H.get (k:=12) rfl) (roLe _ (H.get (k:=3) rfl)) bg)]; try rfl) ?_;intro fa H;refine s_nil ⟨trivial,?_⟩;refine kG 2 ?_;refine s_nil ⟨trivial,?_⟩;refine kS 1 ?_;intro fb H;refine s_nil ⟨trivial,?_⟩;refine kG 2 ?_;refine s_nil ⟨trivial,?_⟩;refine kS 1 ?_;intro fd H;refine s_nil ⟨trivial,?_⟩;refine sr_nil ?_;exact ⟨al,ay,az,ct,cn,aw,aT,[au],aA,aK,aL,cu,cp,bh,ak++([au]),_,jQ,hM,H,aS,bg⟩
    refine kL 0 (α:=Int) [stage] ?_;intro cv ff H;refine kN ?_;refine ts_l rfl ?_;obtain ⟨fg,hM⟩:=M.e_gq hM;have aV:=aS;obtain ⟨aw,H,cB,cC⟩:=H.joinE (i:=11) (j:=2) rfl rfl;replace ah:=ah.mono cB;replace aV:=aV.mono cC;have bi:=ah.app aV;refine t_app (α:=Raw 1) (k:=11) (l:=ak) (l2:=[au]) (l':=ak++([au])) (vy:=aT) T41.h rfl H rfl rfl rfl (H.os 2) (H.ol 2) (rfl) (by have a_:=ah.len; have b_:=aV.len; (try simp only [List.length_nil] at *); first | omega | (rw [a_,b_]; omega)) ?_;intro bj fh H;replace H:=H.nf;refine kN ?_;refine kG 2 ?_;obtain ⟨fi,hM⟩:=M.e_gq hM;refine kP 0 ?_;intro cD fj H;refine kN ?_;refine ts_l rfl ?_;obtain ⟨fk,cE,hM⟩:=M.e_bind hM;refine s_call cq [Pq ab,I 30,I 90] rfl (zad s_bytes s2 s3 30 90 (ac.app _) ae cE _ ((H.pk [6,0,1,2,3,4,5,7,8,9,10,11,12,13,14,15,16]).gt 16)) ?_;rintro _ fm ⟨al,ay,az,rfl,rfl,aa⟩;replace H:=H.pk [6,0,1,2,3,4,5,7,8,9,10,11,12,13,14,15,16] |>.bk aa
    refine kN ?_;refine kL 1 (α:=Int) [al] ?_;intro cF fo H;refine kN ?_;refine ts_l rfl ?_;obtain ⟨fp,hM⟩:=M.e_gq hM;refine kP 0 ?_;intro cG fq H;refine kN ?_;refine kg 1 ?_;refine sr_l rfl ?_;refine t_sw 15 0 [bj] bj H rfl rfl Sz41.h (Sl.cells (rowSl rfl (H.get (k:=12) rfl) (roLe _ (H.get (k:=2) rfl)) bi)) rfl rfl (by simp only [List.all_cons,List.all_nil,Bool.true_and,Bool.and_true,Sl.oc (rowSl rfl (H.get (k:=12) rfl) (roLe _ (H.get (k:=2) rfl)) bi)]; try rfl) ?_;intro fu H;refine s_nil ⟨trivial,?_⟩;refine kG 2 ?_;refine s_nil ⟨trivial,?_⟩;refine kS 1 ?_;intro fv H;refine s_nil ⟨trivial,?_⟩;refine kG 2 ?_;refine s_nil ⟨trivial,?_⟩;refine kS 1 ?_;intro fw H;refine s_nil ⟨trivial,?_⟩;refine sr_nil ?_;exact ⟨al,ay,az,cF,cv,aw,aT,[au],aA,aK,aL,cG,cD,bj,ak++([au]),_,jQ,hM,(H.pk [0,1,3,2,4,5,6,7,8,9,10,11,12,13,14,15,16,17]),aS,bi⟩
   refine kL 0 (α:=Int) [stage] ?_;intro cH fx H;refine kN ?_;refine ts_l rfl ?_;obtain ⟨aK,H⟩:=H.emptyE;obtain ⟨aL,H,cI⟩:=H.freezeE (k:=2) rfl;replace H:=H.nf;have aW:=cI;obtain ⟨aA,H,fy,cJ⟩:=H.joinE (i:=0) (j:=2) rfl rfl;replace aW:=aW.mono cJ;obtain ⟨aG,bD⟩:∃ r:Raw 1,r.cs=[I place,ax]:=⟨Raw.of [I place,ax] rfl (by simp only [List.all_cons,List.all_nil,Bool.true_and,Bool.and_true,Sl.oc aW]; try rfl),rfl⟩
   have bE:RepR (α:=Sect) aA.cells [aG] [(⟨(place:Int),l⟩:Sect)]:=.cons (by rw [bD]; exact ⟨_,rfl,aW⟩)<|.nil
   refine t_bs (α:=Raw 1) T41.h [.agg #[I place,ax]] [aG] H rfl (.cons (by rw [show (Flat.enc aG:List Value)=aG.cs from rfl,bD]; rfl) (Flat.rep_enc _ _)<|.nil) rfl rfl rfl ?_;intro bF fA H;replace H:=H.nf;refine kN ?_;refine ts_l rfl ?_;obtain ⟨fB,hM⟩:=M.e_gq hM;have aX:=bE;obtain ⟨aw,H,cK,cL⟩:=H.joinE (i:=11) (j:=1) rfl rfl;replace ah:=ah.mono cK;replace aX:=aX.mono cL;have bm:=ah.app aX;refine t_app (α:=Raw 1) (k:=11) (l:=ak) (l2:=[aG]) (l':=ak++([aG])) (vy:=bF) T41.h rfl H rfl rfl rfl (H.os 1) (H.ol 1) (rfl) (by have a_:=ah.len; have b_:=aX.len; (try simp only [List.length_nil] at *); first | omega | (rw [a_,b_]; omega)) ?_;intro bn fC H;replace H:=H.nf;refine kN ?_;refine kG 2 ?_;obtain ⟨fD,hM⟩:=M.e_gq hM;refine kP 0 ?_;intro cM fE H;refine kN ?_;refine ts_l rfl ?_;obtain ⟨fF,cN,hM⟩:=M.e_bind hM;refine s_call cq [Pq ab,I 30,I 90] rfl (zad s_bytes s2 s3 30 90 (ac.app _) ae cN _ ((H.pk [6,0,1,2,3,4,5,7,8,9,10,11,12,13,14,15,16]).gt 16)) ?_;rintro _ fG ⟨al,ay,az,rfl,rfl,aa⟩;replace H:=H.pk [6,0,1,2,3,4,5,7,8,9,10,11,12,13,14,15,16] |>.bk aa
   refine kN ?_;refine kL 1 (α:=Int) [al] ?_;intro cO fH H;refine kN ?_;refine ts_l rfl ?_;obtain ⟨fI,hM⟩:=M.e_gq hM;refine kP 0 ?_;intro cP fJ H;refine kN ?_;refine kg 1 ?_;refine sr_l rfl ?_;refine t_sw 15 0 [bn] bn H rfl rfl Sz41.h (Sl.cells (rowSl rfl (H.get (k:=12) rfl) (roLe _ (H.get (k:=2) rfl)) bm)) rfl rfl (by simp only [List.all_cons,List.all_nil,Bool.true_and,Bool.and_true,Sl.oc (rowSl rfl (H.get (k:=12) rfl) (roLe _ (H.get (k:=2) rfl)) bm)]; try rfl) ?_;intro fK H;refine s_nil ⟨trivial,?_⟩;refine kG 2 ?_;refine s_nil ⟨trivial,?_⟩;refine kS 1 ?_;intro fL H;refine s_nil ⟨trivial,?_⟩;refine kG 2 ?_;refine s_nil ⟨trivial,?_⟩;refine kS 1 ?_;intro fM H;refine s_nil ⟨trivial,?_⟩;refine sr_nil ?_;exact ⟨al,ay,az,cO,cH,aw,bF,[aG],aA,aK,aL,cP,cM,bn,ak++([aG]),_,jQ,hM,(H.pk [0,1,6,2,3,4,5,7,8,9,10,11,12,13,14,15,16,17]),bE,bm⟩
  rintro _ fN ⟨al,ay,az,bz,bA,aw,bB,bf,aA,aK,aL,aM,aN,aO,aP,ρ,rfl,hM,H,fO,cQ⟩;unfold zcZ at hM;refine kg 4 ?_;obtain ⟨fP,cR,hM⟩:=M.e_bind hM;refine s_call cq [Pq ab,I 3] rfl (zac s_bytes ay az 3 (ac.app _) ae cR _ ((H.pk [1,0,2,3,4,5,6,7,8,9,10,11,12,13,14,15,16,17]).gt 17)) ?_;rintro _ fQ ⟨fR,fS,fT,rfl,rfl,aa⟩;replace H:=H.pk [1,0,2,3,4,5,6,7,8,9,10,11,12,13,14,15,16,17] |>.bk aa
  refine kg 2 ?_;replace H:=H.pk [0,3,9,10,11,12,13,14,15,16,17];refine W.block ?_;obtain ⟨cS,bG,cT⟩:=M.e_bind hM;obtain ⟨bb,bG⟩:=M.e_iter bG;refine W.loop (fun m σ W=>∃ (s7:Int) (s8:Int) (k2:Int) (l7:List Mrk) (aY:Value) (ρ:Env),σ=upds ρ [(0,Pq ab),(1,I marks),(2,B lies),(6,Pq am),(7,Pq ao),(8,Pq ap),(9,Pq aq),(10,I place),(11,I stage),(12,I n),(17,I k2)]/\M.iterN (zcj s_bytes marks lies place stage) m (s7,s8,k2,l7)=some cS/\St w W [cBlk ab [aB,I s7,I s8] 77,cRo aw,cOwn (α:=Int) 3 aM (ai++([(al:Int)])),cOwn (α:=Int) 3 aN (aj++([(stage:Int)])),cOwn (α:=Mrk) 99 aY l7,cOwn (α:=Raw 1) 95 aO aP,cRo B_l9,cBlk aq [aN,aM] 47,cBlk ap [aO,aY,.slice none 0 0] 45,cBlk ao [.slice none 0 0,.slice none 0 0] 47,cBlk am [.slice none 0 0,.slice none 0 0,.slice none 0 0] 45] R) ?_ ?_
  ·exact kY
  rintro fU σ fV ⟨s7,s8,k2,l7,aY,ρ,rfl,cU,H⟩;obtain ⟨fW,fX,fY,hM,cV⟩:=M.e_iterN cU;refine kI 13 ?_ ?_
  ·intro cW hM;refine kg 7 ?_;obtain ⟨fZ,cX,hM⟩:=M.e_bind hM;refine s_call cq [Pq ab,I 2] rfl (zac s_bytes s7 s8 2 (ac.app _) ae cX _ (H.gt 10)) ?_;rintro _ f6 ⟨cY,cZ,c4,rfl,rfl,aa⟩;replace H:=H.bk aa;refine kg 1 ?_;obtain ⟨f9,c6,hM⟩:=M.e_bind hM;refine s_call cq [Pq ab,I 20] rfl (zac s_bytes cZ c4 20 (ac.app _) ae c6 _ (H.gt 10)) ?_;rintro _ gc ⟨c7,c8,c9,rfl,rfl,aa⟩;replace H:=H.bk aa;obtain ⟨gf,hM⟩:=M.e_gq hM;obtain ⟨gg,hM⟩:=M.e_gq hM;refine kg 4 ?_;obtain ⟨gh,da,hM⟩:=M.e_bind hM;refine s_call cq [Pq ab,I 9] rfl (zac s_bytes c8 c9 9 (ac.app _) ae da _ (H.gt 10)) ?_;rintro _ gi ⟨db,dc,dg,rfl,rfl,aa⟩;replace H:=H.bk aa;obtain ⟨gj,hM⟩:=M.e_gq hM;refine kg 4 ?_;obtain ⟨gk,dh,hM⟩:=M.e_bind hM;refine s_call cq [Pq ab,I 9] rfl (zac s_bytes dc dg 9 (ac.app _) ae dh _ (H.gt 10)) ?_;rintro _ gl ⟨di,gm,gn,rfl,rfl,aa⟩;replace H:=H.bk aa;obtain ⟨gp,hM⟩:=M.e_gq hM;refine kA 3 ?_;intro gq gr H;refine ksw ?_;intro gw H;refine kg 7 ?_;refine g_splitV lies (I 0) (gy_t rfl) (fun aZ=>?_) (fun aZ=>?_)
   ·replace hM:=M.e_t hM aZ;exact (M.e_fail hM).elim
   replace hM:=M.e_f hM aZ;refine g_val (v:=B false) lies (gy_t rfl) (fun hg=>Bool.noConfusion (aZ.symm.trans hg))<|s_val (x_pand0 (b:=lies) rfl (fun hb=>gd_of (c:=lies) (by first | exact hb | (rw [hb]; rfl) | simp_all) (B false)) rfl)<|s_nil ?_
   refine W.cond false rfl (fun bH=>?_) (fun bH=>?_)
   ·exact absurd bH (by decide)
   refine kL 5 (α:=Mrk) [⟨place+(cY*c7),max 0 (stage-db),stage+di⟩] ?_;intro gx gy H;obtain ⟨gz,hM⟩:=M.e_gq hM;refine kP 0 ?_;intro gA gB H;refine kS 1 ?_;intro gC H;refine s_nil ?_;replace H:=H.pk [2,3,4,5,6,7,8,9,10,11,12];obtain ⟨gD,hM⟩:=M.e_gq hM;exact kX 5
  intro cW hM;refine W.exit ?_;obtain rfl:=M.e_inr hM cV;replace hM:=cT;refine kg 3 ?_;obtain ⟨gE,dj,hM⟩:=M.e_bind hM;refine s_call cq [Pq ab,I 21,I 200] rfl (zad s_bytes s7 s8 21 200 (ac.app _) ae dj _ (H.gt 10)) ?_;rintro _ gF ⟨dk,dm,dp,rfl,rfl,aa⟩;replace H:=H.bk aa;obtain ⟨gG,hM⟩:=M.e_gq hM;refine kg 3 ?_;obtain ⟨gH,dq,hM⟩:=M.e_bind hM;refine s_call cq [Pq ab,I 20] rfl (zac s_bytes dm dp 20 (ac.app _) ae dq _ (H.gt 10)) ?_;rintro _ gI ⟨dr,dt,du,rfl,rfl,aa⟩;replace H:=H.bk aa;obtain ⟨gJ,hM⟩:=M.e_gq hM;obtain ⟨gK,hM⟩:=M.e_gq hM;refine kg 9 ?_;exact ⟨bQ,bR,dt,du,place+dk,stage-dr,n-1,l9++([(⟨(place:Int),l⟩:Sect)]),l7,aj++([(stage:Int)]),ai++([(al:Int)]),aO,aY,aN,aM,aP,aw,_,jQ,M.e_inl hM bw,(H.pk [2,3,4,5,1,0,7,8,9,10]),cQ⟩
 intro bT hM;refine W.exit ?_;obtain rfl:=M.e_inr hM bw;replace hM:=bO;refine W.seqJ (fun σ W=>∃ (a6:List Mrk) (aQ:Value) (ρ:Env),σ=upds ρ [(0,Pq ab),(6,Pq am),(7,Pq ao),(8,Pq ap),(9,Pq aq)]/\(zaE s_bytes aI aJ ai aj l9 a6).Ends r/\St w W [cOwn (α:=Int) 3 aD ai,cOwn (α:=Int) 3 aC aj,cOwn (α:=Mrk) 99 aQ a6,cOwn (α:=Raw 1) 95 av ak,cRo B_l9,cBlk ab [aB,I aI,I aJ] 77,cBlk aq [aC,aD] 47,cBlk ap [av,aQ,.slice none 0 0] 45,cBlk ao [.slice none 0 0,.slice none 0 0] 47,cBlk am [.slice none 0 0,.slice none 0 0,.slice none 0 0] 45] R) ?_ ?_
 ·have gL:=((H.os 2)).len_le;refine kI 7 ?_ ?_
  ·intro dv hM;refine kDS 0 [0,1,3,4,5,6,7,8,9] (.q 0 (.q 1 (.q 2 (.q 3 (.q 4 (.q 5 (.q 6 (.q 7 (.q 8 (.q 9 (.q 10 (.q 11 (.q 12 (.q 13 (.q 14 (.q 15 (.q 16 (.q 17 (.q 18 (.l 19 (.l 20 (.q 21 .nil)))))))))))))))))))))) 22 [22] ?_;intro gM H;obtain ⟨gN,hM⟩:=M.e_gq hM;refine kg 4 ?_;refine ts_q rfl (fun w' H=>x_ix (v:=vat av 2 (Int.toNat 0)) rfl rfl (Sl.ix (α:=Sect) T41.h.und T41.h.size (rowSl rfl (H.get (k:=2) rfl) (roLe _ (H.get (k:=3) rfl)) ah) (by omega) (by omega))) ?_;refine ts_q rfl (fun w' H=>x_fa (v:=fat (vat av 2 (Int.toNat 0)) 0) rfl (fa_pl Fd95_0.h Sz3.h (Sl.pl (i:=0) (rowSl rfl (H.get (k:=2) rfl) (roLe _ (H.get (k:=3) rfl)) ah) (by omega) (by omega)))) ?_;refine ts_q rfl (fun w' H=>x_ld (v:=I ((l9.getD 0 default).place)) rfl (ld_sc Sc3.h (At.mono (Sect_at0 (rowSl rfl (H.get (k:=2) rfl) (roLe _ (H.get (k:=3) rfl)) ah) (i:=0) (by omega) (by omega)) (Cells.sup_le (H.ol 2) (roLe _ (H.get (k:=3) rfl)))))) ?_;obtain ⟨gO,hM⟩:=M.e_gq hM;obtain ⟨gP,hM⟩:=M.e_gq hM;obtain ⟨gQ,hM⟩:=M.e_gq hM;refine kL 13 (α:=Mrk) [⟨(l9.getD 0 default).place,(aj.getD 0 0)-5,(aj.getD 0 0)+5⟩] ?_;intro gS gT H;refine kN ?_;refine ts_l rfl ?_;obtain ⟨gU,hM⟩:=M.e_gq hM;refine kP 0 ?_;intro dx gV H;refine kN ?_;refine kS 3 ?_;intro gW H;refine s_nil ⟨trivial,?_⟩;refine sr_nil ?_;exact ⟨aE++([(⟨((l9.getD 0 default).place:Int),((aj.getD 0 0)-5:Int),((aj.getD 0 0)+5:Int)⟩:Mrk)]),dx,_,jQ,hM,(H.pk [1,2,3,4,5,6,7,8,9,10])⟩
  intro dv hM;refine W.skip ?_;exact ⟨aE,aF,_,jQ,hM,H⟩
 rintro _ gX ⟨a6,aQ,ρ,rfl,hM,H⟩;unfold zaE at hM;refine kg 4 ?_;obtain ⟨gY,dy,hM⟩:=M.e_bind hM;refine s_call cq [Pq ab,I 1,I 4] rfl (zad s_bytes aI aJ 1 4 (ac.app _) ae dy _ ((H.pk [5,0,1,2,3,4,6,7,8,9]).gt 9)) ?_;rintro _ gZ ⟨g0,hZ,ia,rfl,rfl,aa⟩;replace H:=H.pk [5,0,1,2,3,4,6,7,8,9] |>.bk aa
 refine kg 3 ?_;replace H:=H.nilOwn (α:=Rch) 101;obtain ⟨dz,bI,dA⟩:=M.e_bind hM;obtain ⟨bb,bI⟩:=M.e_iter bI;refine W.loop (fun m σ W=>∃ (a7:Int) (a8:Int) (n2:Int) (bo:List Rch) (bp:Value) (ρ:Env),σ=upds ρ [(0,Pq ab),(6,Pq am),(7,Pq ao),(8,Pq ap),(9,Pq aq),(19,I n2)]/\M.iterN (zbC s_bytes ai l9) m (a7,a8,n2,bo)=some dz/\St w W [cOwn (α:=Rch) 101 bp bo,cBlk ab [aB,I a7,I a8] 77,cOwn (α:=Int) 3 aD ai,cOwn (α:=Int) 3 aC aj,cOwn (α:=Mrk) 99 aQ a6,cOwn (α:=Raw 1) 95 av ak,cRo B_l9,cBlk aq [aC,aD] 47,cBlk ap [av,aQ,bp] 45,cBlk ao [.slice none 0 0,.slice none 0 0] 47,cBlk am [.slice none 0 0,.slice none 0 0,.slice none 0 0] 45] R) ?_ ?_
 ·exact kY
 rintro ib σ ic ⟨a7,a8,n2,bo,bp,ρ,rfl,dB,H⟩;obtain ⟨ie,ig,ii,hM,dC⟩:=M.e_iterN dB;refine kI 6 ?_ ?_
 ·intro dD hM;have ij:=((rowSl rfl (H.get (k:=5) rfl) (roLe _ (H.get (k:=6) rfl)) ah)).len_le;refine kg 8 ?_;refine s_val (x_lenS T41.h.und rfl (rowSl rfl (H.get (k:=5) rfl) (roLe _ (H.get (k:=6) rfl)) ah)) ?_;refine kg 1 ?_;obtain ⟨ik,dE,hM⟩:=M.e_bind hM;refine s_call cq [Pq ab,I ((l9.length:Int)-1)] rfl (zac s_bytes a7 a8 ((l9.length:Int)-1) (ac.app _) ae dE _ ((H.pk [1,0,2,3,4,5,6,7,8,9,10]).gt 10)) ?_;rintro _ il ⟨aH,dF,dG,rfl,rfl,aa⟩;replace H:=H.pk [1,0,2,3,4,5,6,7,8,9,10] |>.bk aa
  refine kg 1 ?_;obtain ⟨im,dH,hM⟩:=M.e_bind hM;refine s_call cq [Pq ab,I 4] rfl (zac s_bytes dF dG 4 (ac.app _) ae dH _ (H.gt 10)) ?_;rintro _ io ⟨dJ,dK,dL,rfl,rfl,aa⟩;replace H:=H.bk aa;refine kA 2 ?_;intro iq ir H;refine ksw ?_;intro iw H;refine kDS 2 [0,2,3,4,5,6,7,8,9,10,11] (.q 0 (.q 1 (.q 2 (.q 3 (.q 4 (.q 5 (.q 6 (.q 7 (.q 8 (.q 9 (.l 10 (.q 11 (.q 12 .nil))))))))))))) 13 [13] ?_;intro iy H;have iz:=((rowSl rfl (H.get (k:=6) rfl) (roLe _ (H.get (k:=7) rfl)) ah)).len_le;refine kg 5 ?_;refine ts_q rfl (fun w' H=>x_lenS T41.h.und rfl (rowSl rfl (H.get (k:=5) rfl) (roLe _ (H.get (k:=6) rfl)) ah)) ?_;obtain ⟨iA,hM⟩:=M.e_gq hM;refine kG 5 ?_;obtain ⟨iB,dM,hM⟩:=M.e_bind hM;refine s_call cq [Pq ab,I 1,I (((l9.length:Int)-1)-aH)] rfl (zad s_bytes dK dL 1 (((l9.length:Int)-1)-aH) (ac.app _) ae dM _ ((H.pk [1,0,2,3,4,5,6,7,8,9,10,11]).gt 11)) ?_;rintro _ iC ⟨br,dN,dO,rfl,rfl,aa⟩;replace H:=H.pk [1,0,2,3,4,5,6,7,8,9,10,11] |>.bk aa
  refine kN ?_;obtain ⟨iD,hM⟩:=M.e_gq hM;refine kS 4 ?_;intro iE H;refine s_nil ⟨trivial,?_⟩;refine sr_nil ?_;refine kD 1 [0,1,2,3,4,5,6,7,8,9,10,11] [] ?_;intro iF H;obtain ⟨iG,hM⟩:=M.e_gq hM;obtain ⟨iH,hM⟩:=M.e_gq hM;refine kg 21 ?_;obtain ⟨iI,dP,hM⟩:=M.e_bind hM;refine s_call cq [Pq ab,I 8] rfl (zac s_bytes dN dO 8 (ac.app _) ae dP _ (H.gt 11)) ?_;rintro _ iJ ⟨dQ,dR,dS,rfl,rfl,aa⟩;replace H:=H.bk aa;obtain ⟨iK,hM⟩:=M.e_gq hM;refine kg 5 ?_;obtain ⟨iL,dU,hM⟩:=M.e_bind hM;refine s_call cq [Pq ab,I 8] rfl (zac s_bytes dR dS 8 (ac.app _) ae dU _ (H.gt 11)) ?_;rintro _ iM ⟨dV,iN,iO,rfl,rfl,aa⟩;replace H:=H.bk aa;obtain ⟨iP,hM⟩:=M.e_gq hM;refine kS 3 ?_;intro iQ H;refine kL 5 (α:=Rch) [⟨aH,aH+br,(min (ai.getD (Int.toNat aH) 0) (ai.getD (Int.toNat (aH+br)) 0))-dQ,(max (ai.getD (Int.toNat aH) 0) (ai.getD (Int.toNat (aH+br)) 0))+dV,(dJ==0)⟩] ?_;intro iR iS H;obtain ⟨iT,hM⟩:=M.e_gq hM;refine kP 0 ?_;intro iU iV H;refine kS 1 ?_;intro iW H;refine s_nil ?_;replace H:=H.pk [1,3,4,5,6,7,8,9,10,11,12];obtain ⟨iX,hM⟩:=M.e_gq hM;exact kXp 5 [1,0,2,3,4,5,6,7,8,9,10]
 intro dD hM;refine W.exit ?_;obtain rfl:=M.e_inr hM dC;replace hM:=dA;refine kD 1 [0,1,2,3,4,5,6,7,8] [2,3] ?_;intro iY H;refine kS 3 ?_;intro iZ H;refine kN ?_;refine kS 1 ?_;intro i0 H;refine kN ?_;refine d_nil ?_;replace H:=H.pk [0,1,2,3,4,5,6,9,10];exact kR 0 [5,6,4,0,3,2,1]

end Go.Proofs.YtbgoclcmgbpckabGreat
end
section
set_option maxRecDepth 100000
set_option maxHeartbeats 16000000
namespace Go.Proofs.YtbgoclcmgbpckabGreat
open Go Go.Nm
attribute [local irreducible] gd execOp SL SLD SLT WR
def zag (n aa greatest:Int):M Bool :=
  M.pure ((decide (aa<=n))&&(decide (n<=greatest)))
theorem zah {R}(n aa greatest){r}(hM:(zag n aa greatest).Ends r)(w)(H:St w w [] R):Ret Tryz.prog 32 #[I n,I aa,I greatest] w fun v w'=>∃ y0,y0=r/\v=B y0/\St w w' [] R:=by
 refine ret_of_W Tryz.func32 rfl rfl rfl ?_;refine kg 16 ?_;exact rt

def zcX (s:List Old10) (f:Old10->M Bool):Nat->M (Nat ⊕ (Int ⊕ Unit)):=fun s2 =>
  bif decide ((s2:Int)<(s.length:Int)) then (
  M.grd (decide ((s2:Int)<(s.length:Int))) <|
  M.bind (f (s.getD s2 default)) fun r2 =>
  bif r2 then (
  M.pure (.inr (.inl (s2:Int))))
  else (
  M.pure (.inl (s2+1))))
  else (
  M.pure (.inr (.inr ())))
def zcd (s:List Old10) (f:Old10->M Bool):M Int :=
  M.bind (M.iter (zcX s f) 0) fun x_=>match x_ with
  | (.inl s3)=>(
  M.pure s3)
  | (.inr (_:Unit))=>(
  M.pure (-1))
theorem zgf {R ae ab ac}(s f)(ah:Reads R ae)(ai:Sl ae ab s)(ao:FnM Tryz.prog R ac f){r}(hM:(zcd s f).Ends r)(w)(H:St w w [] R):Ret Tryz.prog 221 #[ab,ac] w fun v w'=>∃ y0,y0=r/\v=I y0/\St w w' [] R:=by
 refine ret_of_W Tryz.func221 rfl rfl rfl ?_;have ay:=(ai).len_le;refine kg 12 ?_;obtain ⟨ap,aj,ak⟩:=M.e_bind hM;obtain ⟨az,aj⟩:=M.e_iter aj;refine W.loop (fun m σ W=>∃ (s2:Nat) (ρ:Env),σ=upds ρ [(0,ab),(1,ac),(7,I (s.length:Int)),(8,I (s2:Int))]/\M.iterN (zcX s f) m s2=some ap/\St w W [] R) ?_ ?_
 ·exact kY
 rintro aA σ aB ⟨s2,ρ,rfl,aq,H⟩;obtain ⟨aC,aD,aE,hM,al⟩:=M.e_iterN aq;refine kI 5 ?_ ?_
 ·intro au hM;obtain ⟨aF,hM⟩:=M.e_gq hM;refine kg 14 ?_;obtain ⟨am,av,aa⟩:=Old10_atA ai (i:=(s2:Int)) (by omega) (by omega);replace aa:Sl _ am (s.getD s2 default).passed:=aa;have aG:=aa.len_le;refine s_val (x_ld (v:=.agg #[I ((s.getD s2 default).src),I ((s.getD s2 default).dst),I ((s.getD s2 default).stage),am]) rfl (ld_ag Ag60.h Sz60.h (At.mono av (ah.at H)))) ?_;obtain ⟨r2,aw,hM⟩:=M.e_bind hM;refine t_callM H ao rfl rfl (s.getD s2 default) (ah.app _) ⟨_,Old10_mk aa,rfl⟩ aw ?_;intro aH H;refine kI 1 ?_ ?_
  ·intro ax hM;refine kg 5 ?_;obtain rfl:=M.e_inr hM al;replace hM:=ak;exact rt
  intro ax hM;exact kX 5
 intro au hM;refine W.exit ?_;obtain rfl:=M.e_inr hM al;replace hM:=ak;refine kg 4 ?_;exact rt

def zdC (s:List Old10) (f:Old10->M Bool):M Bool :=
  M.bind (zcd s f) fun r2 =>
  M.pure (decide (0<=r2))
theorem zfV {R aa ab ac}(s f)(ae:Reads R aa)(ah:Sl aa ab s)(ai:FnM Tryz.prog R ac f){r}(hM:(zdC s f).Ends r)(w)(H:St w w [] R):Ret Tryz.prog 165 #[ab,ac] w fun v w'=>∃ y0,y0=r/\v=B y0/\St w w' [] R:=by
 refine ret_of_W Tryz.func165 rfl rfl rfl ?_;refine kC 8 @zgf ?_;intro aj r2 hM H;refine kg 3 ?_;exact rt

def zbc (x:Old10) (aa:Old10->M Bool):M Bool :=
  M.bind (aa x) fun r2 =>
  M.pure (!r2)
theorem zfA {R aa ab ac ae}(x ah)(ai:Reads R aa)(aj:Sl aa ab x.passed)(ak:FnM Tryz.prog R ae ah)(am:Has R (cBlk ac [ae] 229)){r}(hM:(zbc x ah).Ends r)(w)(H:St w w [] R):Ret Tryz.prog 166 #[.agg #[I x.src,I x.dst,I x.stage,ab],Pq ac] w fun v w'=>∃ y0,y0=r/\v=B y0/\St w w' [] R:=by
 refine ret_of_W Tryz.func166 rfl rfl rfl ?_;refine kB 2 ?_;intro ao ap H;refine kg 6 ?_;obtain ⟨r2,al,hM⟩:=M.e_bind hM;refine t_callM H ak rfl rfl x (ai.app _) ⟨_,Old10_mk aj,rfl⟩ al ?_;intro aq H;refine kg 3 ?_;exact rt

def za1 (l:List Old10) (so:Old10->M Bool):M Bool :=
  M.bind (zdC l (fun aa=>zbc aa so)) fun r2 =>
  M.pure (!r2)
theorem zes {R ae aa ah}(l so)(aj:Reads R ae)(ak:Sl ae aa l)(al:FnM Tryz.prog R ah so){r}(hM:(za1 l so).Ends r)(w)(H:St w w [] R):Ret Tryz.prog 109 #[aa,ah] w fun v w'=>∃ y0,y0=r/\v=B y0/\St w w' [] R:=by
 refine ret_of_W Tryz.func109 rfl rfl rfl ?_;refine kB 2 ?_;intro ab aB H;refine kg 5 ?_;refine s_val (x_mf (fs:=[]) (cs:=[Pq ab]) rfl rfl) ?_;obtain ⟨aC,am,hM⟩:=M.e_bind hM;refine s_call cq [aa,.func (.func 166) #[] #[Pq ab]] rfl (zfV l (fun ac=>zbc ac so) (aj.app _) ak ⟨166,[Pq ab],rfl,cq,fun ai aD aE ao ac aF ap aq au av=>by obtain ⟨aG,rfl,aw⟩:=Old10_arg au; exact (zfA ac so aq aw (FnM.app (al.app _) _) (Has.app (Has.here (k:=0) rfl) _) av ai (St.refl ap)).mono fun ao ai ⟨aH,ax,ay,az⟩=>by subst ax; exact ⟨ay,az⟩⟩ am _ (H.gt 1)) ?_;rintro _ aI ⟨r2,rfl,rfl,aA⟩;replace H:=H.bk aA;refine kg 3 ?_;exact rt

def zbL (o:Old10):M Bool :=
  M.pure (decide ((o.passed.length:Int)<=10))
theorem zgj {R aa ab}(o)(ae:Reads R aa)(ac:Sl aa ab o.passed){r}(hM:(zbL o).Ends r)(w)(H:St w w [] R):Ret Tryz.prog 108 #[.agg #[I o.src,I o.dst,I o.stage,ab]] w fun v w'=>∃ y0,y0=r/\v=B y0/\St w w' [] R:=by
 refine ret_of_W Tryz.func108 rfl rfl rfl ?_;refine kB 2 ?_;intro ah ai H;have aj:=(ac).len_le;refine kg 10 ?_;exact rt

def zb5 (ac:List Yr) (ae:List Old10) (aa ab:Int) (x2:Yr):M Bool :=
  M.bind (zag x2.year aa ab) fun r2 =>
  M.bind (M.opt r2 (zag x2.lo 0 x2.hi) false) fun r3 =>
  M.bind (M.opt (r2&&r3) (zag x2.hi 0 2000) false) fun r4 =>
  M.pure ((r2&&r3)&&r4)
theorem ze9 {R ac ae ah ai}(aj ak al am x2)(av:Reads R ac)(aw:Sl ac ae aj)(ax:Reads R ah)(ay:Sl ah ai ak){r}(hM:(zb5 aj ak al am x2).Ends r)(w)(H:St w w [] R):Ret Tryz.prog 110 #[.agg #[ae,ai,I al,I am],.iface 58 (.agg #[I x2.year,I x2.lo,I x2.hi])] w fun v w'=>∃ y0,y0=r/\v=B y0/\St w w' [] R:=by
 refine ret_of_W Tryz.func110 rfl rfl rfl ?_;refine kB 2 ?_;intro az aA H;refine kg 10 ?_;refine s_val (x_ta0 (z:=.agg #[I 0,I 0]) Tryz.underlying292 (by intro m h_; cases h_) (by decide) Al292.h rfl) ?_;refine kg 3 ?_;refine W.cond false rfl (fun ao=>?_) (fun ao=>?_)
 ·exact absurd ao (by decide)
 refine kg 2 ?_;refine s_val (x_ta1 (v:=.agg #[I x2.year,I x2.lo,I x2.hi]) Tryz.underlying58 (by intro m h_; cases h_) rfl) ?_;refine kg 3 ?_;refine W.cond true rfl (fun ap=>?_) (fun ap=>?_)
 ·refine kA 2 ?_;intro aB aC H;refine ksw ?_;intro aD H;refine kC 9 @zah ?_;intro aE r2 hM H;refine kg 7 ?_;obtain ⟨r3,aq,hM⟩:=M.e_bind hM;refine t_gcall r2 (gy_t rfl) cq (B r3) (fun _=>[I x2.lo,I 0,I x2.hi]) (fun hg=>lst3 (gd_of hg (I x2.lo)) rfl (gd_of hg (I x2.hi))) H (fun hg=>(zah x2.lo 0 x2.hi (M.e_opt aq hg) _ (H.give (A:=[]) rfl)).mono fun v_ w_ ⟨y_,aa,ab,H_⟩=>by subst aa; exact ⟨ab,H.via H_⟩) ?_;intro aF H;refine kg 5 ?_;obtain ⟨r4,au,hM⟩:=M.e_bind hM;refine t_gcall (r2&&r3) (gy_t rfl) cq (B r4) (fun _=>[I x2.hi,I 0,I 2000]) (fun hg=>lst3 (gd_of hg (I x2.hi)) rfl rfl) H (fun hg=>(zah x2.hi 0 2000 (M.e_opt au hg) _ (H.give (A:=[]) rfl)).mono fun v_ w_ ⟨y_,aa,ab,H_⟩=>by subst aa; exact ⟨ab,H.via H_⟩) ?_;intro aG H;refine kg 3 ?_;replace H:=H.pk [];exact rt
 exact absurd ap (by decide)

def zcY (l:List Int) (last:Int):(Int × Nat)->M ((Int × Nat) ⊕ (Unit ⊕ Unit)):=fun (first2,s) =>
  bif decide ((s:Int)<(l.length:Int)) then (
  M.grd (decide ((s:Int)<(l.length:Int))) <|
  M.bind (zag (l.getD s 0) first2 last) fun r2 =>
  bif !r2 then (
  M.pure (.inr (.inl ())))
  else (
  M.gi ((l.getD s 0)+1) <|
  M.pure (.inl ((l.getD s 0)+1,s+1))))
  else (
  M.pure (.inr (.inr ())))
def zbb (l:List Int) (first last:Int):M Bool :=
  M.bind (M.iter (zcY l last) (first,0)) fun x_=>match x_ with
  | (.inl (_:Unit))=>(
  M.pure false)
  | (.inr (_:Unit))=>(
  M.pure true)
theorem zfU {R ab aa}(l first last)(ao:Reads R ab)(ai:Sl ab aa l){r}(hM:(zbb l first last).Ends r)(w)(H:St w w [] R):Ret Tryz.prog 167 #[aa,I first,I last] w fun v w'=>∃ y0,y0=r/\v=B y0/\St w w' [] R:=by
 refine ret_of_W Tryz.func167 rfl rfl rfl ?_;have ap:=(ai).len_le;refine kg 12 ?_;obtain ⟨aj,ac,ae⟩:=M.e_bind hM;obtain ⟨aq,ac⟩:=M.e_iter ac;refine W.loop (fun m σ W=>∃ (first2:Int) (s:Nat) (ρ:Env),σ=upds ρ [(1,I first2),(2,I last),(9,aa),(10,I (l.length:Int)),(11,I (s:Int))]/\M.iterN (zcY l last) m (first2,s)=some aj/\St w W [] R) ?_ ?_
 ·exact kY
 rintro au σ av ⟨first2,s,ρ,rfl,ak,H⟩;obtain ⟨aw,ax,ay,hM,ah⟩:=M.e_iterN ak;refine kI 5 ?_ ?_
 ·intro al hM;obtain ⟨az,hM⟩:=M.e_gq hM;refine kC 15 @zah ?_;intro aA r2 hM H;refine kI 2 ?_ ?_
  ·intro am hM;refine kg 4 ?_;obtain rfl:=M.e_inr hM ah;replace hM:=ae;exact rt
  intro am hM;obtain ⟨aB,hM⟩:=M.e_gq hM;exact kX 10
 intro al hM;refine W.exit ?_;obtain rfl:=M.e_inr hM ah;replace hM:=ae;refine kg 4 ?_;exact rt

def zdb (ac:List Yr) (ae:List Old10) (aa ab:Int) (x2:Old10):M Bool :=
  M.bind (zag x2.src aa x2.dst) fun r2 =>
  M.bind (M.opt r2 (zag x2.dst aa ab) false) fun r3 =>
  M.bind (M.opt (r2&&r3) (zag x2.stage 1 2000) false) fun r4 =>
  M.bind (M.opt ((r2&&r3)&&r4) (zbb x2.passed x2.src x2.dst) false) fun r5 =>
  M.pure (((r2&&r3)&&r4)&&r5)
theorem zgp {R ai aj ak al am aa}(ao ap ab ac x2)(aB:Reads R ai)(aC:Sl ai aj ao)(aD:Reads R ak)(aE:Sl ak al ap)(aw:Reads R am)(ax:Sl am aa x2.passed){r}(hM:(zdb ao ap ab ac x2).Ends r)(w)(H:St w w [] R):Ret Tryz.prog 110 #[.agg #[aj,al,I ab,I ac],.iface 60 (.agg #[I x2.src,I x2.dst,I x2.stage,aa])] w fun v w'=>∃ y0,y0=r/\v=B y0/\St w w' [] R:=by
 refine ret_of_W Tryz.func110 rfl rfl rfl ?_;refine kB 2 ?_;intro aF aG H;refine kg 10 ?_;refine s_val (x_ta0 (z:=.agg #[I 0,I 0]) Tryz.underlying292 (by intro m h_; cases h_) (by decide) Al292.h rfl) ?_;refine kg 3 ?_;refine W.cond false rfl (fun aq=>?_) (fun aq=>?_)
 ·exact absurd aq (by decide)
 refine kg 2 ?_;refine s_val (x_ta0 (z:=.agg #[I 0,I 0,I 0]) Tryz.underlying58 (by intro m h_; cases h_) (by decide) Al58.h rfl) ?_;refine kg 3 ?_;refine W.cond false rfl (fun au=>?_) (fun au=>?_)
 ·exact absurd au (by decide)
 refine kg 2 ?_;refine s_val (x_ta1 (v:=.agg #[I x2.src,I x2.dst,I x2.stage,aa]) Tryz.underlying60 (by intro m h_; cases h_) rfl) ?_;refine kg 3 ?_;refine W.cond true rfl (fun av=>?_) (fun av=>?_)
 ·refine kA 2 ?_;intro aH aI H;refine kS 0 ?_;intro aJ H;refine kC 9 @zah ?_;intro aK r2 hM H;refine kg 7 ?_;obtain ⟨r3,ay,hM⟩:=M.e_bind hM;refine t_gcall r2 (gy_t rfl) cq (B r3) (fun _=>[I x2.dst,I ab,I ac]) (fun hg=>lst3 (gd_of hg (I x2.dst)) (gd_of hg (I ab)) (gd_of hg (I ac))) H (fun hg=>(zah x2.dst ab ac (M.e_opt ay hg) _ (H.give (A:=[]) rfl)).mono fun v_ w_ ⟨y_,ae,ah,H_⟩=>by subst ae; exact ⟨ah,H.via H_⟩) ?_;intro aL H;refine kg 4 ?_;obtain ⟨r4,az,hM⟩:=M.e_bind hM;refine t_gcall (r2&&r3) (gy_t rfl) cq (B r4) (fun _=>[I x2.stage,I 1,I 2000]) (fun hg=>lst3 (gd_of hg (I x2.stage)) rfl rfl) H (fun hg=>(zah x2.stage 1 2000 (M.e_opt az hg) _ (H.give (A:=[]) rfl)).mono fun v_ w_ ⟨y_,ae,ah,H_⟩=>by subst ae; exact ⟨ah,H.via H_⟩) ?_;intro aM H;refine kg 8 ?_;obtain ⟨r5,aA,hM⟩:=M.e_bind hM;refine t_gcall ((r2&&r3)&&r4) (gy_t rfl) cq (B r5) (fun _=>[aa,I x2.src,I x2.dst]) (fun hg=>lst3 (gd_of hg (aa)) (gd_of hg (I x2.src)) (gd_of hg (I x2.dst))) H (fun hg=>(zfU x2.passed x2.src x2.dst (aw.app _) ax (M.e_opt aA hg) _ (H.give (A:=[]) rfl)).mono fun v_ w_ ⟨y_,ae,ah,H_⟩=>by subst ae; exact ⟨ah,H.via H_⟩) ?_;intro aN H;refine kg 3 ?_;replace H:=H.pk [];exact rt
 exact absurd av (by decide)

def zbm (o:Old10) (aa:List Yr) (ab:List Old10) (ac ae:Int):M Bool :=
  M.bind (zdb aa ab ac ae o) fun r2 =>
  M.pure r2
theorem zgl {R ai ah aj ak aa al ab}(o am ao ac ae)(aq:Reads R ai)(au:Sl ai ah o.passed)(av:Reads R ak)(aw:Sl ak aa am)(ax:Reads R al)(ay:Sl al ab ao)(ap:Has R (cBlk aj [aa,ab,I ac,I ae] 55)){r}(hM:(zbm o am ao ac ae).Ends r)(w)(H:St w w [] R):Ret Tryz.prog 111 #[.agg #[I o.src,I o.dst,I o.stage,ah],Pq aj] w fun v w'=>∃ y0,y0=r/\v=B y0/\St w w' [] R:=by
 refine ret_of_W Tryz.func111 rfl rfl rfl ?_;refine kB 2 ?_;intro az aA H;refine kg 4 ?_;refine s_val (x_ld (v:=.agg #[aa,ab,I ac,I ae]) rfl (ldb_ag (ds:=[aa,ab,I ac,I ae]) Ag55.h Sz55.h (ap.blk H) rfl rfl)) ?_;refine kg 1 ?_;refine s_val (x_mi (v:=.agg #[I o.src,I o.dst,I o.stage,ah]) Tryz.underlying60 (by intro m h_; cases h_) rfl) ?_;refine kC 0 @zgp ?_;intro aB r2 hM H;refine kg 2 ?_;exact rt

def zbg (aa:List Yr) (ab:List Old10) (ac ae:Int):Nat->M (Nat ⊕ (Int ⊕ Unit)):=fun s =>
  bif decide ((s:Int)<(aa.length:Int)) then (
  M.grd (decide ((s:Int)<(aa.length:Int))) <|
  M.bind (zb5 aa ab ac ae (aa.getD s default)) fun r5 =>
  bif !r5 then (
  M.pure (.inr (.inl 110)))
  else (
  M.grd ((!(decide (0<(s:Int)))||(decide ((-9223372036854775808:Int)<=((s:Int)-1))&&decide (((s:Int)-1)<=(9223372036854775807:Int))))) <|
  M.grd ((!(decide (0<(s:Int)))||(decide ((0:Int)<=((s:Int)-1))&&decide (((s:Int)-1)<(aa.length:Int))))) <|
  bif ((decide (0<(s:Int)))&&(decide (((aa.getD s default).year)<=((aa.getD (Int.toNat ((s:Int)-1)) default).year)))) then (
  M.pure (.inr (.inl 9)))
  else (
  M.pure (.inl (s+1)))))
  else (
  M.pure (.inr (.inr ())))
def zbD (ae:List Yr) (ab:List Old10) (ac aa:Int):M Int :=
  M.bind (zag ac 0 aa) fun r2 =>
  M.bind (M.opt (!(!r2)) (zag aa 0 3000) false) fun r3 =>
  M.grd ((!(!((!r2)||(!r3)))||(decide ((-9223372036854775808:Int)<=(aa-ac))&&decide ((aa-ac)<=(9223372036854775807:Int))))) <|
  bif (((!r2)||(!r3))||(decide (1000<=(aa-ac)))) then (
  M.pure 110)
  else (
  M.bind (M.opt (!((decide (60<(ae.length:Int)))||(decide (8<(ab.length:Int))))) (za1 ab (fun ah=>zbL ah)) false) fun r4 =>
  bif (((decide (60<(ae.length:Int)))||(decide (8<(ab.length:Int))))||(!r4)) then (
  M.pure 3)
  else (
  M.bind (M.iter (zbg ae ab ac aa) 0) fun x_=>match x_ with
  | (.inl s2)=>(
  M.pure s2)
  | (.inr (_:Unit))=>(
  M.bind (za1 ab (fun ah=>zbm ah ae ab ac aa)) fun r6 =>
  bif !r6 then (
  M.pure 110)
  else (
  M.pure 0))))
theorem zgI {R aJ al aK ah}(aa ac ai ab)(aM:Reads R aJ)(ao:Sl aJ al aa)(ap:Reads R aK)(am:Sl aK ah ac){r}(hM:(zbD aa ac ai ab).Ends r)(w)(H:St w w [] R):Ret Tryz.prog 69 #[.agg #[al,ah,I ai,I ab]] w fun v w'=>∃ y0,y0=r/\v=I y0/\St w w' [] R:=by
 refine ret_of_W Tryz.func69 rfl rfl rfl ?_;refine kB 2 ?_;intro aj bb H;refine kC 14 @zah ?_;intro bc r2 hM H;refine kg 4 ?_;obtain ⟨r3,aN,hM⟩:=M.e_bind hM;refine t_gcall (!(!r2)) (gy_f rfl) cq (B r3) (fun _=>[I ab,I 0,I 3000]) (fun hg=>lst3 (gd_of hg (I ab)) rfl rfl) H (fun hg=>(zah ab 0 3000 (M.e_opt aN hg) _ (H.give (A:=[]) rfl)).mono fun v_ w_ ⟨y_,aq,au,H_⟩=>by subst aq; exact ⟨au,H.via H_⟩) ?_;intro bf H;obtain ⟨av,hM⟩:=M.e_grd hM;replace av:=M.imp_of av;simp only [Bool.and_eq_true,decide_eq_true_eq] at av;refine kI 12 ?_ ?_
 ·intro aO hM;refine kg 4 ?_;exact rt
 intro aO hM;have bg:=(ao).len_le;have bh:=(am).len_le;refine kg 16 ?_;obtain ⟨r4,aP,hM⟩:=M.e_bind hM;refine t_gcall (!((decide (60<(aa.length:Int)))||(decide (8<(ac.length:Int))))) (gy_f rfl) cq (B r4) (fun _=>[ah,.func (.func 108) #[] #[]]) (fun hg=>lst2 (gd_of hg (ah)) (gd_of hg (.func (.func 108) #[] #[]))) H (fun hg=>(zes ac (fun ae=>zbL ae) (ap.app _) am ⟨108,[],rfl,cq,fun ak aQ aR aw ae aS ax ay az aA=>by obtain ⟨aT,rfl,aB⟩:=Old10_arg az; exact (zgj ae ay aB aA ak (St.refl ax)).mono fun aw ak ⟨aU,aC,aD,aE⟩=>by subst aC; exact ⟨aD,aE⟩⟩ (M.e_opt aP hg) _ (H.give (A:=[]) rfl)).mono fun v_ w_ ⟨y_,aq,au,H_⟩=>by subst aq; exact ⟨au,H.via H_⟩) ?_;intro bi H;refine kI 4 ?_ ?_
 ·intro aV hM;refine kg 4 ?_;exact rt
 intro aV hM;have bj:=(ao).len_le;refine kg 10 ?_;obtain ⟨aW,aL,aF⟩:=M.e_bind hM;obtain ⟨bm,aL⟩:=M.e_iter aL;refine W.loop (fun m σ W=>∃ (s:Nat) (ρ:Env),σ=upds ρ [(1,Pq aj),(46,al),(47,I (aa.length:Int)),(48,I (s:Int))]/\M.iterN (zbg aa ac ai ab) m s=some aW/\St w W [cBlk aj [al,ah,I ai,I ab] 55] R) ?_ ?_
 ·exact kY
 rintro bn σ bo ⟨s,ρ,rfl,aX,H⟩;obtain ⟨bp,br,bt,hM,aG⟩:=M.e_iterN aX;refine kI 5 ?_ ?_
 ·intro aY hM;obtain ⟨bu,hM⟩:=M.e_gq hM;refine kA 8 ?_;intro bv bw H;refine kS 1 ?_;intro bx H;refine kg 6 ?_;refine s_val (x_mi (v:=.agg #[I ((aa.getD s default).year),I ((aa.getD s default).lo),I ((aa.getD s default).hi)]) Tryz.underlying58 (by intro m h_; cases h_) rfl) ?_;refine kC 0 @ze9 ?_;intro bz r5 hM H;refine kI 3 ?_ ?_
  ·intro aZ hM;refine kg 4 ?_;obtain rfl:=M.e_inr hM aG;replace hM:=aF;exact rt
  intro aZ hM;refine kD 1 [0,1] [] ?_;intro bA H;obtain ⟨aH,hM⟩:=M.e_grd hM;replace aH:=M.imp_of aH;simp only [Bool.and_eq_true,decide_eq_true_eq] at aH;obtain ⟨aI,hM⟩:=M.e_grd hM;replace aI:=M.imp_of aI;simp only [Bool.and_eq_true,decide_eq_true_eq] at aI;refine kI 16 ?_ ?_
  ·intro a6 hM;refine kg 4 ?_;obtain rfl:=M.e_inr hM aG;replace hM:=aF;exact rt
  intro a6 hM;exact kXp 5 [1]
 intro aY hM;refine W.exit ?_;obtain rfl:=M.e_inr hM aG;replace hM:=aF;refine kg 5 ?_;refine s_val (x_mf (fs:=[]) (cs:=[Pq aj]) rfl rfl) ?_;obtain ⟨bB,a7,hM⟩:=M.e_bind hM;refine s_call cq [ah,.func (.func 111) #[] #[Pq aj]] rfl (zes ac (fun ae=>zbm ae aa ac ai ab) (ap.app _) am ⟨111,[Pq aj],rfl,cq,fun ak aQ aR aw ae aS ax ay az aA=>by obtain ⟨aT,rfl,aB⟩:=Old10_arg az; exact (zgl ae aa ac ai ab ay aB (Reads.app (aM.app _) _) ao (Reads.app (ap.app _) _) am (Has.app (Has.here (k:=0) rfl) _) aA ak (St.refl ax)).mono fun aw ak ⟨aU,aC,aD,aE⟩=>by subst aC; exact ⟨aD,aE⟩⟩ a7 _ (H.gt 1)) ?_;rintro _ bC ⟨r6,rfl,rfl,a8⟩;replace H:=H.bk a8;refine kI 2 ?_ ?_
 ·intro ba hM;refine kg 4 ?_;exact rt
 intro ba hM;refine kg 5 ?_;exact rt

def zb7 (s:List Int) (v:Int):Nat->M (Nat ⊕ (Int ⊕ Unit)):=fun s2 =>
  bif decide ((s2:Int)<(s.length:Int)) then (
  M.grd (decide ((s2:Int)<(s.length:Int))) <|
  bif v==(s.getD s2 0) then (
  M.pure (.inr (.inl (s2:Int))))
  else (
  M.pure (.inl (s2+1))))
  else (
  M.pure (.inr (.inr ())))
def zcC (s:List Int) (v:Int):M Int :=
  M.bind (M.iter (zb7 s v) 0) fun x_=>match x_ with
  | (.inl s3)=>(
  M.pure s3)
  | (.inr (_:Unit))=>(
  M.pure (-1))
theorem zgc {R ab aa}(s v)(ao:Reads R ab)(ai:Sl ab aa s){r}(hM:(zcC s v).Ends r)(w)(H:St w w [] R):Ret Tryz.prog 112 #[aa,I v] w fun v w'=>∃ y0,y0=r/\v=I y0/\St w w' [] R:=by
 refine ret_of_W Tryz.func112 rfl rfl rfl ?_;have ap:=(ai).len_le;refine kg 12 ?_;obtain ⟨aj,ac,ae⟩:=M.e_bind hM;obtain ⟨aq,ac⟩:=M.e_iter ac;refine W.loop (fun m σ W=>∃ (s2:Nat) (ρ:Env),σ=upds ρ [(0,aa),(1,I v),(7,I (s.length:Int)),(8,I (s2:Int))]/\M.iterN (zb7 s v) m s2=some aj/\St w W [] R) ?_ ?_
 ·exact kY
 rintro au σ av ⟨s2,ρ,rfl,ak,H⟩;obtain ⟨aw,ax,ay,hM,ah⟩:=M.e_iterN ak;refine kI 5 ?_ ?_
 ·intro al hM;obtain ⟨az,hM⟩:=M.e_gq hM;refine kI 17 ?_ ?_
  ·intro am hM;refine kg 5 ?_;obtain rfl:=M.e_inr hM ah;replace hM:=ae;exact rt
  intro am hM;exact kX 5
 intro al hM;refine W.exit ?_;obtain rfl:=M.e_inr hM ah;replace hM:=ae;refine kg 4 ?_;exact rt

def zbo (s:List Int) (v:Int):M Bool :=
  M.bind (zcC s v) fun r2 =>
  M.pure (decide (0<=r2))
theorem zeP {R aa ab}(s v)(ac:Reads R aa)(ae:Sl aa ab s){r}(hM:(zbo s v).Ends r)(w)(H:St w w [] R):Ret Tryz.prog 70 #[ab,I v] w fun v w'=>∃ y0,y0=r/\v=B y0/\St w w' [] R:=by
 refine ret_of_W Tryz.func70 rfl rfl rfl ?_;refine kC 8 @zgc ?_;intro ah r2 hM H;refine kg 3 ?_;exact rt

def zaZ (aa:Int):((List (Int × Span)) × Int)->M (((List (Int × Span)) × Int) ⊕ (List (Int × Span))):=fun (mp,year) =>
  bif decide (year<=aa) then (
  M.gi (year+1) <|
  M.pure (.inl (setM mp (year:Int) (⟨(0:Int),(2000:Int)⟩:Span),year+1)))
  else (
  M.pure (.inr mp))
def zbw (aa:List Yr):((List (Int × Span)) × Nat)->M (((List (Int × Span)) × Nat) ⊕ (List (Int × Span))):=fun (ab,s) =>
  bif decide ((s:Int)<(aa.length:Int)) then (
  M.grd (decide ((s:Int)<(aa.length:Int))) <|
  bif !(decide ((aa.getD s default)=(⟨((aa.getD s default).year:Int),(((lookM ab ((aa.getD s default).year:Int)).getD default).lo:Int),(((lookM ab ((aa.getD s default).year:Int)).getD default).hi:Int)⟩:Yr))) then (
  M.pure (.inl (setM ab ((aa.getD s default).year:Int) (⟨((aa.getD s default).lo:Int),((aa.getD s default).hi:Int)⟩:Span),s+1)))
  else (
  M.pure (.inl (ab,s+1))))
  else (
  M.pure (.inr ab))
def zci (aa:List Old10) (ky:Int):(Nat × Int × Int)->M ((Nat × Int × Int) ⊕ (Int × Int)):=fun (s2,s3,s4) =>
  bif decide ((s2:Int)<(aa.length:Int)) then (
  M.grd (decide ((s2:Int)<(aa.length:Int))) <|
  M.bind (zag ky ((aa.getD s2 default).src) ((aa.getD s2 default).dst)) fun r3 =>
  bif !r3 then (
  M.pure (.inl (s2+1,s3,s4)))
  else (
  M.bind (zbo ((aa.getD s2 default).passed) ky) fun r4 =>
  bif r4 then (
  M.pure (.inl (s2+1,max s3 ((aa.getD s2 default).stage),s4)))
  else (
  M.gi (((aa.getD s2 default).stage)-1) <|
  M.pure (.inl (s2+1,s3,min s4 (((aa.getD s2 default).stage)-1))))))
  else (
  M.pure (.inr (s3,s4)))
def zbp (aa:List Old10) (ky:Int) (vl:Span):M Span :=
  M.bind (M.iter (zci aa ky) (0,(vl).lo,(vl).hi)) fun (s5,s6) =>
  M.pure (⟨(s5:Int),(s6:Int)⟩:Span)
def zaB (ac:List Yr) (ae:List Old10) (aa ab:Int):M (Int ⊕ (Int × Int × (List (Int × Span)) × Int)) :=
  M.bind (zbD ac ae aa ab) fun r2 =>
  bif r2 != 0 then (
  M.pure (.inl r2))
  else (
  M.bind (M.iter (zaZ ab) (([]:List (Int × Span)),aa)) fun ah =>
  M.bind (M.iter (zbw ac) (ah,0)) fun ai =>
  M.bind (M.mapL (zbp ae) ai) fun mq =>
  M.pure (.inr (aa,ab,mq,0)))
theorem zez {R aA ab aB ac}(aa am ah ae)(bp:Reads R aA)(aM:Sl aA ab aa)(aN:Reads R aB)(aC:Sl aB ac am){r}(hM:(zaB aa am ah ae).Ends r)(w)(H:St w w [] R):Ret Tryz.prog 29 #[.agg #[ab,ac,I ah,I ae]] w fun v w'=>(∃ (y0:Int),(.inl y0)=r/\v = .tuple #[.pointer none,I y0]/\St w w' [] R)∨(∃ (y0:Int) (y1:Int) (y2:List (Int × Span)) (y3:Int) (aD:Nat) (aE:Nat),(.inr (y0,y1,y2,y3))=r/\v = .tuple #[Pq aD,I y3]/\St w w' [cBlk aD [ab,ac,I y0,I y1,.map (some aE)] 168,cMl I encSp aE y2] R):=by
 refine ret_of_W Tryz.func29 rfl rfl rfl ?_;refine kB 2 ?_;intro al br H;refine kC 7 @zgI ?_;intro bt r2 hM H;refine kI 7 ?_ ?_
 ·intro aO hM;refine kg 6 ?_;refine W.ret ?_;have av:=M.e_pure hM;exact ⟨_,resE_tmp2 rfl,.inl (⟨r2,av,rfl,(H.pk [])⟩)⟩
 intro aO hM;refine kg 4 ?_;refine t_mkMl (κ:=Int) (ν:=Span) I encSp H ?_;intro ai bu H;refine kB 1 ?_;intro aj bv H;refine kg 10 ?_;obtain ⟨aP,aF,aQ⟩:=M.e_bind hM;obtain ⟨aG,aF⟩:=M.e_iter aF;refine W.loop (fun m σ W=>∃ (mp:List (Int × Span)) (year:Int) (ρ:Env),σ=upds ρ [(1,Pq al),(5,Pq aj),(6,I year)]/\M.iterN (zaZ ae) m (mp,year)=some aP/\St w W [cBlk aj [ab,ac,I ah,I ae,.map (some ai)] 168,cMl I encSp ai mp,cBlk al [ab,ac,I ah,I ae] 55] R) ?_ ?_
 ·exact kY
 rintro bw σ bx ⟨mp,year,ρ,rfl,aR,H⟩;obtain ⟨bz,bA,bB,hM,aS⟩:=M.e_iterN aR;refine kI 8 ?_ ?_
 ·intro aT hM;refine kG 10 ?_;refine t_putMl (i:=1) (kenc:=I) (venc:=encSp) (m:=mp) (k:=(year:Int)) (v:=(⟨(0:Int),(2000:Int)⟩:Span)) (L':=[cBlk aj [ab,ac,I ah,I ae,.map (some ai)] 168,cMl I encSp ai (setM mp (year:Int) (⟨(0:Int),(2000:Int)⟩:Span)),cBlk al [ab,ac,I ah,I ae] 55]) keyIntSp Tryz.underlying166 H rfl rfl rfl rfl rfl ?_;intro bC H;obtain ⟨bD,hM⟩:=M.e_gq hM;exact kX 6
 intro aT hM;refine W.exit ?_;obtain rfl:=M.e_inr hM aS;replace hM:=aQ;have bE:=(aM).len_le;refine kg 9 ?_;obtain ⟨aU,aH,aV⟩:=M.e_bind hM;obtain ⟨aG,aH⟩:=M.e_iter aH;refine W.loop (fun m σ W=>∃ (ak:List (Int × Span)) (s:Nat) (ρ:Env),σ=upds ρ [(1,Pq al),(5,Pq aj),(38,ab),(39,I (aa.length:Int)),(40,I (s:Int))]/\M.iterN (zbw aa) m (ak,s)=some aU/\St w W [cBlk aj [ab,ac,I ah,I ae,.map (some ai)] 168,cMl I encSp ai ak,cBlk al [ab,ac,I ah,I ae] 55] R) ?_ ?_
 ·exact kY
 rintro bF σ bG ⟨ak,s,ρ,rfl,aW,H⟩;obtain ⟨bH,bI,bJ,hM,aX⟩:=M.e_iterN aW;refine kI 5 ?_ ?_
 ·intro aY hM;obtain ⟨bK,hM⟩:=M.e_gq hM;refine kA 7 ?_;intro aZ bL H;refine ksw ?_;intro bM H;refine kD 2 [0,1,2,3] [10,11] ?_;intro bN H;refine kg 8 ?_;refine d_q rfl (fun w' H=>q_look (kenc:=I) (venc:=encSp) (f:=lookM ak) (k:=((aa.getD s default).year:Int)) (v:=.agg #[I (((lookM ak ((aa.getD s default).year:Int)).getD default).lo),I (((lookM ak ((aa.getD s default).year:Int)).getD default).hi)]) keyIntSp Tryz.underlying166 Al27.h rfl rfl (mlMap (H.get (k:=2) rfl)) false (by rw [if_neg (by decide),span_val])) ?_;refine kA 2 ?_;intro a6 bO H;refine kN ?_;refine kS 1 ?_;intro bP H;refine kN ?_;refine kg 5 ?_;refine s_val (x_neS (eqT58 (aa.getD s default) (⟨((aa.getD s default).year:Int),(((lookM ak ((aa.getD s default).year:Int)).getD default).lo:Int),(((lookM ak ((aa.getD s default).year:Int)).getD default).hi:Int)⟩:Yr) _) gdT58 rfl rfl) ?_;refine kI 1 ?_ ?_
  ·intro a7 hM;refine kD 0 [0,1,2,4] [8] ?_;intro bQ H;refine kG 9 ?_;refine t_putMl (i:=3) (kenc:=I) (venc:=encSp) (m:=ak) (k:=((aa.getD s default).year:Int)) (v:=(⟨((aa.getD s default).lo:Int),((aa.getD s default).hi:Int)⟩:Span)) (L':=[cBlk a6 [I ((aa.getD s default).year),I (((lookM ak ((aa.getD s default).year:Int)).getD default).lo),I (((lookM ak ((aa.getD s default).year:Int)).getD default).hi)] 58,cBlk aZ [I ((aa.getD s default).year),I ((aa.getD s default).lo),I ((aa.getD s default).hi)] 58,cBlk aj [ab,ac,I ah,I ae,.map (some ai)] 168,cMl I encSp ai (setM ak ((aa.getD s default).year:Int) (⟨((aa.getD s default).lo:Int),((aa.getD s default).hi:Int)⟩:Span)),cBlk al [ab,ac,I ah,I ae] 55]) keyIntSp Tryz.underlying166 H rfl rfl rfl rfl rfl ?_;intro bR H;refine kN ?_;refine d_nil ?_;replace H:=H.pk [2,3,4];exact kX 4
  intro a7 hM;refine W.skip ?_;replace H:=H.pk [2,3,4];exact kX 4
 intro aY hM;refine W.exit ?_;obtain rfl:=M.e_inr hM aX;replace hM:=aV;refine kg 7 ?_;refine t_range (i:=1) (kenc:=I) (venc:=encSp) Tryz.underlying166 H rfl rfl ?_;intro aq bS H;replace H:=H.nf;refine kg 2 ?_;obtain ⟨mq,aI,hM⟩:=M.e_bind hM;refine W.loop (fun c_ σ W=>∃ (ao:List (Int × Span)) (ap:List Bool) (aJ:Option Nat) (ρ:Env),σ=upds ρ [(1,Pq al),(5,Pq aj),(70,Pq aq)]/\c_=ap.count true/\ItR ak mq ao ap/\St w W [cBlk aj [ab,ac,I ah,I ae,.map (some ai)] 168,cIt I encSp ai aq ao ap aJ,cBlk al [ab,ac,I ah,I ae] 55] R) ?_ ?_
 ·exact ⟨_,_,_,_,_,jQ,rfl,ItR.init aI,H⟩
 rintro c_ σ a8 ⟨ao,ap,aJ,ρ,rfl,rfl,aw,H⟩;refine kg 2 ?_;refine t_next (i:=1) H rfl rfl (fun ba=>?_) (fun j_ ky vl bT ax au H=>?_)
 ·refine kg 3 ?_;refine W.cond false rfl (fun h_=>absurd h_ (by decide)) (fun _=>?_);refine W.exit ?_;obtain rfl:=aw.fin ba;replace H:St w a8 [cBlk aj [ab,ac,I ah,I ae,.map (some ai)] 168,cMl I encSp ai ao,cBlk al [ab,ac,I ah,I ae] 55] R:=H.itEnd (i:=1) rfl rfl;refine kg 6 ?_;refine W.ret ?_;have av:=M.e_pure hM;exact ⟨_,resE_tmp2 rfl,.inr (⟨ah,ae,ao,0,aj,ai,av,rfl,(H.pk [0,1])⟩)⟩
 refine kg 3 ?_;refine W.cond true rfl (fun _=>?_) (fun h_=>absurd h_ (by decide));refine W.skip ?_;obtain ⟨bU,hM,bb⟩:=aw.at_ aI ax au;simp only [zbp] at hM;replace H:=H.nf;refine kg 3 ?_;refine s_val (x_entry (v:=vl) (H.get (k:=1) rfl) au rfl) ?_;refine kA 2 ?_;intro ay bV H;refine kS 1 ?_;intro bW H;have bX:=(aC).len_le;refine kg 10 ?_;obtain ⟨bc,aK,bf⟩:=M.e_bind hM;obtain ⟨aG,aK⟩:=M.e_iter aK;refine W.loop (fun m σ W=>∃ (s2:Nat) (s3:Int) (s4:Int) (ρ:Env),σ=upds ρ [(1,Pq al),(5,Pq aj),(10,I ky),(11,Pq ay),(70,Pq aq),(77,ac),(78,I (am.length:Int)),(79,I (s2:Int))]/\M.iterN (zci am ky) m (s2,s3,s4)=some bc/\St w W [cBlk ay [I s3,I s4] 27,cBlk aj [ab,ac,I ah,I ae,.map (some ai)] 168,cIt I encSp ai aq ao (ap.set j_ false) (some j_),cBlk al [ab,ac,I ah,I ae] 55] R) ?_ ?_
 ·exact kY
 rintro bY σ bZ ⟨s2,s3,s4,ρ,rfl,bg,H⟩;obtain ⟨b4,b6,b7,hM,bh⟩:=M.e_iterN bg;refine kI 5 ?_ ?_
 ·intro bi hM;obtain ⟨b8,hM⟩:=M.e_gq hM;refine kg 6 ?_;obtain ⟨aL,bj,az⟩:=Old10_atA aC (i:=(s2:Int)) (by omega) (by omega);replace az:Sl _ aL (am.getD s2 default).passed:=az;have b9:=az.len_le;refine s_val (x_ld (v:=.agg #[I ((am.getD s2 default).src),I ((am.getD s2 default).dst),I ((am.getD s2 default).stage),aL]) rfl (ld_ag Ag60.h Sz60.h (At.mono bj (aN.at H)))) ?_;refine kal ?_;intro cb cc H;refine kS 0 ?_;intro cd H;refine kC 9 @zah ?_;intro ce r3 hM H;refine kI 3 ?_ ?_
  ·intro bm hM;refine W.exit ?_;exact kXp 4 [1,2,3,4]
  intro bm hM;refine kC 5 @zeP ?_;intro cf r4 hM H;refine kI 2 ?_ ?_
  ·intro bn hM;refine kS 7 ?_;intro cg H;exact kXp 5 [1,2,3,4]
  intro bn hM;obtain ⟨ch,hM⟩:=M.e_gq hM;refine kS 8 ?_;intro cj H;exact kXp 5 [1,2,3,4]
 intro bi hM;refine W.exit ?_;obtain rfl:=M.e_inr hM bh;replace hM:=bf;refine kD 0 [0,1,3] [6] ?_;intro ck H;refine kG 7 ?_;refine t_putIt (i:=2) (j:=j_) (kenc:=I) (venc:=encSp) (m:=ao) (k:=ky) (v:=(⟨(s3:Int),(s4:Int)⟩:Span)) (L':=[cBlk ay [I s3,I s4] 27,cBlk aj [ab,ac,I ah,I ae,.map (some ai)] 168,cIt I encSp ai aq (ao.set j_ (ky,(⟨(s3:Int),(s4:Int)⟩:Span))) (ap.set j_ false) (some j_),cBlk al [ab,ac,I ah,I ae] 55]) keyIntSp Tryz.underlying166 H rfl rfl au rfl rfl rfl ?_;intro cn H;refine kN ?_;refine d_nil ?_;have bo:=M.e_pure hM;subst bo;exact ⟨_,ItR.less ax,_,_,_,_,jQ,rfl,aw.step ax au bb,(H.pk [1,2,3])⟩

def zbe (x:Int) (aa:Int->M Bool):M Bool :=
  M.bind (aa x) fun r2 =>
  M.pure (!r2)
theorem zgB {R aa ab}(x ac)(ae:FnM Tryz.prog R ab ac)(ai:Has R (cBlk aa [ab] 112)){r}(hM:(zbe x ac).Ends r)(w)(H:St w w [] R):Ret Tryz.prog 72 #[I x,Pq aa] w fun v w'=>∃ y0,y0=r/\v=B y0/\St w w' [] R:=by
 refine ret_of_W Tryz.func72 rfl rfl rfl ?_;refine kg 8 ?_;obtain ⟨r2,ah,hM⟩:=M.e_bind hM;refine t_callM H ae rfl rfl x Reads.none (Arg.mkI (fun _=>none) _) ah ?_;intro aj H;refine kg 3 ?_;exact rt

def zcw (l:List Int) (so:Int->M Bool):M Bool :=
  M.bind (zaD l (fun aa=>zbe aa so)) fun r2 =>
  M.pure (!r2)
theorem zgh {R ae aa ah}(l so)(aj:Reads R ae)(ak:Sl ae aa l)(al:FnM Tryz.prog R ah so){r}(hM:(zcw l so).Ends r)(w)(H:St w w [] R):Ret Tryz.prog 30 #[aa,ah] w fun v w'=>∃ y0,y0=r/\v=B y0/\St w w' [] R:=by
 refine ret_of_W Tryz.func30 rfl rfl rfl ?_;refine kB 2 ?_;intro ab az H;refine kg 5 ?_;refine s_val (x_mf (fs:=[]) (cs:=[Pq ab]) rfl rfl) ?_;obtain ⟨aA,am,hM⟩:=M.e_bind hM;refine s_call cq [aa,.func (.func 72) #[] #[Pq ab]] rfl (zdn l (fun ac=>zbe ac so) (aj.app _) ak ⟨72,[Pq ab],rfl,cq,fun ai aB aC ao ac aD ap aE aq au=>by obtain rfl:=Arg.int aq; exact (zgB ac so (FnM.app (al.app _) _) (Has.app (Has.here (k:=0) rfl) _) au ai (St.refl ap)).mono fun ao ai ⟨aF,av,aw,ax⟩=>by subst av; exact ⟨aw,ax⟩⟩ am _ (H.gt 1)) ?_;rintro _ aG ⟨r2,rfl,rfl,ay⟩;replace H:=H.bk ay;refine kg 3 ?_;exact rt

def zc7 (n:Int):M Bool :=
  M.bind (zag n 0 2000) fun r2 =>
  M.pure r2
theorem zfH {R}(n){r}(hM:(zc7 n).Ends r)(w)(H:St w w [] R):Ret Tryz.prog 31 #[I n] w fun v w'=>∃ y0,y0=r/\v=B y0/\St w w' [] R:=by
 refine ret_of_W Tryz.func31 rfl rfl rfl ?_;refine kC 7 @zah ?_;intro aa r2 hM H;refine kg 2 ?_;exact rt

def zak (ac:List Yr) (ae:List Old10) (ah ai:Int) (aj:List (Int × Span)) (aa ab:Int):M (Int × Int) :=
  M.pure (aa,ab)
theorem zbt {R aa ab ac ae ah ai}(aj ak al am ao ap aq)(aA:Reads R ab)(aB:Sl ab ac aj)(aC:Reads R ae)(aD:Sl ae ah ak)(aE:Has R (cMl I encSp ai ao))(aF:Has R (cBlk aa [ac,ah,I al,I am,.map (some ai)] 168)){r}(hM:(zak aj ak al am ao ap aq).Ends r)(w)(H:St w w [] R):Ret Tryz.prog 33 #[Pq aa,I ap,I aq] w fun v w'=>∃ y0 y1 au av aw,(y0,y1)=r/\v = .func (.func 73) #[] #[Pq au,Pq av,Pq aw]/\St w w' [cBlk au [I y0] 3,cBlk av [I y1] 3,cBlk aw [Pq aa] 107] R:=by
 refine ret_of_W Tryz.func33 rfl rfl rfl ?_;refine kB 2 ?_;intro ax aG H;refine kbx ?_;intro ay aH H;refine kbx ?_;intro az aI H;refine kg 4 ?_;refine s_val (x_mf (fs:=[]) (cs:=[Pq ay,Pq az,Pq ax]) rfl rfl) ?_;exact kR 2 [1,0,2]

def zb6 {T_:Type} (aa:T_->(Int × Span)->M (Bool × T_)) (ab:Int) (ac:List (Int × Span)):(Int × T_)->M ((Int × T_) ⊕ (T_ ⊕ T_)):=fun (year,t2) =>
  bif decide (year<=ab) then (
  M.bind (aa t2 (year,((lookM ac (year:Int)).getD default))) fun (go,t) =>
  bif !go then (
  M.pure (.inr (.inl t)))
  else (
  M.gi (year+1) <|
  M.pure (.inl (year+1,t))))
  else (
  M.pure (.inr (.inr t2)))
def zaq {T_:Type} (aa:T_->(Int × Span)->M (Bool × T_)) (t_:T_) (ab ac:Int) (ah:List Yr) (ai:List Old10) (aj ak:Int) (ae:List (Int × Span)):M T_ :=
  M.bind (M.iter (zb6 aa ac ae) (ab,t_)) fun x_=>match x_ with
  | (.inl t3)=>(
  M.pure t3)
  | (.inr t4)=>(
  M.pure t4)
theorem zbu {R:List Chunk} {T_:Type} {Y_:T_->List Chunk->Prop} {ab:Value} {ac:List Chunk} {ap:Nat} {ae:Nat} {ah:Nat} {aq:Nat} {au:Cells} {av:Value} {aw:Cells} {ax:Value} {ay:Nat} (ai:T_->(Int × Span)->M (Bool × T_)) (t_:T_) (aj:Int) (ak:Int) (az:List Yr) (aA:List Old10) (aB:Int) (aC:Int) (aa:List (Int × Span)) (aG:YieldC Tryz.prog R arISpan Y_ ab ai) (aH:Y_ t_ ac) (aQ:Has R (cBlk ap [I aj] 3)) (aR:Has R (cBlk ae [I ak] 3)) (aS:Reads R au) (aT:Sl au av az) (aU:Reads R aw) (aV:Sl aw ax aA) (aI:Has R (cMl I encSp ay aa)) (aW:Has R (cBlk aq [av,ax,I aB,I aC,.map (some ay)] 168)) (aX:Has R (cBlk ah [Pq aq] 107)) {r:T_} (hM:(zaq ai t_ aj ak az aA aB aC aa).Ends r) (w:World) (H:St w w [cAll ac] R):Ret Tryz.prog 73 #[ab,Pq ap,Pq ae,Pq ah] w fun v w'=>∃ (y0:T_) (Ls0:List Chunk),y0=r/\v = .tuple #[]/\St w w' [cAll Ls0] R/\Y_ y0 Ls0:=by
 refine ret_of_W Tryz.func73 rfl rfl rfl ?_;refine kg 6 ?_;obtain ⟨aJ,al,aD⟩:=M.e_bind hM;obtain ⟨aY,al⟩:=M.e_iter al;refine W.loop (fun m σ W=>∃ (year:Int) (t2:T_) (Ls_t2:List Chunk) (ρ:Env),σ=upds ρ [(0,ab),(2,Pq ae),(3,Pq ah),(5,I year)]/\M.iterN (zb6 ai ak aa) m (year,t2)=some aJ/\St w W [cAll Ls_t2] R/\Y_ t2 Ls_t2) ?_ ?_
 ·exact ⟨_,aj,t_,ac,_,jQ,al,H,aH⟩
 rintro aZ σ a6 ⟨year,t2,Ls_t2,ρ,rfl,aK,H,hY_t2⟩;obtain ⟨aL,aM,a7,hM,am⟩:=M.e_iterN aK;refine kI 7 ?_ ?_
 ·intro aN hM;refine kg 12 ?_;refine s_val (q_look (kenc:=I) (venc:=encSp) (f:=lookM aa) (k:=(year:Int)) (v:=.agg #[I (((lookM aa (year:Int)).getD default).lo),I (((lookM aa (year:Int)).getD default).hi)]) keyIntSp Tryz.underlying166 Al27.h rfl rfl (mlMap (aI.at H)) false (by rw [if_neg (by decide),span_val])) ?_;obtain ⟨⟨go,t⟩,aO,hM⟩:=M.e_bind hM;refine t_yield (L:=[]) H aG hY_t2 rfl [I year,.agg #[I (((lookM aa (year:Int)).getD default).lo),I (((lookM aa (year:Int)).getD default).hi)]] rfl (year,((lookM aa (year:Int)).getD default)) Reads.none rfl aO ?_;intro aE a8 aF H;replace H:=H.nf;refine kI 2 ?_ ?_
  ·intro aP hM;refine W.ret ?_;obtain rfl:=M.e_inr hM am;replace hM:=aD;have ao:=M.e_pure hM;exact ⟨_,resE_tmp0 rfl,⟨t,aE,ao,rfl,H,aF⟩⟩
  intro aP hM;obtain ⟨ba,hM⟩:=M.e_gq hM;refine kg 6 ?_;exact ⟨aL,aM,year+1,t,aE,_,jQ,M.e_inl hM am,H,aF⟩
 intro aN hM;refine W.exit ?_;obtain rfl:=M.e_inr hM am;replace hM:=aD;have ao:=M.e_pure hM;exact ⟨_,resE_tmp0 rfl,⟨t2,Ls_t2,ao,rfl,H,hY_t2⟩⟩
def zaA (aa:Int) (stages:List Int):Unit->(Int × Span)->M (Unit ⊕ Unit):=fun (_:Unit) (x,x2) =>
  M.gi (x-aa) <|
  M.grd (decide ((0:Int)<=(x-aa))&&decide ((x-aa)<(stages.length:Int))) <|
  M.bind (zag (stages.getD (Int.toNat (x-aa)) 0) x2.lo x2.hi) fun r3 =>
  bif !r3 then (
  M.pure (.inr ()))
  else (
  M.pure (.inl ()))
def zaF (ac:List Yr) (ae:List Old10) (aa ab:Int) (stages:List Int):M (Bool × Int) :=
  M.bind (zaB ac ae aa ab) fun x_=>match x_ with
  | (.inl r1)=>(
  bif r1 != 0 then (
  M.pure (false,r1))
  else (
  M.fail))
  | (.inr (ah,ai,aj,ak))=>(
  bif ak != 0 then (
  M.fail)
  else (
  M.gi (ab-aa) <|
  M.gi ((ab-aa)+1) <|
  bif (stages.length:Int) != ((ab-aa)+1) then (
  M.pure (false,2))
  else (
  M.bind (zcw stages (fun al=>zc7 al)) fun r2 =>
  bif !r2 then (
  M.pure (false,4))
  else (
  M.bind (zak ac ae ah ai aj aa ab) fun (am,ao) =>
  M.bind (zaq (M.yl (zaA aa stages)) (.inl ()) am ao ac ae ah ai aj) fun x_=>match x_ with
  | .inl _=>(
  M.pure (true,0))
  | .inr _=>(
  M.pure (false,0))))))
theorem zfN {R aV aa aW ab aX al}(aH aI ac ai stages)(aJ:Reads R aV)(aM:Sl aV aa aH)(aK:Reads R aW)(aN:Sl aW ab aI)(aO:Reads R aX)(aP:Sl aX al stages){r}(hM:(zaF aH aI ac ai stages).Ends r)(w)(H:St w w [] R):Ret Tryz.prog 12 #[.agg #[aa,ab,I ac,I ai],al] w fun v w'=>∃ y0 y1,(y0,y1)=r/\v = .tuple #[B y0,I y1]/\St w w' [] R:=by
 refine ret_of_WD Tryz.func12 rfl rfl rfl ?_;replace H:St w w [cMk ([])] R:=H.mk0;have bI:=aM.len_le;have bJ:=aN.len_le;have bK:=aP.len_le;unfold zaF at hM;refine WD.seq<|WD.of ?_;refine kB 1 ?_;intro aC bL H;refine kB 0 ?_;intro aD bM H;refine kal ?_;intro aj bN H;refine kal ?_;intro ak bO H;refine s_nil<|WD.seq<|WD.of ?_;refine kg 2 ?_;obtain ⟨bP,a6,hM⟩:=M.e_bind hM;refine s_call cq [.agg #[aa,ab,I ac,I ai]] rfl (zez aH aI ac ai (aJ.app _) aM (aK.app _) aN a6 _ (H.gt 5)) ?_
 rintro vq bQ (⟨r1,a7,hvq,ao⟩ | ⟨aq,au,av,a8,ae,ah,ba,hvq,ao⟩)
 ·subst a7;subst vq;replace H:=H.bk ao;refine kg 6 ?_;refine WD.seq<|WD.block<|WD.seq<|WD.of ?_;refine kg 5 ?_
  refine WD.cond (r1 != 0) rfl (fun aE=>?_) (fun aE=>?_)
  ·replace hM:=M.e_t hM aE;replace aE:=dI aE;refine WD.seq<|WD.of ?_;refine kS 2 ?_;intro bR H;refine ksw ?_;intro bS H;refine s_nil ?_;replace H:=H.pk [0,1,4];refine WD.of ?_;refine W.ret ?_;refine bodyD_r (H.pk [2,0,1]) ?_;intro bT H;replace H:=H.nf
   have bb:=(H.bl 1)
   have bc:=(H.bl 0)
   have am:=M.e_pure hM;exact ⟨_,(resE_ofn (vs:=[B false,I r1]) rfl rfl (.cell (v:=B false) rfl (run_loadVar_sc Sc4.h bb rfl)<|.cell (v:=I r1) rfl (run_loadVar_sc Sc38.h bc rfl)<|.nil)),⟨false,r1,am,rfl,(H.pk [])⟩⟩
  replace hM:=M.e_f hM aE;exact (M.e_fail hM).elim
 subst ba;subst vq;replace H:=H.bk ao;refine kg 6 ?_;refine WD.seq<|WD.block<|WD.seq<|WD.of ?_;refine kg 5 ?_
 refine WD.cond (a8 != 0) rfl (fun aF=>?_) (fun aF=>?_)
 ·replace hM:=M.e_t hM aF;exact (M.e_fail hM).elim
 replace hM:=M.e_f hM aF;replace aF:=dI aF;refine WD.seq<|WD.of ?_
 have bU:=(aP).len_le;obtain ⟨bV,hM⟩:=M.e_gq hM;obtain ⟨bW,hM⟩:=M.e_gq hM;refine kg 12 ?_;refine WD.cond ((stages.length:Int) != ((ai-ac)+1)) rfl (fun aw=>?_) (fun aw=>?_)
 ·replace hM:=M.e_t hM aw;replace aw:=dI aw;refine WD.seq<|WD.of ?_;refine kS 1 ?_;intro bX H;refine ksw ?_;intro bY H;refine s_nil ?_;replace H:=H.pk [2,3,6];refine WD.of ?_;refine W.ret ?_;refine bodyD_r (H.pk [2,0,1]) ?_;intro bZ H;replace H:=H.nf
  have bf:=(H.bl 1)
  have bg:=(H.bl 0)
  have am:=M.e_pure hM;exact ⟨_,(resE_ofn (vs:=[B false,I 2]) rfl rfl (.cell (v:=B false) rfl (run_loadVar_sc Sc4.h bf rfl)<|.cell (v:=I 2) rfl (run_loadVar_sc Sc38.h bg rfl)<|.nil)),⟨false,2,am,rfl,(H.pk [])⟩⟩
 replace hM:=M.e_f hM aw;replace aw:=dI aw;refine WD.seq<|WD.of ?_;refine kg 2 ?_;obtain ⟨b4,bh,hM⟩:=M.e_bind hM;refine s_call cq [al,.func (.func 31) #[] #[]] rfl (zgh stages (fun aQ=>zc7 aQ) (aO.app _) aP ⟨31,[],rfl,cq,fun aY b6 b7 bi aQ b8 bj b9 bm bn=>by obtain rfl:=Arg.int bm; exact (zfH aQ bn aY (St.refl bj)).mono fun bi aY ⟨cb,bo,bp,br⟩=>by subst bo; exact ⟨bp,br⟩⟩ bh _ (H.gt 7)) ?_
 rintro _ cc ⟨r2,rfl,rfl,ao⟩;replace H:=H.bk ao;refine kg 3 ?_;refine WD.cond (!r2) rfl (fun aR=>?_) (fun aR=>?_)
 ·replace hM:=M.e_t hM aR;refine WD.seq<|WD.of ?_;refine kS 1 ?_;intro cd H;refine ksw ?_;intro ce H;refine s_nil ?_;replace H:=H.pk [2,3,6];refine WD.of ?_;refine W.ret ?_;refine bodyD_r (H.pk [2,0,1]) ?_;intro cf H;replace H:=H.nf
  have bt:=(H.bl 1)
  have bu:=(H.bl 0)
  have am:=M.e_pure hM;exact ⟨_,(resE_ofn (vs:=[B false,I 4]) rfl rfl (.cell (v:=B false) rfl (run_loadVar_sc Sc4.h bt rfl)<|.cell (v:=I 4) rfl (run_loadVar_sc Sc38.h bu rfl)<|.nil)),⟨false,4,am,rfl,(H.pk [])⟩⟩
 replace hM:=M.e_f hM aR;refine WD.of<|W.skip<|WD.seq<|WD.seq<|WD.of ?_;refine kC 6 @zbt ?_;intro cg ax ay az aA aB hM H;refine s_nil<|WD.block ?_;obtain ⟨ch,bv,hM⟩:=M.e_bind hM;refine WD.range (L:=[cBlk ak [I 0] 38,cBlk aj [B false] 4,cBlk az [I ax] 3,cBlk aA [I ay] 3,cBlk aB [Pq ae] 107,cBlk ae [aa,ab,I aq,I au,.map (some ah)] 168,cMl I encSp ah av,cBlk aD [al] 24,cBlk aC [aa,ab,I ac,I ai] 55]) [Pq az,Pq aA,Pq aB] (H.pk [9,5,6,0,1,2,3,4,7,8]) rfl cq ?_;intro aL aS aT bw aU H
 have hYC:YieldC Tryz.prog ([cMk (aS :: ([])),cBlk az [I ax] 3,cBlk aA [I ay] 3,cBlk aB [Pq ae] 107,cBlk ae [aa,ab,I aq,I au,.map (some ah)] 168,cMl I encSp ah av,cBlk aD [al] 24,cBlk aC [aa,ab,I ac,I ai] 55]++R) arISpan (yJ aL aT (fun _ ap=>ap=[cBlk ak [I 0] 38,cBlk aj [B false] 4]) (fun _ ap=>ap=[cBlk ak [I 0] 38,cBlk aj [B false] 4]) (fun _=>.ret)) (.func (.yield aL) #[] #[]) (M.yl (zaA ac stages)):=by
  refine YieldC.mk2 aU (fun _ ap=>ap=[cBlk ak [I 0] 38,cBlk aj [B false] 4]) (fun _ ap=>ap=[cBlk ak [I 0] 38,cBlk aj [B false] 4]) (fun _=>.ret) (zaA ac stages) (by rintro _ _ h_; obtain ⟨rfl⟩:=h_; rfl) (by rintro _ _ h_; (obtain ⟨rfl⟩:=h_; rfl)) rfl (arISpan_len rfl) ?_;intro C_ cj x_ bx;obtain ⟨x,x2⟩:=x_;obtain rfl:=bx;intro w R aG ap s_ r bz hM H
  skip
  obtain ⟨rfl⟩:=bz;replace H:=H.nf;refine kA 5 ?_;intro bA ck H;refine ksw ?_;intro cn H;refine s_nil ?_;refine ⟨rfl,[cBlk bA [I x2.lo,I x2.hi] 27],H.pick [0,1,2,3,4,5,6,7,8,9,10] (by decide) rfl,?_⟩;clear H aG;intro w R aG H;replace aJ:=aJ.sub aG;replace aK:=aK.sub aG;replace aO:=aO.sub aG;replace hM:(zaA ac stages () (x,x2)).Ends r:=hM;simp only [zaA] at hM;replace H:=H.nf;refine kD 2 [0,1,2,3,4,5,6,7,8,9,10] [11] ?_;intro cp H;obtain ⟨cr,hM⟩:=M.e_gq hM;obtain ⟨ct,hM⟩:=M.e_gq hM;refine kC 12 @zah ?_;intro cu r3 hM H;refine kN ?_;refine kI 2 ?_ ?_
  ·intro bB hM;refine kS 2 ?_;intro cv H;refine ksw ?_;intro cB H;refine s_nil ?_;refine W.ret ?_;exact ⟨(),[cBlk ak [I 0] 38,cBlk aj [B false] 4],(M.e_pure hM).symm,rfl,H.pick [1,2,3,4,5,6,7,8,9,10] (by decide) rfl,rfl⟩
  intro bB hM;refine W.skip ?_;exact ⟨(),[cBlk ak [I 0] 38,cBlk aj [B false] 4],(M.e_pure hM).symm,rfl,H.pick [1,2,3,4,5,6,7,8,9,10] (by decide) rfl⟩
 replace H:St w bw (cAll (cObj aL (.loop aT) :: [cBlk ak [I 0] 38,cBlk aj [B false] 4]) :: [cMk (aS :: ([])),cBlk az [I ax] 3,cBlk aA [I ay] 3,cBlk aB [Pq ae] 107,cBlk ae [aa,ab,I aq,I au,.map (some ah)] 168,cMl I encSp ah av,cBlk aD [al] 24,cBlk aC [aa,ab,I ac,I ai] 55]) R:=St.bundleB (A:=cObj aL (.loop aT) :: [cBlk ak [I 0] 38,cBlk aj [B false] 4]) (T:=[cMk (aS :: ([])),cBlk az [I ax] 3,cBlk aA [I ay] 3,cBlk aB [Pq ae] 107,cBlk ae [aa,ab,I aq,I au,.map (some ah)] 168,cMl I encSp ah av,cBlk aD [al] 24,cBlk aC [aa,ab,I ac,I ai] 55]) rfl (H.pk [0,2,3,1,4,5,6,7,8,9,10]);refine (zbu (M.yl (zaA ac stages)) (.inl ()) ax ay aH aI aq au av hYC ⟨_,rfl,rfl⟩ (Has.here (k:=1) rfl) (Has.here (k:=2) rfl) (aJ.app _) aM (aK.app _) aN (Has.here (k:=5) rfl) (Has.here (k:=4) rfl) (Has.here (k:=3) rfl) bv _ (H.gt 8)).mono ?_;rintro vq cC ⟨bC,cD,rfl,hvq,ao,aZ⟩;replace H:=H.back ao rfl;clear ao hYC;rcases bC with _ | _
 ·obtain ⟨_,rfl,rfl⟩:=aZ;refine ⟨_,[cBlk ak [I 0] 38,cBlk aj [B false] 4,cBlk az [I ax] 3,cBlk aA [I ay] 3,cBlk aB [Pq ae] 107,cBlk ae [aa,ab,I aq,I au,.map (some ah)] 168,cMl I encSp ah av,cBlk aD [al] 24,cBlk aC [aa,ab,I ac,I ai] 55],H.unbundle.pick [0,3,1,2,4,5,6,7,8,9,10] (by decide) rfl,aU.nb,?_⟩;intro bD H;rw [aU.pd];replace H:=H.nf
  try simp only []
  replace H:=H.pk [0,1,2];refine WD.seq<|WD.of ?_;refine kS 1 ?_;intro cE H;refine ksw ?_;intro cF H;refine s_nil<|WD.of ?_;refine W.ret ?_;refine bodyD_r (H.pk [0,1,2]) ?_;intro cG H;replace H:=H.nf
  have bE:=(H.bl 1)
  have bF:=(H.bl 0)
  have am:=M.e_pure hM;exact ⟨_,(resE_ofn (vs:=[B true,I 0]) rfl rfl (.cell (v:=B true) rfl (run_loadVar_sc Sc4.h bE rfl)<|.cell (v:=I 0) rfl (run_loadVar_sc Sc38.h bF rfl)<|.nil)),⟨true,0,am,rfl,(H.pk [])⟩⟩
 obtain ⟨_,rfl,rfl⟩:=aZ;refine ⟨_,[cBlk ak [I 0] 38,cBlk aj [B false] 4,cBlk az [I ax] 3,cBlk aA [I ay] 3,cBlk aB [Pq ae] 107,cBlk ae [aa,ab,I aq,I au,.map (some ah)] 168,cMl I encSp ah av,cBlk aD [al] 24,cBlk aC [aa,ab,I ac,I ai] 55],H.unbundle.pick [0,3,1,2,4,5,6,7,8,9,10] (by decide) rfl,nofun,?_⟩;intro bD H;show WD _ _ _ (.ret) _ _ _;refine WD.of ?_;refine W.ret ?_;replace H:=H.nf;refine bodyD_r (H.pk [0,1,2,3,4,5,6,7,8,9]) ?_;intro cH H;replace H:=H.nf;have bG:=(H.bl 1)
 have bH:=(H.bl 0)
 have am:=M.e_pure hM;exact ⟨_,(resE_ofn (vs:=[B false,I 0]) rfl rfl (.cell (v:=B false) rfl (run_loadVar_sc Sc4.h bG rfl)<|.cell (v:=I 0) rfl (run_loadVar_sc Sc38.h bH rfl)<|.nil)),⟨false,0,am,rfl,(H.pk [])⟩⟩

def zaz  : Unit->(Int × Span)->M (Unit ⊕ Int):=fun (_:Unit) (x,x2) =>
  bif decide (x2.hi<x2.lo) then (
  M.pure (.inr x))
  else (
  M.pure (.inl ()))
def zbh (ac:List Yr) (ae:List Old10) (aa ab:Int) (ah:List (Int × Span)):M (Int × Bool) :=
  M.bind (zak ac ae aa ab ah aa ab) fun (ai,aj) =>
  M.bind (zaq (M.yl zaz) (.inl ()) ai aj ac ae aa ab ah) fun x_=>match x_ with
  | .inl _=>(
  M.pure (0,false))
  | .inr s=>(
  M.pure (s,true))
theorem zgx {R ac aF aG aH aI aJ}(ap aq au av aw)(ax:Reads R aF)(aK:Sl aF aG ap)(ay:Reads R aH)(aL:Sl aH aI aq)(az:Has R (cMl I encSp aJ aw))(aA:Has R (cBlk ac [aG,aI,I au,I av,.map (some aJ)] 168)){r}(hM:(zbh ap aq au av aw).Ends r)(w)(H:St w w [] R):Ret Tryz.prog 74 #[Pq ac] w fun v w'=>∃ y0 y1,(y0,y1)=r/\v = .tuple #[I y0,B y1]/\St w w' [] R:=by
 refine ret_of_WD Tryz.func74 rfl rfl rfl ?_;replace H:St w w [cMk ([])] R:=H.mk0;have aW:=aK.len_le;have aX:=aL.len_le;unfold zbh at hM;refine WD.seq<|WD.of ?_;refine kg 4 ?_;refine WD.scope<|WD.seq<|WD.of ?_;refine kA 1 ?_;intro aa aY H;refine kal ?_;intro ab aZ H;refine ksw ?_;intro a6 H;refine ksw ?_;intro a7 H;refine s_nil<|WD.seq<|WD.of ?_;refine W.label<|WD.seq<|WD.seq<|WD.of ?_;refine kD 0 [0,1,2] [11] ?_;intro a8 H;refine kC 12 @zbt ?_;intro ba ah ai aj ak al hM H;refine kN ?_;refine d_nil<|WD.block ?_;obtain ⟨bb,aO,hM⟩:=M.e_bind hM;refine WD.range (L:=[cBlk ab [B false] 4,cBlk aa [I 0] 3,cBlk aj [I ah] 3,cBlk ak [I ai] 3,cBlk al [Pq ac] 107]) [Pq aj,Pq ak,Pq al] (H.pk [5,3,4,0,1,2]) rfl cq ?_;intro ao aB aC aP aD H
 have hYC:YieldC Tryz.prog ([cMk (aB :: ([])),cBlk aj [I ah] 3,cBlk ak [I ai] 3,cBlk al [Pq ac] 107]++R) arISpan (yJ ao aC (fun _ ae=>ae=[cBlk ab [B false] 4,cBlk aa [I 0] 3]) (fun s ae=>ae=[cBlk ab [B true] 4,cBlk aa [I s] 3]) (fun _=>.exit 0)) (.func (.yield ao) #[] #[]) (M.yl zaz):=by
  refine YieldC.mk2 aD (fun _ ae=>ae=[cBlk ab [B false] 4,cBlk aa [I 0] 3]) (fun s ae=>ae=[cBlk ab [B true] 4,cBlk aa [I s] 3]) (fun _=>.exit 0) zaz (by rintro _ _ h_; obtain ⟨rfl⟩:=h_; rfl) (by rintro s _ h_; (obtain ⟨rfl⟩:=h_; rfl)) rfl (arISpan_len rfl) ?_;intro C_ bc x_ aQ;obtain ⟨x,x2⟩:=x_;obtain rfl:=aQ;intro w R am ae s_ r aR hM H
  skip
  obtain ⟨rfl⟩:=aR;replace H:=H.nf;refine kA 5 ?_;intro aS bf H;refine ksw ?_;intro bg H;refine s_nil ?_;refine ⟨rfl,[cBlk aS [I x2.lo,I x2.hi] 27],H.pick [0,1,2,3,4,5,6] (by decide) rfl,?_⟩;clear H am;intro w R am H;replace ax:=ax.sub am;replace ay:=ay.sub am;replace az:=az.sub am;replace aA:=aA.sub am;replace hM:(zaz () (x,x2)).Ends r:=hM;simp only [zaz] at hM;replace H:=H.nf;refine kI 9 ?_ ?_
  ·intro aT hM;refine kS 3 ?_;intro bh H;refine ksw ?_;intro bi H;refine s_nil ?_;refine W.exit ?_;exact ⟨x,[cBlk ab [B true] 4,cBlk aa [I x] 3],(M.e_pure hM).symm,rfl,H.pick [1,2,3,4,5,6] (by decide) rfl,rfl⟩
  intro aT hM;refine W.skip ?_;exact ⟨(),[cBlk ab [B false] 4,cBlk aa [I 0] 3],(M.e_pure hM).symm,rfl,H.pick [1,2,3,4,5,6] (by decide) rfl⟩
 replace H:St w aP (cAll (cObj ao (.loop aC) :: [cBlk ab [B false] 4,cBlk aa [I 0] 3]) :: [cMk (aB :: ([])),cBlk aj [I ah] 3,cBlk ak [I ai] 3,cBlk al [Pq ac] 107]) R:=St.bundleB (A:=cObj ao (.loop aC) :: [cBlk ab [B false] 4,cBlk aa [I 0] 3]) (T:=[cMk (aB :: ([])),cBlk aj [I ah] 3,cBlk ak [I ai] 3,cBlk al [Pq ac] 107]) rfl (H.pk [0,2,3,1,4,5,6]);refine (zbu (M.yl zaz) (.inl ()) ah ai ap aq au av aw hYC ⟨_,rfl,rfl⟩ (Has.here (k:=1) rfl) (Has.here (k:=2) rfl) (ax.app _) aK (ay.app _) aL (az.app _) (aA.app _) (Has.here (k:=3) rfl) aO _ (H.gt 4)).mono ?_;rintro vq bj ⟨aU,bm,rfl,hvq,aM,aN⟩;replace H:=H.back aM rfl;clear aM hYC;rcases aU with _ | s
 ·obtain ⟨_,rfl,rfl⟩:=aN;refine ⟨_,[cBlk ab [B false] 4,cBlk aa [I 0] 3,cBlk aj [I ah] 3,cBlk ak [I ai] 3,cBlk al [Pq ac] 107],H.unbundle.pick [0,3,1,2,4,5,6] (by decide) rfl,aD.nb,?_⟩;intro aV H;rw [aD.pd];replace H:=H.nf
  try simp only []
  replace H:=H.pk [0,1,2];refine WD.seq<|WD.of ?_;refine kD 0 [0,1,2] [] ?_;intro bn H;refine kg 5 ?_;replace H:=H.pk [0];refine WD.of ?_;refine W.ret ?_;refine bodyD_r (H.pk [0]) ?_;intro bo H;replace H:=H.nf
  have aE:=M.e_pure hM;exact ⟨_,resE_tmp2 rfl,⟨0,false,aE,rfl,H⟩⟩
 obtain ⟨_,rfl,rfl⟩:=aN;refine ⟨_,[cBlk ab [B true] 4,cBlk aa [I s] 3,cBlk aj [I ah] 3,cBlk ak [I ai] 3,cBlk al [Pq ac] 107],H.unbundle.pick [0,3,1,2,4,5,6] (by decide) rfl,nofun,?_⟩;intro aV H;show WD _ _ _ (.exit 0) _ _ _;refine WD.of ?_;refine W.exit ?_;replace H:=H.nf;replace H:=H.pk [0,1,2];refine WD.seq<|WD.of ?_;refine kD 0 [0,1,2] [] ?_;intro bp H;refine kg 5 ?_;replace H:=H.pk [0];refine WD.of ?_;refine W.ret ?_;refine bodyD_r (H.pk [0]) ?_;intro br H;replace H:=H.nf
 have aE:=M.e_pure hM;exact ⟨_,resE_tmp2 rfl,⟨s,true,aE,rfl,H⟩⟩

end Go.Proofs.YtbgoclcmgbpckabGreat
end
section
set_option maxRecDepth 100000
set_option maxHeartbeats 16000000
namespace Go.Proofs.YtbgoclcmgbpckabGreat
open Go Go.Nm
attribute [local irreducible] gd execOp SL SLD SLT WR
def zbs (ab:List Yr) (ac:List Old10) (aa ae al ah n first last:Int):M (Int ⊕ (Int × Int × (List (Int × Span)) × Int)) :=
  M.bind (zaB ab ac aa ae) fun x_=>match x_ with
  | (.inl r1)=>(
  bif r1 != 0 then (
  M.pure (.inl r1))
  else (
  M.fail))
  | (.inr (ai,aj,ak,am))=>(
  bif am != 0 then (
  M.fail)
  else (
  M.bind (zag al aa ah) fun r2 =>
  M.bind (M.opt (!(!r2)) (zag ah aa ae) false) fun r3 =>
  bif ((!r2)||(!r3)) then (
  M.pure (.inl 2))
  else (
  M.bind (zag n first last) fun r4 =>
  bif !r4 then (
  M.pure (.inl 4))
  else (
  M.bind (zbh ab ac ai aj ak) fun (r0,ao) =>
  bif ao then (
  M.pure (.inl 6))
  else (
  M.pure (.inr (ai,aj,ak,0)))))))
theorem zdP {R am ah ao ai}(aj ak ab ac ap ae n first last)(av:Reads R am)(aw:Sl am ah aj)(ax:Reads R ao)(ay:Sl ao ai ak){r}(hM:(zbs aj ak ab ac ap ae n first last).Ends r)(w)(H:St w w [] R):Ret Tryz.prog 35 #[.agg #[ah,ai,I ab,I ac],I ap,I ae,I n,I first,I last] w fun v w'=>(∃ (y0:Int),(.inl y0)=r/\v = .tuple #[.pointer none,I y0]/\St w w' [] R)∨(∃ (y0:Int) (y1:Int) (y2:List (Int × Span)) (y3:Int) (aq:Nat) (au:Nat),(.inr (y0,y1,y2,y3))=r/\v = .tuple #[Pq aq,I y3]/\St w w' [cBlk aq [ah,ai,I y0,I y1,.map (some au)] 168,cMl I encSp au y2] R):=by
 refine ret_of_W Tryz.func35 rfl rfl rfl ?_;refine kB 2 ?_;intro aO aP H;refine kg 6 ?_;obtain ⟨aQ,az,hM⟩:=M.e_bind hM;refine s_call cq [.agg #[ah,ai,I ab,I ac]] rfl (zez aj ak ab ac (av.app _) aw (ax.app _) ay az _ (H.gt 1)) ?_;rintro vq aR (⟨r1,aA,hvq,al⟩ | ⟨aB,aC,aD,aS,aE,aF,aG,hvq,al⟩)
 ·subst aA;subst vq;replace H:=H.bk al;refine kI 14 ?_ ?_
  ·intro aH hM;refine kg 6 ?_;refine W.ret ?_;have aa:=M.e_pure hM;exact ⟨_,resE_tmp2 rfl,.inl (⟨r1,aa,rfl,(H.pk [])⟩)⟩
  intro aH hM;exact (M.e_fail hM).elim
 subst aG;subst vq;replace H:=H.bk al;refine kI 14 ?_ ?_
 ·intro aI hM;exact (M.e_fail hM).elim
 intro aI hM;refine kC 6 @zah ?_;intro aT r2 hM H;refine kg 7 ?_;obtain ⟨r3,aJ,hM⟩:=M.e_bind hM;refine t_gcall (!(!r2)) (gy_f rfl) cq (B r3) (fun _=>[I ae,I ab,I ac]) (fun hg=>lst3 (gd_of hg (I ae)) (gd_of hg (I ab)) (gd_of hg (I ac))) H (fun hg=>(zah ae ab ac (M.e_opt aJ hg) _ (H.give (A:=[]) rfl)).mono fun v_ w_ ⟨y_,aa,aK,H_⟩=>by subst aa; exact ⟨aK,H.via H_⟩) ?_;intro aU H;refine kI 4 ?_ ?_
 ·intro aL hM;refine kg 5 ?_;replace H:=H.pk [];refine W.ret ?_;have aa:=M.e_pure hM;exact ⟨_,resE_tmp2 rfl,.inl (⟨2,aa,rfl,H⟩)⟩
 intro aL hM;refine kC 5 @zah ?_;intro aV r4 hM H;refine kI 3 ?_ ?_
 ·intro aM hM;refine kg 5 ?_;replace H:=H.pk [];refine W.ret ?_;have aa:=M.e_pure hM;exact ⟨_,resE_tmp2 rfl,.inl (⟨4,aa,rfl,H⟩)⟩
 intro aM hM;refine kC 5 @zgx ?_;intro aW r0 aX hM H;refine kI 10 ?_ ?_
 ·intro aN hM;refine kg 5 ?_;replace H:=H.pk [];refine W.ret ?_;have aa:=M.e_pure hM;exact ⟨_,resE_tmp2 rfl,.inl (⟨6,aa,rfl,H⟩)⟩
 intro aN hM;refine kg 7 ?_;refine W.ret ?_;have aa:=M.e_pure hM;exact ⟨_,resE_tmp2 rfl,.inr (⟨aB,aC,aD,0,aE,aF,aa,rfl,(H.pk [0,1])⟩)⟩

def zdo  : M Unit :=
  M.pure ()
theorem zdX {R r}(hM:(zdo).Ends r)(w)(H:St w w [] R):Ret Tryz.prog 38 #[] w fun v w'=>()=r/\v = .agg #[.func (.func 77) #[] #[]]/\St w w' [] R:=by
 refine ret_of_W Tryz.func38 rfl rfl rfl ?_;refine kA 2 ?_;intro aa ab H;refine kS 4 ?_;intro ac H;exact kR 1 []

def zdd (s:Span):M Int :=
  M.pure s.lo
theorem zdv {R}(s){r}(hM:(zdd s).Ends r)(w)(H:St w w [] R):Ret Tryz.prog 77 #[.agg #[I s.lo,I s.hi]] w fun v w'=>∃ y0,y0=r/\v=I y0/\St w w' [] R:=by
 refine ret_of_W Tryz.func77 rfl rfl rfl ?_;refine kB 2 ?_;intro aa ab H;refine kg 8 ?_;exact rt

def zcJ (x_stage stage:Int):M Bool :=
  M.pure (decide (x_stage<=stage))
theorem zdp {R}(x_stage stage){r}(hM:(zcJ x_stage stage).Ends r)(w)(H:St w w [] R):Ret Tryz.prog 40 #[.agg #[I x_stage],I stage] w fun v w'=>∃ y0,y0=r/\v=B y0/\St w w' [] R:=by
 refine ret_of_W Tryz.func40 rfl rfl rfl ?_;refine kB 2 ?_;intro aa ab H;refine kg 10 ?_;exact rt

def zbZ  : M Unit :=
  M.pure ()
theorem zc9 {R r}(hM:(zbZ).Ends r)(w)(H:St w w [] R):Ret Tryz.prog 39 #[] w fun v w'=>()=r/\v = .agg #[.func (.func 78) #[] #[]]/\St w w' [] R:=by
 refine ret_of_W Tryz.func39 rfl rfl rfl ?_;refine kA 2 ?_;intro aa ab H;refine kS 4 ?_;intro ac H;exact kR 1 []

def zco (s:Span):M Int :=
  M.pure s.hi
theorem zbM {R}(s){r}(hM:(zco s).Ends r)(w)(H:St w w [] R):Ret Tryz.prog 78 #[.agg #[I s.lo,I s.hi]] w fun v w'=>∃ y0,y0=r/\v=I y0/\St w w' [] R:=by
 refine ret_of_W Tryz.func78 rfl rfl rfl ?_;refine kB 2 ?_;intro aa ab H;refine kg 8 ?_;exact rt

def zas (stage:Int):(Int × Int)->(Int × Span)->M ((Int × Int) ⊕ Unit):=fun (s2,s3) (x,x2) =>
  M.bind (zdo) fun (_:Unit) =>
  M.bind (zdd x2) fun r2 =>
  M.bind (zcJ stage r2) fun r3 =>
  bif r3 then (
  M.gi (s2+1) <|
  M.bind (zbZ) fun (_:Unit) =>
  M.bind (zco x2) fun r4 =>
  M.bind (zcJ stage r4) fun r5 =>
  bif r5 then (
  M.gi (s3+1) <|
  M.pure (.inl (s2+1,s3+1)))
  else (
  M.pure (.inl (s2+1,s3))))
  else (
  M.bind (zbZ) fun (_:Unit) =>
  M.bind (zco x2) fun r4 =>
  M.bind (zcJ stage r4) fun r5 =>
  bif r5 then (
  M.gi (s3+1) <|
  M.pure (.inl (s2,s3+1)))
  else (
  M.pure (.inl (s2,s3))))
def zap (aa:List Yr) (ab:List Old10) (ak al ac ae stage:Int):M (Int × Int × Int) :=
  M.bind (zbs aa ab ak al ac ae stage 0 2000) fun x_=>match x_ with
  | (.inl r1)=>(
  bif r1 != 0 then (
  M.pure (0,0,r1))
  else (
  M.fail))
  | (.inr (ah,ai,aj,am))=>(
  bif am != 0 then (
  M.fail)
  else (
  M.bind (zak aa ab ah ai aj ac ae) fun (ao,ap) =>
  M.bind (zaq (M.yl (zas stage)) (.inl (0,0)) ao ap aa ab ah ai aj) fun x_=>match x_ with
  | .inl (s2,s3)=>(
  M.pure (s2,s3,0))
  | .inr _=>M.fail))
theorem zbQ {R aR ab aS ac}(aC aD aj ak aE aF stage)(aG:Reads R aR)(aL:Sl aR ab aC)(aH:Reads R aS)(aM:Sl aS ac aD){r}(hM:(zap aC aD aj ak aE aF stage).Ends r)(w)(H:St w w [] R):Ret Tryz.prog 15 #[.agg #[ab,ac,I aj,I ak],I aE,I aF,I stage] w fun v w'=>∃ y0 y1 y2,(y0,y1,y2)=r/\v = .tuple #[.agg #[I y0,I y1],I y2]/\St w w' [] R:=by
 refine ret_of_WD Tryz.func15 rfl rfl rfl ?_;replace H:St w w [cMk ([])] R:=H.mk0;have br:=aL.len_le;have bt:=aM.len_le;unfold zap at hM;refine WD.seq<|WD.of ?_;refine kB 1 ?_;intro ax bu H;refine kal ?_;intro ay bv H;refine kg 2 ?_;refine WD.seq<|WD.of ?_;refine kg 5 ?_;obtain ⟨bw,aU,hM⟩:=M.e_bind hM;refine s_call cq [.agg #[ab,ac,I aj,I ak],I aE,I aF,I stage,I 0,I 2000] rfl (zdP aC aD aj ak aE aF stage 0 2000 (aG.app _) aL (aH.app _) aM aU _ (H.gt 3)) ?_
 rintro vq bx (⟨r1,aV,hvq,aa⟩ | ⟨al,am,ao,aW,ae,ah,aX,hvq,aa⟩)
 ·subst aV;subst vq;replace H:=H.bk aa;refine kg 6 ?_;refine WD.seq<|WD.seq<|WD.of ?_;refine kg 4 ?_
  refine WD.cond (r1 != 0) rfl (fun az=>?_) (fun az=>?_)
  ·replace hM:=M.e_t hM az;replace az:=dI az;refine WD.seq<|WD.of ?_;refine kS 3 ?_;intro bz H;refine kg 2 ?_;refine WD.of ?_;refine W.ret ?_;refine bodyD_r (H.pk [2,0,1]) ?_;intro bA H;replace H:=H.nf
   have aY:=(H.bl 0)
   have aN:=M.e_pure hM;exact ⟨_,(resE_ofn (vs:=[.agg #[I 0,I 0],I r1]) rfl rfl (.cell (v:=.agg #[I 0,I 0]) rfl (run_loadVar_ag (ds:=[I 0,I 0]) Ag27.h Sz27.h aY rfl rfl)<|.tmp (v:=I r1) rfl<|.nil)),⟨0,0,r1,aN,rfl,(H.pk [])⟩⟩
  replace hM:=M.e_f hM az;exact (M.e_fail hM).elim
 subst aX;subst vq;replace H:=H.bk aa;refine kg 6 ?_;refine WD.seq<|WD.seq<|WD.of ?_;refine kg 4 ?_
 refine WD.cond (aW != 0) rfl (fun aA=>?_) (fun aA=>?_)
 ·replace hM:=M.e_t hM aA;exact (M.e_fail hM).elim
 replace hM:=M.e_f hM aA;replace aA:=dI aA;refine WD.of<|W.skip<|WD.seq<|WD.of ?_;refine kG 3 ?_;refine s_val (x_mf (fs:=[.agg #[I stage]]) (cs:=[]) rfl rfl) ?_;refine kal ?_;intro aB bB H;refine ksw ?_;intro bC H;refine s_nil<|WD.seq<|WD.of ?_;refine kA 1 ?_;intro ai bD H;refine s_nil<|WD.seq<|WD.seq<|WD.of ?_;refine kC 4 @zbt ?_;intro bE ap aq au av aw hM H;refine s_nil<|WD.block ?_;obtain ⟨bF,aZ,hM⟩:=M.e_bind hM;refine WD.range (L:=[cBlk ai [I 0,I 0] 27,cBlk au [I ap] 3,cBlk av [I aq] 3,cBlk aw [Pq ae] 107,cBlk aB [.func (.func 40) #[.agg #[I stage]] #[]] 112,cBlk ae [ab,ac,I al,I am,.map (some ah)] 168,cMl I encSp ah ao,cBlk ay [I 0,I 0] 27,cBlk ax [ab,ac,I aj,I ak] 55]) [Pq au,Pq av,Pq aw] (H.pk [9,3,0,1,2,4,5,6,7,8]) rfl cq ?_;intro aI aO aP a6 aQ H
 have hYC:YieldC Tryz.prog ([cMk (aO :: ([])),cBlk au [I ap] 3,cBlk av [I aq] 3,cBlk aw [Pq ae] 107,cBlk aB [.func (.func 40) #[.agg #[I stage]] #[]] 112,cBlk ae [ab,ac,I al,I am,.map (some ah)] 168,cMl I encSp ah ao,cBlk ay [I 0,I 0] 27,cBlk ax [ab,ac,I aj,I ak] 55]++R) arISpan (yJ aI aP (fun (s2,s3) aJ=>aJ=[cBlk ai [I s2,I s3] 27]) (fun (_:Unit) _=>False) (fun _=>.ret)) (.func (.yield aI) #[] #[]) (M.yl (zas stage)):=by
  refine YieldC.mk2 aQ (fun (s2,s3) aJ=>aJ=[cBlk ai [I s2,I s3] 27]) (fun (_:Unit) _=>False) (fun _=>.ret) (zas stage) (by rintro ⟨s2,s3⟩ _ h_; obtain ⟨rfl⟩:=h_; rfl) (fun _ _ h_=>h_.elim) rfl (arISpan_len rfl) ?_;intro C_ bG x_ a7;obtain ⟨x,x2⟩:=x_;obtain rfl:=a7;intro w R aK aJ s_ r a8 hM H;obtain ⟨s2,s3⟩:=s_;obtain ⟨rfl⟩:=a8;replace H:=H.nf;refine kA 1 ?_;intro ba bH H;refine ksw ?_;intro bI H;refine s_nil ?_;refine ⟨rfl,[cBlk ba [I x2.lo,I x2.hi] 27],H.pick [0,1,2,3,4,5,6,7,8,9,10] (by decide) rfl,?_⟩;clear H aK;intro w R aK H;replace aG:=aG.sub aK;replace aH:=aH.sub aK;replace hM:(zas stage (s2,s3) (x,x2)).Ends r:=hM;simp only [zas] at hM;replace H:=H.nf;refine kDo 3 [0,1,2,3,4,5,6,7,8,9,10] [(0,true),(3,true),(1,false),(2,true),(4,false),(5,false)] ?_;intro bJ H;refine kC 3 @zdX ?_;intro bK hM H;refine kN ?_;refine d_q rfl (fun w' H=>x_fd (cs:=[.func (.func 77) #[] #[]]) (v:=.func (.func 77) #[] #[]) Fd119_0.h Sc87.h rfl rfl)<|d_l rfl ?_;obtain ⟨bL,bb,hM⟩:=M.e_bind hM;refine s_callv (f:=77) rfl cq [.agg #[I x2.lo,I x2.hi]] rfl (zdv x2 bb _ (H.gt 11)) ?_
  rintro _ bM ⟨r2,rfl,rfl,aa⟩;replace H:=H.bk aa;refine kN ?_;refine d_l rfl ?_;obtain ⟨bN,bc,hM⟩:=M.e_bind hM;refine s_callm (f:=40) (fs:=[.agg #[I stage]]) rfl cq [I r2] rfl (zdp stage r2 bc _ (H.gt 11)) ?_;rintro _ bO ⟨r3,rfl,rfl,aa⟩;replace H:=H.bk aa;refine kN ?_;refine kI 1 ?_ ?_
  ·intro bf hM;obtain ⟨bP,hM⟩:=M.e_gq hM;refine kS 5 ?_;intro bQ H;refine kDo 2 [0,1,2,3,4,5,6,7,8,9,10] [(0,true),(3,true),(1,false),(2,true),(4,false),(5,false)] ?_;intro bR H;refine kC 3 @zc9 ?_;intro bS hM H;refine kN ?_;refine d_q rfl (fun w' H=>x_fd (cs:=[.func (.func 78) #[] #[]]) (v:=.func (.func 78) #[] #[]) Fd119_0.h Sc87.h rfl rfl)<|d_l rfl ?_;obtain ⟨bT,bg,hM⟩:=M.e_bind hM;refine s_callv (f:=78) rfl cq [.agg #[I x2.lo,I x2.hi]] rfl (zbM x2 bg _ (H.gt 11)) ?_
   rintro _ bU ⟨r4,rfl,rfl,aa⟩;replace H:=H.bk aa;refine kN ?_;refine d_l rfl ?_;obtain ⟨bV,bh,hM⟩:=M.e_bind hM;refine s_callm (f:=40) (fs:=[.agg #[I stage]]) rfl cq [I r4] rfl (zdp stage r4 bh _ (H.gt 11)) ?_;rintro _ bW ⟨r5,rfl,rfl,aa⟩;replace H:=H.bk aa;refine kN ?_;refine kI 1 ?_ ?_
   ·intro bi hM;obtain ⟨bX,hM⟩:=M.e_gq hM;refine kS 5 ?_;intro bY H;refine s_nil ?_;exact ⟨(s2+1,s3+1),[cBlk ai [I (s2+1),I (s3+1)] 27],(M.e_pure hM).symm,rfl,H.pick [1,2,3,4,5,6,7,8,9,10] (by decide) rfl⟩
   intro bi hM;refine W.skip ?_;exact ⟨(s2+1,s3),[cBlk ai [I (s2+1),I s3] 27],(M.e_pure hM).symm,rfl,H.pick [1,2,3,4,5,6,7,8,9,10] (by decide) rfl⟩
  intro bf hM;refine kDo 2 [0,1,2,3,4,5,6,7,8,9,10] [(0,true),(3,true),(1,false),(2,true),(4,false),(5,false)] ?_;intro bZ H;refine kC 3 @zc9 ?_;intro b4 hM H;refine kN ?_;refine d_q rfl (fun w' H=>x_fd (cs:=[.func (.func 78) #[] #[]]) (v:=.func (.func 78) #[] #[]) Fd119_0.h Sc87.h rfl rfl)<|d_l rfl ?_;obtain ⟨b6,bj,hM⟩:=M.e_bind hM;refine s_callv (f:=78) rfl cq [.agg #[I x2.lo,I x2.hi]] rfl (zbM x2 bj _ (H.gt 11)) ?_
  rintro _ b7 ⟨r4,rfl,rfl,aa⟩;replace H:=H.bk aa;refine kN ?_;refine d_l rfl ?_;obtain ⟨b8,bm,hM⟩:=M.e_bind hM;refine s_callm (f:=40) (fs:=[.agg #[I stage]]) rfl cq [I r4] rfl (zdp stage r4 bm _ (H.gt 11)) ?_;rintro _ b9 ⟨r5,rfl,rfl,aa⟩;replace H:=H.bk aa;refine kN ?_;refine kI 1 ?_ ?_
  ·intro bn hM;obtain ⟨cb,hM⟩:=M.e_gq hM;refine kS 5 ?_;intro cc H;refine s_nil ?_;exact ⟨(s2,s3+1),[cBlk ai [I s2,I (s3+1)] 27],(M.e_pure hM).symm,rfl,H.pick [1,2,3,4,5,6,7,8,9,10] (by decide) rfl⟩
  intro bn hM;refine W.skip ?_;exact ⟨(s2,s3),[cBlk ai [I s2,I s3] 27],(M.e_pure hM).symm,rfl,H.pick [1,2,3,4,5,6,7,8,9,10] (by decide) rfl⟩
 replace H:St w a6 (cAll (cObj aI (.loop aP) :: [cBlk ai [I 0,I 0] 27]) :: [cMk (aO :: ([])),cBlk au [I ap] 3,cBlk av [I aq] 3,cBlk aw [Pq ae] 107,cBlk aB [.func (.func 40) #[.agg #[I stage]] #[]] 112,cBlk ae [ab,ac,I al,I am,.map (some ah)] 168,cMl I encSp ah ao,cBlk ay [I 0,I 0] 27,cBlk ax [ab,ac,I aj,I ak] 55]) R:=St.bundleB (A:=cObj aI (.loop aP) :: [cBlk ai [I 0,I 0] 27]) (T:=[cMk (aO :: ([])),cBlk au [I ap] 3,cBlk av [I aq] 3,cBlk aw [Pq ae] 107,cBlk aB [.func (.func 40) #[.agg #[I stage]] #[]] 112,cBlk ae [ab,ac,I al,I am,.map (some ah)] 168,cMl I encSp ah ao,cBlk ay [I 0,I 0] 27,cBlk ax [ab,ac,I aj,I ak] 55]) rfl (H.pk [0,2,1,3,4,5,6,7,8,9,10]);refine (zbu (M.yl (zas stage)) (.inl (0,0)) ap aq aC aD al am ao hYC ⟨_,rfl,rfl⟩ (Has.here (k:=1) rfl) (Has.here (k:=2) rfl) (aG.app _) aL (aH.app _) aM (Has.here (k:=6) rfl) (Has.here (k:=5) rfl) (Has.here (k:=3) rfl) aZ _ (H.gt 9)).mono ?_;rintro vq cd ⟨bo,ce,rfl,hvq,aa,aT⟩;replace H:=H.back aa rfl;clear aa hYC;rcases bo with ⟨s2,s3⟩ | _
 ·obtain ⟨_,rfl,rfl⟩:=aT;refine ⟨_,[cBlk ai [I s2,I s3] 27,cBlk au [I ap] 3,cBlk av [I aq] 3,cBlk aw [Pq ae] 107,cBlk aB [.func (.func 40) #[.agg #[I stage]] #[]] 112,cBlk ae [ab,ac,I al,I am,.map (some ah)] 168,cMl I encSp ah ao,cBlk ay [I 0,I 0] 27,cBlk ax [ab,ac,I aj,I ak] 55],H.unbundle.pick [0,2,1,3,4,5,6,7,8,9,10] (by decide) rfl,aQ.nb,?_⟩;intro cf H;rw [aQ.pd];replace H:=H.nf
  try simp only []
  replace H:=H.pk [0,1,8];refine WD.seq<|WD.of ?_;refine kS 2 ?_;intro cg H;refine kg 2 ?_;refine WD.of ?_;refine W.ret ?_;refine bodyD_r (H.pk [0,1,2]) ?_;intro ch H;replace H:=H.nf
  have bp:=(H.bl 1)
  have aN:=M.e_pure hM;exact ⟨_,(resE_ofn (vs:=[.agg #[I s2,I s3],I 0]) rfl rfl (.cell (v:=.agg #[I s2,I s3]) rfl (run_loadVar_ag (ds:=[I s2,I s3]) Ag27.h Sz27.h bp rfl rfl)<|.tmp (v:=I 0) rfl<|.nil)),⟨s2,s3,0,aN,rfl,(H.pk [])⟩⟩
 obtain ⟨_,_,h_⟩:=aT; exact h_.elim

def zdc  : (Int × Int)->M ((Int × Int) ⊕ Int):=fun (a,b) =>
  bif b != 0 then (
  M.grd (decide ((0:Int)<=a)&&decide ((0:Int)<b)) <|
  M.pure (.inl (b,a % b)))
  else (
  M.pure (.inr a))
def zbB (n aa:Int):M (Int × Int) :=
  M.bind (M.iter (zdc) (n,aa)) fun a2 =>
  M.grd (decide (0<=n)&&decide (n<=(9223372036854775807:Int))&&decide ((0:Int)<a2)) <|
  M.grd (decide (0<=aa)&&decide (aa<=(9223372036854775807:Int))&&decide ((0:Int)<a2)) <|
  M.pure ((n / a2),(aa / a2))
theorem zec {R}(n aa){r}(hM:(zbB n aa).Ends r)(w)(H:St w w [] R):Ret Tryz.prog 34 #[I n,I aa] w fun v w'=>∃ y0 y1,(y0,y1)=r/\v = .agg #[I y0,I y1]/\St w w' [] R:=by
 refine ret_of_W Tryz.func34 rfl rfl rfl ?_;refine kA 2 ?_;intro ab al H;refine kg 10 ?_;obtain ⟨ae,ac,ah⟩:=M.e_bind hM;obtain ⟨am,ac⟩:=M.e_iter ac;refine W.loop (fun m σ W=>∃ (a:Int) (b:Int) (ρ:Env),σ=upds ρ [(0,I n),(1,I aa),(4,Pq ab),(5,I a),(6,I b)]/\M.iterN (zdc) m (a,b)=some ae/\St w W [cBlk ab [I 0,I 0] 66] R) ?_ ?_
 ·exact kY
 rintro ao σ ap ⟨a,b,ρ,rfl,ai,H⟩;obtain ⟨aq,au,av,hM,aj⟩:=M.e_iterN ai;refine kI 6 ?_ ?_
 ·intro ak hM;refine kD 2 [0] [] ?_;intro aw H;obtain ⟨ax,hM⟩:=M.e_gq hM;refine kg 3 ?_;refine d_q rfl (fun w' H=>x_rem' (a:=a) (b:=b) rfl rfl (by omega)) ?_;exact kX 3
 intro ak hM;refine W.exit ?_;obtain rfl:=M.e_inr hM aj;replace hM:=ah;refine kD 1 [] [7] ?_;intro ay H;obtain ⟨az,hM⟩:=M.e_gq hM;obtain ⟨aA,hM⟩:=M.e_gq hM;refine kS 8 ?_;intro aB H;refine kN ?_;exact kR 1 []

def zby (ac:List Yr) (ae:List Old10) (aa ab stage:Int):M (Int × Int × Int × Int × Int) :=
  M.bind (zap ac ae aa ab aa ab stage) fun (ah,ai,r1) =>
  bif r1 != 0 then (
  M.pure (0,0,0,0,r1))
  else (
  M.gi (ab-aa) <|
  M.gi ((ab-aa)+1) <|
  M.bind (zbB ah ((ab-aa)+1)) fun (r0,aj) =>
  M.bind (zbB ai ((ab-aa)+1)) fun (ak,al) =>
  M.pure (r0,aj,ak,al,0))
theorem zgr {R aa ab ac ae}(ah ai aj ak stage)(am:Reads R aa)(ao:Sl aa ab ah)(ap:Reads R ac)(aq:Sl ac ae ai){r}(hM:(zby ah ai aj ak stage).Ends r)(w)(H:St w w [] R):Ret Tryz.prog 13 #[.agg #[ab,ae,I aj,I ak],I stage] w fun v w'=>∃ y0 y1 y2 y3 y4,(y0,y1,y2,y3,y4)=r/\v = .tuple #[.agg #[I y0,I y1],.agg #[I y2,I y3],I y4]/\St w w' [] R:=by
 refine ret_of_W Tryz.func13 rfl rfl rfl ?_;refine kB 2 ?_;intro au av H;refine kal ?_;intro aw ax H;refine kal ?_;intro ay az H;refine kC 10 @zbQ ?_;intro aA aB aC r1 hM H;refine kA 3 ?_;intro aD aE H;refine ksw ?_;intro aF H;refine kI 8 ?_ ?_
 ·intro al hM;refine kDT 1 [0,3] (.q 2 (.l2 0 (.l2 1 (.l 3 (.l 4 (.q 5 .nil))) 3 (.l 1 (.l 4 (.q 5 .nil)))) 1 (.l 0 (.l 3 (.l 4 (.q 5 .nil)))))) ?_;intro aG H;refine kg 1 ?_;refine t_l2 rfl rfl ?_ ?_
  ·refine kG 1 ?_;refine kN ?_;refine t_l2 rfl rfl ?_ ?_
   ·refine kG 1 ?_;refine kN ?_;refine kS 1 ?_;intro aH H;refine kN ?_;refine kS 1 ?_;intro aI H;refine kN ?_;refine kg 2 ?_;replace H:=H.pk [1,2];exact kR 0 []
   refine ksw ?_;intro aJ H;refine kN ?_;refine kG 2 ?_;refine kN ?_;refine kS 1 ?_;intro aK H;refine kN ?_;refine kg 2 ?_;replace H:=H.pk [1,2];exact kR 0 []
  refine kG 1 ?_;refine kN ?_;refine kG 2 ?_;refine kN ?_;refine kS 1 ?_;intro aL H;refine kN ?_;refine kS 1 ?_;intro aM H;refine kN ?_;refine kg 2 ?_;replace H:=H.pk [1,2];exact kR 0 []
 intro al hM;obtain ⟨aN,hM⟩:=M.e_gq hM;obtain ⟨aO,hM⟩:=M.e_gq hM;refine kDo 12 [0,3] [(0,true),(1,true),(2,true),(4,true),(5,true),(6,true),(3,false),(7,false),(8,false),(9,false),(10,true)] ?_;intro aP H;refine kC 7 @zec ?_;intro aQ r0 aR hM H;refine kN ?_;refine kC 1 @zec ?_;intro aS aT aU hM H;refine kN ?_;refine kS 1 ?_;intro aV H;refine kN ?_;refine kS 1 ?_;intro aW H;refine kN ?_;refine kg 2 ?_;replace H:=H.pk [1,2];exact kR 0 []

def zaw  : (List Int)->(Int × Span)->M ((List Int) ⊕ Unit):=fun l (x2,x3) =>
  M.bind (zdd x3) fun r2 =>
  M.grd (decide ((l.length+([(r2:Int)]).length)*8<=140737488355328)) <|
  M.pure (.inl (l++([(r2:Int)])))
def za8 (ab:List Yr) (ac:List Old10) (ae ah:Int) (ai:List (Int × Span)) (aj ak aa:Int):M Int :=
  M.bind (zak ab ac ae ah ai aj ak) fun (al,am) =>
  M.bind (zaq (M.yl zaw) (.inl ([])) al am ab ac ae ah ai) fun x_=>match x_ with
  | .inl l=>(
  M.grd (decide (l.length<=1000000)) <|
  M.gi (((isort l).length:Int)-aa) <|
  M.grd (decide ((0:Int)<=(((isort l).length:Int)-aa))&&decide ((((isort l).length:Int)-aa)<((isort l).length:Int))) <|
  M.pure ((isort l).getD (Int.toNat (((isort l).length:Int)-aa)) 0))
  | .inr _=>M.fail
theorem zgg {R aK ae aL aM aN aO aP aQ aR aS}(av aw ax ay az aT aU aA)(aB:Reads R aL)(aV:Sl aL aM av)(aC:Reads R aN)(aW:Sl aN aO aw)(aD:Has R (cMl I encSp aP az))(aE:Has R (cBlk ae [aM,aO,I ax,I ay,.map (some aP)] 168))(aX:Has R (cBlk aK [Pq ae] 107))(aY:Has R (cBlk aQ [I aT] 3))(aZ:Has R (cBlk aR [I aU] 3))(a6:Has R (cBlk aS [I aA] 3)){r}(hM:(za8 av aw ax ay az aT aU aA).Ends r)(w)(H:St w w [] R):Ret Tryz.prog 36 #[.agg #[.func (.func 77) #[] #[]],Pq aK,Pq aQ,Pq aR,Pq aS] w fun v w'=>∃ y0,y0=r/\v=I y0/\St w w' [] R:=by
 refine ret_of_WD Tryz.func36 rfl rfl rfl ?_;replace H:St w w [cMk ([])] R:=H.mk0;have bt:=aV.len_le;have bu:=aW.len_le;unfold za8 at hM;refine WD.seq<|WD.of ?_;refine kB 1 ?_;intro ao bv H;refine kg 2 ?_;refine WD.seq<|WD.of ?_;refine kA 1 ?_;intro ab bw H;refine s_nil<|WD.seq<|WD.seq<|WD.of ?_;refine kC 4 @zbt ?_;intro bx ah ai aj ak al hM H;refine s_nil<|WD.block ?_
 replace H:=H.nilOwn (α:=Int) 3;obtain ⟨bz,bc,hM⟩:=M.e_bind hM;refine WD.range (L:=[cOwn (α:=Int) 3 (.slice none 0 0) ([]),cBlk ab [(.slice none 0 0)] 24,cBlk aj [I ah] 3,cBlk ak [I ai] 3,cBlk al [Pq ae] 107,cBlk ao [.func (.func 77) #[] #[]] 119]) [Pq aj,Pq ak,Pq al] (H.pk [6,0,4,1,2,3,5]) rfl cq ?_;intro ap aq aF bf aG H;have hYC:YieldC Tryz.prog ([cMk (aq :: ([])),cBlk aj [I ah] 3,cBlk ak [I ai] 3,cBlk al [Pq ae] 107,cBlk ao [.func (.func 77) #[] #[]] 119]++R) arISpan (yJ ap aF (fun l au=>∃ (aa:Value),au=[cOwn (α:=Int) 3 aa l,cBlk ab [aa] 24]) (fun (_:Unit) _=>False) (fun _=>.ret)) (.func (.yield ap) #[] #[]) (M.yl zaw):=by
  refine YieldC.mk2 aG (fun l au=>∃ (aa:Value),au=[cOwn (α:=Int) 3 aa l,cBlk ab [aa] 24]) (fun (_:Unit) _=>False) (fun _=>.ret) zaw (by rintro l _ h_; obtain ⟨_,rfl⟩:=h_; rfl) (fun _ _ h_=>h_.elim) rfl (arISpan_len rfl) ?_;intro C_ bA x_ bg;obtain ⟨x2,x3⟩:=x_;obtain rfl:=bg;intro w R ac au s_ r bh hM H
  skip
  obtain ⟨l,bi⟩:∃ y_,y_=s_:=⟨_,rfl⟩
  subst bi;obtain ⟨aa,rfl⟩:=bh;replace H:=H.nf;refine kA 1 ?_;intro bj bB H;refine ksw ?_;intro bC H;refine s_nil ?_;refine ⟨rfl,[cBlk bj [I x3.lo,I x3.hi] 27],H.pick [0,1,2,3,4,5,6,7] (by decide) rfl,?_⟩;clear H ac;intro w R ac H;replace aB:=aB.sub ac;replace aC:=aC.sub ac;replace aD:=aD.sub ac;replace aE:=aE.sub ac;replace aX:=aX.sub ac;replace aY:=aY.sub ac;replace aZ:=aZ.sub ac;replace a6:=a6.sub ac;replace hM:(zaw l (x2,x3)).Ends r:=hM;simp only [zaw] at hM;replace H:=H.nf;refine kDT 1 [0,3,4,5,6,7] (.q 1 (.q 2 (.q 3 (.l2 0 (.l 4 (.l 5 (.l 6 (.l 7 .nil)))) 4 (.l2 0 (.l 5 (.l 6 (.l 7 .nil))) 5 (.l 0 (.l 6 (.l 7 .nil)))))))) ?_;intro bD H;refine kg 3 ?_;refine t_l2 rfl rfl ?_ ?_
  ·refine kG 1 ?_;refine kN ?_;refine t_l rfl ?_;obtain ⟨bE,bm,hM⟩:=M.e_bind hM;refine s_callv (f:=77) rfl cq [.agg #[I x3.lo,I x3.hi]] rfl (zdv x3 bm _ (H.gt 8)) ?_;rintro _ bF ⟨r2,rfl,rfl,am⟩;replace H:=H.bk am;refine kN ?_;refine kL 1 (α:=Int) [r2] ?_;intro bG bH H;refine kN ?_;refine t_l rfl ?_;obtain ⟨bI,hM⟩:=M.e_gq hM;refine kP 0 ?_;intro aH bJ H;refine kN ?_;refine kS 1 ?_;intro bK H;refine kN ?_;refine t_nil ?_;exact ⟨l++([(r2:Int)]),[cOwn (α:=Int) 3 aH (l++([(r2:Int)])),cBlk ab [aH] 24],(M.e_pure hM).symm,⟨aH,rfl⟩,H.pick [2,3,4,5,6,7,8] (by decide) rfl⟩
  obtain ⟨bL,bn,hM⟩:=M.e_bind hM;refine s_callv (f:=77) rfl cq [.agg #[I x3.lo,I x3.hi]] rfl (zdv x3 bn _ (H.gt 8)) ?_;rintro _ bM ⟨r2,rfl,rfl,am⟩;replace H:=H.bk am;refine kN ?_;obtain ⟨bN,hM⟩:=M.e_gq hM;refine t_l2 rfl rfl ?_ ?_
  ·refine kG 1 ?_;refine kN ?_;refine kL 1 (α:=Int) [r2] ?_;intro bO bP H;refine kN ?_;refine kP 1 ?_;intro aI bQ H;refine kN ?_;refine kS 1 ?_;intro bR H;refine kN ?_;refine t_nil ?_;exact ⟨l++([(r2:Int)]),[cOwn (α:=Int) 3 aI (l++([(r2:Int)])),cBlk ab [aI] 24],(M.e_pure hM).symm,⟨aI,rfl⟩,H.pick [2,3,4,5,6,7,8] (by decide) rfl⟩
  refine kL 0 (α:=Int) [r2] ?_;intro bS bT H;refine kN ?_;refine kG 2 ?_;refine kN ?_;refine kP 1 ?_;intro aJ bU H;refine kN ?_;refine kS 1 ?_;intro bV H;refine kN ?_;refine t_nil ?_;exact ⟨l++([(r2:Int)]),[cOwn (α:=Int) 3 aJ (l++([(r2:Int)])),cBlk ab [aJ] 24],(M.e_pure hM).symm,⟨aJ,rfl⟩,H.pick [2,3,4,5,6,7,8] (by decide) rfl⟩
 replace H:St w bf (cAll (cObj ap (.loop aF) :: [cOwn (α:=Int) 3 (.slice none 0 0) ([]),cBlk ab [(.slice none 0 0)] 24]) :: [cMk (aq :: ([])),cBlk aj [I ah] 3,cBlk ak [I ai] 3,cBlk al [Pq ae] 107,cBlk ao [.func (.func 77) #[] #[]] 119]) R:=St.bundleB (A:=cObj ap (.loop aF) :: [cOwn (α:=Int) 3 (.slice none 0 0) ([]),cBlk ab [(.slice none 0 0)] 24]) (T:=[cMk (aq :: ([])),cBlk aj [I ah] 3,cBlk ak [I ai] 3,cBlk al [Pq ae] 107,cBlk ao [.func (.func 77) #[] #[]] 119]) rfl (H.pk [0,2,3,1,4,5,6,7]);refine (zbu (M.yl zaw) (.inl ([])) ah ai av aw ax ay az hYC ⟨_,rfl,⟨(.slice none 0 0),rfl⟩⟩ (Has.here (k:=1) rfl) (Has.here (k:=2) rfl) (aB.app _) aV (aC.app _) aW (aD.app _) (aE.app _) (Has.here (k:=3) rfl) bc _ (H.gt 5)).mono ?_;rintro vq bW ⟨bo,bX,rfl,hvq,am,a7⟩;replace H:=H.back am rfl;clear am hYC;rcases bo with l | _
 ·obtain ⟨_,rfl,aa,rfl⟩:=a7;refine ⟨_,[cOwn (α:=Int) 3 aa l,cBlk ab [aa] 24,cBlk aj [I ah] 3,cBlk ak [I ai] 3,cBlk al [Pq ae] 107,cBlk ao [.func (.func 77) #[] #[]] 119],H.unbundle.pick [0,3,1,2,4,5,6,7] (by decide) rfl,aG.nb,?_⟩;intro bY H;rw [aG.pd];replace H:=H.nf
  try simp only []
  replace H:=H.pk [0,1,2];refine WD.seq<|WD.of ?_;obtain ⟨bZ,hM⟩:=M.e_gq hM;refine kg 2 ?_;refine s_call cq [aa] rfl (sort_any (H.get (k:=1) rfl) (by omega)) ?_
  rintro _ bp ⟨rfl,a8,ba,bb⟩;replace H:St w bp [cMk (aq :: ([])),cOwn (α:=Int) 3 aa (isort l),cBlk ab [aa] 24] R:=H.sorted (k:=1) rfl a8 ba bb rfl;clear a8 ba bb;refine s_nil<|WD.seq<|WD.of ?_
  have b4:=((H.os 1)).len_le;obtain ⟨b6,hM⟩:=M.e_gq hM;obtain ⟨b7,hM⟩:=M.e_gq hM;refine kg 10 ?_;replace H:=H.pk [0];refine WD.of ?_;refine W.ret ?_;refine bodyD_r (H.pk [0]) ?_;intro b8 H;replace H:=H.nf;have br:=M.e_pure hM;exact ⟨_,resE_tmp rfl,⟨((isort l).getD (Int.toNat (((isort l).length:Int)-aA)) 0),br,rfl,H⟩⟩
 obtain ⟨_,_,h_⟩:=a7; exact h_.elim

def zax  : (List Int)->(Int × Span)->M ((List Int) ⊕ Unit):=fun l (x2,x3) =>
  M.bind (zco x3) fun r2 =>
  M.grd (decide ((l.length+([(r2:Int)]).length)*8<=140737488355328)) <|
  M.pure (.inl (l++([(r2:Int)])))
def zbd (ab:List Yr) (ac:List Old10) (ae ah:Int) (ai:List (Int × Span)) (aj ak aa:Int):M Int :=
  M.bind (zak ab ac ae ah ai aj ak) fun (al,am) =>
  M.bind (zaq (M.yl zax) (.inl ([])) al am ab ac ae ah ai) fun x_=>match x_ with
  | .inl l=>(
  M.grd (decide (l.length<=1000000)) <|
  M.gi (((isort l).length:Int)-aa) <|
  M.grd (decide ((0:Int)<=(((isort l).length:Int)-aa))&&decide ((((isort l).length:Int)-aa)<((isort l).length:Int))) <|
  M.pure ((isort l).getD (Int.toNat (((isort l).length:Int)-aa)) 0))
  | .inr _=>M.fail
theorem zge {R aK ae aL aM aN aO aP aQ aR aS}(av aw ax ay az aT aU aA)(aB:Reads R aL)(aV:Sl aL aM av)(aC:Reads R aN)(aW:Sl aN aO aw)(aD:Has R (cMl I encSp aP az))(aE:Has R (cBlk ae [aM,aO,I ax,I ay,.map (some aP)] 168))(aX:Has R (cBlk aK [Pq ae] 107))(aY:Has R (cBlk aQ [I aT] 3))(aZ:Has R (cBlk aR [I aU] 3))(a6:Has R (cBlk aS [I aA] 3)){r}(hM:(zbd av aw ax ay az aT aU aA).Ends r)(w)(H:St w w [] R):Ret Tryz.prog 36 #[.agg #[.func (.func 78) #[] #[]],Pq aK,Pq aQ,Pq aR,Pq aS] w fun v w'=>∃ y0,y0=r/\v=I y0/\St w w' [] R:=by
 refine ret_of_WD Tryz.func36 rfl rfl rfl ?_;replace H:St w w [cMk ([])] R:=H.mk0;have bt:=aV.len_le;have bu:=aW.len_le;unfold zbd at hM;refine WD.seq<|WD.of ?_;refine kB 1 ?_;intro ao bv H;refine kg 2 ?_;refine WD.seq<|WD.of ?_;refine kA 1 ?_;intro ab bw H;refine s_nil<|WD.seq<|WD.seq<|WD.of ?_;refine kC 4 @zbt ?_;intro bx ah ai aj ak al hM H;refine s_nil<|WD.block ?_
 replace H:=H.nilOwn (α:=Int) 3;obtain ⟨bz,bc,hM⟩:=M.e_bind hM;refine WD.range (L:=[cOwn (α:=Int) 3 (.slice none 0 0) ([]),cBlk ab [(.slice none 0 0)] 24,cBlk aj [I ah] 3,cBlk ak [I ai] 3,cBlk al [Pq ae] 107,cBlk ao [.func (.func 78) #[] #[]] 119]) [Pq aj,Pq ak,Pq al] (H.pk [6,0,4,1,2,3,5]) rfl cq ?_;intro ap aq aF bf aG H;have hYC:YieldC Tryz.prog ([cMk (aq :: ([])),cBlk aj [I ah] 3,cBlk ak [I ai] 3,cBlk al [Pq ae] 107,cBlk ao [.func (.func 78) #[] #[]] 119]++R) arISpan (yJ ap aF (fun l au=>∃ (aa:Value),au=[cOwn (α:=Int) 3 aa l,cBlk ab [aa] 24]) (fun (_:Unit) _=>False) (fun _=>.ret)) (.func (.yield ap) #[] #[]) (M.yl zax):=by
  refine YieldC.mk2 aG (fun l au=>∃ (aa:Value),au=[cOwn (α:=Int) 3 aa l,cBlk ab [aa] 24]) (fun (_:Unit) _=>False) (fun _=>.ret) zax (by rintro l _ h_; obtain ⟨_,rfl⟩:=h_; rfl) (fun _ _ h_=>h_.elim) rfl (arISpan_len rfl) ?_;intro C_ bA x_ bg;obtain ⟨x2,x3⟩:=x_;obtain rfl:=bg;intro w R ac au s_ r bh hM H
  skip
  obtain ⟨l,bi⟩:∃ y_,y_=s_:=⟨_,rfl⟩
  subst bi;obtain ⟨aa,rfl⟩:=bh;replace H:=H.nf;refine kA 1 ?_;intro bj bB H;refine ksw ?_;intro bC H;refine s_nil ?_;refine ⟨rfl,[cBlk bj [I x3.lo,I x3.hi] 27],H.pick [0,1,2,3,4,5,6,7] (by decide) rfl,?_⟩;clear H ac;intro w R ac H;replace aB:=aB.sub ac;replace aC:=aC.sub ac;replace aD:=aD.sub ac;replace aE:=aE.sub ac;replace aX:=aX.sub ac;replace aY:=aY.sub ac;replace aZ:=aZ.sub ac;replace a6:=a6.sub ac;replace hM:(zax l (x2,x3)).Ends r:=hM;simp only [zax] at hM;replace H:=H.nf;refine kDT 1 [0,3,4,5,6,7] (.q 1 (.q 2 (.q 3 (.l2 0 (.l 4 (.l 5 (.l 6 (.l 7 .nil)))) 4 (.l2 0 (.l 5 (.l 6 (.l 7 .nil))) 5 (.l 0 (.l 6 (.l 7 .nil)))))))) ?_;intro bD H;refine kg 3 ?_;refine t_l2 rfl rfl ?_ ?_
  ·refine kG 1 ?_;refine kN ?_;refine t_l rfl ?_;obtain ⟨bE,bm,hM⟩:=M.e_bind hM;refine s_callv (f:=78) rfl cq [.agg #[I x3.lo,I x3.hi]] rfl (zbM x3 bm _ (H.gt 8)) ?_;rintro _ bF ⟨r2,rfl,rfl,am⟩;replace H:=H.bk am;refine kN ?_;refine kL 1 (α:=Int) [r2] ?_;intro bG bH H;refine kN ?_;refine t_l rfl ?_;obtain ⟨bI,hM⟩:=M.e_gq hM;refine kP 0 ?_;intro aH bJ H;refine kN ?_;refine kS 1 ?_;intro bK H;refine kN ?_;refine t_nil ?_;exact ⟨l++([(r2:Int)]),[cOwn (α:=Int) 3 aH (l++([(r2:Int)])),cBlk ab [aH] 24],(M.e_pure hM).symm,⟨aH,rfl⟩,H.pick [2,3,4,5,6,7,8] (by decide) rfl⟩
  obtain ⟨bL,bn,hM⟩:=M.e_bind hM;refine s_callv (f:=78) rfl cq [.agg #[I x3.lo,I x3.hi]] rfl (zbM x3 bn _ (H.gt 8)) ?_;rintro _ bM ⟨r2,rfl,rfl,am⟩;replace H:=H.bk am;refine kN ?_;obtain ⟨bN,hM⟩:=M.e_gq hM;refine t_l2 rfl rfl ?_ ?_
  ·refine kG 1 ?_;refine kN ?_;refine kL 1 (α:=Int) [r2] ?_;intro bO bP H;refine kN ?_;refine kP 1 ?_;intro aI bQ H;refine kN ?_;refine kS 1 ?_;intro bR H;refine kN ?_;refine t_nil ?_;exact ⟨l++([(r2:Int)]),[cOwn (α:=Int) 3 aI (l++([(r2:Int)])),cBlk ab [aI] 24],(M.e_pure hM).symm,⟨aI,rfl⟩,H.pick [2,3,4,5,6,7,8] (by decide) rfl⟩
  refine kL 0 (α:=Int) [r2] ?_;intro bS bT H;refine kN ?_;refine kG 2 ?_;refine kN ?_;refine kP 1 ?_;intro aJ bU H;refine kN ?_;refine kS 1 ?_;intro bV H;refine kN ?_;refine t_nil ?_;exact ⟨l++([(r2:Int)]),[cOwn (α:=Int) 3 aJ (l++([(r2:Int)])),cBlk ab [aJ] 24],(M.e_pure hM).symm,⟨aJ,rfl⟩,H.pick [2,3,4,5,6,7,8] (by decide) rfl⟩
 replace H:St w bf (cAll (cObj ap (.loop aF) :: [cOwn (α:=Int) 3 (.slice none 0 0) ([]),cBlk ab [(.slice none 0 0)] 24]) :: [cMk (aq :: ([])),cBlk aj [I ah] 3,cBlk ak [I ai] 3,cBlk al [Pq ae] 107,cBlk ao [.func (.func 78) #[] #[]] 119]) R:=St.bundleB (A:=cObj ap (.loop aF) :: [cOwn (α:=Int) 3 (.slice none 0 0) ([]),cBlk ab [(.slice none 0 0)] 24]) (T:=[cMk (aq :: ([])),cBlk aj [I ah] 3,cBlk ak [I ai] 3,cBlk al [Pq ae] 107,cBlk ao [.func (.func 78) #[] #[]] 119]) rfl (H.pk [0,2,3,1,4,5,6,7]);refine (zbu (M.yl zax) (.inl ([])) ah ai av aw ax ay az hYC ⟨_,rfl,⟨(.slice none 0 0),rfl⟩⟩ (Has.here (k:=1) rfl) (Has.here (k:=2) rfl) (aB.app _) aV (aC.app _) aW (aD.app _) (aE.app _) (Has.here (k:=3) rfl) bc _ (H.gt 5)).mono ?_;rintro vq bW ⟨bo,bX,rfl,hvq,am,a7⟩;replace H:=H.back am rfl;clear am hYC;rcases bo with l | _
 ·obtain ⟨_,rfl,aa,rfl⟩:=a7;refine ⟨_,[cOwn (α:=Int) 3 aa l,cBlk ab [aa] 24,cBlk aj [I ah] 3,cBlk ak [I ai] 3,cBlk al [Pq ae] 107,cBlk ao [.func (.func 78) #[] #[]] 119],H.unbundle.pick [0,3,1,2,4,5,6,7] (by decide) rfl,aG.nb,?_⟩;intro bY H;rw [aG.pd];replace H:=H.nf
  try simp only []
  replace H:=H.pk [0,1,2];refine WD.seq<|WD.of ?_;obtain ⟨bZ,hM⟩:=M.e_gq hM;refine kg 2 ?_;refine s_call cq [aa] rfl (sort_any (H.get (k:=1) rfl) (by omega)) ?_
  rintro _ bp ⟨rfl,a8,ba,bb⟩;replace H:St w bp [cMk (aq :: ([])),cOwn (α:=Int) 3 aa (isort l),cBlk ab [aa] 24] R:=H.sorted (k:=1) rfl a8 ba bb rfl;clear a8 ba bb;refine s_nil<|WD.seq<|WD.of ?_
  have b4:=((H.os 1)).len_le;obtain ⟨b6,hM⟩:=M.e_gq hM;obtain ⟨b7,hM⟩:=M.e_gq hM;refine kg 10 ?_;replace H:=H.pk [0];refine WD.of ?_;refine W.ret ?_;refine bodyD_r (H.pk [0]) ?_;intro b8 H;replace H:=H.nf;have br:=M.e_pure hM;exact ⟨_,resE_tmp rfl,⟨((isort l).getD (Int.toNat (((isort l).length:Int)-aA)) 0),br,rfl,H⟩⟩
 obtain ⟨_,_,h_⟩:=a7; exact h_.elim

def zaX (ac:List Yr) (ae:List Old10) (ak al aa ab times:Int):M (Int × Int × Int) :=
  M.bind (zbs ac ae ak al aa ab times 1 (wr64 ((wr64 (ab-aa))+1))) fun x_=>match x_ with
  | (.inl r1)=>(
  bif r1 != 0 then (
  M.pure (0,0,r1))
  else (
  M.fail))
  | (.inr (ah,ai,aj,am))=>(
  bif am != 0 then (
  M.fail)
  else (
  M.bind (zdo) fun (_:Unit) =>
  M.bind (za8 ac ae ah ai aj aa ab times) fun r2 =>
  M.bind (zbZ) fun (_:Unit) =>
  M.bind (zbd ac ae ah ai aj aa ab times) fun r3 =>
  M.pure (r2,r3,0)))
theorem zfS {R au ak av al}(ae ah ai aj aa ab times)(am:Reads R au)(ao:Sl au ak ae)(ap:Reads R av)(aq:Sl av al ah){r}(hM:(zaX ae ah ai aj aa ab times).Ends r)(w)(H:St w w [] R):Ret Tryz.prog 14 #[.agg #[ak,al,I ai,I aj],I aa,I ab,I times] w fun v w'=>∃ y0 y1 y2,(y0,y1,y2)=r/\v = .tuple #[.agg #[I y0,I y1],I y2]/\St w w' [] R:=by
 refine ret_of_W Tryz.func14 rfl rfl rfl ?_;refine kB 2 ?_;intro aK aL H;refine kbx ?_;intro aA aM H;refine kbx ?_;intro aB aN H;refine kbx ?_;intro aC aO H;refine kal ?_;intro aP aQ H;refine kg 10 ?_;refine s_val (x_subW (a:=ab) (b:=aa) rfl rfl)<|s_val (x_addW (a:=wr64 (ab-aa)) (b:=1) rfl rfl) ?_;obtain ⟨aR,aD,hM⟩:=M.e_bind hM;refine s_call cq [.agg #[ak,al,I ai,I aj],I aa,I ab,I times,I 1,I (wr64 ((wr64 (ab-aa))+1))] rfl (zdP ae ah ai aj aa ab times 1 (wr64 ((wr64 (ab-aa))+1)) (am.app _) ao (ap.app _) aq aD _ (H.gt 5)) ?_
 rintro vq aS (⟨r1,aE,hvq,ac⟩ | ⟨aw,ax,ay,aT,aU,aV,aF,hvq,ac⟩)
 ·subst aE;subst vq;replace H:=H.bk ac;refine kA 3 ?_;intro az aW H;refine ksw ?_;intro aX H;refine kI 8 ?_ ?_
  ·intro aG hM;refine kS 4 ?_;intro aY H;refine kg 2 ?_;replace H:=H.pk [1];exact kR 0 []
  intro aG hM;exact (M.e_fail hM).elim
 subst aF;subst vq;replace H:=H.bk ac;refine kA 3 ?_;intro az aZ H;refine ksw ?_;intro a6 H;refine kI 8 ?_ ?_
 ·intro aH hM;exact (M.e_fail hM).elim
 intro aH hM;refine kg 3 ?_;refine s_val (x_mf (fs:=[]) (cs:=[Pq az,Pq aA,Pq aB,Pq aC]) rfl rfl) ?_;refine kC 5 @zdX ?_;intro a7 hM H;obtain ⟨a8,aI,hM⟩:=M.e_bind hM;refine s_callv (f:=36) rfl cq [.agg #[.func (.func 77) #[] #[]]] rfl (zgg ae ah aw ax ay aa ab times (am.app _) ao (ap.app _) aq (Has.here (k:=2) rfl) (Has.here (k:=1) rfl) (Has.here (k:=0) rfl) (Has.here (k:=6) rfl) (Has.here (k:=5) rfl) (Has.here (k:=4) rfl) aI _ (H.gt 8)) ?_;rintro _ ba ⟨r2,rfl,rfl,ac⟩;replace H:=H.bk ac;refine kC 1 @zc9 ?_;intro bb hM H;obtain ⟨bc,aJ,hM⟩:=M.e_bind hM;refine s_callv (f:=36) rfl cq [.agg #[.func (.func 78) #[] #[]]] rfl (zge ae ah aw ax ay aa ab times (am.app _) ao (ap.app _) aq (Has.here (k:=2) rfl) (Has.here (k:=1) rfl) (Has.here (k:=0) rfl) (Has.here (k:=6) rfl) (Has.here (k:=5) rfl) (Has.here (k:=4) rfl) aJ _ (H.gt 8)) ?_;rintro _ bf ⟨r3,rfl,rfl,ac⟩;replace H:=H.bk ac;refine kS 1 ?_;intro bg H;refine kg 2 ?_;replace H:=H.pk [3];exact kR 0 []

def zbx (aa:Int) (t:List Int) (r4 s2:Int):(Int × (List Int))->M ((Int × (List Int)) ⊕ ((List Int) × (List Int))):=fun (year,l) =>
  bif decide (year<=r4) then (
  M.gi (year-aa) <|
  M.grd (decide ((0:Int)<=(year-aa))&&decide ((year-aa)<(t.length:Int))) <|
  bif decide (s2<=(t.getD (Int.toNat (year-aa)) 0)) then (
  M.grd (decide ((l.length+([(year:Int)]).length)*8<=140737488355328)) <|
  M.gi (year+1) <|
  M.pure (.inl (year+1,l++([(year:Int)]))))
  else (
  M.gi (year+1) <|
  M.pure (.inl (year+1,l))))
  else (
  M.pure (.inr (l,l)))
def zdg (aa:Int) (t:List Int) (r2 r4:Int):(Int × Bool × (List Int))->M ((Int × Bool × (List Int)) ⊕ (Int × (List Int) × (List Int))):=fun (s2,again,l4) =>
  bif again then (
  M.bind (M.iter (zbx aa t r4 s2) (r2,[])) fun (l2,l3) =>
  bif decide (10<(l3.length:Int)) then (
  M.gi (s2+100) <|
  M.pure (.inl (min 2000 (s2+100),true,l3)))
  else (
  M.pure (.inl (s2,false,l3))))
  else (
  M.pure (.inr (s2,l4,l4)))
def zcn (s_bytes:List UInt8) (s_used s_mix:Int) (aj:List Yr) (ak:List Old10) (aa ab:Int) (t:List Int):M (Int × Int × Int × (List Int) × Int × Int) :=
  M.bind (zae s_bytes s_used s_mix aa ab) fun (r2,q1,q2) =>
  M.bind (zae s_bytes q1 q2 1 700) fun (r3,ac,ae) =>
  M.bind (zae s_bytes ac ae r2 ab) fun (r4,ah,ai) =>
  M.bind (M.iter (zdg aa t r2 r4) (r3,true,[])) fun (s3,l5,l6) =>
  M.pure (r2,r4,s3,l6,ah,ai)
theorem zfM {R ac au ae av ah aw ai ax aj}(s_bytes s_used s_mix ay az aa ab t)(aA:Reads R au)(aB:Sl au ae s_bytes)(aX:Reads R av)(aY:Sl av ah ay)(aZ:Reads R aw)(a6:Sl aw ai az)(a7:Reads R ax)(a8:Sl ax aj t){r}(hM:(zcn s_bytes s_used s_mix ay az aa ab t).Ends r)(w)(H:St w w [cBlk ac [ae,I s_used,I s_mix] 77] R):Ret Tryz.prog 10 #[Pq ac,.agg #[ah,ai,I aa,I ab],aj] w fun v w'=>∃ y0 y1 y2 y3 y4 y5 u0,(y0,y1,y2,y3,y4,y5)=r/\v = .agg #[I y0,I y1,I y2,u0]/\St w w' [cOwn (α:=Int) 3 u0 y3,cBlk ac [ae,I y4,I y5] 77] R:=by
 refine ret_of_W Tryz.func10 rfl rfl rfl ?_;refine kB 2 ?_;intro ak ba H;refine kal ?_;intro al bb H;refine kg 8 ?_;obtain ⟨bc,aG,hM⟩:=M.e_bind hM;refine s_call cq [Pq ac,I aa,I ab] rfl (zad s_bytes s_used s_mix aa ab (aA.app _) aB aG _ ((H.pk [2,0,1]).gt 2)) ?_;rintro _ bf ⟨r2,q1,q2,rfl,rfl,ap⟩;replace H:=H.pk [2,0,1] |>.bk ap
 refine kC 1 @zad ?_;intro bg r3 aH aI hM H;refine kA 1 ?_;intro am bh H;refine ksw ?_;intro bi H;refine kg 8 ?_;obtain ⟨bj,aJ,hM⟩:=M.e_bind hM;refine s_call cq [Pq ac,I r2,I ab] rfl (zad s_bytes aH aI r2 ab (aA.app _) aB aJ _ ((H.pk [1,0,2,3]).gt 3)) ?_;rintro _ bm ⟨r4,aC,aD,rfl,rfl,ap⟩;replace H:=H.pk [1,0,2,3] |>.bk ap
 refine kS 1 ?_;intro bn H;refine kg 7 ?_;replace H:=H.nilOwn (α:=Int) 3;obtain ⟨aK,aE,aL⟩:=M.e_bind hM;obtain ⟨aM,aE⟩:=M.e_iter aE;refine W.loop (fun m σ W=>∃ (s2:Int) (again:Bool) (l4:List Int) (ao:Value) (ρ:Env),σ=upds ρ [(2,aj),(4,Pq ak),(6,Pq al),(7,Pq am),(8,B again)]/\M.iterN (zdg aa t r2 r4) m (s2,again,l4)=some aK/\St w W [cOwn (α:=Int) 3 ao l4,cBlk ac [ae,I aC,I aD] 77,cBlk am [I r2,I r4,I s2,ao] 60,cBlk al [I 0,I 0,I 0,.slice none 0 0] 60,cBlk ak [ah,ai,I aa,I ab] 55] R) ?_ ?_
 ·exact kY
 rintro bo σ bp ⟨s2,again,l4,ao,ρ,rfl,aN,H⟩;obtain ⟨br,bt,bu,hM,aO⟩:=M.e_iterN aN;refine kI 5 ?_ ?_
 ·intro aP hM;refine kS 9 ?_;intro bv H;refine kg 9 ?_;replace H:=H.nilOwn (α:=Int) 3;obtain ⟨aQ,aF,aR⟩:=M.e_bind hM;obtain ⟨aM,aF⟩:=M.e_iter aF;refine W.loop (fun m σ W=>∃ (year:Int) (l:List Int) (aq:Value) (ρ:Env),σ=upds ρ [(2,aj),(4,Pq ak),(6,Pq al),(7,Pq am),(8,B false),(9,I year)]/\M.iterN (zbx aa t r4 s2) m (year,l)=some aQ/\St w W [cOwn (α:=Int) 3 aq l,cOwn (α:=Int) 3 ao l4,cBlk ac [ae,I aC,I aD] 77,cBlk am [I r2,I r4,I s2,aq] 60,cBlk al [I 0,I 0,I 0,.slice none 0 0] 60,cBlk ak [ah,ai,I aa,I ab] 55] R) ?_ ?_
  ·exact kY
  rintro bw σ bx ⟨year,l,aq,ρ,rfl,aS,H⟩;obtain ⟨bz,bA,bB,hM,aT⟩:=M.e_iterN aS;refine kI 8 ?_ ?_
  ·intro aU hM;refine kD 4 [0,1,2,3,4,5] [] ?_;intro bC H;obtain ⟨bD,hM⟩:=M.e_gq hM;obtain ⟨bE,hM⟩:=M.e_gq hM;refine kI 11 ?_ ?_
   ·intro aV hM;refine kL 4 (α:=Int) [year] ?_;intro bF bG H;obtain ⟨bH,hM⟩:=M.e_gq hM;refine kP 0 ?_;intro bI bJ H;refine kS 1 ?_;intro bK H;obtain ⟨bL,hM⟩:=M.e_gq hM;exact kXp 6 [1,2,3,4,5,6]
   intro aV hM;obtain ⟨bM,hM⟩:=M.e_gq hM;exact kX 6
  intro aU hM;refine W.exit ?_;obtain rfl:=M.e_inr hM aT;replace hM:=aR;have bN:=((H.os 0)).len_le;refine kI 7 ?_ ?_
  ·intro aW hM;obtain ⟨bO,hM⟩:=M.e_gq hM;refine kS 7 ?_;intro bP H;exact kXp 4 [0,2,3,4,5]
  intro aW hM;exact kXp 1 [0,2,3,4,5]
 intro aP hM;refine W.exit ?_;obtain rfl:=M.e_inr hM aO;replace hM:=aL;refine kS 3 ?_;intro bQ H;refine s_nil ?_;replace H:=H.pk [0,1,3];exact kR 0 [0,1]

end Go.Proofs.YtbgoclcmgbpckabGreat
end
namespace Go.Nm
open Go
theorem x_eqnilA {P:Program} {w:World} {σ:Env} {d:Nat} {ty:TypeId} {pos:String} {af:Array Edge} {g:Option (Nat × Bool)} {t e yt:TypeId} {x y:Operand} {a:Option Addr} {n c:Nat} (ht:P.underlying t=some (.slice e)) (hx:ev σ x = .slice a n c) (hy:ev σ y = .slice none 0 0) :
    (execOp (ev σ) ⟨some d,.binOp .eql t x y yt,ty,pos,af,g⟩).run P w = .ok (.value (.bool a.isNone)) w:=by
  simp [execOp,hx,hy,eqGuard,binOp,run_equal_slice_nil w t e a n c ht]
end Go.Nm
namespace Go.Proofs.YtbgoclcmgbpckabGreat
open Go Go.Nm
set_option maxRecDepth 100000 in
theorem clone_any {R:List Chunk} {C_s:Cells} {v_s:Value} (s:List Int) (hC_s:Reads R C_s) (hs_s:Sl C_s v_s s) (hlen:s.length*8<=140737488355328) (w:World) (hsep:Sep w R) :
    Ret Tryz.prog 142 #[v_s] w fun v w'=>St w w' [cOwn (α:=Int) 3 v s] R:=by
 have H:St w w [] R:=St.refl hsep;obtain ⟨a,c,hv,hc,hm,hk⟩:=hs_s.ex;refine ret_of_W Tryz.func142 rfl rfl rfl ?_;refine W.seq ?_;refine W.region rfl ?_;refine s_val (x_as (v:=.slice none 0 0) rfl) ?_;refine s_nil ?_;refine W.seq ?_;refine W.seq ?_;refine W.region rfl ?_;refine s_val (x_mv (v:=v_s) rfl) ?_;refine s_val (v:=B a.isNone) (x_eqnilA (a:=a) (n:=s.length) (c:=c) Tryz.underlying24 hv rfl) ?_;refine s_nil ?_;refine W.cond a.isNone rfl (fun h=>?_) (fun h=>?_)
 ·have e:s=[]:=by
   cases s with
   | nil=>rfl
   | cons x s =>
    obtain ⟨b,o,cs,ha,_⟩:=hk 0 x rfl;subst ha;cases h
  subst e;refine W.seq ?_;refine W.region rfl ?_;refine s_val (x_as (v:=.slice none 0 0) rfl) ?_;refine s_nil ?_;refine W.ret ?_;exact ⟨_,resE_tmp rfl,H.nilOwn (α:=Int) 3⟩
 ·refine W.skip ?_;refine W.seq ?_;refine W.region rfl ?_;refine t_bs0 (α:=Int) T24.h H ?_;intro v3z w4z H;refine s_val (x_mv (v:=v_s) rfl) ?_;refine t_app (α:=Int) (k:=0) (l:=[]) (l2:=s) (l':=s) (vy:=v_s) T24.h rfl H rfl rfl rfl hs_s (hC_s.at H) (List.nil_append _) (by simp only [List.length_nil]; omega) ?_;intro v6z w7z H;refine s_val (x_as (v:=v6z) rfl) ?_;refine s_nil ?_;refine W.ret ?_;exact ⟨_,resE_tmp rfl,H⟩
end Go.Proofs.YtbgoclcmgbpckabGreat
