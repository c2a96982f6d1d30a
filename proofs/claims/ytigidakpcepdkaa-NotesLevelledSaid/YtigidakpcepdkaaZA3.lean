/- Part 3 of the texts on which the proof rests. Conditions: none. -/
import Derived.Test.YtigidakpcepdkaaZA2
set_option linter.unusedVariables false
set_option linter.unusedSimpArgs false
set_option linter.unusedSectionVars false
section
set_option maxRecDepth 100000
set_option maxHeartbeats 16000000
namespace Go.Proofs.Ytigidakpcepdkaa
open Go Go.Nm
attribute [local irreducible] gd execOp SL SLD SLT WR
def zac (n aa greatest:Int):M Bool :=
  M.pure ((decide (aa<=n))&&(decide (n<=greatest)))
theorem zae {R:List Chunk}  (n:Int) (aa:Int) (greatest:Int)  {r:Bool} (hM:(zac n aa greatest).Ends r) (w:World) (H:St w w [] R):Ret Try.prog 21 #[I n,I aa,I greatest] w fun v w'=>∃ (y0:Bool),y0=r/\v=B y0/\St w w' [] R:=by
 refine ret_of_W Try.func21 rfl rfl rfl ?_;refine kg 13 ?_;refine s_val (x_pand (b:=decide (aa<=n)) (r:=decide (n<=greatest)) rfl (fun hb=>gd_of (c:=decide (aa<=n)) (by first | exact hb | (rw [hb]; rfl) | simp_all) (B (decide (n<=greatest)))) rfl) ?_;refine kg 2 ?_;refine W.ret ?_
 have ab:=M.e_pure hM
 exact ⟨_,resE_tmp rfl,⟨((decide (aa<=n))&&(decide (n<=greatest))),ab,rfl,H⟩⟩

def zbN (s:List Work) (f:Work->M Bool):Nat->M (Nat ⊕ (Int ⊕ Unit)):=fun s2 =>
  bif decide ((s2:Int)<(s.length:Int)) then (
  M.grd (decide ((s2:Int)<(s.length:Int))) <|
  M.bind (f (s.getD s2 default)) fun r2 =>
  bif r2 then (
  M.pure (.inr (.inl (s2:Int))))
  else (
  M.pure (.inl (s2+1))))
  else (
  M.pure (.inr (.inr ())))
def zc2 (s:List Work) (f:Work->M Bool):M Int :=
  M.bind (M.iter (zbN s f) 0) fun x_=>match x_ with
  | (.inl s3)=>(
  M.pure s3)
  | (.inr (_:Unit))=>(
  M.pure (-1))
theorem zdF {R:List Chunk} {am:Cells} {ac:Value} {ae:Value} (s:List Work) (f:Work->M Bool) (ao:Reads R am) (ap:Sl am ac s) (aw:FnM Try.prog R ae f) {r:Int} (hM:(zc2 s f).Ends r) (w:World) (H:St w w [] R):Ret Try.prog 90 #[ac,ae] w fun v w'=>∃ (y0:Int),y0=r/\v=I y0/\St w w' [] R:=by
 refine ret_of_W Try.func90 rfl rfl rfl ?_
 have aF:=(ap).len_le
 refine kg 12 ?_;obtain ⟨ax,ag,aq⟩:=M.e_bind hM
 obtain ⟨aG,ag⟩:=M.e_iter ag
 refine W.loop (fun m σ W=>∃ (s2:Nat) (ρ:Env),σ=upds ρ [(0,ac),(1,ae),(7,I (s.length:Int)),(8,I (s2:Int))]/\M.iterN (zbN s f) m s2=some ax/\St w W [] R) ?_ ?_
 ·exact ⟨_,0,_,upds_of _ _ ⟨rfl,rfl,rfl,rfl,trivial⟩,ag,H⟩
 rintro aH σ aI ⟨s2,ρ,rfl,au,H⟩
 obtain ⟨ay,az,aJ,hM,ah⟩:=M.e_iterN au
 simp only [zbN] at hM
 clear au;refine kg 5 ?_
 refine W.cond (decide ((s2:Int)<(s.length:Int))) rfl (fun aa=>?_) (fun aa=>?_)
 ·replace hM:=M.e_t hM aa
  replace aa:=dI aa
  obtain ⟨aK,hM⟩:=M.e_gd hM;refine kg 14 ?_
  obtain ⟨av,aB,ab⟩:=Work_atA ap (i:=(s2:Int)) (by omega) (by omega)
  replace ab:Sl _ av (s.getD s2 default).of:=ab
  have aL:=ab.len_le
  refine s_val (x_ld (v:=.agg #[av,I ((s.getD s2 default).base),I ((s.getD s2 default).minutes)]) rfl (ld_ag Ag37 Sz37 (At.mono aB (ao.at H)))) ?_;obtain ⟨r2,aC,hM⟩:=M.e_bind hM;refine t_callM H aw rfl rfl (s.getD s2 default) (ao.app _) ⟨_,Work_mk ab,rfl⟩ aC ?_;intro aM H;refine s_nil ?_
  refine W.cond r2 rfl (fun ai=>?_) (fun ai=>?_)
  ·replace hM:=M.e_t hM ai;refine kg 5 ?_;refine W.ret ?_
   have aD:=M.e_inr hM ah
   subst aD;replace hM:=aq;(try dsimp only at hM)
   have aj:=M.e_pure hM
   exact ⟨_,resE_tmp rfl,⟨(s2:Int),aj,rfl,H⟩⟩
  replace hM:=M.e_f hM ai;refine kg 5 ?_
  exact ⟨ay,az,s2+1,_,upds_of _ _ ⟨rfl,rfl,rfl,rfl,trivial⟩,M.e_inl hM ah,H⟩
 replace hM:=M.e_f hM aa
 replace aa:=dI aa
 refine W.exit ?_
 have aE:=M.e_inr hM ah
 subst aE;replace hM:=aq;(try dsimp only at hM);refine kg 4 ?_;refine W.ret ?_
 have aj:=M.e_pure hM
 exact ⟨_,resE_tmp rfl,⟨(-1),aj,rfl,H⟩⟩

def zdi (s:List Work) (f:Work->M Bool):M Bool :=
  M.bind (zc2 s f) fun r2 =>
  M.pure (decide (0<=r2))
theorem zdS {R:List Chunk} {ac:Cells} {aa:Value} {ab:Value} (s:List Work) (f:Work->M Bool) (ag:Reads R ac) (ah:Sl ac aa s) (ai:FnM Try.prog R ab f) {r:Bool} (hM:(zdi s f).Ends r) (w:World) (H:St w w [] R):Ret Try.prog 82 #[aa,ab] w fun v w'=>∃ (y0:Bool),y0=r/\v=B y0/\St w w' [] R:=by
 refine ret_of_W Try.func82 rfl rfl rfl ?_;refine kg 8 ?_;obtain ⟨ao,aj,hM⟩:=M.e_bind hM;refine s_call cf90 [aa,ab] rfl (zdF s f (ag.app _) ah (ai.app _) aj _ (H.gt 0)) ?_
 rintro vq ap ⟨r2,rfl,hvq,ae⟩
 subst vq;(try dsimp only at hM);replace H:=H.bk ae;clear ae;refine kg 3 ?_;refine W.ret ?_
 have am:=M.e_pure hM
 exact ⟨_,resE_tmp rfl,⟨(decide (0<=r2)),am,rfl,H⟩⟩

def zcF (x:Work) (aa:Work->M Bool):M Bool :=
  M.bind (aa x) fun r2 =>
  M.pure (!r2)
theorem zd8 {R:List Chunk} {ab:Cells} {aa:Value} {ac:Nat} {ae:Value} (x:Work) (ag:Work->M Bool) (ah:Reads R ab) (ai:Sl ab aa x.of) (aj:FnM Try.prog R ae ag) (ap:Has R (cBlk ac [ae] 131)) {r:Bool} (hM:(zcF x ag).Ends r) (w:World) (H:St w w [] R):Ret Try.prog 83 #[.agg #[aa,I x.base,I x.minutes],Pq ac] w fun v w'=>∃ (y0:Bool),y0=r/\v=B y0/\St w w' [] R:=by
 refine ret_of_W Try.func83 rfl rfl rfl ?_;refine kg 2 ?_;refine t_bx [aa,I x.base,I x.minutes] H rfl ?_;intro aq au H;refine kg 6 ?_;obtain ⟨r2,am,hM⟩:=M.e_bind hM;refine t_callM H aj rfl rfl x (ah.app _) ⟨_,Work_mk ai,rfl⟩ am ?_;intro av H;refine kg 3 ?_;refine W.ret ?_
 have ao:=M.e_pure hM
 exact ⟨_,resE_tmp rfl,⟨(!r2),ao,rfl,(H.pk [])⟩⟩

def zc1 (so:Work->M Bool) (l:List Work):M Bool :=
  M.bind (zdi l (fun aa=>zcF aa so)) fun r2 =>
  M.pure (!r2)
theorem zec {R:List Chunk} {aa:Value} {ag:Cells} {ab:Value} (so:Work->M Bool) (l:List Work) (ah:FnM Try.prog R aa so) (am:Reads R ag) (ao:Sl ag ab l) {r:Bool} (hM:(zc1 so l).Ends r) (w:World) (H:St w w [] R):Ret Try.prog 63 #[aa,ab] w fun v w'=>∃ (y0:Bool),y0=r/\v=B y0/\St w w' [] R:=by
 refine ret_of_W Try.func63 rfl rfl rfl ?_;refine kg 2 ?_;refine t_box (v:=aa) (cs:=[aa]) H rfl (FnM.cells ah) ?_;intro ac aE H;refine kg 5 ?_;refine s_val (x_mf (fs:=[]) (cs:=[Pq ac]) rfl rfl) ?_;obtain ⟨aF,ap,hM⟩:=M.e_bind hM;refine s_call cf82 [ab,.func (.func 83) #[] #[Pq ac]] rfl (zdS l (fun ae=>zcF ae so) (am.app _) ao ⟨83,[Pq ac],rfl,cf83,fun ai aG aH aq ae aI au av aw ax=>by obtain ⟨aJ,rfl,ay⟩:=Work_arg aw; exact (zd8 ae so av ay (FnM.app (ah.app _) _) (Has.app (Has.here (k:=0) rfl) _) ax ai (St.refl au)).mono fun aq ai ⟨aK,az,aB,aC⟩=>by subst az; exact ⟨aB,aC⟩⟩ ap _ (H.gt 1)) ?_
 rintro vq aL ⟨r2,rfl,hvq,aj⟩
 subst vq;(try dsimp only at hM);replace H:=H.bk aj;clear aj;refine kg 3 ?_;refine W.ret ?_
 have aD:=M.e_pure hM
 exact ⟨_,resE_tmp rfl,⟨(!r2),aD,rfl,(H.pk [])⟩⟩

def zbU (x:Work):M Bool :=
  M.pure (decide ((x.of.length:Int)<=5))
theorem zd7 {R:List Chunk} {ab:Cells} {aa:Value} (x:Work) (ag:Reads R ab) (ac:Sl ab aa x.of) {r:Bool} (hM:(zbU x).Ends r) (w:World) (H:St w w [] R):Ret Try.prog 64 #[.agg #[aa,I x.base,I x.minutes]] w fun v w'=>∃ (y0:Bool),y0=r/\v=B y0/\St w w' [] R:=by
 refine ret_of_W Try.func64 rfl rfl rfl ?_;refine kg 2 ?_;refine t_bx [aa,I x.base,I x.minutes] H rfl ?_;intro ah ai H
 have aj:=(ac).len_le
 refine kg 10 ?_;refine W.ret ?_
 have ae:=M.e_pure hM
 exact ⟨_,resE_tmp rfl,⟨(decide ((x.of.length:Int)<=5)),ae,rfl,(H.pk [])⟩⟩

def zaV (s:List Int) (f:Int->M Bool):Nat->M (Nat ⊕ (Int ⊕ Unit)):=fun s2 =>
  bif decide ((s2:Int)<(s.length:Int)) then (
  M.grd (decide ((s2:Int)<(s.length:Int))) <|
  M.bind (f (s.getD s2 0)) fun r2 =>
  bif r2 then (
  M.pure (.inr (.inl (s2:Int))))
  else (
  M.pure (.inl (s2+1))))
  else (
  M.pure (.inr (.inr ())))
def zaO (s:List Int) (f:Int->M Bool):M Int :=
  M.bind (M.iter (zaV s f) 0) fun x_=>match x_ with
  | (.inl s3)=>(
  M.pure s3)
  | (.inr (_:Unit))=>(
  M.pure (-1))
theorem zcB {R:List Chunk} {aj:Cells} {ab:Value} {ac:Value} (s:List Int) (f:Int->M Bool) (aB:Reads R aj) (ap:Sl aj ab s) (aq:FnM Try.prog R ac f) {r:Int} (hM:(zaO s f).Ends r) (w:World) (H:St w w [] R):Ret Try.prog 53 #[ab,ac] w fun v w'=>∃ (y0:Int),y0=r/\v=I y0/\St w w' [] R:=by
 refine ret_of_W Try.func53 rfl rfl rfl ?_
 have aC:=(ap).len_le
 refine kg 12 ?_;obtain ⟨au,ae,am⟩:=M.e_bind hM
 obtain ⟨aD,ae⟩:=M.e_iter ae
 refine W.loop (fun m σ W=>∃ (s2:Nat) (ρ:Env),σ=upds ρ [(0,ab),(1,ac),(7,I (s.length:Int)),(8,I (s2:Int))]/\M.iterN (zaV s f) m s2=some au/\St w W [] R) ?_ ?_
 ·exact ⟨_,0,_,upds_of _ _ ⟨rfl,rfl,rfl,rfl,trivial⟩,ae,H⟩
 rintro aE σ aF ⟨s2,ρ,rfl,ao,H⟩
 obtain ⟨av,aw,aG,hM,ag⟩:=M.e_iterN ao
 simp only [zaV] at hM
 clear ao;refine kg 5 ?_
 refine W.cond (decide ((s2:Int)<(s.length:Int))) rfl (fun aa=>?_) (fun aa=>?_)
 ·replace hM:=M.e_t hM aa
  replace aa:=dI aa
  obtain ⟨aH,hM⟩:=M.e_gd hM;refine kg 15 ?_;obtain ⟨r2,ax,hM⟩:=M.e_bind hM;refine t_callM H aq rfl rfl (s.getD s2 0) Reads.none (Arg.mkI (fun _=>none) _) ax ?_;intro aI H;refine s_nil ?_
  refine W.cond r2 rfl (fun ah=>?_) (fun ah=>?_)
  ·replace hM:=M.e_t hM ah;refine kg 5 ?_;refine W.ret ?_
   have ay:=M.e_inr hM ag
   subst ay;replace hM:=am;(try dsimp only at hM)
   have ai:=M.e_pure hM
   exact ⟨_,resE_tmp rfl,⟨(s2:Int),ai,rfl,H⟩⟩
  replace hM:=M.e_f hM ah;refine kg 5 ?_
  exact ⟨av,aw,s2+1,_,upds_of _ _ ⟨rfl,rfl,rfl,rfl,trivial⟩,M.e_inl hM ag,H⟩
 replace hM:=M.e_f hM aa
 replace aa:=dI aa
 refine W.exit ?_
 have az:=M.e_inr hM ag
 subst az;replace hM:=am;(try dsimp only at hM);refine kg 4 ?_;refine W.ret ?_
 have ai:=M.e_pure hM
 exact ⟨_,resE_tmp rfl,⟨(-1),ai,rfl,H⟩⟩

def zba (s:List Int) (f:Int->M Bool):M Bool :=
  M.bind (zaO s f) fun r2 =>
  M.pure (decide (0<=r2))
theorem zco {R:List Chunk} {ac:Cells} {aa:Value} {ab:Value} (s:List Int) (f:Int->M Bool) (ag:Reads R ac) (ah:Sl ac aa s) (ai:FnM Try.prog R ab f) {r:Bool} (hM:(zba s f).Ends r) (w:World) (H:St w w [] R):Ret Try.prog 42 #[aa,ab] w fun v w'=>∃ (y0:Bool),y0=r/\v=B y0/\St w w' [] R:=by
 refine ret_of_W Try.func42 rfl rfl rfl ?_;refine kg 8 ?_;obtain ⟨ao,aj,hM⟩:=M.e_bind hM;refine s_call cf53 [aa,ab] rfl (zcB s f (ag.app _) ah (ai.app _) aj _ (H.gt 0)) ?_
 rintro vq ap ⟨r2,rfl,hvq,ae⟩
 subst vq;(try dsimp only at hM);replace H:=H.bk ae;clear ae;refine kg 3 ?_;refine W.ret ?_
 have am:=M.e_pure hM
 exact ⟨_,resE_tmp rfl,⟨(decide (0<=r2)),am,rfl,H⟩⟩

def zcq (x:Int) (aa:Int->M Bool):M Bool :=
  M.bind (aa x) fun r2 =>
  M.pure (!r2)
theorem zdV {R:List Chunk} {aa:Nat} {ab:Value} (x:Int) (ac:Int->M Bool) (ae:FnM Try.prog R ab ac) (ai:Has R (cBlk aa [ab] 72)) {r:Bool} (hM:(zcq x ac).Ends r) (w:World) (H:St w w [] R):Ret Try.prog 43 #[I x,Pq aa] w fun v w'=>∃ (y0:Bool),y0=r/\v=B y0/\St w w' [] R:=by
 refine ret_of_W Try.func43 rfl rfl rfl ?_;refine kg 8 ?_;obtain ⟨r2,ag,hM⟩:=M.e_bind hM;refine t_callM H ae rfl rfl x Reads.none (Arg.mkI (fun _=>none) _) ag ?_;intro aj H;refine kg 3 ?_;refine W.ret ?_
 have ah:=M.e_pure hM
 exact ⟨_,resE_tmp rfl,⟨(!r2),ah,rfl,H⟩⟩

def zam (so:Int->M Bool) (l:List Int):M Bool :=
  M.bind (zba l (fun aa=>zcq aa so)) fun r2 =>
  M.pure (!r2)
theorem zaR {R:List Chunk} {aa:Value} {ag:Cells} {ab:Value} (so:Int->M Bool) (l:List Int) (ah:FnM Try.prog R aa so) (am:Reads R ag) (ao:Sl ag ab l) {r:Bool} (hM:(zam so l).Ends r) (w:World) (H:St w w [] R):Ret Try.prog 24 #[aa,ab] w fun v w'=>∃ (y0:Bool),y0=r/\v=B y0/\St w w' [] R:=by
 refine ret_of_W Try.func24 rfl rfl rfl ?_;refine kg 2 ?_;refine t_box (v:=aa) (cs:=[aa]) H rfl (FnM.cells ah) ?_;intro ac aC H;refine kg 5 ?_;refine s_val (x_mf (fs:=[]) (cs:=[Pq ac]) rfl rfl) ?_;obtain ⟨aD,ap,hM⟩:=M.e_bind hM;refine s_call cf42 [ab,.func (.func 43) #[] #[Pq ac]] rfl (zco l (fun ae=>zcq ae so) (am.app _) ao ⟨43,[Pq ac],rfl,cf43,fun ai aE aF aq ae aG au aH av aw=>by obtain rfl:=Arg.int av; exact (zdV ae so (FnM.app (ah.app _) _) (Has.app (Has.here (k:=0) rfl) _) aw ai (St.refl au)).mono fun aq ai ⟨aI,ax,ay,az⟩=>by subst ax; exact ⟨ay,az⟩⟩ ap _ (H.gt 1)) ?_
 rintro vq aJ ⟨r2,rfl,hvq,aj⟩
 subst vq;(try dsimp only at hM);replace H:=H.bk aj;clear aj;refine kg 3 ?_;refine W.ret ?_
 have aB:=M.e_pure hM
 exact ⟨_,resE_tmp rfl,⟨(!r2),aB,rfl,(H.pk [])⟩⟩

def zch (k:Int) (aa:List Work) (ab:Int):M Bool :=
  M.bind (zac k 0 ((aa.length:Int)-1)) fun r2 =>
  M.pure (r2&&(k != ab))
theorem zdB {R:List Chunk} {ac:Nat} {ae:Cells} {ag:Value} {ah:Nat} (k:Int) (ab:List Work) (aa:Int) (ap:Reads R ae) (aj:Sl ae ag ab) (aq:Has R (cBlk ac [ag] 31)) (au:Has R (cBlk ah [I aa] 3)) {r:Bool} (hM:(zch k ab aa).Ends r) (w:World) (H:St w w [] R):Ret Try.prog 65 #[I k,Pq ac,Pq ah] w fun v w'=>∃ (y0:Bool),y0=r/\v=B y0/\St w w' [] R:=by
 refine ret_of_W Try.func65 rfl rfl rfl ?_
 have av:=(aj).len_le
 refine kg 10 ?_;obtain ⟨aw,am,hM⟩:=M.e_bind hM;refine s_call cf21 [I k,I 0,I ((ab.length:Int)-1)] rfl (zae k 0 ((ab.length:Int)-1) am _ (H.gt 0)) ?_
 rintro vq ax ⟨r2,rfl,hvq,ai⟩
 subst vq;(try dsimp only at hM);replace H:=H.bk ai;clear ai;refine kg 4 ?_;refine s_val (x_pand (b:=r2) (r:=k != aa) rfl (fun hb=>gd_of (c:=r2) (by first | exact hb | (rw [hb]; rfl) | simp_all) (B (k != aa))) rfl) ?_;refine kg 2 ?_;refine W.ret ?_
 have ao:=M.e_pure hM
 exact ⟨_,resE_tmp rfl,⟨(r2&&(k != aa)),ao,rfl,H⟩⟩

def zbR (s:List Int) (v:Int):Nat->M (Nat ⊕ (Int ⊕ Unit)):=fun s2 =>
  bif decide ((s2:Int)<(s.length:Int)) then (
  M.grd (decide ((s2:Int)<(s.length:Int))) <|
  bif v==(s.getD s2 0) then (
  M.pure (.inr (.inl (s2:Int))))
  else (
  M.pure (.inl (s2+1))))
  else (
  M.pure (.inr (.inr ())))
def zcw (s:List Int) (v:Int):M Int :=
  M.bind (M.iter (zbR s v) 0) fun x_=>match x_ with
  | (.inl s3)=>(
  M.pure s3)
  | (.inr (_:Unit))=>(
  M.pure (-1))
theorem zbr {R:List Chunk} {ai:Cells} {ac:Value} (s:List Int) (v:Int) (ax:Reads R ai) (ao:Sl ai ac s) {r:Int} (hM:(zcw s v).Ends r) (w:World) (H:St w w [] R):Ret Try.prog 29 #[ac,I v] w fun v w'=>∃ (y0:Int),y0=r/\v=I y0/\St w w' [] R:=by
 refine ret_of_W Try.func29 rfl rfl rfl ?_
 have ay:=(ao).len_le
 refine kg 12 ?_;obtain ⟨ap,ae,aj⟩:=M.e_bind hM
 obtain ⟨az,ae⟩:=M.e_iter ae
 refine W.loop (fun m σ W=>∃ (s2:Nat) (ρ:Env),σ=upds ρ [(0,ac),(1,I v),(7,I (s.length:Int)),(8,I (s2:Int))]/\M.iterN (zbR s v) m s2=some ap/\St w W [] R) ?_ ?_
 ·exact ⟨_,0,_,upds_of _ _ ⟨rfl,rfl,rfl,rfl,trivial⟩,ae,H⟩
 rintro aB σ aC ⟨s2,ρ,rfl,am,H⟩
 obtain ⟨aq,au,aD,hM,ag⟩:=M.e_iterN am
 simp only [zbR] at hM
 clear am;refine kg 5 ?_
 refine W.cond (decide ((s2:Int)<(s.length:Int))) rfl (fun aa=>?_) (fun aa=>?_)
 ·replace hM:=M.e_t hM aa
  replace aa:=dI aa
  obtain ⟨aE,hM⟩:=M.e_gd hM;refine kg 17 ?_
  refine W.cond (v==(s.getD s2 0)) rfl (fun ab=>?_) (fun ab=>?_)
  ·replace hM:=M.e_t hM ab
   replace ab:=dI ab
   refine kg 5 ?_;refine W.ret ?_
   have av:=M.e_inr hM ag
   subst av;replace hM:=aj;(try dsimp only at hM)
   have ah:=M.e_pure hM
   exact ⟨_,resE_tmp rfl,⟨(s2:Int),ah,rfl,H⟩⟩
  replace hM:=M.e_f hM ab
  replace ab:=dI ab
  refine kg 5 ?_
  exact ⟨aq,au,s2+1,_,upds_of _ _ ⟨rfl,rfl,rfl,rfl,trivial⟩,M.e_inl hM ag,H⟩
 replace hM:=M.e_f hM aa
 replace aa:=dI aa
 refine W.exit ?_
 have aw:=M.e_inr hM ag
 subst aw;replace hM:=aj;(try dsimp only at hM);refine kg 4 ?_;refine W.ret ?_
 have ah:=M.e_pure hM
 exact ⟨_,resE_tmp rfl,⟨(-1),ah,rfl,H⟩⟩

def zaa (s:List Int) (v:Int):M Bool :=
  M.bind (zcw s v) fun r2 =>
  M.pure (decide (0<=r2))
theorem zaj {R:List Chunk} {ab:Cells} {aa:Value} (s:List Int) (v:Int) (ae:Reads R ab) (ag:Sl ab aa s) {r:Bool} (hM:(zaa s v).Ends r) (w:World) (H:St w w [] R):Ret Try.prog 12 #[aa,I v] w fun v w'=>∃ (y0:Bool),y0=r/\v=B y0/\St w w' [] R:=by
 refine ret_of_W Try.func12 rfl rfl rfl ?_;refine kg 8 ?_;obtain ⟨aj,ah,hM⟩:=M.e_bind hM;refine s_call cf29 [aa,I v] rfl (zbr s v (ae.app _) ag ah _ (H.gt 0)) ?_
 rintro vq am ⟨r2,rfl,hvq,ac⟩
 subst vq;(try dsimp only at hM);replace H:=H.bk ac;clear ac;refine kg 3 ?_;refine W.ret ?_
 have ai:=M.e_pure hM
 exact ⟨_,resE_tmp rfl,⟨(decide (0<=r2)),ai,rfl,H⟩⟩

def zcu (w_:List Work) (s2:Nat):(Bool × Nat)->M ((Bool × Nat) ⊕ Bool):=fun (twice,s) =>
  bif decide ((s:Int)<(((w_.getD s2 default).of).length:Int)) then (
  M.grd (decide ((s:Int)<(((w_.getD s2 default).of).length:Int))) <|
  M.bind (M.opt (!twice) (zaa (((w_.getD s2 default).of).take s) (((w_.getD s2 default).of).getD s 0)) false) fun r7 =>
  M.pure (.inl ((twice||r7),s+1)))
  else (
  M.pure (.inr twice))
def zb2 (w_:List Work):(Bool × Nat)->M ((Bool × Nat) ⊕ (Unit ⊕ Bool)):=fun (twice3,s2) =>
  bif decide ((s2:Int)<(w_.length:Int)) then (
  M.grd (decide ((s2:Int)<(w_.length:Int))) <|
  M.bind (zac ((w_.getD s2 default).base) 0 1000002) fun r4 =>
  M.bind (M.opt (!(!r4)) (zac ((w_.getD s2 default).minutes) 0 10000) false) fun r5 =>
  M.bind (M.opt (!((!r4)||(!r5))) (zam (fun aa=>zch aa w_ (s2:Int)) ((w_.getD s2 default).of)) false) fun r6 =>
  bif (((!r4)||(!r5))||(!r6)) then (
  M.pure (.inr (.inl ())))
  else (
  M.bind (M.iter (zcu w_ s2) (twice3,0)) fun twice2 =>
  M.pure (.inl (twice2,s2+1))))
  else (
  M.pure (.inr (.inr twice3)))
def zde (w_:List Work):M Int :=
  M.bind (zac (w_.length:Int) 1 30) fun r2 =>
  M.bind (M.opt (!(!r2)) (zc1 (fun aa=>zbU aa) w_) false) fun r3 =>
  bif ((!r2)||(!r3)) then (
  M.pure 3)
  else (
  M.bind (M.iter (zb2 w_) (false,0)) fun x_=>match x_ with
  | (.inl (_:Unit))=>(
  M.pure 140)
  | (.inr twice4)=>(
  bif twice4 then (
  M.pure 10)
  else (
  M.pure 0)))
theorem zdp {R:List Chunk} {aO:Cells} {ac:Value} (w_:List Work) (au:Reads R aO) (ao:Sl aO ac w_) {r:Int} (hM:(zde w_).Ends r) (w:World) (H:St w w [] R):Ret Try.prog 37 #[ac] w fun v w'=>∃ (y0:Int),y0=r/\v=I y0/\St w w' [] R:=by
 refine ret_of_W Try.func37 rfl rfl rfl ?_;refine kg 2 ?_;refine t_box (v:=ac) (cs:=[ac]) H rfl (Sl.cells ao) ?_;intro ae bu H
 have bv:=(ao).len_le
 refine kg 7 ?_;obtain ⟨bw,aU,hM⟩:=M.e_bind hM;refine s_call cf21 [I (w_.length:Int),I 1,I 30] rfl (zae (w_.length:Int) 1 30 aU _ (H.gt 1)) ?_
 rintro vq bx ⟨r2,rfl,hvq,av⟩
 subst vq;(try dsimp only at hM);replace H:=H.bk av;clear av;refine kg 3 ?_;obtain ⟨r3,aV,hM⟩:=M.e_bind hM;refine t_gcall (!(!r2)) (gy_f rfl) cf63 (B r3) (fun _=>[.func (.func 64) #[] #[],ac]) (fun hg=>lst2 rfl (gd_of hg (ac))) H (fun hg=>(zec (fun ag=>zbU ag) w_ ⟨64,[],rfl,cf64,fun aw aW aX ay ag aY az aP aB aC=>by obtain ⟨bz,rfl,aZ⟩:=Work_arg aB; exact (zd7 ag aP aZ aC aw (St.refl az)).mono fun ay aw ⟨a4,aD,aE,aF⟩=>by subst aD; exact ⟨aE,aF⟩⟩ (au.app _) ao (M.e_opt aV hg) _ (H.give (A:=[]) rfl)).mono fun v_ w_ ⟨y_,aa,ah,H_⟩=>by subst aa; exact ⟨ah,H.via H_⟩) ?_;intro bA H;refine kg 1 ?_;refine s_val (x_por (b:=!r2) (r:=!r3) rfl rfl (fun hb=>gd_of (c:=!(!r2)) (by first | exact hb | (rw [hb]; rfl) | simp_all) (B (!r3))))<|s_nil ?_
 refine W.cond ((!r2)||(!r3)) rfl (fun aG=>?_) (fun aG=>?_)
 ·replace hM:=M.e_t hM aG;refine kg 4 ?_;refine W.ret ?_
  have aa:=M.e_pure hM
  exact ⟨_,resE_tmp rfl,⟨3,aa,rfl,(H.pk [])⟩⟩
 replace hM:=M.e_f hM aG
 have bB:=(ao).len_le
 refine kg 13 ?_;obtain ⟨a5,aH,aQ⟩:=M.e_bind hM
 obtain ⟨a6,aH⟩:=M.e_iter aH
 refine W.loop (fun m σ W=>∃ (twice3:Bool) (s2:Nat) (ρ:Env),σ=upds ρ [(1,Pq ae),(3,B twice3),(17,ac),(18,I (w_.length:Int)),(19,I (s2:Int))]/\M.iterN (zb2 w_) m (twice3,s2)=some a5/\St w W [cBlk ae [ac] 31] R) ?_ ?_
 ·exact ⟨_,false,0,_,upds_of _ _ ⟨rfl,rfl,rfl,rfl,rfl,trivial⟩,aH,H⟩
 rintro bC σ bD ⟨twice3,s2,ρ,rfl,aR,H⟩
 obtain ⟨a7,a8,bE,hM,aI⟩:=M.e_iterN aR
 simp only [zb2] at hM
 clear aR;refine kg 5 ?_
 refine W.cond (decide ((s2:Int)<(w_.length:Int))) rfl (fun ai=>?_) (fun ai=>?_)
 ·replace hM:=M.e_t hM ai
  replace ai:=dI ai
  obtain ⟨bF,hM⟩:=M.e_gd hM;refine kg 7 ?_
  obtain ⟨ab,a9,aj⟩:=Work_atA ao (i:=(s2:Int)) (by omega) (by omega)
  replace aj:Sl _ ab (w_.getD s2 default).of:=aj
  have bG:=aj.len_le
  refine s_val (x_ld (v:=.agg #[ab,I ((w_.getD s2 default).base),I ((w_.getD s2 default).minutes)]) rfl (ld_ag Ag37 Sz37 (At.mono a9 (au.at H)))) ?_;refine t_alloc (cs:=[I 0]) H Al3 rfl ?_;intro ap bH H;refine t_alloc (cs:=[.slice none 0 0,I 0,I 0]) H Al37 rfl ?_;intro aq bI H;refine t_sw 1 0 [I (s2:Int)] (I (s2:Int)) H rfl rfl Sz3 rfl rfl rfl rfl ?_;intro bJ H;refine t_sw 0 0 [ab,I ((w_.getD s2 default).base),I ((w_.getD s2 default).minutes)] (.agg #[ab,I ((w_.getD s2 default).base),I ((w_.getD s2 default).minutes)]) H rfl rfl Sz37 rfl rfl rfl (by simp only [List.all_cons,List.all_nil,Bool.true_and,Bool.and_true,Sl.oc aj]; try rfl) ?_;intro bK H;refine kg 6 ?_;obtain ⟨bL,ba,hM⟩:=M.e_bind hM;refine s_call cf21 [I ((w_.getD s2 default).base),I 0,I 1000002] rfl (zae ((w_.getD s2 default).base) 0 1000002 ba _ (H.gt 3)) ?_
  rintro vq bM ⟨r4,rfl,hvq,av⟩
  subst vq;(try dsimp only at hM);replace H:=H.bk av;clear av;refine kg 4 ?_;obtain ⟨r5,bb,hM⟩:=M.e_bind hM;refine t_gcall (!(!r4)) (gy_f rfl) cf21 (B r5) (fun _=>[I ((w_.getD s2 default).minutes),I 0,I 10000]) (fun hg=>lst3 (gd_of hg (I ((w_.getD s2 default).minutes))) rfl rfl) H (fun hg=>(zae ((w_.getD s2 default).minutes) 0 10000 (M.e_opt bb hg) _ (H.give (A:=[]) rfl)).mono fun v_ w_ ⟨y_,aa,ah,H_⟩=>by subst aa; exact ⟨ah,H.via H_⟩) ?_;intro bN H;refine kg 1 ?_;refine s_val (x_por (b:=!r4) (r:=!r5) rfl rfl (fun hb=>gd_of (c:=!(!r4)) (by first | exact hb | (rw [hb]; rfl) | simp_all) (B (!r5))))<|zM (B ((!r4)||(!r5))) rfl<|g_val (!((!r4)||(!r5))) (gy_f rfl) (fun hg=>x_mf (fs:=[]) (cs:=[Pq ae,Pq ap]) rfl rfl)<|g_val (!((!r4)||(!r5))) (gy_f rfl) (fun hg=>x_fa (v:=Pq aq) rfl (fa_blk (o:=0) Fd37_0 Sz26))<|g_val (!((!r4)||(!r5))) (gy_f rfl) (fun hg=>x_ld (v:=ab) (gd_of hg (Pq aq)) (ldb_sc Sc26 (H.bl 0) rfl)) ?_;obtain ⟨r6,bc,hM⟩:=M.e_bind hM;refine t_gcall (!((!r4)||(!r5))) (gy_f rfl) cf24 (B r6) (fun _=>[.func (.func 65) #[] #[Pq ae,Pq ap],ab]) (fun hg=>lst2 (gd_of hg (.func (.func 65) #[] #[Pq ae,Pq ap])) (gd_of hg (ab))) H (fun hg=>(zaR (fun ag=>zch ag w_ (s2:Int)) ((w_.getD s2 default).of) ⟨65,[Pq ae,Pq ap],rfl,cf65,fun aw aW aX ay ag aY az aP aB aC=>by obtain rfl:=Arg.int aB; exact (zdB ag w_ (s2:Int) (Reads.app (au.app _) _) ao (Has.app (Has.here (k:=2) rfl) _) (Has.app (Has.here (k:=1) rfl) _) aC aw (St.refl az)).mono fun ay aw ⟨a4,aD,aE,aF⟩=>by subst aD; exact ⟨aE,aF⟩⟩ (au.app _) aj (M.e_opt bc hg) _ (H.give (A:=[]) rfl)).mono fun v_ w_ ⟨y_,aa,ah,H_⟩=>by subst aa; exact ⟨ah,H.via H_⟩) ?_;intro bO H;refine g_val (!((!r4)||(!r5))) (gy_f rfl) (fun hg=>x_not (b:=r6) (gd_of hg (B r6)))<|s_val (x_por (b:=((!r4)||(!r5))) (r:=!r6) rfl rfl (fun hb=>gd_of (c:=!((!r4)||(!r5))) (by first | exact hb | (rw [hb]; rfl) | simp_all) (B (!r6))))<|s_nil ?_
  refine W.cond (((!r4)||(!r5))||(!r6)) rfl (fun aJ=>?_) (fun aJ=>?_)
  ·replace hM:=M.e_t hM aJ;refine kg 4 ?_;replace H:=H.pk [2];refine W.ret ?_
   have bg:=M.e_inr hM aI
   subst bg;replace hM:=aQ;(try dsimp only at hM)
   have aa:=M.e_pure hM
   exact ⟨_,resE_tmp rfl,⟨140,aa,rfl,(H.pk [])⟩⟩
  replace hM:=M.e_f hM aJ
  have bP:=(aj).len_le
  refine kg 9 ?_;obtain ⟨bh,aK,bi⟩:=M.e_bind hM
  obtain ⟨a6,aK⟩:=M.e_iter aK
  refine W.loop (fun m σ W=>∃ (twice:Bool) (s:Nat) (ρ:Env),σ=upds ρ [(1,Pq ae),(3,B twice),(5,Pq aq),(17,ac),(18,I (w_.length:Int)),(19,I (s2:Int)),(29,gd (!(!r4)) (Oq aq 2)),(30,gd (!(!r4)) (I ((w_.getD s2 default).minutes))),(31,gd (!(!r4)) (B r5)),(32,gd (!(!r4)) (B (!r5))),(35,gd (!((!r4)||(!r5))) (.func (.func 65) #[] #[Pq ae,Pq ap])),(36,gd (!((!r4)||(!r5))) (Pq aq)),(37,gd (!((!r4)||(!r5))) ab),(38,gd (!((!r4)||(!r5))) (B r6)),(39,gd (!((!r4)||(!r5))) (B (!r6))),(42,ab),(43,I (((w_.getD s2 default).of).length:Int)),(44,I (s:Int))]/\M.iterN (zcu w_ s2) m (twice,s)=some bh/\St w W [cBlk aq [ab,I ((w_.getD s2 default).base),I ((w_.getD s2 default).minutes)] 37,cBlk ap [I (s2:Int)] 3,cBlk ae [ac] 31] R) ?_ ?_
  ·exact ⟨_,twice3,0,_,upds_of _ _ ⟨rfl,rfl,rfl,rfl,rfl,rfl,rfl,rfl,rfl,rfl,rfl,rfl,rfl,rfl,rfl,rfl,rfl,rfl,trivial⟩,aK,H⟩
  rintro bQ σ bR ⟨twice,s,ρ,rfl,aS,H⟩
  obtain ⟨bj,bm,bS,hM,aT⟩:=M.e_iterN aS
  simp only [zcu] at hM
  clear aS;refine kg 5 ?_
  refine W.cond (decide ((s:Int)<(((w_.getD s2 default).of).length:Int))) rfl (fun am=>?_) (fun am=>?_)
  ·replace hM:=M.e_t hM am
   replace am:=dI am
   obtain ⟨bT,hM⟩:=M.e_gd hM;refine kg 17 ?_
   obtain ⟨ax,bn,aL⟩:=gd_ex (c:=!twice) fun hg=>sl_hi T26.und T26.size aj (j:=(s:Int)) (by first | omega | (have aM:=hg; simp at aM; omega)) (by first | omega | (have aM:=hg; simp at aM; omega))
   replace aL:(!twice)=true->Sl _ ax (((w_.getD s2 default).of).take s):=aL
   refine g_val (!twice) (gy_f rfl) (fun hg=>x_sl (v:=ab) (u:=ax) (lo':=none) (hi':=some (I (s:Int))) (mx':=none) (gd_of hg (ab)) rfl (congrArg some (gd_of hg (I (s:Int)))) rfl (bn hg _)) ?_;refine kg 1 ?_;obtain ⟨r7,bp,hM⟩:=M.e_bind hM;refine t_gcall (!twice) (gy_f rfl) cf12 (B r7) (fun _=>[ax,I (((w_.getD s2 default).of).getD s 0)]) (fun hg=>lst2 (gd_of hg (ax)) (gd_of hg (I (((w_.getD s2 default).of).getD s 0)))) H (fun hg=>(zaj (((w_.getD s2 default).of).take s) (((w_.getD s2 default).of).getD s 0) (au.app _) (aL hg) (M.e_opt bp hg) _ (H.give (A:=[]) rfl)).mono fun v_ w_ ⟨y_,aa,ah,H_⟩=>by subst aa; exact ⟨ah,H.via H_⟩) ?_;intro bU H;refine s_val (x_por (b:=twice) (r:=r7) rfl rfl (fun hb=>gd_of (c:=!twice) (by first | exact hb | (rw [hb]; rfl) | simp_all) (B r7)))<|zA (B (twice||r7)) rfl ?_;refine kg 5 ?_
   exact ⟨bj,bm,(twice||r7),s+1,_,upds_of _ _ ⟨rfl,rfl,rfl,rfl,rfl,rfl,rfl,rfl,rfl,rfl,rfl,rfl,rfl,rfl,rfl,rfl,rfl,rfl,trivial⟩,M.e_inl hM aT,H⟩
  replace hM:=M.e_f hM am
  replace am:=dI am
  refine W.exit ?_
  have br:=M.e_inr hM aT
  subst br;replace hM:=bi;(try dsimp only at hM);refine kg 4 ?_
  exact ⟨a7,a8,twice,s2+1,_,upds_of _ _ ⟨rfl,rfl,rfl,rfl,rfl,trivial⟩,M.e_inl hM aI,(H.pk [2])⟩
 replace hM:=M.e_f hM ai
 replace ai:=dI ai
 refine W.exit ?_
 have bt:=M.e_inr hM aI
 subst bt;replace hM:=aQ;(try dsimp only at hM);refine kg 5 ?_
 refine W.cond twice3 rfl (fun aN=>?_) (fun aN=>?_)
 ·replace hM:=M.e_t hM aN;refine kg 4 ?_;refine W.ret ?_
  have aa:=M.e_pure hM
  exact ⟨_,resE_tmp rfl,⟨10,aa,rfl,(H.pk [])⟩⟩
 replace hM:=M.e_f hM aN;refine kg 5 ?_;refine W.ret ?_
 have aa:=M.e_pure hM
 exact ⟨_,resE_tmp rfl,⟨0,aa,rfl,(H.pk [])⟩⟩

def zbn (i:Int) (aa:List Int):M Bool :=
  M.bind (zaa aa i) fun r2 =>
  M.pure r2
theorem zc0 {R:List Chunk} {ac:Nat} {ae:Cells} {aa:Value} (i:Int) (ab:List Int) (ah:Reads R ae) (ai:Sl ae aa ab) (ao:Has R (cBlk ac [aa] 26)) {r:Bool} (hM:(zbn i ab).Ends r) (w:World) (H:St w w [] R):Ret Try.prog 66 #[I i,Pq ac] w fun v w'=>∃ (y0:Bool),y0=r/\v=B y0/\St w w' [] R:=by
 refine ret_of_W Try.func66 rfl rfl rfl ?_;refine kg 8 ?_;obtain ⟨ap,aj,hM⟩:=M.e_bind hM;refine s_call cf12 [aa,I i] rfl (zaj ab i (ah.app _) ai aj _ (H.gt 0)) ?_
 rintro vq aq ⟨r2,rfl,hvq,ag⟩
 subst vq;(try dsimp only at hM);replace H:=H.bk ag;clear ag;refine kg 2 ?_;refine W.ret ?_
 have am:=M.e_pure hM
 exact ⟨_,resE_tmp rfl,⟨r2,am,rfl,H⟩⟩

def zci (aa:List Work):(Int × (List Int))->M ((Int × (List Int)) ⊕ ((List Int) × (List Int))):=fun (i,l) =>
  bif decide (i<(aa.length:Int)) then (
  M.bind (zbn i l) fun r2 =>
  M.grd ((!(!r2)||(decide ((0:Int)<=i)&&decide (i<(aa.length:Int))))) <|
  M.bind (M.opt (!r2) (zam (fun ab=>zbn ab l) ((aa.getD (Int.toNat i) default).of)) false) fun r3 =>
  bif ((!r2)&&r3) then (
  M.grd (decide ((l.length+([(i:Int)]).length)*8<=140737488355328)) <|
  M.grd (decide ((-9223372036854775808:Int)<=((-1)+1))&&decide (((-1)+1)<=(9223372036854775807:Int))) <|
  M.pure (.inl ((-1)+1,l++([(i:Int)]))))
  else (
  M.grd (decide ((-9223372036854775808:Int)<=(i+1))&&decide ((i+1)<=(9223372036854775807:Int))) <|
  M.pure (.inl (i+1,l))))
  else (
  M.pure (.inr (l,l)))
def zcV (aa:List Work):M (List Int) :=
  M.bind (M.iter (zci aa) (0,[])) fun (l2,l3) =>
  M.pure l3
theorem zdU {R:List Chunk} {aj:Nat} {az:Cells} {am:Value} (ae:List Work) (aB:Reads R az) (aC:Sl az am ae) (aX:Has R (cBlk aj [am] 102)) {r:(List Int)} (hM:(zcV ae).Ends r) (w:World) (H:St w w [] R):Ret Try.prog 38 #[Pq aj] w fun v w'=>∃ (y0:List Int) (u0:Value),y0=r/\v=u0/\St w w' [cOwn (α:=Int) 3 u0 y0] R:=by
 refine ret_of_W Try.func38 rfl rfl rfl ?_;refine kg 6 ?_;refine t_alloc (cs:=[.slice none 0 0]) H Al26 rfl ?_;intro aa aY H;refine kg 3 ?_;refine s_val (x_mf (fs:=[]) (cs:=[Pq aa]) rfl rfl) ?_;refine kg 8 ?_
 replace H:=H.nilOwn (α:=Int) 3
 obtain ⟨aI,ao,aJ⟩:=M.e_bind hM
 obtain ⟨aZ,ao⟩:=M.e_iter ao
 refine W.loop (fun m σ W=>∃ (i:Int) (l:List Int) (ag:Value) (ρ:Env),σ=upds ρ [(0,Pq aj),(3,Pq aa),(4,.func (.func 66) #[] #[Pq aa]),(5,I i)]/\M.iterN (zci ae) m (i,l)=some aI/\St w W [cOwn (α:=Int) 3 ag l,cBlk aa [ag] 26] R) ?_ ?_
 ·exact ⟨_,0,[],(.slice none 0 0),_,upds_of _ _ ⟨rfl,rfl,rfl,rfl,trivial⟩,ao,H⟩
 rintro a4 σ a5 ⟨i,l,ag,ρ,rfl,aD,H⟩
 obtain ⟨aE,aF,a6,hM,ap⟩:=M.e_iterN aD
 simp only [zci] at hM
 clear aD
 have a7:=(aC).len_le
 refine kg 12 ?_
 refine W.cond (decide (i<(ae.length:Int))) rfl (fun ab=>?_) (fun ab=>?_)
 ·replace hM:=M.e_t hM ab
  replace ab:=dI ab
  refine kg 7 ?_;obtain ⟨a8,aK,hM⟩:=M.e_bind hM;refine s_callv (f:=66) rfl cf66 [I i] rfl (zc0 i l (rdo 0) (H.os 0) (Has.here (k:=1) rfl) aK _ (H.gt 2)) ?_
  rintro vq a9 ⟨r2,rfl,hvq,aG⟩
  subst vq;(try dsimp only at hM);replace H:=H.bk aG;clear aG;obtain ⟨ah,hM⟩:=M.e_grd hM
  replace ah:=M.imp_of ah
  simp only [Bool.and_eq_true,decide_eq_true_eq] at ah
  refine kg 11 ?_
  obtain ⟨ai,aL,aq⟩:=gd_ex (c:=!r2) fun hg=>Work_at0 aC (i:=i) (by have ac:=ah.resolve_left (by rw [hg]; decide); first | exact ac | exact ac.1 | exact ac.2 | omega | (have au:=hg; simp at au; omega)) (by have ac:=ah.resolve_left (by rw [hg]; decide); first | exact ac | exact ac.1 | exact ac.2 | omega | (have au:=hg; simp at au; omega))
  replace aq:(!r2)=true->Sl _ ai (ae.getD (Int.toNat i) default).of:=aq
  refine g_val (!r2) (gy_t rfl) (fun hg=>x_ld (v:=ai) (gd_of hg (fat (vat am 3 (Int.toNat i)) 0)) (ld_sc Sc26 (At.mono (aL hg) (aB.at H)))) ?_;obtain ⟨r3,aM,hM⟩:=M.e_bind hM;refine t_gcall (!r2) (gy_t rfl) cf24 (B r3) (fun _=>[.func (.func 66) #[] #[Pq aa],ai]) (fun hg=>lst2 (gd_of hg (.func (.func 66) #[] #[Pq aa])) (gd_of hg (ai))) H (fun hg=>(zaR (fun av=>zbn av l) ((ae.getD (Int.toNat i) default).of) ⟨66,[Pq aa],rfl,cf66,fun aH ba bb aN av bc aO bg aP aQ=>by obtain rfl:=Arg.int aP; exact (zc0 av l (Reads.app (rdo 0) _) (H.os 0) (Has.app (Has.here (k:=1) rfl) _) aQ aH (St.refl aO)).mono fun aN aH ⟨bh,aR,aS,aT⟩=>by subst aR; exact ⟨aS,aT⟩⟩ (aB.app _) (aq hg) (M.e_opt aM hg) _ (H.give (A:=[]) rfl)).mono fun v_ w_ ⟨y_,aw,aU,H_⟩=>by subst aw; exact ⟨aU,H.via H_⟩) ?_;intro bi H;refine s_val (x_pand (b:=!r2) (r:=r3) rfl (fun hb=>gd_of (c:=!r2) (by first | exact hb | (rw [hb]; rfl) | simp_all) (B r3)) rfl)<|s_nil ?_
  refine W.cond ((!r2)&&r3) rfl (fun ax=>?_) (fun ax=>?_)
  ·replace hM:=M.e_t hM ax;refine kg 4 ?_;refine t_bs (α:=Int) T26 [I i] [(i:Int)] H rfl (.cons rfl (Flat.rep_enc _ (i:Int))<|.nil) rfl rfl rfl ?_;intro aV bj H;obtain ⟨bm,hM⟩:=M.e_gd hM;refine t_app (α:=Int) (k:=1) (l:=l) (l2:=[(i:Int)]) (l':=l++([(i:Int)])) (vy:=aV) T26 rfl H rfl rfl rfl (H.os 0) (H.ol 0) (rfl) (by first | omega | (simp only [List.length_nil] at *; omega)) ?_;intro ay bn H;replace H:=H.nf;refine t_sw 2 0 [ay] ay H rfl rfl Sz26 (Sl.cells (H.os 1)) rfl rfl (by simp only [List.all_cons,List.all_nil,Bool.true_and,Bool.and_true,Sl.oc (H.os 1)]; try rfl) ?_;intro bp H;obtain ⟨br,hM⟩:=M.e_gd hM;refine kg 9 ?_
   exact ⟨aE,aF,(-1)+1,l++([(i:Int)]),ay,_,upds_of _ _ ⟨rfl,rfl,rfl,rfl,trivial⟩,M.e_inl hM ap,(H.pk [1,2])⟩
  replace hM:=M.e_f hM ax;obtain ⟨bt,hM⟩:=M.e_gd hM;refine kg 6 ?_
  exact ⟨aE,aF,i+1,l,ag,_,upds_of _ _ ⟨rfl,rfl,rfl,rfl,trivial⟩,M.e_inl hM ap,H⟩
 replace hM:=M.e_f hM ab
 replace ab:=dI ab
 refine W.exit ?_
 have aW:=M.e_inr hM ap
 subst aW;replace hM:=aJ;(try dsimp only at hM);refine kg 5 ?_;refine W.ret ?_
 have aw:=M.e_pure hM
 exact ⟨_,resE_tmp rfl,⟨l,ag,aw,rfl,(H.pk [0])⟩⟩

def za6 (w_:List Work):M (Int ⊕ ((List Int) × Int)) :=
  M.bind (zde w_) fun r2 =>
  bif r2 != 0 then (
  M.pure (.inl r2))
  else (
  M.bind (zcV w_) fun r3 =>
  bif decide ((r3.length:Int)<(w_.length:Int)) then (
  M.pure (.inl 9))
  else (
  M.pure (.inr (r3,0))))
theorem zc5 {R:List Chunk} {ai:Cells} {aa:Value} (w_:List Work) (aj:Reads R ai) (ah:Sl ai aa w_) {r:(Int ⊕ ((List Int) × Int))} (hM:(za6 w_).Ends r) (w:World) (H:St w w [] R):Ret Try.prog 18 #[aa] w fun v w'=>(∃ (y0:Int),(.inl y0)=r/\v = .tuple #[.pointer none,.slice none 0 0,I y0]/\St w w' [] R)∨(∃ (y0:List Int) (y1:Int) (am:Nat) (u1:Value),(.inr (y0,y1))=r/\v = .tuple #[Pq am,u1,I y1]/\St w w' [cBlk am [aa] 102,cOwn (α:=Int) 3 u1 y0] R):=by
 refine ret_of_W Try.func18 rfl rfl rfl ?_;refine kg 10 ?_;obtain ⟨av,ap,hM⟩:=M.e_bind hM;refine s_call cf37 [aa] rfl (zdp w_ (aj.app _) ah ap _ (H.gt 0)) ?_
 rintro vq aw ⟨r2,rfl,hvq,ae⟩
 subst vq;(try dsimp only at hM);replace H:=H.bk ae;clear ae;refine kg 7 ?_
 refine W.cond (r2 != 0) rfl (fun ab=>?_) (fun ab=>?_)
 ·replace hM:=M.e_t hM ab
  replace ab:=dI ab
  refine kg 7 ?_;refine W.ret ?_
  have ag:=M.e_pure hM
  exact ⟨_,resE_tmp3 rfl,.inl (⟨r2,ag,rfl,H⟩)⟩
 replace hM:=M.e_f hM ab
 replace ab:=dI ab
 refine kg 4 ?_;refine s_val (x_bld (ps:=[(0,aa)]) (zs:=[.slice none 0 0]) (L':=[aa]) rfl Try.underlying100 Al100 rfl (Bd100 Try.underlying100) (.cons (cs:=[aa]) (Sl.cells ah) rfl rfl rfl rfl<|.nil))<|s_val (x_bld (ps:=[(0,.agg #[aa])]) (zs:=[.slice none 0 0]) (L':=[aa]) rfl Try.underlying102 Al102 rfl (Bd102 Try.underlying102) (.cons (cs:=[aa]) rfl rfl rfl rfl rfl<|.nil)) ?_;refine t_bx [aa] H rfl ?_;intro ao ax H;refine kg 5 ?_;obtain ⟨ay,aq,hM⟩:=M.e_bind hM;refine s_call cf38 [Pq ao] rfl (zdU w_ (aj.app _) ah (Has.here (k:=0) rfl) aq _ (H.gt 1)) ?_
 rintro vq az ⟨r3,au,rfl,hvq,ae⟩
 subst vq;(try dsimp only at hM);replace H:=H.bk ae;clear ae
 have aB:=((H.os 0)).len_le
 have aC:=(ah).len_le
 refine kg 11 ?_
 refine W.cond (decide ((r3.length:Int)<(w_.length:Int))) rfl (fun ac=>?_) (fun ac=>?_)
 ·replace hM:=M.e_t hM ac
  replace ac:=dI ac
  refine kg 6 ?_;replace H:=H.pk [];refine W.ret ?_
  have ag:=M.e_pure hM
  exact ⟨_,resE_tmp3 rfl,.inl (⟨9,ag,rfl,H⟩)⟩
 replace hM:=M.e_f hM ac
 replace ac:=dI ac
 refine kg 9 ?_;refine W.ret ?_
 have ag:=M.e_pure hM
 exact ⟨_,resE_tmp3 rfl,.inr (⟨r3,0,ao,au,ag,rfl,(H.pk [1,0])⟩)⟩

def zbc (s:List Note) (f:Note->M Bool):Nat->M (Nat ⊕ (Int ⊕ Unit)):=fun s2 =>
  bif decide ((s2:Int)<(s.length:Int)) then (
  M.grd (decide ((s2:Int)<(s.length:Int))) <|
  M.bind (f (s.getD s2 default)) fun r2 =>
  bif r2 then (
  M.pure (.inr (.inl (s2:Int))))
  else (
  M.pure (.inl (s2+1))))
  else (
  M.pure (.inr (.inr ())))
def zcx (s:List Note) (f:Note->M Bool):M Int :=
  M.bind (M.iter (zbc s f) 0) fun x_=>match x_ with
  | (.inl s3)=>(
  M.pure s3)
  | (.inr (_:Unit))=>(
  M.pure (-1))
theorem zeb {R:List Chunk} {aj:Cells} {ab:Value} {ac:Value} (s:List Note) (f:Note->M Bool) (aq:Reads R aj) (am:Sl aj ab s) (au:FnM Try.prog R ac f) {r:Int} (hM:(zcx s f).Ends r) (w:World) (H:St w w [] R):Ret Try.prog 67 #[ab,ac] w fun v w'=>∃ (y0:Int),y0=r/\v=I y0/\St w w' [] R:=by
 refine ret_of_W Try.func67 rfl rfl rfl ?_
 have aC:=(am).len_le
 refine kg 12 ?_;obtain ⟨av,ae,ao⟩:=M.e_bind hM
 obtain ⟨aD,ae⟩:=M.e_iter ae
 refine W.loop (fun m σ W=>∃ (s2:Nat) (ρ:Env),σ=upds ρ [(0,ab),(1,ac),(7,I (s.length:Int)),(8,I (s2:Int))]/\M.iterN (zbc s f) m s2=some av/\St w W [] R) ?_ ?_
 ·exact ⟨_,0,_,upds_of _ _ ⟨rfl,rfl,rfl,rfl,trivial⟩,ae,H⟩
 rintro aE σ aF ⟨s2,ρ,rfl,ap,H⟩
 obtain ⟨aw,ax,aG,hM,ag⟩:=M.e_iterN ap
 simp only [zbc] at hM
 clear ap;refine kg 5 ?_
 refine W.cond (decide ((s2:Int)<(s.length:Int))) rfl (fun aa=>?_) (fun aa=>?_)
 ·replace hM:=M.e_t hM aa
  replace aa:=dI aa
  obtain ⟨aH,hM⟩:=M.e_gd hM;refine kg 14 ?_;refine s_val (x_ld (v:=.agg #[I ((s.getD s2 default).work),I ((s.getD s2 default).version),I ((s.getD s2 default).value)]) rfl (ld_ag Ag39 Sz39 (At.mono (Note_atA am (i:=(s2:Int)) (by omega) (by omega)) (aq.at H)))) ?_;obtain ⟨r2,ay,hM⟩:=M.e_bind hM;refine t_callM H au rfl rfl (s.getD s2 default) Reads.none ⟨_,rfl,rfl⟩ ay ?_;intro aI H;refine s_nil ?_
  refine W.cond r2 rfl (fun ah=>?_) (fun ah=>?_)
  ·replace hM:=M.e_t hM ah;refine kg 5 ?_;refine W.ret ?_
   have az:=M.e_inr hM ag
   subst az;replace hM:=ao;(try dsimp only at hM)
   have ai:=M.e_pure hM
   exact ⟨_,resE_tmp rfl,⟨(s2:Int),ai,rfl,H⟩⟩
  replace hM:=M.e_f hM ah;refine kg 5 ?_
  exact ⟨aw,ax,s2+1,_,upds_of _ _ ⟨rfl,rfl,rfl,rfl,trivial⟩,M.e_inl hM ag,H⟩
 replace hM:=M.e_f hM aa
 replace aa:=dI aa
 refine W.exit ?_
 have aB:=M.e_inr hM ag
 subst aB;replace hM:=ao;(try dsimp only at hM);refine kg 4 ?_;refine W.ret ?_
 have ai:=M.e_pure hM
 exact ⟨_,resE_tmp rfl,⟨(-1),ai,rfl,H⟩⟩

def zcf (s:List Note) (f:Note->M Bool):M Bool :=
  M.bind (zcx s f) fun r2 =>
  M.pure (decide (0<=r2))
theorem zdm {R:List Chunk} {ac:Cells} {aa:Value} {ab:Value} (s:List Note) (f:Note->M Bool) (ag:Reads R ac) (ah:Sl ac aa s) (ai:FnM Try.prog R ab f) {r:Bool} (hM:(zcf s f).Ends r) (w:World) (H:St w w [] R):Ret Try.prog 39 #[aa,ab] w fun v w'=>∃ (y0:Bool),y0=r/\v=B y0/\St w w' [] R:=by
 refine ret_of_W Try.func39 rfl rfl rfl ?_;refine kg 8 ?_;obtain ⟨ao,aj,hM⟩:=M.e_bind hM;refine s_call cf67 [aa,ab] rfl (zeb s f (ag.app _) ah (ai.app _) aj _ (H.gt 0)) ?_
 rintro vq ap ⟨r2,rfl,hvq,ae⟩
 subst vq;(try dsimp only at hM);replace H:=H.bk ae;clear ae;refine kg 3 ?_;refine W.ret ?_
 have am:=M.e_pure hM
 exact ⟨_,resE_tmp rfl,⟨(decide (0<=r2)),am,rfl,H⟩⟩

def zcy (x:Note) (aa:Note->M Bool):M Bool :=
  M.bind (aa x) fun r2 =>
  M.pure (!r2)
theorem zdE {R:List Chunk} {aa:Nat} {ab:Value} (x:Note) (ac:Note->M Bool) (ae:FnM Try.prog R ab ac) (ai:Has R (cBlk aa [ab] 67)) {r:Bool} (hM:(zcy x ac).Ends r) (w:World) (H:St w w [] R):Ret Try.prog 40 #[.agg #[I x.work,I x.version,I x.value],Pq aa] w fun v w'=>∃ (y0:Bool),y0=r/\v=B y0/\St w w' [] R:=by
 refine ret_of_W Try.func40 rfl rfl rfl ?_;refine kg 2 ?_;refine t_bx [I x.work,I x.version,I x.value] H rfl ?_;intro aj am H;refine kg 6 ?_;obtain ⟨r2,ag,hM⟩:=M.e_bind hM;refine t_callM H ae rfl rfl x Reads.none ⟨_,rfl,rfl⟩ ag ?_;intro ao H;refine kg 3 ?_;refine W.ret ?_
 have ah:=M.e_pure hM
 exact ⟨_,resE_tmp rfl,⟨(!r2),ah,rfl,(H.pk [])⟩⟩

def zbh (so:Note->M Bool) (l:List Note):M Bool :=
  M.bind (zcf l (fun aa=>zcy aa so)) fun r2 =>
  M.pure (!r2)
theorem zcL {R:List Chunk} {aa:Value} {ag:Cells} {ab:Value} (so:Note->M Bool) (l:List Note) (ah:FnM Try.prog R aa so) (am:Reads R ag) (ao:Sl ag ab l) {r:Bool} (hM:(zbh so l).Ends r) (w:World) (H:St w w [] R):Ret Try.prog 19 #[aa,ab] w fun v w'=>∃ (y0:Bool),y0=r/\v=B y0/\St w w' [] R:=by
 refine ret_of_W Try.func19 rfl rfl rfl ?_;refine kg 2 ?_;refine t_box (v:=aa) (cs:=[aa]) H rfl (FnM.cells ah) ?_;intro ac aC H;refine kg 5 ?_;refine s_val (x_mf (fs:=[]) (cs:=[Pq ac]) rfl rfl) ?_;obtain ⟨aD,ap,hM⟩:=M.e_bind hM;refine s_call cf39 [ab,.func (.func 40) #[] #[Pq ac]] rfl (zdm l (fun ae=>zcy ae so) (am.app _) ao ⟨40,[Pq ac],rfl,cf40,fun ai aE aF aq ae aG au aH av aw=>by obtain rfl:=Note_arg av; exact (zdE ae so (FnM.app (ah.app _) _) (Has.app (Has.here (k:=0) rfl) _) aw ai (St.refl au)).mono fun aq ai ⟨aI,ax,ay,az⟩=>by subst ax; exact ⟨ay,az⟩⟩ ap _ (H.gt 1)) ?_
 rintro vq aJ ⟨r2,rfl,hvq,aj⟩
 subst vq;(try dsimp only at hM);replace H:=H.bk aj;clear aj;refine kg 3 ?_;refine W.ret ?_
 have aB:=M.e_pure hM
 exact ⟨_,resE_tmp rfl,⟨(!r2),aB,rfl,(H.pk [])⟩⟩

def zbF (n:Note) (aa:List Work):M Bool :=
  M.bind (zac n.work 0 ((aa.length:Int)-1)) fun r2 =>
  M.grd ((!r2||(decide ((0:Int)<=n.work)&&decide (n.work<(aa.length:Int))))) <|
  M.pure (r2&&((((aa.getD (Int.toNat n.work) default).of).length:Int)==0))
theorem zdr {R:List Chunk} {ah:Nat} {ai:Cells} {ae:Value} (n:Note) (aa:List Work) (aq:Reads R ai) (aj:Sl ai ae aa) (ax:Has R (cBlk ah [ae] 31)) {r:Bool} (hM:(zbF n aa).Ends r) (w:World) (H:St w w [] R):Ret Try.prog 20 #[.agg #[I n.work,I n.version,I n.value],Pq ah] w fun v w'=>∃ (y0:Bool),y0=r/\v=B y0/\St w w' [] R:=by
 refine ret_of_W Try.func20 rfl rfl rfl ?_;refine kg 2 ?_;refine t_bx [I n.work,I n.version,I n.value] H rfl ?_;intro ay az H
 have aB:=(aj).len_le
 refine kg 9 ?_;obtain ⟨aC,au,hM⟩:=M.e_bind hM;refine s_call cf21 [I n.work,I 0,I ((aa.length:Int)-1)] rfl (zae n.work 0 ((aa.length:Int)-1) au _ (H.gt 1)) ?_
 rintro vq aD ⟨r2,rfl,hvq,am⟩
 subst vq;(try dsimp only at hM);replace H:=H.bk am;clear am;obtain ⟨ac,hM⟩:=M.e_grd hM
 replace ac:=M.imp_of ac
 simp only [Bool.and_eq_true,decide_eq_true_eq] at ac
 refine kg 6 ?_
 obtain ⟨ao,av,ap⟩:=gd_ex (c:=r2) fun hg=>Work_at0 aj (i:=n.work) (by have ab:=ac.resolve_left (by rw [hg]; decide); first | exact ab | exact ab.1 | exact ab.2 | omega | (have ag:=hg; simp at ag; omega)) (by have ab:=ac.resolve_left (by rw [hg]; decide); first | exact ab | exact ab.1 | exact ab.2 | omega | (have ag:=hg; simp at ag; omega))
 replace ap:r2=true->Sl _ ao (aa.getD (Int.toNat n.work) default).of:=ap
 refine g_val r2 (gy_t rfl) (fun hg=>x_ld (v:=ao) (gd_of hg (fat (vat ae 3 (Int.toNat n.work)) 0)) (ld_sc Sc26 (At.mono (av hg) (aq.at H)))) ?_;refine kg 2 ?_;refine s_val (x_pand (b:=r2) (r:=(((aa.getD (Int.toNat n.work) default).of).length:Int)==0) rfl (fun hb=>gd_of (c:=r2) (by first | exact hb | (rw [hb]; rfl) | simp_all) (B ((((aa.getD (Int.toNat n.work) default).of).length:Int)==0))) rfl) ?_;refine kg 2 ?_;refine W.ret ?_
 have aw:=M.e_pure hM
 exact ⟨_,resE_tmp rfl,⟨(r2&&((((aa.getD (Int.toNat n.work) default).of).length:Int)==0)),aw,rfl,(H.pk [])⟩⟩

def zbI (n:Note):M Bool :=
  M.bind (zac n.version 0 1000000) fun r2 =>
  M.bind (M.opt r2 (zac n.value 0 1000002) false) fun r3 =>
  M.pure (r2&&r3)
theorem zea {R:List Chunk}  (n:Note)  {r:Bool} (hM:(zbI n).Ends r) (w:World) (H:St w w [] R):Ret Try.prog 22 #[.agg #[I n.work,I n.version,I n.value]] w fun v w'=>∃ (y0:Bool),y0=r/\v=B y0/\St w w' [] R:=by
 refine ret_of_W Try.func22 rfl rfl rfl ?_;refine kg 2 ?_;refine t_bx [I n.work,I n.version,I n.value] H rfl ?_;intro ah ai H;refine kg 6 ?_;obtain ⟨aj,ac,hM⟩:=M.e_bind hM;refine s_call cf21 [I n.version,I 0,I 1000000] rfl (zae n.version 0 1000000 ac _ (H.gt 1)) ?_
 rintro vq am ⟨r2,rfl,hvq,ab⟩
 subst vq;(try dsimp only at hM);replace H:=H.bk ab;clear ab;refine kg 3 ?_;obtain ⟨r3,ae,hM⟩:=M.e_bind hM;refine t_gcall r2 (gy_t rfl) cf21 (B r3) (fun _=>[I n.value,I 0,I 1000002]) (fun hg=>lst3 (gd_of hg (I n.value)) rfl rfl) H (fun hg=>(zae n.value 0 1000002 (M.e_opt ae hg) _ (H.give (A:=[]) rfl)).mono fun v_ w_ ⟨y_,aa,ag,H_⟩=>by subst aa; exact ⟨ag,H.via H_⟩) ?_;intro ao H;refine s_val (x_pand (b:=r2) (r:=r3) rfl (fun hb=>gd_of (c:=r2) (by first | exact hb | (rw [hb]; rfl) | simp_all) (B r3)) rfl) ?_;refine kg 2 ?_;refine W.ret ?_
 have aa:=M.e_pure hM
 exact ⟨_,resE_tmp rfl,⟨(r2&&r3),aa,rfl,(H.pk [])⟩⟩

def zbz (k:Int) (aa:List Int):M Bool :=
  M.grd (decide ((0:Int)<=k)&&decide (k<(aa.length:Int))) <|
  M.pure ((aa.getD (Int.toNat k) 0) != (-1))
theorem zdZ {R:List Chunk} {ab:Nat} {ac:Cells} {ae:Value} (k:Int) (aa:List Int) (ah:Reads R ac) (ai:Sl ac ae aa) (aj:Has R (cBlk ab [ae] 26)) {r:Bool} (hM:(zbz k aa).Ends r) (w:World) (H:St w w [] R):Ret Try.prog 25 #[I k,Pq ab] w fun v w'=>∃ (y0:Bool),y0=r/\v=B y0/\St w w' [] R:=by
 refine ret_of_W Try.func25 rfl rfl rfl ?_;obtain ⟨am,hM⟩:=M.e_gd hM;refine kg 13 ?_;refine W.ret ?_
 have ag:=M.e_pure hM
 exact ⟨_,resE_tmp rfl,⟨((aa.getD (Int.toNat k) 0) != (-1)),ag,rfl,H⟩⟩

def zbb (l:List Note) (s2:Nat):Nat->M (Nat ⊕ (Unit ⊕ Unit)):=fun s =>
  bif decide ((s:Int)<((l.take s2).length:Int)) then (
  M.grd (decide ((s:Int)<((l.take s2).length:Int))) <|
  bif ((((((l.take s2).getD s default).work)==((l.getD s2 default).work))&&((((l.take s2).getD s default).version)==((l.getD s2 default).version)))&&(!(decide (((l.take s2).getD s default)=(l.getD s2 default))))) then (
  M.pure (.inr (.inl ())))
  else (
  M.pure (.inl (s+1))))
  else (
  M.pure (.inr (.inr ())))
def zaD (l:List Note):((Int->Option Note) × Nat)->M (((Int->Option Note) × Nat) ⊕ ((Int->Option Note) ⊕ (Int->Option Note))):=fun (mp,s2) =>
  bif decide ((s2:Int)<(l.length:Int)) then (
  M.grd (decide ((s2:Int)<(l.length:Int))) <|
  M.bind (M.iter (zbb l s2) 0) fun x_=>match x_ with
  | (.inl (_:Unit))=>(
  M.pure (.inr (.inl mp)))
  | (.inr (_:Unit))=>(
  bif ((!((mp ((l.getD s2 default).work:Int)).isSome))||(decide ((((mp ((l.getD s2 default).work:Int)).getD default).version)<((l.getD s2 default).version)))) then (
  M.pure (.inl (updF mp ((l.getD s2 default).work:Int) (l.getD s2 default),s2+1)))
  else (
  M.pure (.inl (mp,s2+1)))))
  else (
  M.pure (.inr (.inr mp)))
def za3 (w_:List Work) (r1:List Int) (s4:Nat) (l2:List Int):(Int × Nat)->M ((Int × Nat) ⊕ Int):=fun (sum,s3) =>
  bif decide ((s3:Int)<(((w_.getD (Int.toNat (r1.getD s4 0)) default).of).length:Int)) then (
  M.grd (decide ((s3:Int)<(((w_.getD (Int.toNat (r1.getD s4 0)) default).of).length:Int))) <|
  M.grd (decide ((0:Int)<=(((w_.getD (Int.toNat (r1.getD s4 0)) default).of).getD s3 0))&&decide ((((w_.getD (Int.toNat (r1.getD s4 0)) default).of).getD s3 0)<(l2.length:Int))) <|
  M.grd (decide ((-9223372036854775808:Int)<=(((s3:Int)+1)*(l2.getD (Int.toNat (((w_.getD (Int.toNat (r1.getD s4 0)) default).of).getD s3 0)) 0)))&&decide ((((s3:Int)+1)*(l2.getD (Int.toNat (((w_.getD (Int.toNat (r1.getD s4 0)) default).of).getD s3 0)) 0))<=(9223372036854775807:Int))) <|
  M.grd (decide ((-9223372036854775808:Int)<=(sum+(((s3:Int)+1)*(l2.getD (Int.toNat (((w_.getD (Int.toNat (r1.getD s4 0)) default).of).getD s3 0)) 0))))&&decide ((sum+(((s3:Int)+1)*(l2.getD (Int.toNat (((w_.getD (Int.toNat (r1.getD s4 0)) default).of).getD s3 0)) 0)))<=(9223372036854775807:Int))) <|
  M.pure (.inl (sum+(((s3:Int)+1)*(l2.getD (Int.toNat (((w_.getD (Int.toNat (r1.getD s4 0)) default).of).getD s3 0)) 0)),s3+1)))
  else (
  M.pure (.inr sum))
def zas (w_:List Work) (r1:List Int) (s4:Nat) (l2:List Int):M (((List Int) × Nat) ⊕ ((List Int) × (List Int))) :=
  M.grd (decide ((0:Int)<=(r1.getD s4 0))&&decide ((r1.getD s4 0)<(w_.length:Int))) <|
  M.bind (M.opt (!((((w_.getD (Int.toNat (r1.getD s4 0)) default).of).length:Int)==0)) (zam (fun aa=>zbz aa l2) ((w_.getD (Int.toNat (r1.getD s4 0)) default).of)) false) fun r5 =>
  bif (((((w_.getD (Int.toNat (r1.getD s4 0)) default).of).length:Int)==0)||(!r5)) then (
  M.pure (.inl (l2,s4+1)))
  else (
  M.bind (M.iter (za3 w_ r1 s4 l2) ((w_.getD (Int.toNat (r1.getD s4 0)) default).base,0)) fun sum2 =>
  M.grd (decide ((0:Int)<=sum2)&&decide ((0:Int)<1000003)) <|
  M.grd (decide ((0:Int)<=(r1.getD s4 0))&&decide ((r1.getD s4 0)<(l2.length:Int))) <|
  M.pure (.inl (l2.set (Int.toNat (r1.getD s4 0)) (sum2 % 1000003:Int),s4+1)))
def za7 (w_:List Work) (r1:List Int) (aa:Int->Option Note):((List Int) × Nat)->M (((List Int) × Nat) ⊕ ((List Int) × (List Int))):=fun (l3,s4) =>
  bif decide ((s4:Int)<(r1.length:Int)) then (
  M.grd (decide ((s4:Int)<(r1.length:Int))) <|
  bif (aa (r1.getD s4 0:Int)).isSome then (
  M.grd (decide ((0:Int)<=(r1.getD s4 0))&&decide ((r1.getD s4 0)<(l3.length:Int))) <|
  zas w_ r1 s4 (l3.set (Int.toNat (r1.getD s4 0)) (((aa (r1.getD s4 0:Int)).getD default).value:Int)))
  else (
  zas w_ r1 s4 l3))
  else (
  M.pure (.inr (l3,l3)))
def zaA (w_:List Work) (l:List Note):M ((List Int) × Int) :=
  M.bind (za6 w_) fun x_=>match x_ with
  | (.inl r2)=>(
  bif r2 != 0 then (
  M.pure (([]),r2))
  else (
  M.fail))
  | (.inr (r1,ab))=>(
  bif ab != 0 then (
  M.fail)
  else (
  bif decide (200<(l.length:Int)) then (
  M.pure (([]),3))
  else (
  M.bind (zbh (fun aa=>zbF aa w_) l) fun r3 =>
  bif !r3 then (
  M.pure (([]),2))
  else (
  M.bind (zbh (fun aa=>zbI aa) l) fun r4 =>
  bif !r4 then (
  M.pure (([]),4))
  else (
  M.bind (M.iter (zaD l) ((fun _=>none),0)) fun x_=>match x_ with
  | (.inl ae)=>(
  M.pure (([]),10))
  | (.inr ac)=>(
  M.grd (decide (1<=(w_.length:Int))&&decide ((w_.length:Int)<=1000)) <|
  M.bind (M.iter (za7 w_ r1 ac) (List.replicate (w_.length) (-1:Int),0)) fun (l4,l5) =>
  M.pure (l5,0)))))))
theorem zcG {R:List Chunk} {bj:Cells} {aa:Value} {bm:Cells} {am:Value} (w_:List Work) (l:List Note) (av:Reads R bj) (ap:Sl bj aa w_) (aO:Reads R bm) (aC:Sl bm am l) {r:((List Int) × Int)} (hM:(zaA w_ l).Ends r) (w:World) (H:St w w [] R):Ret Try.prog 7 #[aa,am] w fun v w'=>∃ (y0:List Int) (y1:Int) (u0:Value),(y0,y1)=r/\v = .tuple #[u0,I y1]/\St w w' [cOwn (α:=Int) 3 u0 y0] R:=by
 refine ret_of_W Try.func7 rfl rfl rfl ?_;refine kg 2 ?_;refine t_box (v:=aa) (cs:=[aa]) H rfl (Sl.cells ap) ?_;intro ab co H;refine kg 6 ?_;obtain ⟨cp,bK,hM⟩:=M.e_bind hM;refine s_call cf18 [aa] rfl (zc5 w_ (av.app _) ap bK _ (H.gt 1)) ?_
 rintro vq cq (⟨r2,bL,hvq,ai⟩ | ⟨r1,bM,aP,ac,bN,hvq,ai⟩)
 ·subst bL;subst vq;(try dsimp only at hM);replace H:=H.bk ai;clear ai;refine kg 16 ?_
  refine W.cond (r2 != 0) rfl (fun aE=>?_) (fun aE=>?_)
  ·replace hM:=M.e_t hM aE
   replace aE:=dI aE
   refine kg 6 ?_;refine W.ret ?_
   have ag:=M.e_pure hM
   replace H:=H.nilOwn (α:=Int) 3
   exact ⟨_,resE_tmp2 rfl,⟨([]),r2,(.slice none 0 0),ag,rfl,(H.pk [0])⟩⟩
  replace hM:=M.e_f hM aE
  exact (M.e_fail hM).elim
 subst bN;subst vq;(try dsimp only at hM);replace H:=H.bk ai;clear ai;refine kg 16 ?_
 refine W.cond (bM != 0) rfl (fun aF=>?_) (fun aF=>?_)
 ·replace hM:=M.e_t hM aF
  exact (M.e_fail hM).elim
 replace hM:=M.e_f hM aF
 replace aF:=dI aF
 have cr:=(aC).len_le
 refine kg 7 ?_
 refine W.cond (decide (200<(l.length:Int))) rfl (fun aw=>?_) (fun aw=>?_)
 ·replace hM:=M.e_t hM aw
  replace aw:=dI aw
  refine kg 5 ?_;replace H:=H.pk [];refine W.ret ?_
  have ag:=M.e_pure hM
  replace H:=H.nilOwn (α:=Int) 3
  exact ⟨_,resE_tmp2 rfl,⟨([]),3,(.slice none 0 0),ag,rfl,H⟩⟩
 replace hM:=M.e_f hM aw
 replace aw:=dI aw
 refine kg 2 ?_;refine s_val (x_mf (fs:=[]) (cs:=[Pq ab]) rfl rfl) ?_;refine kg 1 ?_;obtain ⟨ct,bO,hM⟩:=M.e_bind hM;refine s_call cf19 [.func (.func 20) #[] #[Pq ab],am] rfl (zcL (fun aj=>zbF aj w_) l ⟨20,[Pq ab],rfl,cf20,fun aq bn bp aG aj br aH bt aI aJ=>by obtain rfl:=Note_arg aI; exact (zdr aj w_ (Reads.app (av.app _) _) ap (Has.app (Has.here (k:=2) rfl) _) aJ aq (St.refl aH)).mono fun aG aq ⟨bu,aK,aL,aM⟩=>by subst aK; exact ⟨aL,aM⟩⟩ (aO.app _) aC bO _ (H.gt 3)) ?_
 rintro vq cu ⟨r3,rfl,hvq,ai⟩
 subst vq;(try dsimp only at hM);replace H:=H.bk ai;clear ai;refine kg 3 ?_
 refine W.cond (!r3) rfl (fun aV=>?_) (fun aV=>?_)
 ·replace hM:=M.e_t hM aV;refine kg 5 ?_;replace H:=H.pk [];refine W.ret ?_
  have ag:=M.e_pure hM
  replace H:=H.nilOwn (α:=Int) 3
  exact ⟨_,resE_tmp2 rfl,⟨([]),2,(.slice none 0 0),ag,rfl,H⟩⟩
 replace hM:=M.e_f hM aV;refine kg 3 ?_;obtain ⟨cv,bP,hM⟩:=M.e_bind hM;refine s_call cf19 [.func (.func 22) #[] #[],am] rfl (zcL (fun aj=>zbI aj) l ⟨22,[],rfl,cf22,fun aq bn bp aG aj br aH bt aI aJ=>by obtain rfl:=Note_arg aI; exact (zea aj aJ aq (St.refl aH)).mono fun aG aq ⟨bu,aK,aL,aM⟩=>by subst aK; exact ⟨aL,aM⟩⟩ (aO.app _) aC bP _ (H.gt 3)) ?_
 rintro vq cw ⟨r4,rfl,hvq,ai⟩
 subst vq;(try dsimp only at hM);replace H:=H.bk ai;clear ai;refine kg 3 ?_
 refine W.cond (!r4) rfl (fun aW=>?_) (fun aW=>?_)
 ·replace hM:=M.e_t hM aW;refine kg 5 ?_;replace H:=H.pk [];refine W.ret ?_
  have ag:=M.e_pure hM
  replace H:=H.nilOwn (α:=Int) 3
  exact ⟨_,resE_tmp2 rfl,⟨([]),4,(.slice none 0 0),ag,rfl,H⟩⟩
 replace hM:=M.e_f hM aW;refine kg 3 ?_;refine t_mkmap (κ:=Int) (ν:=Note) I encN H ?_;intro ae cx H
 have cy:=(aC).len_le
 refine kg 10 ?_;obtain ⟨bQ,aX,bv⟩:=M.e_bind hM
 obtain ⟨aY,aX⟩:=M.e_iter aX
 refine W.loop (fun m σ W=>∃ (mp:Int->Option Note) (s2:Nat) (ρ:Env),σ=upds ρ [(1,am),(2,Pq ab),(7,ac),(9,.map (some ae)),(48,am),(49,I (l.length:Int)),(50,I (s2:Int))]/\M.iterN (zaD l) m (mp,s2)=some bQ/\St w W [cMap I encN ae mp,cBlk aP [aa] 102,cOwn (α:=Int) 3 ac r1,cBlk ab [aa] 31] R) ?_ ?_
 ·exact ⟨_,(fun _=>none),0,_,upds_of _ _ ⟨rfl,rfl,rfl,rfl,rfl,rfl,rfl,trivial⟩,aX,H⟩
 rintro cz σ cA ⟨mp,s2,ρ,rfl,bw,H⟩
 obtain ⟨bx,bz,cB,hM,aQ⟩:=M.e_iterN bw
 simp only [zaD] at hM
 clear bw;refine kg 5 ?_
 refine W.cond (decide ((s2:Int)<(l.length:Int))) rfl (fun ax=>?_) (fun ax=>?_)
 ·replace hM:=M.e_t hM ax
  replace ax:=dI ax
  obtain ⟨cC,hM⟩:=M.e_gd hM;refine kg 7 ?_;refine s_val (x_ld (v:=.agg #[I ((l.getD s2 default).work),I ((l.getD s2 default).version),I ((l.getD s2 default).value)]) rfl (ld_ag Ag39 Sz39 (At.mono (Note_atA aC (i:=(s2:Int)) (by omega) (by omega)) (aO.at H)))) ?_;refine t_alloc (cs:=[I 0,I 0,I 0]) H Al39 rfl ?_;intro aZ cD H;refine kg 1 ?_;refine t_sw 0 0 [I ((l.getD s2 default).work),I ((l.getD s2 default).version),I ((l.getD s2 default).value)] (.agg #[I ((l.getD s2 default).work),I ((l.getD s2 default).version),I ((l.getD s2 default).value)]) H rfl rfl Sz39 rfl rfl rfl rfl ?_;intro cE H;refine kg 6 ?_
  obtain ⟨a4,bR,aR⟩:=sl_hi T32.und T32.size aC (j:=(s2:Int)) (by omega) (by omega)
  replace aR:Sl _ a4 (l.take s2):=aR
  refine s_val (x_sl (v:=am) (u:=a4) (lo':=none) (hi':=some (I (s2:Int))) (mx':=none) rfl rfl rfl rfl (bR _)) ?_
  have cF:=(aR).len_le
  refine kg 4 ?_;obtain ⟨bS,a5,bA⟩:=M.e_bind hM
  obtain ⟨aY,a5⟩:=M.e_iter a5
  refine W.loop (fun m σ W=>∃ (s:Nat) (ρ:Env),σ=upds ρ [(1,am),(2,Pq ab),(7,ac),(9,.map (some ae)),(11,Pq aZ),(48,am),(49,I (l.length:Int)),(50,I (s2:Int)),(57,a4),(58,I ((l.take s2).length:Int)),(59,I (s:Int))]/\M.iterN (zbb l s2) m s=some bS/\St w W [cBlk aZ [I ((l.getD s2 default).work),I ((l.getD s2 default).version),I ((l.getD s2 default).value)] 39,cMap I encN ae mp,cBlk aP [aa] 102,cOwn (α:=Int) 3 ac r1,cBlk ab [aa] 31] R) ?_ ?_
  ·exact ⟨_,0,_,upds_of _ _ ⟨rfl,rfl,rfl,rfl,rfl,rfl,rfl,rfl,rfl,rfl,rfl,trivial⟩,a5,H⟩
  rintro cG σ cH ⟨s,ρ,rfl,bB,H⟩
  obtain ⟨bT,bU,cI,hM,a6⟩:=M.e_iterN bB
  simp only [zbb] at hM
  clear bB;refine kg 5 ?_
  refine W.cond (decide ((s:Int)<((l.take s2).length:Int))) rfl (fun ay=>?_) (fun ay=>?_)
  ·replace hM:=M.e_t hM ay
   replace ay:=dI ay
   obtain ⟨cJ,hM⟩:=M.e_gd hM;refine kg 6 ?_;refine s_val (x_ld (v:=.agg #[I (((l.take s2).getD s default).work),I (((l.take s2).getD s default).version),I (((l.take s2).getD s default).value)]) rfl (ld_ag Ag39 Sz39 (At.mono (Note_atA aR (i:=(s:Int)) (by omega) (by omega)) (aO.at H)))) ?_;refine t_alloc (cs:=[I 0,I 0,I 0]) H Al39 rfl ?_;intro cK cL H;refine t_sw 0 0 [I (((l.take s2).getD s default).work),I (((l.take s2).getD s default).version),I (((l.take s2).getD s default).value)] (.agg #[I (((l.take s2).getD s default).work),I (((l.take s2).getD s default).version),I (((l.take s2).getD s default).value)]) H rfl rfl Sz39 rfl rfl rfl rfl ?_;intro cM H;refine kg 14 ?_;refine s_val (x_pand (b:=(((l.take s2).getD s default).work)==((l.getD s2 default).work)) (r:=(((l.take s2).getD s default).version)==((l.getD s2 default).version)) rfl (fun hb=>gd_of (c:=(((l.take s2).getD s default).work)==((l.getD s2 default).work)) (by first | exact hb | (rw [hb]; rfl) | simp_all) (B ((((l.take s2).getD s default).version)==((l.getD s2 default).version)))) rfl) ?_;refine kg 3 ?_;refine g_val (((((l.take s2).getD s default).work)==((l.getD s2 default).work))&&((((l.take s2).getD s default).version)==((l.getD s2 default).version))) (gy_t rfl) (fun hg=>x_neS (eqT39 ((l.take s2).getD s default) (l.getD s2 default) _) gdT39 (gd_of hg (.agg #[I (((l.take s2).getD s default).work),I (((l.take s2).getD s default).version),I (((l.take s2).getD s default).value)])) (gd_of hg (.agg #[I ((l.getD s2 default).work),I ((l.getD s2 default).version),I ((l.getD s2 default).value)])))<|s_val (x_pand (b:=(((((l.take s2).getD s default).work)==((l.getD s2 default).work))&&((((l.take s2).getD s default).version)==((l.getD s2 default).version)))) (r:=!(decide (((l.take s2).getD s default)=(l.getD s2 default)))) rfl (fun hb=>gd_of (c:=(((((l.take s2).getD s default).work)==((l.getD s2 default).work))&&((((l.take s2).getD s default).version)==((l.getD s2 default).version)))) (by first | exact hb | (rw [hb]; rfl) | simp_all) (B (!(decide (((l.take s2).getD s default)=(l.getD s2 default)))))) rfl)<|s_nil ?_
   refine W.cond ((((((l.take s2).getD s default).work)==((l.getD s2 default).work))&&((((l.take s2).getD s default).version)==((l.getD s2 default).version)))&&(!(decide (((l.take s2).getD s default)=(l.getD s2 default))))) rfl (fun a7=>?_) (fun a7=>?_)
   ·replace hM:=M.e_t hM a7;refine kg 5 ?_;refine W.ret ?_
    have bV:=M.e_inr hM a6
    subst bV;replace hM:=bA;(try dsimp only at hM)
    have bW:=M.e_inr hM aQ
    subst bW;replace hM:=bv;(try dsimp only at hM)
    have ag:=M.e_pure hM
    replace H:=H.nilOwn (α:=Int) 3
    exact ⟨_,resE_tmp2 rfl,⟨([]),10,(.slice none 0 0),ag,rfl,(H.pk [0])⟩⟩
   replace hM:=M.e_f hM a7;refine kg 5 ?_
   exact ⟨bT,bU,s+1,_,upds_of _ _ ⟨rfl,rfl,rfl,rfl,rfl,rfl,rfl,rfl,rfl,rfl,rfl,trivial⟩,M.e_inl hM a6,(H.pk [1,2,3,4,5])⟩
  replace hM:=M.e_f hM ay
  replace ay:=dI ay
  refine W.exit ?_
  have bX:=M.e_inr hM a6
  subst bX;replace hM:=bA;(try dsimp only at hM);refine kg 5 ?_;refine s_val (q_look (kenc:=I) (venc:=encN) (f:=mp) (k:=((l.getD s2 default).work:Int)) (v:=.tuple #[.agg #[I (((mp ((l.getD s2 default).work:Int)).getD default).work),I (((mp ((l.getD s2 default).work:Int)).getD default).version),I (((mp ((l.getD s2 default).work:Int)).getD default).value)],B ((mp ((l.getD s2 default).work:Int)).isSome)]) keyInt Try.underlying68 Al39 rfl rfl (H.get (k:=1) rfl) true (by rw [if_pos rfl,note_val])) ?_;refine kg 3 ?_;refine t_alloc (cs:=[I 0,I 0,I 0]) H Al39 rfl ?_;intro bY cN H;refine t_sw 0 0 [I (((mp ((l.getD s2 default).work:Int)).getD default).work),I (((mp ((l.getD s2 default).work:Int)).getD default).version),I (((mp ((l.getD s2 default).work:Int)).getD default).value)] (.agg #[I (((mp ((l.getD s2 default).work:Int)).getD default).work),I (((mp ((l.getD s2 default).work:Int)).getD default).version),I (((mp ((l.getD s2 default).work:Int)).getD default).value)]) H rfl rfl Sz39 rfl rfl rfl rfl ?_;intro cO H;refine kg 12 ?_;refine s_val (x_por (b:=!((mp ((l.getD s2 default).work:Int)).isSome)) (r:=decide ((((mp ((l.getD s2 default).work:Int)).getD default).version)<((l.getD s2 default).version))) rfl rfl (fun hb=>gd_of (c:=!(!((mp ((l.getD s2 default).work:Int)).isSome))) (by first | exact hb | (rw [hb]; rfl) | simp_all) (B (decide ((((mp ((l.getD s2 default).work:Int)).getD default).version)<((l.getD s2 default).version))))))<|s_nil ?_
  refine W.cond ((!((mp ((l.getD s2 default).work:Int)).isSome))||(decide ((((mp ((l.getD s2 default).work:Int)).getD default).version)<((l.getD s2 default).version)))) rfl (fun a8=>?_) (fun a8=>?_)
  ·replace hM:=M.e_t hM a8;refine kg 5 ?_;refine t_mapu (i:=2) (kenc:=I) (venc:=encN) (f:=mp) (k:=((l.getD s2 default).work:Int)) (v:=(l.getD s2 default)) (L':=[cBlk bY [I (((mp ((l.getD s2 default).work:Int)).getD default).work),I (((mp ((l.getD s2 default).work:Int)).getD default).version),I (((mp ((l.getD s2 default).work:Int)).getD default).value)] 39,cBlk aZ [I ((l.getD s2 default).work),I ((l.getD s2 default).version),I ((l.getD s2 default).value)] 39,cMap I encN ae (updF mp ((l.getD s2 default).work:Int) (l.getD s2 default)),cBlk aP [aa] 102,cOwn (α:=Int) 3 ac r1,cBlk ab [aa] 31]) keyInt Try.underlying68 H rfl rfl rfl rfl rfl ?_;intro cP H;refine kg 5 ?_
   exact ⟨bx,bz,updF mp ((l.getD s2 default).work:Int) (l.getD s2 default),s2+1,_,upds_of _ _ ⟨rfl,rfl,rfl,rfl,rfl,rfl,rfl,trivial⟩,M.e_inl hM aQ,(H.pk [2,3,4,5])⟩
  replace hM:=M.e_f hM a8;refine kg 5 ?_
  exact ⟨bx,bz,mp,s2+1,_,upds_of _ _ ⟨rfl,rfl,rfl,rfl,rfl,rfl,rfl,trivial⟩,M.e_inl hM aQ,(H.pk [2,3,4,5])⟩
 replace hM:=M.e_f hM ax
 replace ax:=dI ax
 refine W.exit ?_
 have bZ:=M.e_inr hM aQ
 subst bZ;replace hM:=bv;(try dsimp only at hM);refine kg 2 ?_;refine t_bs (α:=Int) T26 [I (-1)] [(-1:Int)] H rfl (.cons rfl (Flat.rep_enc _ (-1:Int))<|.nil) rfl rfl rfl ?_;intro bC cQ H
 have cR:=(ap).len_le
 obtain ⟨cS,hM⟩:=M.e_gd hM;refine kg 2 ?_;refine s_call cf23 [bC,I (w_.length:Int)] rfl (repeat_int _ ((H.os 0).mono (H.ol 0)) (by omega) (by omega)) ?_
 rintro aS b7 ⟨bD,aD⟩
 replace H:St w b7 [cOwn (α:=Int) 3 aS (List.replicate (w_.length) (-1:Int)),cOwn (α:=Int) 3 bC ([(-1:Int)]),cMap I encN ae mp,cBlk aP [aa] 102,cOwn (α:=Int) 3 ac r1,cBlk ab [aa] 31] R:=H.ownOf aD bD
 clear aD bD
 refine t_alloc (cs:=[.slice none 0 0]) H Al26 rfl ?_;intro ah cT H;refine t_sw 0 0 [aS] aS H rfl rfl Sz26 (Sl.cells (H.os 1)) rfl rfl (by simp only [List.all_cons,List.all_nil,Bool.true_and,Bool.and_true,Sl.oc (H.os 1)]; try rfl) ?_;intro cU H;refine s_nil ?_;replace H:=H.pk [0,1,3,5,6]
 have cV:=((H.os 3)).len_le
 refine kg 8 ?_;obtain ⟨b8,a9,b9⟩:=M.e_bind hM
 obtain ⟨aY,a9⟩:=M.e_iter a9
 refine W.loop (fun m σ W=>∃ (l3:List Int) (s4:Nat) (au:Value) (ρ:Env),σ=upds ρ [(2,Pq ab),(9,.map (some ae)),(16,Pq ah),(106,ac),(107,I (r1.length:Int)),(108,I (s4:Int))]/\M.iterN (za7 w_ r1 mp) m (l3,s4)=some b8/\St w W [cBlk ah [au] 26,cOwn (α:=Int) 3 au l3,cMap I encN ae mp,cOwn (α:=Int) 3 ac r1,cBlk ab [aa] 31] R) ?_ ?_
 ·exact ⟨_,List.replicate (w_.length) (-1:Int),0,aS,_,upds_of _ _ ⟨rfl,rfl,rfl,rfl,rfl,rfl,trivial⟩,a9,H⟩
 rintro cW σ cX ⟨l3,s4,au,ρ,rfl,bE,H⟩
 obtain ⟨bF,bG,ca,hM,ba⟩:=M.e_iterN bE
 simp only [za7] at hM
 clear bE;refine kg 5 ?_
 refine W.cond (decide ((s4:Int)<(r1.length:Int))) rfl (fun az=>?_) (fun az=>?_)
 ·replace hM:=M.e_t hM az
  replace az:=dI az
  obtain ⟨cY,hM⟩:=M.e_gd hM;refine kg 9 ?_;refine W.seqJ (fun σ W=>∃ (l2:List Int) (ao:Value) (ρ:Env),σ=upds ρ [(2,Pq ab),(9,.map (some ae)),(16,Pq ah),(18,I (r1.getD s4 0)),(106,ac),(107,I (r1.length:Int)),(108,I (s4:Int))]/\(zas w_ r1 s4 l2).Ends ca/\St w W [cBlk ah [ao] 26,cOwn (α:=Int) 3 ao l2,cMap I encN ae mp,cOwn (α:=Int) 3 ac r1,cBlk ab [aa] 31] R) ?_ ?_
  ·skip
   refine kg 4 ?_;refine s_val (q_look (kenc:=I) (venc:=encN) (f:=mp) (k:=(r1.getD s4 0:Int)) (v:=.tuple #[.agg #[I (((mp (r1.getD s4 0:Int)).getD default).work),I (((mp (r1.getD s4 0:Int)).getD default).version),I (((mp (r1.getD s4 0:Int)).getD default).value)],B ((mp (r1.getD s4 0:Int)).isSome)]) keyInt Try.underlying68 Al39 rfl rfl (H.get (k:=2) rfl) true (by rw [if_pos rfl,note_val])) ?_;refine kg 3 ?_;refine t_alloc (cs:=[I 0,I 0,I 0]) H Al39 rfl ?_;intro cb cZ H;refine t_sw 0 0 [I (((mp (r1.getD s4 0:Int)).getD default).work),I (((mp (r1.getD s4 0:Int)).getD default).version),I (((mp (r1.getD s4 0:Int)).getD default).value)] (.agg #[I (((mp (r1.getD s4 0:Int)).getD default).work),I (((mp (r1.getD s4 0:Int)).getD default).version),I (((mp (r1.getD s4 0:Int)).getD default).value)]) H rfl rfl Sz39 rfl rfl rfl rfl ?_;intro c6 H;refine kg 6 ?_
   refine W.cond ((mp (r1.getD s4 0:Int)).isSome) rfl (fun bb=>?_) (fun bb=>?_)
   ·replace hM:=M.e_t hM bb;obtain ⟨c7,hM⟩:=M.e_gd hM;refine kg 6 ?_;refine t_ost (k:=2) (i:=r1.getD s4 0) (l:=l3) (l':=l3.set (Int.toNat (r1.getD s4 0)) (((mp (r1.getD s4 0:Int)).getD default).value:Int)) (val:=I (((mp (r1.getD s4 0:Int)).getD default).value)) (L':=[cBlk cb [I (((mp (r1.getD s4 0:Int)).getD default).work),I (((mp (r1.getD s4 0:Int)).getD default).version),I (((mp (r1.getD s4 0:Int)).getD default).value)] 39,cBlk ah [au] 26,cOwn (α:=Int) 3 au (l3.set (Int.toNat (r1.getD s4 0)) (((mp (r1.getD s4 0:Int)).getD default).value:Int)),cMap I encN ae mp,cOwn (α:=Int) 3 ac r1,cBlk ab [aa] 31]) H rfl Sz3 (by omega) (by omega) (((mp (r1.getD s4 0:Int)).getD default).value:Int) rfl rfl rfl rfl rfl ?_;intro c8 H;refine s_nil ?_
    exact ⟨l3.set (Int.toNat (r1.getD s4 0)) (((mp (r1.getD s4 0:Int)).getD default).value:Int),au,_,upds_of _ _ ⟨rfl,rfl,rfl,rfl,rfl,rfl,rfl,trivial⟩,hM,(H.pk [1,2,3,4,5])⟩
   replace hM:=M.e_f hM bb;refine W.skip ?_
   exact ⟨l3,au,_,upds_of _ _ ⟨rfl,rfl,rfl,rfl,rfl,rfl,rfl,trivial⟩,hM,(H.pk [1,2,3,4,5])⟩
  rintro _ c9 ⟨l2,ao,ρ,rfl,hM,H⟩
  unfold zas at hM
  obtain ⟨da,hM⟩:=M.e_gd hM;refine kg 7 ?_
  obtain ⟨bH,cc,aT⟩:=Work_at0 ap (i:=r1.getD s4 0) (by omega) (by omega)
  replace aT:Sl _ bH (w_.getD (Int.toNat (r1.getD s4 0)) default).of:=aT
  have db:=aT.len_le
  refine s_val (x_ld (v:=bH) rfl (ld_sc Sc26 (At.mono (cc) (av.at H)))) ?_
  have dc:=(aT).len_le
  refine kg 3 ?_;refine g_val (!((((w_.getD (Int.toNat (r1.getD s4 0)) default).of).length:Int)==0)) (gy_f rfl) (fun hg=>x_mf (fs:=[]) (cs:=[Pq ah]) rfl rfl) ?_;refine kg 4 ?_
  obtain ⟨aN,cd,bc⟩:=gd_ex (c:=!((((w_.getD (Int.toNat (r1.getD s4 0)) default).of).length:Int)==0)) fun hg=>Work_at0 ap (i:=r1.getD s4 0) (by first | omega | (have aD:=hg; simp at aD; omega)) (by first | omega | (have aD:=hg; simp at aD; omega))
  replace bc:(!((((w_.getD (Int.toNat (r1.getD s4 0)) default).of).length:Int)==0))=true->Sl _ aN (w_.getD (Int.toNat (r1.getD s4 0)) default).of:=bc
  refine g_val (!((((w_.getD (Int.toNat (r1.getD s4 0)) default).of).length:Int)==0)) (gy_f rfl) (fun hg=>x_ld (v:=aN) (gd_of hg (fat (vat aa 3 (Int.toNat (r1.getD s4 0))) 0)) (ld_sc Sc26 (At.mono (cd hg) (av.at H)))) ?_;obtain ⟨r5,ce,hM⟩:=M.e_bind hM;refine t_gcall (!((((w_.getD (Int.toNat (r1.getD s4 0)) default).of).length:Int)==0)) (gy_f rfl) cf24 (B r5) (fun _=>[.func (.func 25) #[] #[Pq ah],aN]) (fun hg=>lst2 (gd_of hg (.func (.func 25) #[] #[Pq ah])) (gd_of hg (aN))) H (fun hg=>(zaR (fun aj=>zbz aj l2) ((w_.getD (Int.toNat (r1.getD s4 0)) default).of) ⟨25,[Pq ah],rfl,cf25,fun aq bn bp aG aj br aH bt aI aJ=>by obtain rfl:=Arg.int aI; exact (zdZ aj l2 (Reads.app (rdo 1) _) (H.os 1) (Has.app (Has.here (k:=0) rfl) _) aJ aq (St.refl aH)).mono fun aG aq ⟨bu,aK,aL,aM⟩=>by subst aK; exact ⟨aL,aM⟩⟩ (av.app _) (bc hg) (M.e_opt ce hg) _ (H.give (A:=[]) rfl)).mono fun v_ w_ ⟨y_,ag,cf,H_⟩=>by subst ag; exact ⟨cf,H.via H_⟩) ?_;intro dg H;refine kg 1 ?_;refine s_val (x_por (b:=(((w_.getD (Int.toNat (r1.getD s4 0)) default).of).length:Int)==0) (r:=!r5) rfl rfl (fun hb=>gd_of (c:=!((((w_.getD (Int.toNat (r1.getD s4 0)) default).of).length:Int)==0)) (by first | exact hb | (rw [hb]; rfl) | simp_all) (B (!r5))))<|s_nil ?_
  refine W.cond (((((w_.getD (Int.toNat (r1.getD s4 0)) default).of).length:Int)==0)||(!r5)) rfl (fun bg=>?_) (fun bg=>?_)
  ·replace hM:=M.e_t hM bg;refine W.exit ?_;refine kg 4 ?_
   exact ⟨bF,bG,l2,s4+1,ao,_,upds_of _ _ ⟨rfl,rfl,rfl,rfl,rfl,rfl,trivial⟩,M.e_inl hM ba,H⟩
  replace hM:=M.e_f hM bg;refine kg 7 ?_;refine s_val (x_ld (v:=I ((w_.getD (Int.toNat (r1.getD s4 0)) default).base)) rfl (ld_sc Sc3 (At.mono (Work_at1 ap (i:=r1.getD s4 0) (by omega) (by omega)) (av.at H)))) ?_;refine kg 9 ?_
  obtain ⟨bh,cg,aU⟩:=Work_at0 ap (i:=r1.getD s4 0) (by omega) (by omega)
  replace aU:Sl _ bh (w_.getD (Int.toNat (r1.getD s4 0)) default).of:=aU
  have dh:=aU.len_le
  refine s_val (x_ld (v:=bh) rfl (ld_sc Sc26 (At.mono (cg) (av.at H)))) ?_
  have di:=(aU).len_le
  refine kg 4 ?_;obtain ⟨ch,bi,ci⟩:=M.e_bind hM
  obtain ⟨aY,bi⟩:=M.e_iter bi
  refine W.loop (fun m σ W=>∃ (sum:Int) (s3:Nat) (ρ:Env),σ=upds ρ [(2,Pq ab),(9,.map (some ae)),(16,Pq ah),(18,I (r1.getD s4 0)),(21,I sum),(106,ac),(107,I (r1.length:Int)),(108,I (s4:Int)),(132,gd (!((((w_.getD (Int.toNat (r1.getD s4 0)) default).of).length:Int)==0)) (.func (.func 25) #[] #[Pq ah])),(133,gd (!((((w_.getD (Int.toNat (r1.getD s4 0)) default).of).length:Int)==0)) aa),(134,gd (!((((w_.getD (Int.toNat (r1.getD s4 0)) default).of).length:Int)==0)) (I (r1.getD s4 0))),(135,gd (!((((w_.getD (Int.toNat (r1.getD s4 0)) default).of).length:Int)==0)) (vat aa 3 (Int.toNat (r1.getD s4 0)))),(136,gd (!((((w_.getD (Int.toNat (r1.getD s4 0)) default).of).length:Int)==0)) (fat (vat aa 3 (Int.toNat (r1.getD s4 0))) 0)),(137,gd (!((((w_.getD (Int.toNat (r1.getD s4 0)) default).of).length:Int)==0)) aN),(138,gd (!((((w_.getD (Int.toNat (r1.getD s4 0)) default).of).length:Int)==0)) (B r5)),(139,gd (!((((w_.getD (Int.toNat (r1.getD s4 0)) default).of).length:Int)==0)) (B (!r5))),(150,bh),(151,I (((w_.getD (Int.toNat (r1.getD s4 0)) default).of).length:Int)),(152,I (s3:Int))]/\M.iterN (za3 w_ r1 s4 l2) m (sum,s3)=some ch/\St w W [cBlk ah [ao] 26,cOwn (α:=Int) 3 ao l2,cMap I encN ae mp,cOwn (α:=Int) 3 ac r1,cBlk ab [aa] 31] R) ?_ ?_
  ·exact ⟨_,(w_.getD (Int.toNat (r1.getD s4 0)) default).base,0,_,upds_of _ _ ⟨rfl,rfl,rfl,rfl,rfl,rfl,rfl,rfl,rfl,rfl,rfl,rfl,rfl,rfl,rfl,rfl,rfl,rfl,rfl,trivial⟩,bi,H⟩
  rintro dj σ dk ⟨sum,s3,ρ,rfl,bI,H⟩
  obtain ⟨cj,ck,dl,hM,bJ⟩:=M.e_iterN bI
  simp only [za3] at hM
  clear bI;refine kg 5 ?_
  refine W.cond (decide ((s3:Int)<(((w_.getD (Int.toNat (r1.getD s4 0)) default).of).length:Int))) rfl (fun aB=>?_) (fun aB=>?_)
  ·replace hM:=M.e_t hM aB
   replace aB:=dI aB
   obtain ⟨dm,hM⟩:=M.e_gd hM;obtain ⟨dp,hM⟩:=M.e_gd hM;obtain ⟨dq,hM⟩:=M.e_gd hM;obtain ⟨dr,hM⟩:=M.e_gd hM;refine kg 27 ?_
   exact ⟨cj,ck,sum+(((s3:Int)+1)*(l2.getD (Int.toNat (((w_.getD (Int.toNat (r1.getD s4 0)) default).of).getD s3 0)) 0)),s3+1,_,upds_of _ _ ⟨rfl,rfl,rfl,rfl,rfl,rfl,rfl,rfl,rfl,rfl,rfl,rfl,rfl,rfl,rfl,rfl,rfl,rfl,rfl,trivial⟩,M.e_inl hM bJ,H⟩
  replace hM:=M.e_f hM aB
  replace aB:=dI aB
  refine W.exit ?_
  have cm:=M.e_inr hM bJ
  subst cm;replace hM:=ci;(try dsimp only at hM);obtain ⟨dt,hM⟩:=M.e_gd hM;refine kg 4 ?_;refine s_val (x_rem' (a:=sum) (b:=1000003) rfl rfl (by omega)) ?_;obtain ⟨du,hM⟩:=M.e_gd hM;refine kg 1 ?_;refine t_ost (k:=1) (i:=r1.getD s4 0) (l:=l2) (l':=l2.set (Int.toNat (r1.getD s4 0)) (sum % 1000003:Int)) (val:=I (sum % 1000003)) (L':=[cBlk ah [ao] 26,cOwn (α:=Int) 3 ao (l2.set (Int.toNat (r1.getD s4 0)) (sum % 1000003:Int)),cMap I encN ae mp,cOwn (α:=Int) 3 ac r1,cBlk ab [aa] 31]) H rfl Sz3 (by omega) (by omega) (sum % 1000003:Int) rfl rfl rfl rfl rfl ?_;intro dv H;refine kg 5 ?_
  exact ⟨bF,bG,l2.set (Int.toNat (r1.getD s4 0)) (sum % 1000003:Int),s4+1,ao,_,upds_of _ _ ⟨rfl,rfl,rfl,rfl,rfl,rfl,trivial⟩,M.e_inl hM ba,H⟩
 replace hM:=M.e_f hM az
 replace az:=dI az
 refine W.exit ?_
 have cn:=M.e_inr hM ba
 subst cn;replace hM:=b9;(try dsimp only at hM);replace H:=H.pk [0,1];refine kg 6 ?_;refine W.ret ?_
 have ag:=M.e_pure hM
 exact ⟨_,resE_tmp2 rfl,⟨l3,0,au,ag,rfl,(H.pk [1])⟩⟩

def zcj (i:Int) (aa:List Work):M Bool :=
  M.bind (zac i 0 ((aa.length:Int)-1)) fun r2 =>
  M.pure r2
theorem zdP {R:List Chunk} {ab:Nat} {ac:Cells} {ae:Value} (i:Int) (aa:List Work) (am:Reads R ac) (ah:Sl ac ae aa) (ao:Has R (cBlk ab [ae] 31)) {r:Bool} (hM:(zcj i aa).Ends r) (w:World) (H:St w w [] R):Ret Try.prog 70 #[I i,Pq ab] w fun v w'=>∃ (y0:Bool),y0=r/\v=B y0/\St w w' [] R:=by
 refine ret_of_W Try.func70 rfl rfl rfl ?_
 have ap:=(ah).len_le
 refine kg 10 ?_;obtain ⟨aq,ai,hM⟩:=M.e_bind hM;refine s_call cf21 [I i,I 0,I ((aa.length:Int)-1)] rfl (zae i 0 ((aa.length:Int)-1) ai _ (H.gt 0)) ?_
 rintro vq au ⟨r2,rfl,hvq,ag⟩
 subst vq;(try dsimp only at hM);replace H:=H.bk ag;clear ag;refine kg 2 ?_;refine W.ret ?_
 have aj:=M.e_pure hM
 exact ⟨_,resE_tmp rfl,⟨r2,aj,rfl,H⟩⟩

def zbY (l:List Int):Nat->M (Nat ⊕ (Unit ⊕ Unit)):=fun i =>
  bif decide ((i:Int)<(l.length:Int)) then (
  M.grd (decide ((i:Int)<(l.length:Int))) <|
  M.grd (decide ((-9223372036854775808:Int)<=((i:Int)-1))&&decide (((i:Int)-1)<=(9223372036854775807:Int))) <|
  M.grd (decide ((0:Int)<=((i:Int)-1))&&decide (((i:Int)-1)<(l.length:Int))) <|
  bif decide ((l.getD i 0)<=(l.getD (Int.toNat ((i:Int)-1)) 0)) then (
  M.pure (.inr (.inl ())))
  else (
  M.pure (.inl (i+1))))
  else (
  M.pure (.inr (.inr ())))
def zcI (w_:List Work) (l:List Int):M Int :=
  M.bind (zam (fun aa=>zcj aa w_) l) fun r2 =>
  bif !r2 then (
  M.pure 2)
  else (
  M.bind (M.iter (zbY l) 1) fun x_=>match x_ with
  | (.inl (_:Unit))=>(
  M.pure 9)
  | (.inr (_:Unit))=>(
  M.pure 0))
theorem zcP {R:List Chunk} {ap:Cells} {ac:Value} {aq:Cells} {ah:Value} (w_:List Work) (l:List Int) (aC:Reads R ap) (au:Sl ap ac w_) (aD:Reads R aq) (av:Sl aq ah l) {r:Int} (hM:(zcI w_ l).Ends r) (w:World) (H:St w w [] R):Ret Try.prog 44 #[ac,ah] w fun v w'=>∃ (y0:Int),y0=r/\v=I y0/\St w w' [] R:=by
 refine ret_of_W Try.func44 rfl rfl rfl ?_;refine kg 2 ?_;refine t_box (v:=ac) (cs:=[ac]) H rfl (Sl.cells au) ?_;intro ae aR H;refine kg 5 ?_;refine s_val (x_mf (fs:=[]) (cs:=[Pq ae]) rfl rfl) ?_;refine kg 1 ?_;obtain ⟨aS,aE,hM⟩:=M.e_bind hM;refine s_call cf24 [.func (.func 70) #[] #[Pq ae],ah] rfl (zaR (fun ai=>zcj ai w_) l ⟨70,[Pq ae],rfl,cf70,fun aw aT aU aF ai aV aG aW aH aI=>by obtain rfl:=Arg.int aH; exact (zdP ai w_ (Reads.app (aC.app _) _) au (Has.app (Has.here (k:=0) rfl) _) aI aw (St.refl aG)).mono fun aF aw ⟨aX,aJ,aK,aL⟩=>by subst aJ; exact ⟨aK,aL⟩⟩ (aD.app _) av aE _ (H.gt 1)) ?_
 rintro vq aY ⟨r2,rfl,hvq,ax⟩
 subst vq;(try dsimp only at hM);replace H:=H.bk ax;clear ax;refine kg 2 ?_
 refine W.cond (!r2) rfl (fun aj=>?_) (fun aj=>?_)
 ·replace hM:=M.e_t hM aj;refine kg 4 ?_;refine W.ret ?_
  have ag:=M.e_pure hM
  exact ⟨_,resE_tmp rfl,⟨2,ag,rfl,(H.pk [])⟩⟩
 replace hM:=M.e_f hM aj;refine kg 7 ?_;obtain ⟨aM,am,ay⟩:=M.e_bind hM
 obtain ⟨aZ,am⟩:=M.e_iter am
 refine W.loop (fun m σ W=>∃ (i:Nat) (ρ:Env),σ=upds ρ [(1,ah),(5,I (i:Int))]/\M.iterN (zbY l) m i=some aM/\St w W [cBlk ae [ac] 31] R) ?_ ?_
 ·exact ⟨_,1,_,upds_of _ _ ⟨rfl,rfl,trivial⟩,am,H⟩
 rintro a4 σ a5 ⟨i,ρ,rfl,az,H⟩
 obtain ⟨aN,aO,a6,hM,ao⟩:=M.e_iterN az
 simp only [zbY] at hM
 clear az
 have a7:=(av).len_le
 refine kg 8 ?_
 refine W.cond (decide ((i:Int)<(l.length:Int))) rfl (fun aa=>?_) (fun aa=>?_)
 ·replace hM:=M.e_t hM aa
  replace aa:=dI aa
  refine kg 4 ?_;refine W.draw (fun W=>St w W [cBlk ae [ac] 31] R) [(0,true),(1,true),(2,true),(3,true),(4,true),(5,true),(6,true),(7,true),(8,true),(9,true)] mixed (by decide +kernel) rfl ?_;intro a8 aB;replace H:=H.ext aB;clear aB
  refine ⟨(H.pk [0]),?_⟩
  obtain ⟨a9,hM⟩:=M.e_gd hM;obtain ⟨ba,hM⟩:=M.e_gd hM;obtain ⟨bb,hM⟩:=M.e_gd hM;refine kg 11 ?_
  refine W.cond (decide ((l.getD i 0)<=(l.getD (Int.toNat ((i:Int)-1)) 0))) rfl (fun ab=>?_) (fun ab=>?_)
  ·replace hM:=M.e_t hM ab
   replace ab:=dI ab
   refine kg 4 ?_;refine W.ret ?_
   have aP:=M.e_inr hM ao
   subst aP;replace hM:=ay;(try dsimp only at hM)
   have ag:=M.e_pure hM
   exact ⟨_,resE_tmp rfl,⟨9,ag,rfl,(H.pk [])⟩⟩
  replace hM:=M.e_f hM ab
  replace ab:=dI ab
  refine kg 6 ?_
  exact ⟨aN,aO,i+1,_,upds_of _ _ ⟨rfl,rfl,trivial⟩,M.e_inl hM ao,H⟩
 replace hM:=M.e_f hM aa
 replace aa:=dI aa
 refine W.exit ?_
 have aQ:=M.e_inr hM ao
 subst aQ;replace hM:=ay;(try dsimp only at hM);refine kg 4 ?_;refine W.ret ?_
 have ag:=M.e_pure hM
 exact ⟨_,resE_tmp rfl,⟨0,ag,rfl,(H.pk [])⟩⟩

def zbL (k:Int) (k0:List Bool):M Bool :=
  M.grd (decide ((0:Int)<=k)&&decide (k<(30:Int))) <|
  M.pure (k0.getD (Int.toNat k) false)
theorem zdw {R:List Chunk} {aa:Nat} (k:Int) (k0:List Bool) (ab:k0.length=30) (ac:Has R (cBlk aa (encB k0) 73)) {r:Bool} (hM:(zbL k k0).Ends r) (w:World) (H:St w w [] R):Ret Try.prog 45 #[I k,Pq aa] w fun v w'=>∃ (y0:Bool),y0=r/\v=B y0/\St w w' [] R:=by
 refine ret_of_W Try.func45 rfl rfl rfl ?_;obtain ⟨ag,hM⟩:=M.e_gd hM;refine kg 7 ?_;refine s_val (x_ix (v:=.pointer (some ⟨aa,0+Int.toNat k,none⟩)) rfl rfl (run_indexArr Try.underlying73 Sz4 (by omega) (by omega)))<|s_val (x_ld (v:=B (k0.getD (Int.toNat k) false)) rfl (ldArr Sc4 (ac.blk H) (by omega) (by have ah:=ab; omega))) ?_;refine kg 2 ?_;refine W.ret ?_
 have ae:=M.e_pure hM
 exact ⟨_,resE_tmp rfl,⟨(k0.getD (Int.toNat k) false),ae,rfl,H⟩⟩

end Go.Proofs.Ytigidakpcepdkaa
end
section
set_option maxRecDepth 100000
set_option maxHeartbeats 16000000
namespace Go.Proofs.Ytigidakpcepdkaa
open Go Go.Nm
attribute [local irreducible] gd execOp SL SLD SLT WR
def zbV (w_:List Work) (revised r1:List Int):((List Bool) × Nat)->M (((List Bool) × Nat) ⊕ (List Bool)):=fun (ar,s) =>
  bif decide ((s:Int)<(r1.length:Int)) then (
  M.grd (decide ((s:Int)<(r1.length:Int))) <|
  M.bind (zaa revised (r1.getD s 0)) fun r4 =>
  M.grd ((!(!r4)||(decide ((0:Int)<=(r1.getD s 0))&&decide ((r1.getD s 0)<(w_.length:Int))))) <|
  M.bind (M.opt (!r4) (zba ((w_.getD (Int.toNat (r1.getD s 0)) default).of) (fun aa=>zbL aa ar)) false) fun r5 =>
  M.grd (decide ((0:Int)<=(r1.getD s 0))&&decide ((r1.getD s 0)<(30:Int))) <|
  M.pure (.inl (ar.set (Int.toNat (r1.getD s 0)) (r4||r5),s+1)))
  else (
  M.pure (.inr ar))
def zaB (w_:List Work) (revised:List Int):M (((List Bool) × Int) ⊕ ((List Int) × (List Bool) × Int)) :=
  M.bind (za6 w_) fun x_=>match x_ with
  | (.inl r2)=>(
  bif r2==0 then (
  M.fail)
  else (
  bif r2 != 0 then (
  M.pure (.inl ((List.replicate 30 false),r2)))
  else (
  M.fail)))
  | (.inr (r1,aa))=>(
  bif aa==0 then (
  M.bind (zcI w_ revised) fun r3 =>
  bif r3 != 0 then (
  M.pure (.inl ((List.replicate 30 false),r3)))
  else (
  M.bind (M.iter (zbV w_ revised r1) (List.replicate 30 false,0)) fun ab =>
  M.pure (.inr (r1,ab,0))))
  else (
  M.fail))
theorem za1 {R:List Chunk} {aI:Cells} {ab:Value} {aJ:Cells} {av:Value} (w_:List Work) (revised:List Int) (aB:Reads R aI) (aD:Sl aI ab w_) (aK:Reads R aJ) (aL:Sl aJ av revised) {r:(((List Bool) × Int) ⊕ ((List Int) × (List Bool) × Int))} (hM:(zaB w_ revised).Ends r) (w:World) (H:St w w [] R):Ret Try.prog 26 #[ab,av] w fun v w'=>(∃ (y0:List Bool) (y1:Int),(.inl (y0,y1))=r/\v = .tuple #[.pointer none,.slice none 0 0,.agg (encB y0).toArray,I y1]/\St w w' [] R/\y0.length=30)∨(∃ (y0:List Int) (y1:List Bool) (y2:Int) (aM:Nat) (u1:Value),(.inr (y0,y1,y2))=r/\v = .tuple #[Pq aM,u1,.agg (encB y1).toArray,I y2]/\St w w' [cBlk aM [ab] 102,cOwn (α:=Int) 3 u1 y0] R/\y1.length=30):=by
 refine ret_of_W Try.func26 rfl rfl rfl ?_;refine kg 4 ?_;refine t_alloc (cs:=encB (List.replicate 30 false)) H Al73 rfl ?_;intro ai bp H
 have aE:(List.replicate 30 false).length=30:=by simp
 refine kg 4 ?_;refine t_alloc (cs:=encB (List.replicate 30 false)) H Al73 rfl ?_;intro aa br H
 have aj:(List.replicate 30 false).length=30:=by simp
 refine kg 4 ?_;obtain ⟨bt,aQ,hM⟩:=M.e_bind hM;refine s_call cf18 [ab] rfl (zc5 w_ (aB.app _) aD aQ _ (H.gt 2)) ?_
 rintro vq bu (⟨r2,aR,hvq,ae⟩ | ⟨r1,aS,ah,ag,aT,hvq,ae⟩)
 ·subst aR;subst vq;(try dsimp only at hM);replace H:=H.bk ae;clear ae;refine kg 14 ?_
  refine W.cond (r2==0) rfl (fun aw=>?_) (fun aw=>?_)
  ·replace hM:=M.e_t hM aw
   exact (M.e_fail hM).elim
  replace hM:=M.e_f hM aw
  replace aw:=dI aw
  refine kg 7 ?_
  refine W.cond (r2 != 0) rfl (fun ax=>?_) (fun ax=>?_)
  ·replace hM:=M.e_t hM ax
   replace ax:=dI ax
   refine W.seq ?_;refine W.draw (fun W=>St w W [cBlk aa (encB (List.replicate 30 false)) 73] R) [(0,true),(1,true),(2,true),(3,true),(4,false),(5,true)] mixed (by decide +kernel) rfl ?_;intro bv ac;replace H:=H.ext ac;clear ac
   refine ⟨(H.pk [0]),?_⟩
   refine d_q rfl (fun w' H=>x_ld (v:=.agg (encB (List.replicate 30 false)).toArray) rfl (ldArrA Ag73 Sz73 aj (H.bl 0))) ?_;refine kg 3 ?_;refine d_l rfl ?_;refine t_stArrA (k:=1) (b:=ai) (l:=List.replicate 30 false) (l':=List.replicate 30 false) (L':=[cBlk aa (encB (List.replicate 30 false)) 73,cBlk ai (encB (List.replicate 30 false)) 73]) H rfl rfl rfl Sz73 aE aj rfl ?_;intro bw H
   refine s_nil ⟨(H.pk [0]),?_⟩
   refine kg 2 ?_;refine W.ret ?_
   have aU:=(H.bl 1)
   have am:=M.e_pure hM
   exact ⟨_,(resE_ofn (vs:=[.pointer none,.slice none 0 0,.agg (encB (List.replicate 30 false)).toArray,I r2]) rfl rfl (.tmp (v:=.pointer none) rfl<|.tmp (v:=.slice none 0 0) rfl<|.cell (v:=.agg (encB (List.replicate 30 false)).toArray) rfl (run_loadVar_arr Ag73 Sz73 aj aU)<|.tmp (v:=I r2) rfl<|.nil)),.inl (⟨(List.replicate 30 false),r2,am,rfl,(H.pk []),aj⟩)⟩
  replace hM:=M.e_f hM ax
  exact (M.e_fail hM).elim
 subst aT;subst vq;(try dsimp only at hM);replace H:=H.bk ae;clear ae;refine kg 14 ?_
 refine W.cond (aS==0) rfl (fun ay=>?_) (fun ay=>?_)
 ·replace hM:=M.e_t hM ay
  replace ay:=dI ay
  refine kg 3 ?_;obtain ⟨bx,aV,hM⟩:=M.e_bind hM;refine s_call cf44 [ab,av] rfl (zcP w_ revised (aB.app _) aD (aK.app _) aL aV _ (H.gt 4)) ?_
  rintro vq bz ⟨r3,rfl,hvq,ae⟩
  subst vq;(try dsimp only at hM);replace H:=H.bk ae;clear ae;refine kg 8 ?_
  refine W.cond (r3 != 0) rfl (fun ao=>?_) (fun ao=>?_)
  ·replace hM:=M.e_t hM ao
   replace ao:=dI ao
   refine W.seq ?_;refine W.draw (fun W=>St w W [cBlk ah [ab] 102,cOwn (α:=Int) 3 ag r1,cBlk aa (encB (List.replicate 30 false)) 73] R) [(0,true),(1,true),(2,true),(3,true),(4,false),(5,true)] mixed (by decide +kernel) rfl ?_;intro bA ac;replace H:=H.ext ac;clear ac
   refine ⟨(H.pk [0,1,2]),?_⟩
   refine d_q rfl (fun w' H=>x_ld (v:=.agg (encB (List.replicate 30 false)).toArray) rfl (ldArrA Ag73 Sz73 aj (H.bl 2))) ?_;refine kg 3 ?_;refine d_l rfl ?_;refine t_stArrA (k:=3) (b:=ai) (l:=List.replicate 30 false) (l':=List.replicate 30 false) (L':=[cBlk ah [ab] 102,cOwn (α:=Int) 3 ag r1,cBlk aa (encB (List.replicate 30 false)) 73,cBlk ai (encB (List.replicate 30 false)) 73]) H rfl rfl rfl Sz73 aE aj rfl ?_;intro bB H
   refine s_nil ⟨(H.pk [0,1,2]),?_⟩
   refine kg 2 ?_;replace H:=H.pk [3];refine W.ret ?_
   have aW:=(H.bl 0)
   have am:=M.e_pure hM
   exact ⟨_,(resE_ofn (vs:=[.pointer none,.slice none 0 0,.agg (encB (List.replicate 30 false)).toArray,I r3]) rfl rfl (.tmp (v:=.pointer none) rfl<|.tmp (v:=.slice none 0 0) rfl<|.cell (v:=.agg (encB (List.replicate 30 false)).toArray) rfl (run_loadVar_arr Ag73 Sz73 aj aW)<|.tmp (v:=I r3) rfl<|.nil)),.inl (⟨(List.replicate 30 false),r3,am,rfl,(H.pk []),aj⟩)⟩
  replace hM:=M.e_f hM ao
  replace ao:=dI ao
  have bC:=((H.os 1)).len_le
  refine kg 9 ?_;obtain ⟨aX,aF,aY⟩:=M.e_bind hM
  obtain ⟨bD,aF⟩:=M.e_iter aF
  refine W.loop (fun m σ W=>∃ (ar:List Bool) (s:Nat) (ρ:Env),σ=upds ρ [(0,ab),(1,av),(6,Pq ai),(8,Pq aa),(9,Pq ah),(10,ag),(29,ag),(30,I (r1.length:Int)),(31,I (s:Int))]/\M.iterN (zbV w_ revised r1) m (ar,s)=some aX/\St w W [cBlk ah [ab] 102,cOwn (α:=Int) 3 ag r1,cBlk aa (encB ar) 73,cBlk ai (encB (List.replicate 30 false)) 73] R/\ar.length=30) ?_ ?_
  ·exact ⟨_,List.replicate 30 false,0,_,upds_of _ _ ⟨rfl,rfl,rfl,rfl,rfl,rfl,rfl,rfl,rfl,trivial⟩,aF,H,aj⟩
  rintro bE σ bF ⟨ar,s,ρ,rfl,aN,H,ap⟩
  obtain ⟨aZ,a4,bG,hM,aO⟩:=M.e_iterN aN
  simp only [zbV] at hM
  clear aN;refine kg 5 ?_
  refine W.cond (decide ((s:Int)<(r1.length:Int))) rfl (fun aq=>?_) (fun aq=>?_)
  ·replace hM:=M.e_t hM aq
   replace aq:=dI aq
   obtain ⟨bH,hM⟩:=M.e_gd hM;refine kg 13 ?_;obtain ⟨bI,a5,hM⟩:=M.e_bind hM;refine s_call cf12 [av,I (r1.getD s 0)] rfl (zaj revised (r1.getD s 0) (aK.app _) aL a5 _ (H.gt 4)) ?_
   rintro vq bJ ⟨r4,rfl,hvq,ae⟩
   subst vq;(try dsimp only at hM);replace H:=H.bk ae;clear ae;obtain ⟨az,hM⟩:=M.e_grd hM
   replace az:=M.imp_of az
   simp only [Bool.and_eq_true,decide_eq_true_eq] at az
   refine kg 5 ?_
   obtain ⟨aC,a6,aG⟩:=gd_ex (c:=!r4) fun hg=>Work_at0 aD (i:=r1.getD s 0) (by have au:=az.resolve_left (by rw [hg]; decide); first | exact au | exact au.1 | exact au.2 | omega | (have ac:=hg; simp at ac; omega)) (by have au:=az.resolve_left (by rw [hg]; decide); first | exact au | exact au.1 | exact au.2 | omega | (have ac:=hg; simp at ac; omega))
   replace aG:(!r4)=true->Sl _ aC (w_.getD (Int.toNat (r1.getD s 0)) default).of:=aG
   refine g_val (!r4) (gy_f rfl) (fun hg=>x_ld (v:=aC) (gd_of hg (fat (vat ab 3 (Int.toNat (r1.getD s 0))) 0)) (ld_sc Sc26 (At.mono (a6 hg) (aB.at H))))<|g_val (!r4) (gy_f rfl) (fun hg=>x_mf (fs:=[]) (cs:=[Pq aa]) rfl rfl) ?_;obtain ⟨r5,a7,hM⟩:=M.e_bind hM;refine t_gcall (!r4) (gy_f rfl) cf42 (B r5) (fun _=>[aC,.func (.func 45) #[] #[Pq aa]]) (fun hg=>lst2 (gd_of hg (aC)) (gd_of hg (.func (.func 45) #[] #[Pq aa]))) H (fun hg=>(zco ((w_.getD (Int.toNat (r1.getD s 0)) default).of) (fun aH=>zbL aH ar) (aB.app _) (aG hg) ⟨45,[Pq aa],rfl,cf45,fun aP bK bL a8 aH bM a9 bN ba bb=>by obtain rfl:=Arg.int ba; exact (zdw aH ar ap (Has.app (Has.here (k:=2) rfl) _) bb aP (St.refl a9)).mono fun a8 aP ⟨bO,bc,bg,bh⟩=>by subst bc; exact ⟨bg,bh⟩⟩ (M.e_opt a7 hg) _ (H.give (A:=[]) rfl)).mono fun v_ w_ ⟨y_,am,bi,H_⟩=>by subst am; exact ⟨bi,H.via H_⟩) ?_;intro bP H;refine s_val (x_por (b:=r4) (r:=r5) rfl rfl (fun hb=>gd_of (c:=!r4) (by first | exact hb | (rw [hb]; rfl) | simp_all) (B r5))) ?_;obtain ⟨bQ,hM⟩:=M.e_gd hM;refine s_val (x_ix (v:=.pointer (some ⟨aa,0+Int.toNat (r1.getD s 0),none⟩)) rfl rfl (run_indexArr Try.underlying73 Sz4 (by omega) (by omega))) ?_;refine t_stArr (k:=2) (b:=aa) (l:=ar) (l':=ar.set (Int.toNat (r1.getD s 0)) (r4||r5)) (i:=r1.getD s 0) (v:=(r4||r5)) (L':=[cBlk ah [ab] 102,cOwn (α:=Int) 3 ag r1,cBlk aa (encB (ar.set (Int.toNat (r1.getD s 0)) (r4||r5))) 73,cBlk ai (encB (List.replicate 30 false)) 73]) H rfl rfl rfl Sz4 (by omega) (by have bR:=ap; omega) rfl rfl ?_;intro bS H
   have bj:(ar.set (Int.toNat (r1.getD s 0)) (r4||r5)).length=30:=List.length_set.trans ap
   refine kg 5 ?_
   exact ⟨aZ,a4,ar.set (Int.toNat (r1.getD s 0)) (r4||r5),s+1,_,upds_of _ _ ⟨rfl,rfl,rfl,rfl,rfl,rfl,rfl,rfl,rfl,trivial⟩,M.e_inl hM aO,H,bj⟩
  replace hM:=M.e_f hM aq
  replace aq:=dI aq
  refine W.exit ?_
  have bm:=M.e_inr hM aO
  subst bm;replace hM:=aY;(try dsimp only at hM);refine W.seq ?_;refine W.draw (fun W=>St w W [cBlk ah [ab] 102,cOwn (α:=Int) 3 ag r1,cBlk aa (encB ar) 73] R) [(0,true),(1,true),(2,true),(3,true),(4,true),(5,false),(6,true)] mixed (by decide +kernel) rfl ?_;intro bT ac;replace H:=H.ext ac;clear ac
  refine ⟨(H.pk [0,1,2]),?_⟩
  refine kg 2 ?_;refine d_q rfl (fun w' H=>x_ld (v:=.agg (encB ar).toArray) rfl (ldArrA Ag73 Sz73 ap (H.bl 2))) ?_;refine kg 2 ?_;refine d_l rfl ?_;refine t_stArrA (k:=3) (b:=ai) (l:=List.replicate 30 false) (l':=ar) (L':=[cBlk ah [ab] 102,cOwn (α:=Int) 3 ag r1,cBlk aa (encB ar) 73,cBlk ai (encB ar) 73]) H rfl rfl rfl Sz73 aE ap rfl ?_;intro bU H
  refine s_nil ⟨(H.pk [0,1,2]),?_⟩
  refine kg 2 ?_;refine W.ret ?_
  have bn:=(H.bl 3)
  have am:=M.e_pure hM
  exact ⟨_,(resE_ofn (vs:=[Pq ah,ag,.agg (encB ar).toArray,I 0]) rfl rfl (.tmp (v:=Pq ah) rfl<|.tmp (v:=ag) rfl<|.cell (v:=.agg (encB ar).toArray) rfl (run_loadVar_arr Ag73 Sz73 ap bn)<|.tmp (v:=I 0) rfl<|.nil)),.inr (⟨r1,ar,0,ah,ag,am,rfl,(H.pk [0,1]),ap⟩)⟩
 replace hM:=M.e_f hM ay
 exact (M.e_fail hM).elim

def zct (w_:List Work) (r2:List Bool) (r3:Int):(Nat × (List Int))->M ((Nat × (List Int)) ⊕ ((List Int) × (List Int))):=fun (s,l) =>
  bif decide ((s:Int)<(w_.length:Int)) then (
  M.grd ((!(r3==0)||(decide ((0:Int)<=(s:Int))&&decide ((s:Int)<(30:Int))))) <|
  bif ((r3==0)&&(r2.getD s false)) then (
  M.grd (decide ((l.length+([(s:Int)]).length)*8<=140737488355328)) <|
  M.pure (.inl (s+1,l++([(s:Int)]))))
  else (
  M.pure (.inl (s+1,l))))
  else (
  M.pure (.inr (l,l)))
def zbQ (w_:List Work) (ab:List Bool) (aa:Int):(Nat × (List Int))->M ((Nat × (List Int)) ⊕ ((List Int) × (List Int))):=fun (s,l) =>
  bif decide ((s:Int)<(w_.length:Int)) then (
  M.grd ((!(aa==0)||(decide ((0:Int)<=(s:Int))&&decide ((s:Int)<(30:Int))))) <|
  bif ((aa==0)&&(ab.getD s false)) then (
  M.grd (decide ((l.length+([(s:Int)]).length)*8<=140737488355328)) <|
  M.pure (.inl (s+1,l++([(s:Int)]))))
  else (
  M.pure (.inl (s+1,l))))
  else (
  M.pure (.inr (l,l)))
def zaK (w_:List Work) (revised:List Int):M ((List Int) × Int) :=
  M.bind (zaB w_ revised) fun x_=>match x_ with
  | (.inl (r2,r3))=>(
  M.bind (M.iter (zct w_ r2 r3) (0,[])) fun (l2,l3) =>
  M.pure (l3,r3))
  | (.inr (r1,ab,aa))=>(
  M.bind (M.iter (zbQ w_ ab aa) (0,[])) fun (l2,l3) =>
  M.pure (l3,aa))
theorem zcW {R:List Chunk} {aF:Cells} {aq:Value} {aG:Cells} {au:Value} (w_:List Work) (revised:List Int) (aN:Reads R aF) (av:Sl aF aq w_) (aO:Reads R aG) (aP:Sl aG au revised) {r:((List Int) × Int)} (hM:(zaK w_ revised).Ends r) (w:World) (H:St w w [] R):Ret Try.prog 9 #[aq,au] w fun v w'=>∃ (y0:List Int) (y1:Int) (u0:Value),(y0,y1)=r/\v = .tuple #[u0,I y1]/\St w w' [cOwn (α:=Int) 3 u0 y0] R:=by
 refine ret_of_W Try.func9 rfl rfl rfl ?_;refine kg 9 ?_;obtain ⟨bc,aQ,hM⟩:=M.e_bind hM;refine s_call cf26 [aq,au] rfl (za1 w_ revised (aN.app _) av (aO.app _) aP aQ _ (H.gt 0)) ?_
 rintro vq bg (⟨r2,r3,aR,hvq,ap,aS⟩ | ⟨r1,ag,ah,aT,aU,aV,hvq,ap,aW⟩)
 ·subst aR;subst vq;(try dsimp only at hM);replace H:=H.bk ap;clear ap;refine kg 5 ?_;refine t_alloc (cs:=encB (List.replicate 30 false)) H Al73 rfl ?_;intro ac bh H
  have aw:(List.replicate 30 false).length=30:=by simp
  refine kg 2 ?_;refine t_stArrA (k:=0) (b:=ac) (l:=List.replicate 30 false) (l':=r2) (L':=[cBlk ac (encB r2) 73]) H rfl rfl rfl Sz73 aw aS rfl ?_;intro bi H
  have bj:=(av).len_le
  refine kg 14 ?_
  replace H:=H.nilOwn (α:=Int) 3
  obtain ⟨aX,ax,aY⟩:=M.e_bind hM
  obtain ⟨aZ,ax⟩:=M.e_iter ax
  refine W.loop (fun m σ W=>∃ (s:Nat) (l:List Int) (ae:Value) (ρ:Env),σ=upds ρ [(8,Pq ac),(9,I r3),(10,ae),(21,I (w_.length:Int)),(22,I (s:Int))]/\M.iterN (zct w_ r2 r3) m (s,l)=some aX/\St w W [cOwn (α:=Int) 3 ae l,cBlk ac (encB r2) 73] R) ?_ ?_
  ·exact ⟨_,0,[],(.slice none 0 0),_,upds_of _ _ ⟨rfl,rfl,rfl,rfl,rfl,trivial⟩,ax,H⟩
  rintro bm σ bn ⟨s,l,ae,ρ,rfl,aH,H⟩
  obtain ⟨aI,aJ,bp,hM,ay⟩:=M.e_iterN aH
  simp only [zct] at hM
  clear aH;refine kg 5 ?_
  refine W.cond (decide ((s:Int)<(w_.length:Int))) rfl (fun ai=>?_) (fun ai=>?_)
  ·replace hM:=M.e_t hM ai
   replace ai:=dI ai
   obtain ⟨aj,hM⟩:=M.e_grd hM
   replace aj:=M.imp_of aj
   simp only [Bool.and_eq_true,decide_eq_true_eq] at aj
   refine kg 14 ?_;refine g_val (r3==0) (gy_t rfl) (fun hg=>x_ix (v:=.pointer (some ⟨ac,0+Int.toNat (s:Int),none⟩)) rfl (gd_of hg (I (s:Int))) (run_indexArr Try.underlying73 Sz4 (by have aa:=aj.resolve_left (by rw [hg]; decide); first | exact aa | exact aa.1 | exact aa.2 | omega | (have ab:=hg; simp at ab; omega)) (by have aa:=aj.resolve_left (by rw [hg]; decide); first | exact aa | exact aa.1 | exact aa.2 | omega | (have ab:=hg; simp at ab; omega))))<|g_val (r3==0) (gy_t rfl) (fun hg=>x_ld (v:=B (r2.getD s false)) (gd_of hg (.pointer (some ⟨ac,0+Int.toNat (s:Int),none⟩))) (ldArr Sc4 (H.bl 1) (by have aa:=aj.resolve_left (by rw [hg]; decide); first | exact aa | exact aa.1 | exact aa.2 | omega | (have ab:=hg; simp at ab; omega)) (by have aa:=aj.resolve_left (by rw [hg]; decide); first | exact aa | exact aa.1 | exact aa.2 | omega | (have ab:=hg; simp at ab; omega))))<|s_val (x_pand (b:=r3==0) (r:=r2.getD s false) rfl (fun hb=>gd_of (c:=r3==0) (by first | exact hb | (rw [hb]; rfl) | simp_all) (B (r2.getD s false))) rfl)<|s_nil ?_
   refine W.cond ((r3==0)&&(r2.getD s false)) rfl (fun az=>?_) (fun az=>?_)
   ·replace hM:=M.e_t hM az;refine kg 3 ?_;refine t_bs (α:=Int) T26 [I (s:Int)] [(s:Int)] H rfl (.cons rfl (Flat.rep_enc _ (s:Int))<|.nil) rfl rfl rfl ?_;intro a4 br H;obtain ⟨bt,hM⟩:=M.e_gd hM;refine t_app (α:=Int) (k:=1) (l:=l) (l2:=[(s:Int)]) (l':=l++([(s:Int)])) (vy:=a4) T26 rfl H rfl rfl rfl (H.os 0) (H.ol 0) (rfl) (by first | omega | (simp only [List.length_nil] at *; omega)) ?_;intro a5 bu H;replace H:=H.nf;refine kg 6 ?_
    exact ⟨aI,aJ,s+1,l++([(s:Int)]),a5,_,upds_of _ _ ⟨rfl,rfl,rfl,rfl,rfl,trivial⟩,M.e_inl hM ay,(H.pk [1,2])⟩
   replace hM:=M.e_f hM az;refine kg 5 ?_
   exact ⟨aI,aJ,s+1,l,ae,_,upds_of _ _ ⟨rfl,rfl,rfl,rfl,rfl,trivial⟩,M.e_inl hM ay,H⟩
  replace hM:=M.e_f hM ai
  replace ai:=dI ai
  refine W.exit ?_
  have a6:=M.e_inr hM ay
  subst a6;replace hM:=aY;(try dsimp only at hM);refine kg 7 ?_;refine W.ret ?_
  have aB:=M.e_pure hM
  exact ⟨_,resE_tmp2 rfl,⟨l,r3,ae,aB,rfl,(H.pk [0])⟩⟩
 subst aV;subst vq;(try dsimp only at hM);replace H:=H.bk ap;clear ap;refine kg 5 ?_;refine t_alloc (cs:=encB (List.replicate 30 false)) H Al73 rfl ?_;intro ac bv H
 have aw:(List.replicate 30 false).length=30:=by simp
 refine kg 2 ?_;refine t_stArrA (k:=0) (b:=ac) (l:=List.replicate 30 false) (l':=ag) (L':=[cBlk ac (encB ag) 73,cBlk aT [aq] 102,cOwn (α:=Int) 3 aU r1]) H rfl rfl rfl Sz73 aw aW rfl ?_;intro bw H;refine kg 2 ?_;replace H:=H.pk [0]
 have bx:=(av).len_le
 refine kg 12 ?_
 replace H:=H.nilOwn (α:=Int) 3
 obtain ⟨a7,aC,a8⟩:=M.e_bind hM
 obtain ⟨aZ,aC⟩:=M.e_iter aC
 refine W.loop (fun m σ W=>∃ (s:Nat) (l:List Int) (ae:Value) (ρ:Env),σ=upds ρ [(8,Pq ac),(9,I ah),(10,ae),(21,I (w_.length:Int)),(22,I (s:Int))]/\M.iterN (zbQ w_ ag ah) m (s,l)=some a7/\St w W [cOwn (α:=Int) 3 ae l,cBlk ac (encB ag) 73] R) ?_ ?_
 ·exact ⟨_,0,[],(.slice none 0 0),_,upds_of _ _ ⟨rfl,rfl,rfl,rfl,rfl,trivial⟩,aC,H⟩
 rintro bz σ bA ⟨s,l,ae,ρ,rfl,aK,H⟩
 obtain ⟨aL,aM,bB,hM,aD⟩:=M.e_iterN aK
 simp only [zbQ] at hM
 clear aK;refine kg 5 ?_
 refine W.cond (decide ((s:Int)<(w_.length:Int))) rfl (fun am=>?_) (fun am=>?_)
 ·replace hM:=M.e_t hM am
  replace am:=dI am
  obtain ⟨ao,hM⟩:=M.e_grd hM
  replace ao:=M.imp_of ao
  simp only [Bool.and_eq_true,decide_eq_true_eq] at ao
  refine kg 14 ?_;refine g_val (ah==0) (gy_t rfl) (fun hg=>x_ix (v:=.pointer (some ⟨ac,0+Int.toNat (s:Int),none⟩)) rfl (gd_of hg (I (s:Int))) (run_indexArr Try.underlying73 Sz4 (by have aa:=ao.resolve_left (by rw [hg]; decide); first | exact aa | exact aa.1 | exact aa.2 | omega | (have ab:=hg; simp at ab; omega)) (by have aa:=ao.resolve_left (by rw [hg]; decide); first | exact aa | exact aa.1 | exact aa.2 | omega | (have ab:=hg; simp at ab; omega))))<|g_val (ah==0) (gy_t rfl) (fun hg=>x_ld (v:=B (ag.getD s false)) (gd_of hg (.pointer (some ⟨ac,0+Int.toNat (s:Int),none⟩))) (ldArr Sc4 (H.bl 1) (by have aa:=ao.resolve_left (by rw [hg]; decide); first | exact aa | exact aa.1 | exact aa.2 | omega | (have ab:=hg; simp at ab; omega)) (by have aa:=ao.resolve_left (by rw [hg]; decide); first | exact aa | exact aa.1 | exact aa.2 | omega | (have ab:=hg; simp at ab; omega))))<|s_val (x_pand (b:=ah==0) (r:=ag.getD s false) rfl (fun hb=>gd_of (c:=ah==0) (by first | exact hb | (rw [hb]; rfl) | simp_all) (B (ag.getD s false))) rfl)<|s_nil ?_
  refine W.cond ((ah==0)&&(ag.getD s false)) rfl (fun aE=>?_) (fun aE=>?_)
  ·replace hM:=M.e_t hM aE;refine kg 3 ?_;refine t_bs (α:=Int) T26 [I (s:Int)] [(s:Int)] H rfl (.cons rfl (Flat.rep_enc _ (s:Int))<|.nil) rfl rfl rfl ?_;intro a9 bC H;obtain ⟨bD,hM⟩:=M.e_gd hM;refine t_app (α:=Int) (k:=1) (l:=l) (l2:=[(s:Int)]) (l':=l++([(s:Int)])) (vy:=a9) T26 rfl H rfl rfl rfl (H.os 0) (H.ol 0) (rfl) (by first | omega | (simp only [List.length_nil] at *; omega)) ?_;intro ba bE H;replace H:=H.nf;refine kg 6 ?_
   exact ⟨aL,aM,s+1,l++([(s:Int)]),ba,_,upds_of _ _ ⟨rfl,rfl,rfl,rfl,rfl,trivial⟩,M.e_inl hM aD,(H.pk [1,2])⟩
  replace hM:=M.e_f hM aE;refine kg 5 ?_
  exact ⟨aL,aM,s+1,l,ae,_,upds_of _ _ ⟨rfl,rfl,rfl,rfl,rfl,trivial⟩,M.e_inl hM aD,H⟩
 replace hM:=M.e_f hM am
 replace am:=dI am
 refine W.exit ?_
 have bb:=M.e_inr hM aD
 subst bb;replace hM:=a8;(try dsimp only at hM);refine kg 7 ?_;refine W.ret ?_
 have aB:=M.e_pure hM
 exact ⟨_,resE_tmp2 rfl,⟨l,ah,ae,aB,rfl,(H.pk [0])⟩⟩

def zbe (s:List Pub) (f:Pub->M Bool):Nat->M (Nat ⊕ (Int ⊕ Unit)):=fun s2 =>
  bif decide ((s2:Int)<(s.length:Int)) then (
  M.grd (decide ((s2:Int)<(s.length:Int))) <|
  M.bind (f (s.getD s2 default)) fun r2 =>
  bif r2 then (
  M.pure (.inr (.inl (s2:Int))))
  else (
  M.pure (.inl (s2+1))))
  else (
  M.pure (.inr (.inr ())))
def zcC (s:List Pub) (f:Pub->M Bool):M Int :=
  M.bind (M.iter (zbe s f) 0) fun x_=>match x_ with
  | (.inl s3)=>(
  M.pure s3)
  | (.inr (_:Unit))=>(
  M.pure (-1))
theorem zdo {R:List Chunk} {aj:Cells} {ab:Value} {ac:Value} (s:List Pub) (f:Pub->M Bool) (aq:Reads R aj) (am:Sl aj ab s) (au:FnM Try.prog R ac f) {r:Int} (hM:(zcC s f).Ends r) (w:World) (H:St w w [] R):Ret Try.prog 71 #[ab,ac] w fun v w'=>∃ (y0:Int),y0=r/\v=I y0/\St w w' [] R:=by
 refine ret_of_W Try.func71 rfl rfl rfl ?_
 have aC:=(am).len_le
 refine kg 12 ?_;obtain ⟨av,ae,ao⟩:=M.e_bind hM
 obtain ⟨aD,ae⟩:=M.e_iter ae
 refine W.loop (fun m σ W=>∃ (s2:Nat) (ρ:Env),σ=upds ρ [(0,ab),(1,ac),(7,I (s.length:Int)),(8,I (s2:Int))]/\M.iterN (zbe s f) m s2=some av/\St w W [] R) ?_ ?_
 ·exact ⟨_,0,_,upds_of _ _ ⟨rfl,rfl,rfl,rfl,trivial⟩,ae,H⟩
 rintro aE σ aF ⟨s2,ρ,rfl,ap,H⟩
 obtain ⟨aw,ax,aG,hM,ag⟩:=M.e_iterN ap
 simp only [zbe] at hM
 clear ap;refine kg 5 ?_
 refine W.cond (decide ((s2:Int)<(s.length:Int))) rfl (fun aa=>?_) (fun aa=>?_)
 ·replace hM:=M.e_t hM aa
  replace aa:=dI aa
  obtain ⟨aH,hM⟩:=M.e_gd hM;refine kg 14 ?_;refine s_val (x_ld (v:=.agg #[I ((s.getD s2 default).work),I ((s.getD s2 default).value)]) rfl (ld_ag Ag44 Sz44 (At.mono (Pub_atA am (i:=(s2:Int)) (by omega) (by omega)) (aq.at H)))) ?_;obtain ⟨r2,ay,hM⟩:=M.e_bind hM;refine t_callM H au rfl rfl (s.getD s2 default) Reads.none ⟨_,rfl,rfl⟩ ay ?_;intro aI H;refine s_nil ?_
  refine W.cond r2 rfl (fun ah=>?_) (fun ah=>?_)
  ·replace hM:=M.e_t hM ah;refine kg 5 ?_;refine W.ret ?_
   have az:=M.e_inr hM ag
   subst az;replace hM:=ao;(try dsimp only at hM)
   have ai:=M.e_pure hM
   exact ⟨_,resE_tmp rfl,⟨(s2:Int),ai,rfl,H⟩⟩
  replace hM:=M.e_f hM ah;refine kg 5 ?_
  exact ⟨aw,ax,s2+1,_,upds_of _ _ ⟨rfl,rfl,rfl,rfl,trivial⟩,M.e_inl hM ag,H⟩
 replace hM:=M.e_f hM aa
 replace aa:=dI aa
 refine W.exit ?_
 have aB:=M.e_inr hM ag
 subst aB;replace hM:=ao;(try dsimp only at hM);refine kg 4 ?_;refine W.ret ?_
 have ai:=M.e_pure hM
 exact ⟨_,resE_tmp rfl,⟨(-1),ai,rfl,H⟩⟩

def zcA (s:List Pub) (f:Pub->M Bool):M Bool :=
  M.bind (zcC s f) fun r2 =>
  M.pure (decide (0<=r2))
theorem zdQ {R:List Chunk} {ac:Cells} {aa:Value} {ab:Value} (s:List Pub) (f:Pub->M Bool) (ag:Reads R ac) (ah:Sl ac aa s) (ai:FnM Try.prog R ab f) {r:Bool} (hM:(zcA s f).Ends r) (w:World) (H:St w w [] R):Ret Try.prog 46 #[aa,ab] w fun v w'=>∃ (y0:Bool),y0=r/\v=B y0/\St w w' [] R:=by
 refine ret_of_W Try.func46 rfl rfl rfl ?_;refine kg 8 ?_;obtain ⟨ao,aj,hM⟩:=M.e_bind hM;refine s_call cf71 [aa,ab] rfl (zdo s f (ag.app _) ah (ai.app _) aj _ (H.gt 0)) ?_
 rintro vq ap ⟨r2,rfl,hvq,ae⟩
 subst vq;(try dsimp only at hM);replace H:=H.bk ae;clear ae;refine kg 3 ?_;refine W.ret ?_
 have am:=M.e_pure hM
 exact ⟨_,resE_tmp rfl,⟨(decide (0<=r2)),am,rfl,H⟩⟩

def zbS (x:Pub) (aa:Pub->M Bool):M Bool :=
  M.bind (aa x) fun r2 =>
  M.pure (!r2)
theorem zdY {R:List Chunk} {aa:Nat} {ab:Value} (x:Pub) (ac:Pub->M Bool) (ae:FnM Try.prog R ab ac) (ai:Has R (cBlk aa [ab] 77)) {r:Bool} (hM:(zbS x ac).Ends r) (w:World) (H:St w w [] R):Ret Try.prog 47 #[.agg #[I x.work,I x.value],Pq aa] w fun v w'=>∃ (y0:Bool),y0=r/\v=B y0/\St w w' [] R:=by
 refine ret_of_W Try.func47 rfl rfl rfl ?_;refine kg 2 ?_;refine t_bx [I x.work,I x.value] H rfl ?_;intro aj am H;refine kg 6 ?_;obtain ⟨r2,ag,hM⟩:=M.e_bind hM;refine t_callM H ae rfl rfl x Reads.none ⟨_,rfl,rfl⟩ ag ?_;intro ao H;refine kg 3 ?_;refine W.ret ?_
 have ah:=M.e_pure hM
 exact ⟨_,resE_tmp rfl,⟨(!r2),ah,rfl,(H.pk [])⟩⟩

def zbo (so:Pub->M Bool) (l:List Pub):M Bool :=
  M.bind (zcA l (fun aa=>zbS aa so)) fun r2 =>
  M.pure (!r2)
theorem zdI {R:List Chunk} {aa:Value} {ag:Cells} {ab:Value} (so:Pub->M Bool) (l:List Pub) (ah:FnM Try.prog R aa so) (am:Reads R ag) (ao:Sl ag ab l) {r:Bool} (hM:(zbo so l).Ends r) (w:World) (H:St w w [] R):Ret Try.prog 27 #[aa,ab] w fun v w'=>∃ (y0:Bool),y0=r/\v=B y0/\St w w' [] R:=by
 refine ret_of_W Try.func27 rfl rfl rfl ?_;refine kg 2 ?_;refine t_box (v:=aa) (cs:=[aa]) H rfl (FnM.cells ah) ?_;intro ac aC H;refine kg 5 ?_;refine s_val (x_mf (fs:=[]) (cs:=[Pq ac]) rfl rfl) ?_;obtain ⟨aD,ap,hM⟩:=M.e_bind hM;refine s_call cf46 [ab,.func (.func 47) #[] #[Pq ac]] rfl (zdQ l (fun ae=>zbS ae so) (am.app _) ao ⟨47,[Pq ac],rfl,cf47,fun ai aE aF aq ae aG au aH av aw=>by obtain rfl:=Pub_arg av; exact (zdY ae so (FnM.app (ah.app _) _) (Has.app (Has.here (k:=0) rfl) _) aw ai (St.refl au)).mono fun aq ai ⟨aI,ax,ay,az⟩=>by subst ax; exact ⟨ay,az⟩⟩ ap _ (H.gt 1)) ?_
 rintro vq aJ ⟨r2,rfl,hvq,aj⟩
 subst vq;(try dsimp only at hM);replace H:=H.bk aj;clear aj;refine kg 3 ?_;refine W.ret ?_
 have aB:=M.e_pure hM
 exact ⟨_,resE_tmp rfl,⟨(!r2),aB,rfl,(H.pk [])⟩⟩

def zbl (p:Pub) (aa:List Work):M Bool :=
  M.bind (zac p.work 0 ((aa.length:Int)-1)) fun r2 =>
  M.pure r2
theorem zd6 {R:List Chunk} {ab:Nat} {ac:Cells} {ae:Value} (p:Pub) (aa:List Work) (am:Reads R ac) (ah:Sl ac ae aa) (ao:Has R (cBlk ab [ae] 31)) {r:Bool} (hM:(zbl p aa).Ends r) (w:World) (H:St w w [] R):Ret Try.prog 28 #[.agg #[I p.work,I p.value],Pq ab] w fun v w'=>∃ (y0:Bool),y0=r/\v=B y0/\St w w' [] R:=by
 refine ret_of_W Try.func28 rfl rfl rfl ?_;refine kg 2 ?_;refine t_bx [I p.work,I p.value] H rfl ?_;intro ap aq H
 have au:=(ah).len_le
 refine kg 9 ?_;obtain ⟨av,ai,hM⟩:=M.e_bind hM;refine s_call cf21 [I p.work,I 0,I ((aa.length:Int)-1)] rfl (zae p.work 0 ((aa.length:Int)-1) ai _ (H.gt 1)) ?_
 rintro vq aw ⟨r2,rfl,hvq,ag⟩
 subst vq;(try dsimp only at hM);replace H:=H.bk ag;clear ag;refine kg 2 ?_;refine W.ret ?_
 have aj:=M.e_pure hM
 exact ⟨_,resE_tmp rfl,⟨r2,aj,rfl,(H.pk [])⟩⟩

def zaQ (published:List Pub) (r0:List Int):(Nat × (List Int))->M ((Nat × (List Int)) ⊕ ((List Int) × (List Int))):=fun (s,l2) =>
  bif decide ((s:Int)<(published.length:Int)) then (
  M.grd (decide ((s:Int)<(published.length:Int))) <|
  M.grd (decide ((0:Int)<=((published.getD s default).work))&&decide (((published.getD s default).work)<(r0.length:Int))) <|
  bif (((r0.getD (Int.toNat ((published.getD s default).work)) 0)==(-1))||((r0.getD (Int.toNat ((published.getD s default).work)) 0) != ((published.getD s default).value))) then (
  M.grd (decide ((l2.length+([(s:Int)]).length)*8<=140737488355328)) <|
  M.pure (.inl (s+1,l2++([(s:Int)]))))
  else (
  M.pure (.inl (s+1,l2))))
  else (
  M.pure (.inr (l2,l2)))
def zay (w_:List Work) (l:List Note) (published:List Pub):M ((List Int) × Int) :=
  M.bind (zaA w_ l) fun (r0,r1) =>
  bif r1 != 0 then (
  M.pure (([]),r1))
  else (
  bif decide (200<(published.length:Int)) then (
  M.pure (([]),3))
  else (
  M.bind (zbo (fun aa=>zbl aa w_) published) fun r2 =>
  bif !r2 then (
  M.pure (([]),2))
  else (
  M.bind (M.iter (zaQ published r0) (0,[])) fun (l3,l4) =>
  M.pure (l4,0))))
theorem zc8 {R:List Chunk} {aB:Cells} {aa:Value} {aC:Cells} {ap:Value} {aD:Cells} {am:Value} (w_:List Work) (l:List Note) (published:List Pub) (aE:Reads R aB) (aq:Sl aB aa w_) (aL:Reads R aC) (aM:Sl aC ap l) (aF:Reads R aD) (ao:Sl aD am published) {r:((List Int) × Int)} (hM:(zay w_ l published).Ends r) (w:World) (H:St w w [] R):Ret Try.prog 10 #[aa,ap,am] w fun v w'=>∃ (y0:List Int) (y1:Int) (u0:Value),(y0,y1)=r/\v = .tuple #[u0,I y1]/\St w w' [cOwn (α:=Int) 3 u0 y0] R:=by
 refine ret_of_W Try.func10 rfl rfl rfl ?_;refine kg 2 ?_;refine t_box (v:=aa) (cs:=[aa]) H rfl (Sl.cells aq) ?_;intro ai a6 H;refine kg 7 ?_;obtain ⟨a7,aN,hM⟩:=M.e_bind hM;refine s_call cf7 [aa,ap] rfl (zcG w_ l (aE.app _) aq (aL.app _) aM aN _ (H.gt 1)) ?_
 rintro vq a8 ⟨r0,r1,au,rfl,hvq,aj⟩
 subst vq;(try dsimp only at hM);replace H:=H.bk aj;clear aj;refine kg 14 ?_
 refine W.cond (r1 != 0) rfl (fun ab=>?_) (fun ab=>?_)
 ·replace hM:=M.e_t hM ab
  replace ab:=dI ab
  refine kg 6 ?_;replace H:=H.pk [];refine W.ret ?_
  have ac:=M.e_pure hM
  replace H:=H.nilOwn (α:=Int) 3
  exact ⟨_,resE_tmp2 rfl,⟨([]),r1,(.slice none 0 0),ac,rfl,H⟩⟩
 replace hM:=M.e_f hM ab
 replace ab:=dI ab
 have a9:=(ao).len_le
 refine kg 7 ?_
 refine W.cond (decide (200<(published.length:Int))) rfl (fun ae=>?_) (fun ae=>?_)
 ·replace hM:=M.e_t hM ae
  replace ae:=dI ae
  refine kg 5 ?_;replace H:=H.pk [];refine W.ret ?_
  have ac:=M.e_pure hM
  replace H:=H.nilOwn (α:=Int) 3
  exact ⟨_,resE_tmp2 rfl,⟨([]),3,(.slice none 0 0),ac,rfl,H⟩⟩
 replace hM:=M.e_f hM ae
 replace ae:=dI ae
 refine kg 2 ?_;refine s_val (x_mf (fs:=[]) (cs:=[Pq ai]) rfl rfl) ?_;refine kg 1 ?_;obtain ⟨ba,aO,hM⟩:=M.e_bind hM;refine s_call cf27 [.func (.func 28) #[] #[Pq ai],am] rfl (zdI (fun av=>zbl av w_) published ⟨28,[Pq ai],rfl,cf28,fun aG bb bc aP av bg aQ bh aR aS=>by obtain rfl:=Pub_arg aR; exact (zd6 av w_ (Reads.app (aE.app _) _) aq (Has.app (Has.here (k:=1) rfl) _) aS aG (St.refl aQ)).mono fun aP aG ⟨bi,aT,aU,aV⟩=>by subst aT; exact ⟨aU,aV⟩⟩ (aF.app _) ao aO _ (H.gt 2)) ?_
 rintro vq bj ⟨r2,rfl,hvq,aj⟩
 subst vq;(try dsimp only at hM);replace H:=H.bk aj;clear aj;refine kg 3 ?_
 refine W.cond (!r2) rfl (fun aw=>?_) (fun aw=>?_)
 ·replace hM:=M.e_t hM aw;refine kg 5 ?_;replace H:=H.pk [];refine W.ret ?_
  have ac:=M.e_pure hM
  replace H:=H.nilOwn (α:=Int) 3
  exact ⟨_,resE_tmp2 rfl,⟨([]),2,(.slice none 0 0),ac,rfl,H⟩⟩
 replace hM:=M.e_f hM aw
 have bm:=(ao).len_le
 refine kg 13 ?_
 replace H:=H.nilOwn (α:=Int) 3
 obtain ⟨aW,ax,aX⟩:=M.e_bind hM
 obtain ⟨bn,ax⟩:=M.e_iter ax
 refine W.loop (fun m σ W=>∃ (s:Nat) (l2:List Int) (ah:Value) (ρ:Env),σ=upds ρ [(8,au),(10,ah),(32,am),(33,I (published.length:Int)),(34,I (s:Int))]/\M.iterN (zaQ published r0) m (s,l2)=some aW/\St w W [cOwn (α:=Int) 3 ah l2,cOwn (α:=Int) 3 au r0,cBlk ai [aa] 31] R) ?_ ?_
 ·exact ⟨_,0,[],(.slice none 0 0),_,upds_of _ _ ⟨rfl,rfl,rfl,rfl,rfl,trivial⟩,ax,H⟩
 rintro bp σ br ⟨s,l2,ah,ρ,rfl,aH,H⟩
 obtain ⟨aI,aJ,bt,hM,ay⟩:=M.e_iterN aH
 simp only [zaQ] at hM
 clear aH;refine kg 5 ?_
 refine W.cond (decide ((s:Int)<(published.length:Int))) rfl (fun ag=>?_) (fun ag=>?_)
 ·replace hM:=M.e_t hM ag
  replace ag:=dI ag
  obtain ⟨bu,hM⟩:=M.e_gd hM;refine kg 7 ?_;refine s_val (x_ld (v:=.agg #[I ((published.getD s default).work),I ((published.getD s default).value)]) rfl (ld_ag Ag44 Sz44 (At.mono (Pub_atA ao (i:=(s:Int)) (by omega) (by omega)) (aF.at H)))) ?_;refine t_alloc (cs:=[I 0,I 0]) H Al44 rfl ?_;intro aY bv H;refine kg 1 ?_;refine t_sw 0 0 [I ((published.getD s default).work),I ((published.getD s default).value)] (.agg #[I ((published.getD s default).work),I ((published.getD s default).value)]) H rfl rfl Sz44 rfl rfl rfl rfl ?_;intro bw H;refine kg 2 ?_;refine W.draw (fun W=>St w W [cBlk aY [I ((published.getD s default).work),I ((published.getD s default).value)] 44,cOwn (α:=Int) 3 ah l2,cOwn (α:=Int) 3 au r0,cBlk ai [aa] 31] R) [(0,true),(1,true),(2,true),(3,true),(4,true),(5,true),(6,true),(7,true),(8,true),(9,true),(10,true),(11,true),(12,true),(13,true),(14,true),(15,true)] mixed (by decide +kernel) rfl ?_;intro bx aK;replace H:=H.ext aK;clear aK
  refine ⟨(H.pk [0,1,2,3]),?_⟩
  obtain ⟨bz,hM⟩:=M.e_gd hM;refine kg 15 ?_;refine d_q rfl (fun w' H=>x_por (b:=(r0.getD (Int.toNat ((published.getD s default).work)) 0)==(-1)) (r:=(r0.getD (Int.toNat ((published.getD s default).work)) 0) != ((published.getD s default).value)) rfl rfl (fun hb=>gd_of (c:=!((r0.getD (Int.toNat ((published.getD s default).work)) 0)==(-1))) (by first | exact hb | (rw [hb]; rfl) | simp_all) (B ((r0.getD (Int.toNat ((published.getD s default).work)) 0) != ((published.getD s default).value))))) ?_;refine d_nil ?_
  refine W.cond (((r0.getD (Int.toNat ((published.getD s default).work)) 0)==(-1))||((r0.getD (Int.toNat ((published.getD s default).work)) 0) != ((published.getD s default).value))) rfl (fun az=>?_) (fun az=>?_)
  ·replace hM:=M.e_t hM az;refine kg 3 ?_;refine t_bs (α:=Int) T26 [I (s:Int)] [(s:Int)] H rfl (.cons rfl (Flat.rep_enc _ (s:Int))<|.nil) rfl rfl rfl ?_;intro aZ bA H;obtain ⟨bB,hM⟩:=M.e_gd hM;refine t_app (α:=Int) (k:=2) (l:=l2) (l2:=[(s:Int)]) (l':=l2++([(s:Int)])) (vy:=aZ) T26 rfl H rfl rfl rfl (H.os 0) (H.ol 0) (rfl) (by first | omega | (simp only [List.length_nil] at *; omega)) ?_;intro a4 bC H;replace H:=H.nf;refine kg 6 ?_
   exact ⟨aI,aJ,s+1,l2++([(s:Int)]),a4,_,upds_of _ _ ⟨rfl,rfl,rfl,rfl,rfl,trivial⟩,M.e_inl hM ay,(H.pk [2,3,4])⟩
  replace hM:=M.e_f hM az;refine kg 5 ?_
  exact ⟨aI,aJ,s+1,l2,ah,_,upds_of _ _ ⟨rfl,rfl,rfl,rfl,rfl,trivial⟩,M.e_inl hM ay,(H.pk [1,2,3])⟩
 replace hM:=M.e_f hM ag
 replace ag:=dI ag
 refine W.exit ?_
 have a5:=M.e_inr hM ay
 subst a5;replace hM:=aX;(try dsimp only at hM);replace H:=H.pk [0];refine kg 6 ?_;refine W.ret ?_
 have ac:=M.e_pure hM
 exact ⟨_,resE_tmp2 rfl,⟨l2,0,ah,ac,rfl,H⟩⟩

def za2 (a b:List Int):Nat->M (Nat ⊕ (Unit ⊕ Unit)):=fun i =>
  bif decide ((i:Int)<(a.length:Int)) then (
  M.grd (decide ((i:Int)<(a.length:Int))) <|
  M.grd (decide ((i:Int)<(b.length:Int))) <|
  bif (a.getD i 0) != (b.getD i 0) then (
  M.pure (.inr (.inl ())))
  else (
  M.pure (.inl (i+1))))
  else (
  M.pure (.inr (.inr ())))
def zaf (a b:List Int):M Bool :=
  bif (a.length:Int) != (b.length:Int) then (
  M.pure false)
  else (
  M.bind (M.iter (za2 a b) 0) fun x_=>match x_ with
  | (.inl (_:Unit))=>(
  M.pure false)
  | (.inr (_:Unit))=>(
  M.pure true))
theorem zau {R:List Chunk} {am:Cells} {ag:Value} {ao:Cells} {ah:Value} (a:List Int) (b:List Int) (aD:Reads R am) (ap:Sl am ag a) (aE:Reads R ao) (aw:Sl ao ah b) {r:Bool} (hM:(zaf a b).Ends r) (w:World) (H:St w w [] R):Ret Try.prog 11 #[ag,ah] w fun v w'=>∃ (y0:Bool),y0=r/\v=B y0/\St w w' [] R:=by
 refine ret_of_W Try.func11 rfl rfl rfl ?_
 have aF:=(ap).len_le
 have aG:=(aw).len_le
 refine kg 13 ?_
 refine W.cond ((a.length:Int) != (b.length:Int)) rfl (fun aa=>?_) (fun aa=>?_)
 ·replace hM:=M.e_t hM aa
  replace aa:=dI aa
  refine kg 4 ?_;refine W.ret ?_
  have ae:=M.e_pure hM
  exact ⟨_,resE_tmp rfl,⟨false,ae,rfl,H⟩⟩
 replace hM:=M.e_f hM aa
 replace aa:=dI aa
 refine kg 7 ?_;obtain ⟨ax,ai,aq⟩:=M.e_bind hM
 obtain ⟨aH,ai⟩:=M.e_iter ai
 refine W.loop (fun m σ W=>∃ (i:Nat) (ρ:Env),σ=upds ρ [(0,ag),(1,ah),(5,I (i:Int))]/\M.iterN (za2 a b) m i=some ax/\St w W [] R) ?_ ?_
 ·exact ⟨_,0,_,upds_of _ _ ⟨rfl,rfl,rfl,trivial⟩,ai,H⟩
 rintro aI σ aJ ⟨i,ρ,rfl,au,H⟩
 obtain ⟨ay,az,aK,hM,aj⟩:=M.e_iterN au
 simp only [za2] at hM
 clear au
 have aL:=(ap).len_le
 refine kg 8 ?_
 refine W.cond (decide ((i:Int)<(a.length:Int))) rfl (fun ab=>?_) (fun ab=>?_)
 ·replace hM:=M.e_t hM ab
  replace ab:=dI ab
  refine kg 4 ?_;refine W.draw (fun W=>St w W [] R) [(0,true),(1,true),(2,true),(3,true),(4,true),(5,true),(6,true),(7,true),(8,true)] mixed (by decide +kernel) rfl ?_;intro aM av;replace H:=H.ext av;clear av
  refine ⟨(H.pk []),?_⟩
  obtain ⟨aN,hM⟩:=M.e_gd hM;obtain ⟨aO,hM⟩:=M.e_gd hM;refine kg 10 ?_
  refine W.cond ((a.getD i 0) != (b.getD i 0)) rfl (fun ac=>?_) (fun ac=>?_)
  ·replace hM:=M.e_t hM ac
   replace ac:=dI ac
   refine kg 4 ?_;refine W.ret ?_
   have aB:=M.e_inr hM aj
   subst aB;replace hM:=aq;(try dsimp only at hM)
   have ae:=M.e_pure hM
   exact ⟨_,resE_tmp rfl,⟨false,ae,rfl,H⟩⟩
  replace hM:=M.e_f hM ac
  replace ac:=dI ac
  refine kg 6 ?_
  exact ⟨ay,az,i+1,_,upds_of _ _ ⟨rfl,rfl,rfl,trivial⟩,M.e_inl hM aj,H⟩
 replace hM:=M.e_f hM ab
 replace ab:=dI ab
 refine W.exit ?_
 have aC:=M.e_inr hM aj
 subst aC;replace hM:=aq;(try dsimp only at hM);refine kg 4 ?_;refine W.ret ?_
 have ae:=M.e_pure hM
 exact ⟨_,resE_tmp rfl,⟨true,ae,rfl,H⟩⟩

end Go.Proofs.Ytigidakpcepdkaa
end
section
set_option maxRecDepth 100000
set_option maxHeartbeats 16000000
namespace Go.Proofs.Ytigidakpcepdkaa
open Go Go.Nm
attribute [local irreducible] gd execOp SL SLD SLT WR
def zad  : M (List Work) :=
  M.pure ([(⟨([]),(1:Int),(5:Int)⟩:Work),(⟨([]),(1:Int),(6:Int)⟩:Work),(⟨([(0:Int),(1:Int)]),(1:Int),(10:Int)⟩:Work),(⟨([(1:Int)]),(1:Int),(30:Int)⟩:Work),(⟨([(2:Int),(3:Int)]),(1:Int),(20:Int)⟩:Work),(⟨([(4:Int)]),(1:Int),(1:Int)⟩:Work)])
theorem zag {R:List Chunk}    {r:(List Work)} (hM:(zad).Ends r) (w:World) (H:St w w [] R):Ret Try.prog 31 #[] w fun v w'=>∃ (y0:List Work) (u0:Value) (rr1:List (Raw 2)) (ax:Base),y0=r/\v=u0/\St w w' [cOwn (α:=Raw 2) 37 u0 rr1,cRo ax] R/\RepR (α:=Work) ax.cells rr1 y0:=by
 refine ret_of_W Try.func31 rfl rfl rfl ?_;refine kg 6 ?_;refine s_val (x_bld (ps:=[(1,I 1),(2,I 5)]) (zs:=[.slice none 0 0,I 0,I 0]) (L':=[.slice none 0 0,I 1,I 5]) rfl Try.underlying37 Al37 rfl (Bd37 Try.underlying37) (.cons (cs:=[I 1]) rfl rfl rfl rfl rfl<|.cons (cs:=[I 5]) rfl rfl rfl rfl rfl<|.nil))<|s_val (x_bld (ps:=[(1,I 1),(2,I 6)]) (zs:=[.slice none 0 0,I 0,I 0]) (L':=[.slice none 0 0,I 1,I 6]) rfl Try.underlying37 Al37 rfl (Bd37 Try.underlying37) (.cons (cs:=[I 1]) rfl rfl rfl rfl rfl<|.cons (cs:=[I 6]) rfl rfl rfl rfl rfl<|.nil)) ?_;refine t_bs (α:=Int) T26 [I 0,I 1] [(0:Int),(1:Int)] H rfl (.cons rfl (Flat.rep_enc _ (0:Int))<|.cons rfl (Flat.rep_enc _ (1:Int))<|.nil) rfl rfl rfl ?_;intro ac aT H;refine s_val (x_bld (ps:=[(0,ac),(1,I 1),(2,I 10)]) (zs:=[.slice none 0 0,I 0,I 0]) (L':=[ac,I 1,I 10]) rfl Try.underlying37 Al37 rfl (Bd37 Try.underlying37) (.cons (cs:=[ac]) (Sl.cells (H.os 0)) rfl rfl rfl rfl<|.cons (cs:=[I 1]) rfl rfl rfl rfl rfl<|.cons (cs:=[I 10]) rfl rfl rfl rfl rfl<|.nil)) ?_;refine t_bs (α:=Int) T26 [I 1] [(1:Int)] H rfl (.cons rfl (Flat.rep_enc _ (1:Int))<|.nil) rfl rfl rfl ?_;intro ae aU H;refine s_val (x_bld (ps:=[(0,ae),(1,I 1),(2,I 30)]) (zs:=[.slice none 0 0,I 0,I 0]) (L':=[ae,I 1,I 30]) rfl Try.underlying37 Al37 rfl (Bd37 Try.underlying37) (.cons (cs:=[ae]) (Sl.cells (H.os 0)) rfl rfl rfl rfl<|.cons (cs:=[I 1]) rfl rfl rfl rfl rfl<|.cons (cs:=[I 30]) rfl rfl rfl rfl rfl<|.nil)) ?_;refine t_bs (α:=Int) T26 [I 2,I 3] [(2:Int),(3:Int)] H rfl (.cons rfl (Flat.rep_enc _ (2:Int))<|.cons rfl (Flat.rep_enc _ (3:Int))<|.nil) rfl rfl rfl ?_;intro ag aV H;refine s_val (x_bld (ps:=[(0,ag),(1,I 1),(2,I 20)]) (zs:=[.slice none 0 0,I 0,I 0]) (L':=[ag,I 1,I 20]) rfl Try.underlying37 Al37 rfl (Bd37 Try.underlying37) (.cons (cs:=[ag]) (Sl.cells (H.os 0)) rfl rfl rfl rfl<|.cons (cs:=[I 1]) rfl rfl rfl rfl rfl<|.cons (cs:=[I 20]) rfl rfl rfl rfl rfl<|.nil)) ?_;refine t_bs (α:=Int) T26 [I 4] [(4:Int)] H rfl (.cons rfl (Flat.rep_enc _ (4:Int))<|.nil) rfl rfl rfl ?_;intro ah aW H;refine s_val (x_bld (ps:=[(0,ah),(1,I 1),(2,I 1)]) (zs:=[.slice none 0 0,I 0,I 0]) (L':=[ah,I 1,I 1]) rfl Try.underlying37 Al37 rfl (Bd37 Try.underlying37) (.cons (cs:=[ah]) (Sl.cells (H.os 0)) rfl rfl rfl rfl<|.cons (cs:=[I 1]) rfl rfl rfl rfl rfl<|.cons (cs:=[I 1]) rfl rfl rfl rfl rfl<|.nil)) ?_
 obtain ⟨aX,H⟩:=H.emptyE
 obtain ⟨aY,H,aH⟩:=H.freezeE (k:=4) rfl
 replace H:=H.nf
 have aa:=aH
 obtain ⟨aZ,H,a4,aI⟩:=H.joinE (i:=0) (j:=4) rfl rfl
 replace aa:=aa.mono aI
 obtain ⟨a5,H,aJ⟩:=H.freezeE (k:=4) rfl
 replace H:=H.nf
 have ab:=aJ
 obtain ⟨a6,H,aK,aL⟩:=H.joinE (i:=0) (j:=4) rfl rfl
 replace aa:=aa.mono aK
 replace ab:=ab.mono aL
 obtain ⟨a7,H,aM⟩:=H.freezeE (k:=4) rfl
 replace H:=H.nf
 have ai:=aM
 obtain ⟨a8,H,ay,aN⟩:=H.joinE (i:=0) (j:=4) rfl rfl
 replace aa:=aa.mono ay
 replace ab:=ab.mono ay
 replace ai:=ai.mono aN
 obtain ⟨a9,H,aO⟩:=H.freezeE (k:=4) rfl
 replace H:=H.nf
 have av:=aO
 obtain ⟨az,H,aw,aP⟩:=H.joinE (i:=0) (j:=4) rfl rfl
 replace aa:=aa.mono aw
 replace ab:=ab.mono aw
 replace ai:=ai.mono aw
 replace av:=av.mono aP
 obtain ⟨aj,aB⟩:∃ r:Raw 2,r.cs=[.slice none 0 0,I 1,I 5]:=⟨Raw.of [.slice none 0 0,I 1,I 5] rfl rfl,rfl⟩
 obtain ⟨am,aC⟩:∃ r:Raw 2,r.cs=[.slice none 0 0,I 1,I 6]:=⟨Raw.of [.slice none 0 0,I 1,I 6] rfl rfl,rfl⟩
 obtain ⟨ao,aD⟩:∃ r:Raw 2,r.cs=[ac,I 1,I 10]:=⟨Raw.of [ac,I 1,I 10] rfl (by simp only [List.all_cons,List.all_nil,Bool.true_and,Bool.and_true,Sl.oc aa]; try rfl),rfl⟩
 obtain ⟨ap,aE⟩:∃ r:Raw 2,r.cs=[ae,I 1,I 30]:=⟨Raw.of [ae,I 1,I 30] rfl (by simp only [List.all_cons,List.all_nil,Bool.true_and,Bool.and_true,Sl.oc ab]; try rfl),rfl⟩
 obtain ⟨aq,aF⟩:∃ r:Raw 2,r.cs=[ag,I 1,I 20]:=⟨Raw.of [ag,I 1,I 20] rfl (by simp only [List.all_cons,List.all_nil,Bool.true_and,Bool.and_true,Sl.oc ai]; try rfl),rfl⟩
 obtain ⟨au,aG⟩:∃ r:Raw 2,r.cs=[ah,I 1,I 1]:=⟨Raw.of [ah,I 1,I 1] rfl (by simp only [List.all_cons,List.all_nil,Bool.true_and,Bool.and_true,Sl.oc av]; try rfl),rfl⟩
 have aQ:RepR (α:=Work) az.cells [aj,am,ao,ap,aq,au] [(⟨([]),(1:Int),(5:Int)⟩:Work),(⟨([]),(1:Int),(6:Int)⟩:Work),(⟨([(0:Int),(1:Int)]),(1:Int),(10:Int)⟩:Work),(⟨([(1:Int)]),(1:Int),(30:Int)⟩:Work),(⟨([(2:Int),(3:Int)]),(1:Int),(20:Int)⟩:Work),(⟨([(4:Int)]),(1:Int),(1:Int)⟩:Work)]:=.cons (by rw [aB]; exact ⟨_,rfl,(Sl.nil _)⟩)<|.cons (by rw [aC]; exact ⟨_,rfl,(Sl.nil _)⟩)<|.cons (by rw [aD]; exact ⟨_,rfl,aa⟩)<|.cons (by rw [aE]; exact ⟨_,rfl,ab⟩)<|.cons (by rw [aF]; exact ⟨_,rfl,ai⟩)<|.cons (by rw [aG]; exact ⟨_,rfl,av⟩)<|.nil
 refine t_bs (α:=Raw 2) T31 [.agg #[.slice none 0 0,I 1,I 5],.agg #[.slice none 0 0,I 1,I 6],.agg #[ac,I 1,I 10],.agg #[ae,I 1,I 30],.agg #[ag,I 1,I 20],.agg #[ah,I 1,I 1]] [aj,am,ao,ap,aq,au] H rfl (.cons (by rw [show (Flat.enc aj:List Value)=aj.cs from rfl,aB]; rfl) (Flat.rep_enc _ _)<|.cons (by rw [show (Flat.enc am:List Value)=am.cs from rfl,aC]; rfl) (Flat.rep_enc _ _)<|.cons (by rw [show (Flat.enc ao:List Value)=ao.cs from rfl,aD]; rfl) (Flat.rep_enc _ _)<|.cons (by rw [show (Flat.enc ap:List Value)=ap.cs from rfl,aE]; rfl) (Flat.rep_enc _ _)<|.cons (by rw [show (Flat.enc aq:List Value)=aq.cs from rfl,aF]; rfl) (Flat.rep_enc _ _)<|.cons (by rw [show (Flat.enc au:List Value)=au.cs from rfl,aG]; rfl) (Flat.rep_enc _ _)<|.nil) rfl rfl rfl ?_;intro aR ba H;replace H:=H.nf;refine kg 2 ?_;replace H:=H.pk [0,1];refine W.ret ?_
 have aS:=M.e_pure hM
 exact ⟨_,resE_tmp rfl,⟨([(⟨([]),(1:Int),(5:Int)⟩:Work),(⟨([]),(1:Int),(6:Int)⟩:Work),(⟨([(0:Int),(1:Int)]),(1:Int),(10:Int)⟩:Work),(⟨([(1:Int)]),(1:Int),(30:Int)⟩:Work),(⟨([(2:Int),(3:Int)]),(1:Int),(20:Int)⟩:Work),(⟨([(4:Int)]),(1:Int),(1:Int)⟩:Work)]),aR,[aj,am,ao,ap,aq,au],az,aS,rfl,H,aQ⟩⟩

def zce (w_:List Work) (order:List Int) (s2:Nat) (l:List Int):(Int × Nat)->M ((Int × Nat) ⊕ Int):=fun (begin,s) =>
  bif decide ((s:Int)<(((w_.getD (Int.toNat (order.getD s2 0)) default).of).length:Int)) then (
  M.grd (decide ((s:Int)<(((w_.getD (Int.toNat (order.getD s2 0)) default).of).length:Int))) <|
  M.grd (decide ((0:Int)<=(((w_.getD (Int.toNat (order.getD s2 0)) default).of).getD s 0))&&decide ((((w_.getD (Int.toNat (order.getD s2 0)) default).of).getD s 0)<(l.length:Int))) <|
  M.pure (.inl (max begin (l.getD (Int.toNat (((w_.getD (Int.toNat (order.getD s2 0)) default).of).getD s 0)) 0),s+1)))
  else (
  M.pure (.inr begin))
def zcd (w_:List Work) (order:List Int) (stale:List Bool):(Nat × (List Int))->M ((Nat × (List Int)) ⊕ ((List Int) × (List Int))):=fun (s2,l) =>
  bif decide ((s2:Int)<(order.length:Int)) then (
  M.grd (decide ((s2:Int)<(order.length:Int))) <|
  M.grd (decide ((0:Int)<=(order.getD s2 0))&&decide ((order.getD s2 0)<(30:Int))) <|
  bif !(stale.getD (Int.toNat (order.getD s2 0)) false) then (
  M.pure (.inl (s2+1,l)))
  else (
  M.grd (decide ((0:Int)<=(order.getD s2 0))&&decide ((order.getD s2 0)<(w_.length:Int))) <|
  M.bind (M.iter (zce w_ order s2 l) (0,0)) fun begin2 =>
  M.grd (decide ((-9223372036854775808:Int)<=(begin2+((w_.getD (Int.toNat (order.getD s2 0)) default).minutes)))&&decide ((begin2+((w_.getD (Int.toNat (order.getD s2 0)) default).minutes))<=(9223372036854775807:Int))) <|
  M.grd (decide ((0:Int)<=(order.getD s2 0))&&decide ((order.getD s2 0)<(l.length:Int))) <|
  M.pure (.inl (s2+1,l.set (Int.toNat (order.getD s2 0)) (begin2+((w_.getD (Int.toNat (order.getD s2 0)) default).minutes):Int)))))
  else (
  M.pure (.inr (l,l)))
def zcv (w_:List Work) (order:List Int) (stale:List Bool):M (List Int) :=
  M.grd (decide (1<=(w_.length:Int))&&decide ((w_.length:Int)<=1000)) <|
  M.bind (M.iter (zcd w_ order stale) (0,List.replicate (w_.length) (-1:Int))) fun (l2,l3) =>
  M.pure l3
theorem zcN {R:List Chunk} {aw:Cells} {ah:Value} {ax:Cells} {ai:Value} (w_:List Work) (order:List Int) (stale:List Bool) (ay:Reads R aw) (am:Sl aw ah w_) (aW:Reads R ax) (aI:Sl ax ai order) (aJ:stale.length=30) {r:(List Int)} (hM:(zcv w_ order stale).Ends r) (w:World) (H:St w w [] R):Ret Try.prog 51 #[ah,ai,.agg (encB stale).toArray] w fun v w'=>∃ (y0:List Int) (u0:Value),y0=r/\v=u0/\St w w' [cOwn (α:=Int) 3 u0 y0] R:=by
 refine ret_of_W Try.func51 rfl rfl rfl ?_;refine kg 2 ?_;refine t_box (v:=.agg (encB stale).toArray) (cs:=encB stale) H rfl rfl ?_;intro ab aX H;refine kg 4 ?_;refine t_bs (α:=Int) T26 [I (-1)] [(-1:Int)] H rfl (.cons rfl (Flat.rep_enc _ (-1:Int))<|.nil) rfl rfl rfl ?_;intro ag aY H
 have aZ:=(am).len_le
 obtain ⟨a4,hM⟩:=M.e_gd hM;refine kg 2 ?_;refine s_call cf23 [ag,I (w_.length:Int)] rfl (repeat_int _ ((H.os 0).mono (H.ol 0)) (by omega) (by omega)) ?_
 rintro az aK ⟨aB,aC⟩
 replace H:St w aK [cOwn (α:=Int) 3 az (List.replicate (w_.length) (-1:Int)),cOwn (α:=Int) 3 ag ([(-1:Int)]),cBlk ab (encB stale) 73] R:=H.ownOf aC aB
 clear aC aB
 have a5:=(aI).len_le
 refine kg 10 ?_;obtain ⟨aL,ao,aM⟩:=M.e_bind hM
 obtain ⟨aN,ao⟩:=M.e_iter ao
 refine W.loop (fun m σ W=>∃ (s2:Nat) (l:List Int) (aa:Value) (ρ:Env),σ=upds ρ [(0,ah),(5,Pq ab),(7,aa),(17,ai),(18,I (order.length:Int)),(19,I (s2:Int))]/\M.iterN (zcd w_ order stale) m (s2,l)=some aL/\St w W [cOwn (α:=Int) 3 aa l,cOwn (α:=Int) 3 ag ([(-1:Int)]),cBlk ab (encB stale) 73] R) ?_ ?_
 ·exact ⟨_,0,List.replicate (w_.length) (-1:Int),az,_,upds_of _ _ ⟨rfl,rfl,rfl,rfl,rfl,rfl,trivial⟩,ao,H⟩
 rintro a6 σ a7 ⟨s2,l,aa,ρ,rfl,aD,H⟩
 obtain ⟨aE,aF,a8,hM,ap⟩:=M.e_iterN aD
 simp only [zcd] at hM
 clear aD;refine kg 5 ?_
 refine W.cond (decide ((s2:Int)<(order.length:Int))) rfl (fun ac=>?_) (fun ac=>?_)
 ·replace hM:=M.e_t hM ac
  replace ac:=dI ac
  obtain ⟨a9,hM⟩:=M.e_gd hM;obtain ⟨ba,hM⟩:=M.e_gd hM;refine kg 13 ?_;refine s_val (x_ix (v:=.pointer (some ⟨ab,0+Int.toNat (order.getD s2 0),none⟩)) rfl rfl (run_indexArr Try.underlying73 Sz4 (by omega) (by omega)))<|s_val (x_ld (v:=B (stale.getD (Int.toNat (order.getD s2 0)) false)) rfl (ldArr Sc4 (H.bl 2) (by omega) (by have bb:=aJ; omega))) ?_;refine kg 2 ?_
  refine W.cond (!(stale.getD (Int.toNat (order.getD s2 0)) false)) rfl (fun aq=>?_) (fun aq=>?_)
  ·replace hM:=M.e_t hM aq;refine W.exit ?_;refine kg 4 ?_
   exact ⟨aE,aF,s2+1,l,aa,_,upds_of _ _ ⟨rfl,rfl,rfl,rfl,rfl,rfl,trivial⟩,M.e_inl hM ap,H⟩
  replace hM:=M.e_f hM aq;obtain ⟨bc,hM⟩:=M.e_gd hM;refine kg 12 ?_
  obtain ⟨au,aO,aj⟩:=Work_at0 am (i:=order.getD s2 0) (by omega) (by omega)
  replace aj:Sl _ au (w_.getD (Int.toNat (order.getD s2 0)) default).of:=aj
  have bg:=aj.len_le
  refine s_val (x_ld (v:=au) rfl (ld_sc Sc26 (At.mono (aO) (ay.at H)))) ?_
  have bh:=(aj).len_le
  refine kg 4 ?_;obtain ⟨aP,av,aQ⟩:=M.e_bind hM
  obtain ⟨aN,av⟩:=M.e_iter av
  refine W.loop (fun m σ W=>∃ (begin:Int) (s:Nat) (ρ:Env),σ=upds ρ [(0,ah),(5,Pq ab),(7,aa),(9,I (order.getD s2 0)),(10,I begin),(17,ai),(18,I (order.length:Int)),(19,I (s2:Int)),(31,au),(32,I (((w_.getD (Int.toNat (order.getD s2 0)) default).of).length:Int)),(33,I (s:Int))]/\M.iterN (zce w_ order s2 l) m (begin,s)=some aP/\St w W [cOwn (α:=Int) 3 aa l,cOwn (α:=Int) 3 ag ([(-1:Int)]),cBlk ab (encB stale) 73] R) ?_ ?_
  ·exact ⟨_,0,0,_,upds_of _ _ ⟨rfl,rfl,rfl,rfl,rfl,rfl,rfl,rfl,rfl,rfl,rfl,trivial⟩,av,H⟩
  rintro bi σ bj ⟨begin,s,ρ,rfl,aG,H⟩
  obtain ⟨aR,aS,bm,hM,aH⟩:=M.e_iterN aG
  simp only [zce] at hM
  clear aG;refine kg 5 ?_
  refine W.cond (decide ((s:Int)<(((w_.getD (Int.toNat (order.getD s2 0)) default).of).length:Int))) rfl (fun ae=>?_) (fun ae=>?_)
  ·replace hM:=M.e_t hM ae
   replace ae:=dI ae
   obtain ⟨bn,hM⟩:=M.e_gd hM;obtain ⟨bp,hM⟩:=M.e_gd hM;refine kg 22 ?_
   exact ⟨aR,aS,max begin (l.getD (Int.toNat (((w_.getD (Int.toNat (order.getD s2 0)) default).of).getD s 0)) 0),s+1,_,upds_of _ _ ⟨rfl,rfl,rfl,rfl,rfl,rfl,rfl,rfl,rfl,rfl,rfl,trivial⟩,M.e_inl hM aH,H⟩
  replace hM:=M.e_f hM ae
  replace ae:=dI ae
  refine W.exit ?_
  have aT:=M.e_inr hM aH
  subst aT;replace hM:=aQ;(try dsimp only at hM);refine kg 8 ?_;refine s_val (x_ld (v:=I ((w_.getD (Int.toNat (order.getD s2 0)) default).minutes)) rfl (ld_sc Sc3 (At.mono (Work_at2 am (i:=order.getD s2 0) (by omega) (by omega)) (ay.at H)))) ?_;obtain ⟨br,hM⟩:=M.e_gd hM;obtain ⟨bt,hM⟩:=M.e_gd hM;refine kg 2 ?_;refine t_ost (k:=0) (i:=order.getD s2 0) (l:=l) (l':=l.set (Int.toNat (order.getD s2 0)) (begin+((w_.getD (Int.toNat (order.getD s2 0)) default).minutes):Int)) (val:=I (begin+((w_.getD (Int.toNat (order.getD s2 0)) default).minutes))) (L':=[cOwn (α:=Int) 3 aa (l.set (Int.toNat (order.getD s2 0)) (begin+((w_.getD (Int.toNat (order.getD s2 0)) default).minutes):Int)),cOwn (α:=Int) 3 ag ([(-1:Int)]),cBlk ab (encB stale) 73]) H rfl Sz3 (by omega) (by omega) (begin+((w_.getD (Int.toNat (order.getD s2 0)) default).minutes):Int) rfl rfl rfl rfl rfl ?_;intro bu H;refine kg 5 ?_
  exact ⟨aE,aF,s2+1,l.set (Int.toNat (order.getD s2 0)) (begin+((w_.getD (Int.toNat (order.getD s2 0)) default).minutes):Int),aa,_,upds_of _ _ ⟨rfl,rfl,rfl,rfl,rfl,rfl,trivial⟩,M.e_inl hM ap,H⟩
 replace hM:=M.e_f hM ac
 replace ac:=dI ac
 refine W.exit ?_
 have aU:=M.e_inr hM ap
 subst aU;replace hM:=aM;(try dsimp only at hM);replace H:=H.pk [0];refine kg 5 ?_;refine W.ret ?_
 have aV:=M.e_pure hM
 exact ⟨_,resE_tmp rfl,⟨l,aa,aV,rfl,H⟩⟩

def zc6 (w_:List Work) (revised:List Int):M ((List Int) × Int) :=
  M.bind (zaB w_ revised) fun x_=>match x_ with
  | (.inl (r2,r3))=>(
  bif r3 != 0 then (
  M.pure (([]),r3))
  else (
  M.fail))
  | (.inr (r1,aa,ab))=>(
  bif ab != 0 then (
  M.fail)
  else (
  M.bind (zcv w_ r1 aa) fun r4 =>
  M.pure (r4,0)))
theorem zdx {R:List Chunk} {ap:Cells} {ab:Value} {aq:Cells} {ai:Value} (w_:List Work) (revised:List Int) (au:Reads R ap) (av:Sl ap ab w_) (ax:Reads R aq) (ay:Sl aq ai revised) {r:((List Int) × Int)} (hM:(zc6 w_ revised).Ends r) (w:World) (H:St w w [] R):Ret Try.prog 32 #[ab,ai] w fun v w'=>∃ (y0:List Int) (y1:Int) (u0:Value),(y0,y1)=r/\v = .tuple #[u0,I y1]/\St w w' [cOwn (α:=Int) 3 u0 y0] R:=by
 refine ret_of_W Try.func32 rfl rfl rfl ?_;refine kg 9 ?_;obtain ⟨aI,az,hM⟩:=M.e_bind hM;refine s_call cf26 [ab,ai] rfl (za1 w_ revised (au.app _) av (ax.app _) ay az _ (H.gt 0)) ?_
 rintro vq aJ (⟨r2,r3,aB,hvq,aa,aC⟩ | ⟨r1,ac,aD,aE,aw,aF,hvq,aa,aj⟩)
 ·subst aB;subst vq;(try dsimp only at hM);replace H:=H.bk aa;clear aa;refine kg 5 ?_;refine t_alloc (cs:=encB (List.replicate 30 false)) H Al73 rfl ?_;intro ae aK H
  have am:(List.replicate 30 false).length=30:=by simp
  refine kg 2 ?_;refine t_stArrA (k:=0) (b:=ae) (l:=List.replicate 30 false) (l':=r2) (L':=[cBlk ae (encB r2) 73]) H rfl rfl rfl Sz73 am aC rfl ?_;intro aL H;refine kg 8 ?_
  refine W.cond (r3 != 0) rfl (fun ag=>?_) (fun ag=>?_)
  ·replace hM:=M.e_t hM ag
   replace ag:=dI ag
   refine kg 6 ?_;refine W.ret ?_
   have ao:=M.e_pure hM
   replace H:=H.nilOwn (α:=Int) 3
   exact ⟨_,resE_tmp2 rfl,⟨([]),r3,(.slice none 0 0),ao,rfl,(H.pk [0])⟩⟩
  replace hM:=M.e_f hM ag
  exact (M.e_fail hM).elim
 subst aF;subst vq;(try dsimp only at hM);replace H:=H.bk aa;clear aa;refine kg 5 ?_;refine t_alloc (cs:=encB (List.replicate 30 false)) H Al73 rfl ?_;intro ae aM H
 have am:(List.replicate 30 false).length=30:=by simp
 refine kg 2 ?_;refine t_stArrA (k:=0) (b:=ae) (l:=List.replicate 30 false) (l':=ac) (L':=[cBlk ae (encB ac) 73,cBlk aE [ab] 102,cOwn (α:=Int) 3 aw r1]) H rfl rfl rfl Sz73 am aj rfl ?_;intro aN H;refine kg 8 ?_
 refine W.cond (aD != 0) rfl (fun ah=>?_) (fun ah=>?_)
 ·replace hM:=M.e_t hM ah
  exact (M.e_fail hM).elim
 replace hM:=M.e_f hM ah
 replace ah:=dI ah
 refine kg 5 ?_;refine s_val (x_ld (v:=.agg (encB ac).toArray) rfl (ldArrA Ag73 Sz73 aj (H.bl 0))) ?_;obtain ⟨aO,aG,hM⟩:=M.e_bind hM;refine s_call cf51 [ab,aw,.agg (encB ac).toArray] rfl (zcN w_ r1 ac (au.app _) av (rdo 2) (H.os 2) aj aG _ (H.gt 3)) ?_
 rintro vq aP ⟨r4,aH,rfl,hvq,aa⟩
 subst vq;(try dsimp only at hM);replace H:=H.bk aa;clear aa;refine kg 3 ?_;replace H:=H.pk [0];refine W.ret ?_
 have ao:=M.e_pure hM
 exact ⟨_,resE_tmp2 rfl,⟨r4,0,aH,ao,rfl,H⟩⟩

def zb1 (x:List Int):(Int × Nat)->M ((Int × Nat) ⊕ Int):=fun (m2,i) =>
  bif decide ((i:Int)<(x.length:Int)) then (
  M.grd (decide ((i:Int)<(x.length:Int))) <|
  M.pure (.inl (max m2 (x.getD i 0),i+1)))
  else (
  M.pure (.inr m2))
def zcS (x:List Int):M Int :=
  bif decide ((x.length:Int)<1) then (
  M.fail)
  else (
  M.grd (decide (0<(x.length:Int))) <|
  M.bind (M.iter (zb1 x) (x.getD 0 0,1)) fun m3 =>
  M.pure m3)
theorem zcZ {R:List Chunk} {ag:Cells} {ac:Value} (x:List Int) (aw:Reads R ag) (ah:Sl ag ac x) {r:Int} (hM:(zcS x).Ends r) (w:World) (H:St w w [] R):Ret Try.prog 52 #[ac] w fun v w'=>∃ (y0:Int),y0=r/\v=I y0/\St w w' [] R:=by
 refine ret_of_W Try.func52 rfl rfl rfl ?_
 have ax:=(ah).len_le
 refine kg 11 ?_
 refine W.cond (decide ((x.length:Int)<1)) rfl (fun aa=>?_) (fun aa=>?_)
 ·replace hM:=M.e_t hM aa
  replace aa:=dI aa
  refine W.region rfl ?_
  exact (M.e_fail hM).elim
 replace hM:=M.e_f hM aa
 replace aa:=dI aa
 obtain ⟨ay,hM⟩:=M.e_gd hM;refine kg 14 ?_;obtain ⟨am,ae,ao⟩:=M.e_bind hM
 obtain ⟨az,ae⟩:=M.e_iter ae
 refine W.loop (fun m σ W=>∃ (m2:Int) (i:Nat) (ρ:Env),σ=upds ρ [(0,ac),(3,I m2),(4,I (i:Int))]/\M.iterN (zb1 x) m (m2,i)=some am/\St w W [] R) ?_ ?_
 ·exact ⟨_,x.getD 0 0,1,_,upds_of _ _ ⟨rfl,rfl,rfl,trivial⟩,ae,H⟩
 rintro aB σ aC ⟨m2,i,ρ,rfl,ai,H⟩
 obtain ⟨ap,aq,aD,hM,aj⟩:=M.e_iterN ai
 simp only [zb1] at hM
 clear ai
 have aE:=(ah).len_le
 refine kg 8 ?_
 refine W.cond (decide ((i:Int)<(x.length:Int))) rfl (fun ab=>?_) (fun ab=>?_)
 ·replace hM:=M.e_t hM ab
  replace ab:=dI ab
  obtain ⟨aF,hM⟩:=M.e_gd hM;refine kg 17 ?_
  exact ⟨ap,aq,max m2 (x.getD i 0),i+1,_,upds_of _ _ ⟨rfl,rfl,rfl,trivial⟩,M.e_inl hM aj,H⟩
 replace hM:=M.e_f hM ab
 replace ab:=dI ab
 refine W.exit ?_
 have au:=M.e_inr hM aj
 subst au;replace hM:=ao;(try dsimp only at hM);refine kg 5 ?_;refine W.ret ?_
 have av:=M.e_pure hM
 exact ⟨_,resE_tmp rfl,⟨m2,av,rfl,H⟩⟩

def zcJ (k:Int) (ab:List Int) (aa:Int) (ac:List Work):M Bool :=
  M.grd (decide ((0:Int)<=k)&&decide (k<(ab.length:Int))) <|
  M.grd (decide ((0:Int)<=aa)&&decide (aa<(ab.length:Int))) <|
  M.grd (decide ((0:Int)<=aa)&&decide (aa<(ac.length:Int))) <|
  M.grd (decide ((-9223372036854775808:Int)<=((ab.getD (Int.toNat aa) 0)-((ac.getD (Int.toNat aa) default).minutes)))&&decide (((ab.getD (Int.toNat aa) 0)-((ac.getD (Int.toNat aa) default).minutes))<=(9223372036854775807:Int))) <|
  M.pure ((ab.getD (Int.toNat k) 0)==((ab.getD (Int.toNat aa) 0)-((ac.getD (Int.toNat aa) default).minutes)))
theorem zdy {R:List Chunk} {ae:Nat} {ag:Cells} {ah:Value} {ai:Nat} {aj:Nat} {am:Cells} {ao:Value} (k:Int) (ab:List Int) (aa:Int) (ac:List Work) (aw:Reads R ag) (ax:Sl ag ah ab) (ay:Has R (cBlk ae [ah] 26)) (az:Has R (cBlk ai [I aa] 3)) (aq:Reads R am) (au:Sl am ao ac) (aB:Has R (cBlk aj [ao] 31)) {r:Bool} (hM:(zcJ k ab aa ac).Ends r) (w:World) (H:St w w [] R):Ret Try.prog 54 #[I k,Pq ae,Pq ai,Pq aj] w fun v w'=>∃ (y0:Bool),y0=r/\v=B y0/\St w w' [] R:=by
 refine ret_of_W Try.func54 rfl rfl rfl ?_;refine kg 5 ?_;refine W.draw (fun W=>St w W [] R) [(0,true),(1,true),(2,true),(3,true),(4,true),(5,true),(6,true),(7,true),(8,true),(9,true),(10,true),(11,true),(12,true),(13,true),(14,true),(15,true)] mixed (by decide +kernel) rfl ?_;intro aC ap;replace H:=H.ext ap;clear ap
 refine ⟨(H.pk []),?_⟩
 obtain ⟨aD,hM⟩:=M.e_gd hM;obtain ⟨aE,hM⟩:=M.e_gd hM;obtain ⟨aF,hM⟩:=M.e_gd hM;refine kg 12 ?_;refine d_q rfl (fun w' H=>x_ld (v:=I ((ac.getD (Int.toNat aa) default).minutes)) rfl (ld_sc Sc3 (At.mono (Work_at2 au (i:=aa) (by omega) (by omega)) (aq.at H)))) ?_;obtain ⟨aG,hM⟩:=M.e_gd hM;refine kg 4 ?_;refine W.ret ?_
 have av:=M.e_pure hM
 exact ⟨_,resE_tmp rfl,⟨((ab.getD (Int.toNat k) 0)==((ab.getD (Int.toNat aa) 0)-((ac.getD (Int.toNat aa) default).minutes))),av,rfl,H⟩⟩

def zcn  : ((List Int) × Nat × Int)->M (((List Int) × Nat × Int) ⊕ (List Int)):=fun (l,i,j) =>
  bif decide ((i:Int)<j) then (
  M.grd (decide ((0:Int)<=j)&&decide (j<(l.length:Int))) <|
  M.grd (decide ((i:Int)<(l.length:Int))) <|
  M.grd (decide ((0:Int)<=j)&&decide (j<((l.set i (l.getD (Int.toNat j) 0:Int)).length:Int))) <|
  M.grd (decide ((-9223372036854775808:Int)<=((i:Int)+1))&&decide (((i:Int)+1)<=(9223372036854775807:Int))) <|
  M.grd (decide ((-9223372036854775808:Int)<=(j-1))&&decide ((j-1)<=(9223372036854775807:Int))) <|
  M.pure (.inl ((l.set i (l.getD (Int.toNat j) 0:Int)).set (Int.toNat j) (l.getD i 0:Int),i+1,j-1)))
  else (
  M.pure (.inr l))
def zc7 (s:List Int):M (List Int) :=
  M.bind (M.iter (zcn) (s,0,(s.length:Int)-1)) fun l2 =>
  M.pure l2
theorem zdH {R:List Chunk} {aa:Value} (s:List Int)  {r:(List Int)} (hM:(zc7 s).Ends r) (w:World) (H:St w w [cOwn (α:=Int) 3 aa s] R):Ret Try.prog 55 #[aa] w fun v w'=>∃ (y0:List Int),y0=r/\v = .tuple #[]/\St w w' [cOwn (α:=Int) 3 aa y0] R:=by
 refine ret_of_W Try.func55 rfl rfl rfl ?_
 have au:=((H.os 0)).len_le
 refine kg 9 ?_;obtain ⟨am,ah,ao⟩:=M.e_bind hM
 obtain ⟨av,ah⟩:=M.e_iter ah
 refine W.loop (fun m σ W=>∃ (l:List Int) (i:Nat) (j:Int) (ρ:Env),σ=upds ρ [(0,aa),(2,I (i:Int)),(3,I j)]/\M.iterN (zcn) m (l,i,j)=some am/\St w W [cOwn (α:=Int) 3 aa l] R) ?_ ?_
 ·exact ⟨_,s,0,(s.length:Int)-1,_,upds_of _ _ ⟨rfl,rfl,rfl,trivial⟩,ah,H⟩
 rintro aw σ ax ⟨l,i,j,ρ,rfl,ai,H⟩
 obtain ⟨ae,ag,ay,hM,ab⟩:=M.e_iterN ai
 simp only [zcn] at hM
 clear ai;refine kg 7 ?_
 refine W.cond (decide ((i:Int)<j)) rfl (fun ac=>?_) (fun ac=>?_)
 ·replace hM:=M.e_t hM ac
  replace ac:=dI ac
  refine kg 3 ?_;refine W.drawT (fun W=>St w W [] R) (.q 0 (.q 1 (.q 2 (.q 3 (.q 4 (.q 5 (.q 8 (.q 9 (.l2 6 (.l2 7 (.l 10 (.l 11 (.l 12 (.l 13 (.l 14 (.l 15 .nil)))))) 10 (.l2 7 (.l 11 (.l 12 (.l 13 (.l 14 (.l 15 .nil))))) 11 (.l 7 (.l 12 (.l 13 (.l 14 (.l 15 .nil))))))) 10 (.l2 6 (.l2 7 (.l 11 (.l 12 (.l 13 (.l 14 (.l 15 .nil))))) 11 (.l 7 (.l 12 (.l 13 (.l 14 (.l 15 .nil)))))) 11 (.l 6 (.l 7 (.l 12 (.l 13 (.l 14 (.l 15 .nil)))))))))))))))) mixed (by decide +kernel) rfl ?_;intro az aj;replace H:=H.ext aj;clear aj
  refine ⟨(H.pk []),?_⟩
  obtain ⟨aB,hM⟩:=M.e_gd hM;obtain ⟨aC,hM⟩:=M.e_gd hM;obtain ⟨aD,hM⟩:=M.e_gd hM;refine kg 8 ?_;refine t_l2 rfl rfl ?_ ?_
  ·skip
   refine kg 1 ?_
   have aE:=Sl.cells (H.os 0)
   have aF:=Sl.oc (H.os 0)
   refine s_nil ⟨(H.pk []),?_⟩
   refine t_l2 rfl rfl ?_ ?_
   ·skip
    refine kg 1 ?_
    refine s_nil ⟨(H.pk []),?_⟩
    refine t_l rfl ?_;refine kg 1 ?_
    refine s_nil ⟨(H.pk []),?_⟩
    refine t_l rfl ?_;refine kg 1 ?_
    refine s_nil ⟨(H.pk []),?_⟩
    refine t_l rfl ?_;refine kg 1 ?_
    refine s_nil ⟨(H.pk []),?_⟩
    refine t_l rfl ?_;refine t_ost (k:=0) (i:=(i:Int)) (l:=l) (l':=l.set i (l.getD (Int.toNat j) 0:Int)) (val:=I (l.getD (Int.toNat j) 0)) (L':=[cOwn (α:=Int) 3 aa (l.set i (l.getD (Int.toNat j) 0:Int))]) H rfl Sz3 (by omega) (by omega) (l.getD (Int.toNat j) 0:Int) rfl rfl rfl rfl rfl ?_;intro aG H
    refine s_nil ⟨(H.pk []),?_⟩
    refine t_l rfl ?_;refine kg 1 ?_
    refine s_nil ⟨(H.pk []),?_⟩
    refine t_l rfl ?_;refine t_ost (k:=0) (i:=j) (l:=l.set i (l.getD (Int.toNat j) 0:Int)) (l':=(l.set i (l.getD (Int.toNat j) 0:Int)).set (Int.toNat j) (l.getD i 0:Int)) (val:=I (l.getD i 0)) (L':=[cOwn (α:=Int) 3 aa ((l.set i (l.getD (Int.toNat j) 0:Int)).set (Int.toNat j) (l.getD i 0:Int))]) H rfl Sz3 (by omega) (by omega) (l.getD i 0:Int) rfl rfl rfl rfl rfl ?_;intro aH H
    refine s_nil ⟨(H.pk []),?_⟩
    obtain ⟨aI,hM⟩:=M.e_gd hM;obtain ⟨aJ,hM⟩:=M.e_gd hM;refine kg 9 ?_
    exact ⟨ae,ag,(l.set i (l.getD (Int.toNat j) 0:Int)).set (Int.toNat j) (l.getD i 0:Int),i+1,j-1,_,upds_of _ _ ⟨rfl,rfl,rfl,trivial⟩,M.e_inl hM ab,H⟩
   skip
   refine kg 1 ?_
   refine s_nil ⟨(H.pk []),?_⟩
   refine t_l2 rfl rfl ?_ ?_
   ·skip
    refine kg 1 ?_
    refine s_nil ⟨(H.pk []),?_⟩
    refine t_l rfl ?_;refine kg 1 ?_
    refine s_nil ⟨(H.pk []),?_⟩
    refine t_l rfl ?_;refine kg 1 ?_
    refine s_nil ⟨(H.pk []),?_⟩
    refine t_l rfl ?_;refine t_ost (k:=0) (i:=(i:Int)) (l:=l) (l':=l.set i (l.getD (Int.toNat j) 0:Int)) (val:=I (l.getD (Int.toNat j) 0)) (L':=[cOwn (α:=Int) 3 aa (l.set i (l.getD (Int.toNat j) 0:Int))]) H rfl Sz3 (by omega) (by omega) (l.getD (Int.toNat j) 0:Int) rfl rfl rfl rfl rfl ?_;intro aK H
    refine s_nil ⟨(H.pk []),?_⟩
    refine t_l rfl ?_;refine kg 1 ?_
    refine s_nil ⟨(H.pk []),?_⟩
    refine t_l rfl ?_;refine t_ost (k:=0) (i:=j) (l:=l.set i (l.getD (Int.toNat j) 0:Int)) (l':=(l.set i (l.getD (Int.toNat j) 0:Int)).set (Int.toNat j) (l.getD i 0:Int)) (val:=I (l.getD i 0)) (L':=[cOwn (α:=Int) 3 aa ((l.set i (l.getD (Int.toNat j) 0:Int)).set (Int.toNat j) (l.getD i 0:Int))]) H rfl Sz3 (by omega) (by omega) (l.getD i 0:Int) rfl rfl rfl rfl rfl ?_;intro aL H
    refine s_nil ⟨(H.pk []),?_⟩
    obtain ⟨aM,hM⟩:=M.e_gd hM;obtain ⟨aN,hM⟩:=M.e_gd hM;refine kg 9 ?_
    exact ⟨ae,ag,(l.set i (l.getD (Int.toNat j) 0:Int)).set (Int.toNat j) (l.getD i 0:Int),i+1,j-1,_,upds_of _ _ ⟨rfl,rfl,rfl,trivial⟩,M.e_inl hM ab,H⟩
   skip
   refine kg 1 ?_
   refine s_nil ⟨(H.pk []),?_⟩
   refine t_l rfl ?_;refine kg 1 ?_
   refine s_nil ⟨(H.pk []),?_⟩
   refine t_l rfl ?_;refine kg 1 ?_
   refine s_nil ⟨(H.pk []),?_⟩
   refine t_l rfl ?_;refine t_ost (k:=0) (i:=(i:Int)) (l:=l) (l':=l.set i (l.getD (Int.toNat j) 0:Int)) (val:=I (l.getD (Int.toNat j) 0)) (L':=[cOwn (α:=Int) 3 aa (l.set i (l.getD (Int.toNat j) 0:Int))]) H rfl Sz3 (by omega) (by omega) (l.getD (Int.toNat j) 0:Int) rfl rfl rfl rfl rfl ?_;intro aO H
   refine s_nil ⟨(H.pk []),?_⟩
   refine t_l rfl ?_;refine kg 1 ?_
   refine s_nil ⟨(H.pk []),?_⟩
   refine t_l rfl ?_;refine t_ost (k:=0) (i:=j) (l:=l.set i (l.getD (Int.toNat j) 0:Int)) (l':=(l.set i (l.getD (Int.toNat j) 0:Int)).set (Int.toNat j) (l.getD i 0:Int)) (val:=I (l.getD i 0)) (L':=[cOwn (α:=Int) 3 aa ((l.set i (l.getD (Int.toNat j) 0:Int)).set (Int.toNat j) (l.getD i 0:Int))]) H rfl Sz3 (by omega) (by omega) (l.getD i 0:Int) rfl rfl rfl rfl rfl ?_;intro aP H
   refine s_nil ⟨(H.pk []),?_⟩
   obtain ⟨aQ,hM⟩:=M.e_gd hM;obtain ⟨aR,hM⟩:=M.e_gd hM;refine kg 9 ?_
   exact ⟨ae,ag,(l.set i (l.getD (Int.toNat j) 0:Int)).set (Int.toNat j) (l.getD i 0:Int),i+1,j-1,_,upds_of _ _ ⟨rfl,rfl,rfl,trivial⟩,M.e_inl hM ab,H⟩
  skip
  refine kg 1 ?_
  have aS:=Sl.cells (H.os 0)
  have aT:=Sl.oc (H.os 0)
  refine s_nil ⟨(H.pk []),?_⟩
  refine t_l2 rfl rfl ?_ ?_
  ·skip
   refine kg 1 ?_
   refine s_nil ⟨(H.pk []),?_⟩
   refine t_l2 rfl rfl ?_ ?_
   ·skip
    refine kg 1 ?_
    refine s_nil ⟨(H.pk []),?_⟩
    refine t_l rfl ?_;refine kg 1 ?_
    refine s_nil ⟨(H.pk []),?_⟩
    refine t_l rfl ?_;refine kg 1 ?_
    refine s_nil ⟨(H.pk []),?_⟩
    refine t_l rfl ?_;refine t_ost (k:=0) (i:=(i:Int)) (l:=l) (l':=l.set i (l.getD (Int.toNat j) 0:Int)) (val:=I (l.getD (Int.toNat j) 0)) (L':=[cOwn (α:=Int) 3 aa (l.set i (l.getD (Int.toNat j) 0:Int))]) H rfl Sz3 (by omega) (by omega) (l.getD (Int.toNat j) 0:Int) rfl rfl rfl rfl rfl ?_;intro aU H
    refine s_nil ⟨(H.pk []),?_⟩
    refine t_l rfl ?_;refine kg 1 ?_
    refine s_nil ⟨(H.pk []),?_⟩
    refine t_l rfl ?_;refine t_ost (k:=0) (i:=j) (l:=l.set i (l.getD (Int.toNat j) 0:Int)) (l':=(l.set i (l.getD (Int.toNat j) 0:Int)).set (Int.toNat j) (l.getD i 0:Int)) (val:=I (l.getD i 0)) (L':=[cOwn (α:=Int) 3 aa ((l.set i (l.getD (Int.toNat j) 0:Int)).set (Int.toNat j) (l.getD i 0:Int))]) H rfl Sz3 (by omega) (by omega) (l.getD i 0:Int) rfl rfl rfl rfl rfl ?_;intro aV H
    refine s_nil ⟨(H.pk []),?_⟩
    obtain ⟨aW,hM⟩:=M.e_gd hM;obtain ⟨aX,hM⟩:=M.e_gd hM;refine kg 9 ?_
    exact ⟨ae,ag,(l.set i (l.getD (Int.toNat j) 0:Int)).set (Int.toNat j) (l.getD i 0:Int),i+1,j-1,_,upds_of _ _ ⟨rfl,rfl,rfl,trivial⟩,M.e_inl hM ab,H⟩
   skip
   refine kg 1 ?_
   refine s_nil ⟨(H.pk []),?_⟩
   refine t_l rfl ?_;refine kg 1 ?_
   refine s_nil ⟨(H.pk []),?_⟩
   refine t_l rfl ?_;refine kg 1 ?_
   refine s_nil ⟨(H.pk []),?_⟩
   refine t_l rfl ?_;refine t_ost (k:=0) (i:=(i:Int)) (l:=l) (l':=l.set i (l.getD (Int.toNat j) 0:Int)) (val:=I (l.getD (Int.toNat j) 0)) (L':=[cOwn (α:=Int) 3 aa (l.set i (l.getD (Int.toNat j) 0:Int))]) H rfl Sz3 (by omega) (by omega) (l.getD (Int.toNat j) 0:Int) rfl rfl rfl rfl rfl ?_;intro aY H
   refine s_nil ⟨(H.pk []),?_⟩
   refine t_l rfl ?_;refine kg 1 ?_
   refine s_nil ⟨(H.pk []),?_⟩
   refine t_l rfl ?_;refine t_ost (k:=0) (i:=j) (l:=l.set i (l.getD (Int.toNat j) 0:Int)) (l':=(l.set i (l.getD (Int.toNat j) 0:Int)).set (Int.toNat j) (l.getD i 0:Int)) (val:=I (l.getD i 0)) (L':=[cOwn (α:=Int) 3 aa ((l.set i (l.getD (Int.toNat j) 0:Int)).set (Int.toNat j) (l.getD i 0:Int))]) H rfl Sz3 (by omega) (by omega) (l.getD i 0:Int) rfl rfl rfl rfl rfl ?_;intro aZ H
   refine s_nil ⟨(H.pk []),?_⟩
   obtain ⟨a4,hM⟩:=M.e_gd hM;obtain ⟨a5,hM⟩:=M.e_gd hM;refine kg 9 ?_
   exact ⟨ae,ag,(l.set i (l.getD (Int.toNat j) 0:Int)).set (Int.toNat j) (l.getD i 0:Int),i+1,j-1,_,upds_of _ _ ⟨rfl,rfl,rfl,trivial⟩,M.e_inl hM ab,H⟩
  skip
  refine kg 1 ?_
  refine s_nil ⟨(H.pk []),?_⟩
  refine t_l rfl ?_;refine kg 1 ?_
  refine s_nil ⟨(H.pk []),?_⟩
  refine t_l rfl ?_;refine kg 1 ?_
  refine s_nil ⟨(H.pk []),?_⟩
  refine t_l rfl ?_;refine kg 1 ?_
  refine s_nil ⟨(H.pk []),?_⟩
  refine t_l rfl ?_;refine t_ost (k:=0) (i:=(i:Int)) (l:=l) (l':=l.set i (l.getD (Int.toNat j) 0:Int)) (val:=I (l.getD (Int.toNat j) 0)) (L':=[cOwn (α:=Int) 3 aa (l.set i (l.getD (Int.toNat j) 0:Int))]) H rfl Sz3 (by omega) (by omega) (l.getD (Int.toNat j) 0:Int) rfl rfl rfl rfl rfl ?_;intro a6 H
  refine s_nil ⟨(H.pk []),?_⟩
  refine t_l rfl ?_;refine kg 1 ?_
  refine s_nil ⟨(H.pk []),?_⟩
  refine t_l rfl ?_;refine t_ost (k:=0) (i:=j) (l:=l.set i (l.getD (Int.toNat j) 0:Int)) (l':=(l.set i (l.getD (Int.toNat j) 0:Int)).set (Int.toNat j) (l.getD i 0:Int)) (val:=I (l.getD i 0)) (L':=[cOwn (α:=Int) 3 aa ((l.set i (l.getD (Int.toNat j) 0:Int)).set (Int.toNat j) (l.getD i 0:Int))]) H rfl Sz3 (by omega) (by omega) (l.getD i 0:Int) rfl rfl rfl rfl rfl ?_;intro a7 H
  refine s_nil ⟨(H.pk []),?_⟩
  obtain ⟨a8,hM⟩:=M.e_gd hM;obtain ⟨a9,hM⟩:=M.e_gd hM;refine kg 9 ?_
  exact ⟨ae,ag,(l.set i (l.getD (Int.toNat j) 0:Int)).set (Int.toNat j) (l.getD i 0:Int),i+1,j-1,_,upds_of _ _ ⟨rfl,rfl,rfl,trivial⟩,M.e_inl hM ab,H⟩
 replace hM:=M.e_f hM ac
 replace ac:=dI ac
 refine W.exit ?_
 have ap:=M.e_inr hM ab
 subst ap;replace hM:=ao;(try dsimp only at hM)
 have aq:=M.e_pure hM
 exact ⟨_,resE_tmp0 rfl,⟨l,aq,rfl,H⟩⟩

def zbM (w_:List Work) (r4:List Int):(Int × (List Int))->M ((Int × (List Int)) ⊕ ((List Int) × (List Int) × Int)):=fun (s,l) =>
  M.grd (decide ((0:Int)<=s)&&decide (s<(r4.length:Int))) <|
  M.grd (decide ((0:Int)<=s)&&decide (s<(w_.length:Int))) <|
  bif decide (((w_.getD (Int.toNat s) default).minutes)<(r4.getD (Int.toNat s) 0)) then (
  M.bind (zaO ((w_.getD (Int.toNat s) default).of) (fun aa=>zcJ aa r4 s w_)) fun r7 =>
  M.grd (decide ((0:Int)<=r7)&&decide (r7<(((w_.getD (Int.toNat s) default).of).length:Int))) <|
  M.grd (decide ((l.length+([(((w_.getD (Int.toNat s) default).of).getD (Int.toNat r7) 0:Int)]).length)*8<=140737488355328)) <|
  M.pure (.inl (((w_.getD (Int.toNat s) default).of).getD (Int.toNat r7) 0,l++([(((w_.getD (Int.toNat s) default).of).getD (Int.toNat r7) 0:Int)]))))
  else (
  M.pure (.inr (l,l,s)))
def zb0 (w_:List Work) (r4:List Int) (r6:Int):M ((List Int) × Int) :=
  M.bind (M.iter (zbM w_ r4) (r6,[(r6:Int)])) fun (l2,l3,s2) =>
  M.bind (zc7 l3) fun l_s =>
  M.pure (l_s,0)
def zda (w_:List Work) (revised:List Int):M ((List Int) × Int) :=
  M.bind (zaB w_ revised) fun x_=>match x_ with
  | (.inl (r2,r3))=>(
  bif r3 != 0 then (
  M.pure (([]),r3))
  else (
  M.fail))
  | (.inr (r1,aa,ab))=>(
  bif ab != 0 then (
  M.fail)
  else (
  bif (revised.length:Int)==0 then (
  M.pure (([]),5))
  else (
  M.bind (zcv w_ r1 aa) fun r4 =>
  M.bind (zcS r4) fun r5 =>
  M.bind (zcw r4 r5) fun r6 =>
  zb0 w_ r4 r6)))
theorem zdz {R:List Chunk} {aI:Cells} {ae:Value} {aJ:Cells} {aB:Value} (w_:List Work) (revised:List Int) (ai:Reads R aI) (aj:Sl aI ae w_) (aQ:Reads R aJ) (aK:Sl aJ aB revised) {r:((List Int) × Int)} (hM:(zda w_ revised).Ends r) (w:World) (H:St w w [] R):Ret Try.prog 33 #[ae,aB] w fun v w'=>∃ (y0:List Int) (y1:Int) (u0:Value),(y0,y1)=r/\v = .tuple #[u0,I y1]/\St w w' [cOwn (α:=Int) 3 u0 y0] R:=by
 refine ret_of_W Try.func33 rfl rfl rfl ?_;refine kg 2 ?_;refine t_box (v:=ae) (cs:=[ae]) H rfl (Sl.cells aj) ?_;intro ag bz H;refine kg 7 ?_;obtain ⟨bA,aR,hM⟩:=M.e_bind hM;refine s_call cf26 [ae,aB] rfl (za1 w_ revised (ai.app _) aj (aQ.app _) aK aR _ (H.gt 1)) ?_
 rintro vq bB (⟨r2,r3,aS,hvq,aa,aT⟩ | ⟨r1,aq,aU,aV,aL,aW,hvq,aa,aC⟩)
 ·subst aS;subst vq;(try dsimp only at hM);replace H:=H.bk aa;clear aa;refine kg 5 ?_;refine t_alloc (cs:=encB (List.replicate 30 false)) H Al73 rfl ?_;intro au bC H
  have aD:(List.replicate 30 false).length=30:=by simp
  refine kg 2 ?_;refine t_stArrA (k:=0) (b:=au) (l:=List.replicate 30 false) (l':=r2) (L':=[cBlk au (encB r2) 73,cBlk ag [ae] 31]) H rfl rfl rfl Sz73 aD aT rfl ?_;intro bD H;refine kg 10 ?_
  refine W.cond (r3 != 0) rfl (fun av=>?_) (fun av=>?_)
  ·replace hM:=M.e_t hM av
   replace av:=dI av
   refine kg 6 ?_;replace H:=H.pk [];refine W.ret ?_
   have aw:=M.e_pure hM
   replace H:=H.nilOwn (α:=Int) 3
   exact ⟨_,resE_tmp2 rfl,⟨([]),r3,(.slice none 0 0),aw,rfl,H⟩⟩
  replace hM:=M.e_f hM av
  exact (M.e_fail hM).elim
 subst aW;subst vq;(try dsimp only at hM);replace H:=H.bk aa;clear aa;refine kg 5 ?_;refine t_alloc (cs:=encB (List.replicate 30 false)) H Al73 rfl ?_;intro au bE H
 have aD:(List.replicate 30 false).length=30:=by simp
 refine kg 2 ?_;refine t_stArrA (k:=0) (b:=au) (l:=List.replicate 30 false) (l':=aq) (L':=[cBlk au (encB aq) 73,cBlk aV [ae] 102,cOwn (α:=Int) 3 aL r1,cBlk ag [ae] 31]) H rfl rfl rfl Sz73 aD aC rfl ?_;intro bF H;refine kg 10 ?_
 refine W.cond (aU != 0) rfl (fun ax=>?_) (fun ax=>?_)
 ·replace hM:=M.e_t hM ax
  exact (M.e_fail hM).elim
 replace hM:=M.e_f hM ax
 replace ax:=dI ax
 have bG:=(aK).len_le
 refine kg 7 ?_
 refine W.cond ((revised.length:Int)==0) rfl (fun am=>?_) (fun am=>?_)
 ·replace hM:=M.e_t hM am
  replace am:=dI am
  refine kg 5 ?_;replace H:=H.pk [];refine W.ret ?_
  have aw:=M.e_pure hM
  replace H:=H.nilOwn (α:=Int) 3
  exact ⟨_,resE_tmp2 rfl,⟨([]),5,(.slice none 0 0),aw,rfl,H⟩⟩
 replace hM:=M.e_f hM am
 replace am:=dI am
 refine kg 5 ?_;refine s_val (x_ld (v:=.agg (encB aq).toArray) rfl (ldArrA Ag73 Sz73 aC (H.bl 0))) ?_;obtain ⟨bH,aX,hM⟩:=M.e_bind hM;refine s_call cf51 [ae,aL,.agg (encB aq).toArray] rfl (zcN w_ r1 aq (ai.app _) aj (rdo 2) (H.os 2) aC aX _ (H.gt 4)) ?_
 rintro vq bI ⟨r4,ab,rfl,hvq,aa⟩
 subst vq;(try dsimp only at hM);replace H:=H.bk aa;clear aa;refine t_alloc (cs:=[.slice none 0 0]) H Al26 rfl ?_;intro ah bJ H;refine t_sw 0 0 [ab] ab H rfl rfl Sz26 (Sl.cells (H.os 1)) rfl rfl (by simp only [List.all_cons,List.all_nil,Bool.true_and,Bool.and_true,Sl.oc (H.os 1)]; try rfl) ?_;intro bK H;refine s_nil ?_;replace H:=H.pk [0,1,5];refine W.seqJ (fun σ W=>∃ (ac:Nat) (r6:Int) (ρ:Env),σ=upds ρ [(2,Pq ag),(10,Pq ah),(11,Pq ac)]/\(zb0 w_ r4 r6).Ends r/\St w W [cBlk ac [I r6] 3,cBlk ah [ab] 26,cOwn (α:=Int) 3 ab r4,cBlk ag [ae] 31] R) ?_ ?_
 ·skip
  refine W.drawT (fun W=>St w W [cBlk ah [ab] 26,cOwn (α:=Int) 3 ab r4,cBlk ag [ae] 31] R) (.q 0 (.q 1 (.l2 2 (.l2 3 (.l 4 (.l 5 .nil)) 4 (.l 3 (.l 5 .nil))) 4 (.l 2 (.l 3 (.l 5 .nil)))))) mixed (by decide +kernel) rfl ?_;intro bL ay;replace H:=H.ext ay;clear ay
  refine ⟨(H.pk [0,1,2]),?_⟩
  refine kg 2 ?_;refine t_l2 rfl rfl ?_ ?_
  ·skip
   obtain ⟨bM,aY,hM⟩:=M.e_bind hM;refine s_call cf52 [ab] rfl (zcZ r4 (rdo 1) (H.os 1) aY _ (H.gt 3)) ?_
   rintro vq bN ⟨r5,rfl,hvq,aa⟩
   subst vq;(try dsimp only at hM);replace H:=H.bk aa;clear aa
   refine s_nil ⟨(H.pk [0,1,2]),?_⟩
   refine t_l2 rfl rfl ?_ ?_
   ·skip
    obtain ⟨bO,aZ,hM⟩:=M.e_bind hM;refine s_call cf29 [ab,I r5] rfl (zbr r4 r5 (rdo 1) (H.os 1) aZ _ (H.gt 3)) ?_
    rintro vq bP ⟨r6,rfl,hvq,aa⟩
    subst vq;(try dsimp only at hM);replace H:=H.bk aa;clear aa
    refine s_nil ⟨(H.pk [0,1,2]),?_⟩
    refine t_l rfl ?_;refine t_alloc (cs:=[I 0]) H Al3 rfl ?_;intro ac bQ H
    refine s_nil ⟨(H.pk [1,2,3]),?_⟩
    refine t_l rfl ?_;refine t_sw 0 0 [I r6] (I r6) H rfl rfl Sz3 rfl rfl rfl rfl ?_;intro bR H
    refine s_nil ⟨(H.pk [1,2,3]),?_⟩
    refine t_nil ?_
    exact ⟨ac,r6,_,upds_of _ _ ⟨rfl,rfl,rfl,trivial⟩,hM,H⟩
   skip
   refine t_alloc (cs:=[I 0]) H Al3 rfl ?_;intro ac bS H
   refine s_nil ⟨(H.pk [1,2,3]),?_⟩
   refine t_l rfl ?_;obtain ⟨bT,a4,hM⟩:=M.e_bind hM;refine s_call cf29 [ab,I r5] rfl (zbr r4 r5 (rdo 2) (H.os 2) a4 _ (H.gt 4)) ?_
   rintro vq bU ⟨r6,rfl,hvq,aa⟩
   subst vq;(try dsimp only at hM);replace H:=H.bk aa;clear aa
   refine s_nil ⟨(H.pk [1,2,3]),?_⟩
   refine t_l rfl ?_;refine t_sw 0 0 [I r6] (I r6) H rfl rfl Sz3 rfl rfl rfl rfl ?_;intro bV H
   refine s_nil ⟨(H.pk [1,2,3]),?_⟩
   refine t_nil ?_
   exact ⟨ac,r6,_,upds_of _ _ ⟨rfl,rfl,rfl,trivial⟩,hM,H⟩
  skip
  refine t_alloc (cs:=[I 0]) H Al3 rfl ?_;intro ac bW H
  refine s_nil ⟨(H.pk [1,2,3]),?_⟩
  refine t_l rfl ?_;obtain ⟨bX,a5,hM⟩:=M.e_bind hM;refine s_call cf52 [ab] rfl (zcZ r4 (rdo 2) (H.os 2) a5 _ (H.gt 4)) ?_
  rintro vq bY ⟨r5,rfl,hvq,aa⟩
  subst vq;(try dsimp only at hM);replace H:=H.bk aa;clear aa
  refine s_nil ⟨(H.pk [1,2,3]),?_⟩
  refine t_l rfl ?_;obtain ⟨bZ,a6,hM⟩:=M.e_bind hM;refine s_call cf29 [ab,I r5] rfl (zbr r4 r5 (rdo 2) (H.os 2) a6 _ (H.gt 4)) ?_
  rintro vq b7 ⟨r6,rfl,hvq,aa⟩
  subst vq;(try dsimp only at hM);replace H:=H.bk aa;clear aa
  refine s_nil ⟨(H.pk [1,2,3]),?_⟩
  refine t_l rfl ?_;refine t_sw 0 0 [I r6] (I r6) H rfl rfl Sz3 rfl rfl rfl rfl ?_;intro b8 H
  refine s_nil ⟨(H.pk [1,2,3]),?_⟩
  refine t_nil ?_
  exact ⟨ac,r6,_,upds_of _ _ ⟨rfl,rfl,rfl,trivial⟩,hM,H⟩
 rintro _ b9 ⟨ac,r6,ρ,rfl,hM,H⟩
 unfold zb0 at hM
 refine kg 3 ?_;refine t_bs (α:=Int) T26 [I r6] [(r6:Int)] H rfl (.cons rfl (Flat.rep_enc _ (r6:Int))<|.nil) rfl rfl rfl ?_;intro a7 ca H;refine kg 4 ?_;obtain ⟨a8,aE,a9⟩:=M.e_bind hM
 obtain ⟨cb,aE⟩:=M.e_iter aE
 refine W.loop (fun m σ W=>∃ (s:Int) (l:List Int) (ap:Value) (ρ:Env),σ=upds ρ [(2,Pq ag),(10,Pq ah),(11,Pq ac),(12,ap)]/\M.iterN (zbM w_ r4) m (s,l)=some a8/\St w W [cOwn (α:=Int) 3 ap l,cBlk ac [I s] 3,cBlk ah [ab] 26,cOwn (α:=Int) 3 ab r4,cBlk ag [ae] 31] R) ?_ ?_
 ·exact ⟨_,r6,[(r6:Int)],a7,_,upds_of _ _ ⟨rfl,rfl,rfl,rfl,trivial⟩,aE,H⟩
 rintro cc σ cd ⟨s,l,ap,ρ,rfl,aM,H⟩
 obtain ⟨ba,bb,ce,hM,aN⟩:=M.e_iterN aM
 simp only [zbM] at hM
 clear aM;refine kg 2 ?_;refine W.draw (fun W=>St w W [cOwn (α:=Int) 3 ap l,cBlk ac [I s] 3,cBlk ah [ab] 26,cOwn (α:=Int) 3 ab r4,cBlk ag [ae] 31] R) [(0,true),(1,true),(2,true),(3,true),(4,true),(5,true),(6,true),(7,true),(8,true),(9,true)] mixed (by decide +kernel) rfl ?_;intro cf ay;replace H:=H.ext ay;clear ay
 refine ⟨(H.pk [0,1,2,3,4]),?_⟩
 obtain ⟨cg,hM⟩:=M.e_gd hM;obtain ⟨ch,hM⟩:=M.e_gd hM;refine kg 8 ?_;refine d_q rfl (fun w' H=>x_ld (v:=I ((w_.getD (Int.toNat s) default).minutes)) rfl (ld_sc Sc3 (At.mono (Work_at2 aj (i:=s) (by omega) (by omega)) (ai.at H)))) ?_;refine kg 2 ?_
 refine W.cond (decide (((w_.getD (Int.toNat s) default).minutes)<(r4.getD (Int.toNat s) 0))) rfl (fun ao=>?_) (fun ao=>?_)
 ·replace hM:=M.e_t hM ao
  replace ao:=dI ao
  refine kg 8 ?_
  obtain ⟨aF,bc,az⟩:=Work_at0 aj (i:=s) (by omega) (by omega)
  replace az:Sl _ aF (w_.getD (Int.toNat s) default).of:=az
  have ci:=az.len_le
  refine s_val (x_ld (v:=aF) rfl (ld_sc Sc26 (At.mono (bc) (ai.at H))))<|s_val (x_mf (fs:=[]) (cs:=[Pq ah,Pq ac,Pq ag]) rfl rfl) ?_;obtain ⟨cj,bg,hM⟩:=M.e_bind hM;refine s_call cf53 [aF,.func (.func 54) #[] #[Pq ah,Pq ac,Pq ag]] rfl (zcB ((w_.getD (Int.toNat s) default).of) (fun aG=>zcJ aG r4 s w_) (ai.app _) az ⟨54,[Pq ah,Pq ac,Pq ag],rfl,cf54,fun aO ck cm bh aG cn bi co bj bm=>by obtain rfl:=Arg.int bj; exact (zdy aG r4 s w_ (Reads.app (rdo 3) _) (H.os 3) (Has.app (Has.here (k:=2) rfl) _) (Has.app (Has.here (k:=1) rfl) _) (Reads.app (ai.app _) _) aj (Has.app (Has.here (k:=4) rfl) _) bm aO (St.refl bi)).mono fun bh aO ⟨cp,bn,bp,br⟩=>by subst bn; exact ⟨bp,br⟩⟩ bg _ (H.gt 5)) ?_
  rintro vq cq ⟨r7,rfl,hvq,aa⟩
  subst vq;(try dsimp only at hM);replace H:=H.bk aa;clear aa;refine kg 8 ?_
  obtain ⟨aP,bt,aH⟩:=Work_at0 aj (i:=s) (by omega) (by omega)
  replace aH:Sl _ aP (w_.getD (Int.toNat s) default).of:=aH
  have cr:=aH.len_le
  refine s_val (x_ld (v:=aP) rfl (ld_sc Sc26 (At.mono (bt) (ai.at H)))) ?_;obtain ⟨ct,hM⟩:=M.e_gd hM;refine kg 3 ?_;refine t_sw 1 0 [I (((w_.getD (Int.toNat s) default).of).getD (Int.toNat r7) 0)] (I (((w_.getD (Int.toNat s) default).of).getD (Int.toNat r7) 0)) H rfl rfl Sz3 rfl rfl rfl rfl ?_;intro cu H;refine kg 4 ?_;refine t_bs (α:=Int) T26 [I (((w_.getD (Int.toNat s) default).of).getD (Int.toNat r7) 0)] [(((w_.getD (Int.toNat s) default).of).getD (Int.toNat r7) 0:Int)] H rfl (.cons rfl (Flat.rep_enc _ (((w_.getD (Int.toNat s) default).of).getD (Int.toNat r7) 0:Int))<|.nil) rfl rfl rfl ?_;intro bu cv H;obtain ⟨cw,hM⟩:=M.e_gd hM;refine t_app (α:=Int) (k:=1) (l:=l) (l2:=[(((w_.getD (Int.toNat s) default).of).getD (Int.toNat r7) 0:Int)]) (l':=l++([(((w_.getD (Int.toNat s) default).of).getD (Int.toNat r7) 0:Int)])) (vy:=bu) T26 rfl H rfl rfl rfl (H.os 0) (H.ol 0) (rfl) (by first | omega | (simp only [List.length_nil] at *; omega)) ?_;intro bv cx H;replace H:=H.nf;refine kg 2 ?_
  exact ⟨ba,bb,((w_.getD (Int.toNat s) default).of).getD (Int.toNat r7) 0,l++([(((w_.getD (Int.toNat s) default).of).getD (Int.toNat r7) 0:Int)]),bv,_,upds_of _ _ ⟨rfl,rfl,rfl,rfl,trivial⟩,M.e_inl hM aN,(H.pk [1,2,3,4,5])⟩
 replace hM:=M.e_f hM ao
 replace ao:=dI ao
 refine W.exit ?_
 have bw:=M.e_inr hM aN
 subst bw;replace hM:=a9;(try dsimp only at hM);replace H:=H.pk [0];refine kg 3 ?_;obtain ⟨cy,bx,hM⟩:=M.e_bind hM;refine s_call cf55 [ap] rfl (zdH l bx _ (H.gt 0)) ?_
 rintro vq cz ⟨l_s,rfl,hvq,aa⟩
 subst vq;(try dsimp only at hM);replace H:=H.bk aa;clear aa;refine kg 7 ?_;refine W.ret ?_
 have aw:=M.e_pure hM
 exact ⟨_,resE_tmp2 rfl,⟨l_s,0,ap,aw,rfl,H⟩⟩

def zc9 (aa:List Work) (one:Int):M Int :=
  M.pure one
theorem zd3 {R:List Chunk} {aa:Nat} {ab:Cells} {ac:Value} (ae:List Work) (one:Int) (ao:Reads R ab) (ap:Sl ab ac ae) (aq:Has R (cBlk aa [ac] 102)) {r:Int} (hM:(zc9 ae one).Ends r) (w:World) (H:St w w [] R):Ret Try.prog 57 #[Pq aa,I one] w fun v w'=>∃ (y0:Int) (ag:Nat) (ah:Nat),y0=r/\v = .func (.func 77) #[] #[Pq ag,Pq ah]/\St w w' [cBlk ag [Pq aa] 62,cBlk ah [I y0] 3] R:=by
 refine ret_of_W Try.func57 rfl rfl rfl ?_;refine kg 2 ?_;refine t_b1 (Pq aa) H rfl rfl ?_;intro ai au H;refine t_b1 (I one) H rfl rfl ?_;intro aj av H;refine kg 4 ?_;refine s_val (x_mf (fs:=[]) (cs:=[Pq ai,Pq aj]) rfl rfl) ?_;refine kg 2 ?_;refine W.ret ?_
 have am:=M.e_pure hM
 exact ⟨_,resE_tmp rfl,⟨one,ai,aj,am,rfl,(H.pk [1,0])⟩⟩

def zbO (aa:List Work) (work other:Int):M Bool :=
  M.grd (decide ((0:Int)<=work)&&decide (work<(aa.length:Int))) <|
  M.bind (zaa ((aa.getD (Int.toNat work) default).of) other) fun r2 =>
  M.pure r2
theorem zdd {R:List Chunk} {ae:Nat} {ag:Cells} {ah:Value} (aa:List Work) (work:Int) (other:Int) (ai:Reads R ag) (am:Sl ag ah aa) (au:Has R (cBlk ae [ah] 102)) {r:Bool} (hM:(zbO aa work other).Ends r) (w:World) (H:St w w [] R):Ret Try.prog 78 #[Pq ae,I work,I other] w fun v w'=>∃ (y0:Bool),y0=r/\v=B y0/\St w w' [] R:=by
 refine ret_of_W Try.func78 rfl rfl rfl ?_;obtain ⟨av,hM⟩:=M.e_gd hM;refine kg 14 ?_
 obtain ⟨ac,ao,ab⟩:=Work_at0 am (i:=work) (by omega) (by omega)
 replace ab:Sl _ ac (aa.getD (Int.toNat work) default).of:=ab
 have aw:=ab.len_le
 refine s_val (x_ld (v:=ac) rfl (ld_sc Sc26 (At.mono (ao) (ai.at H)))) ?_;refine kg 1 ?_;obtain ⟨ax,ap,hM⟩:=M.e_bind hM;refine s_call cf12 [ac,I other] rfl (zaj ((aa.getD (Int.toNat work) default).of) other (ai.app _) ab ap _ (H.gt 0)) ?_
 rintro vq ay ⟨r2,rfl,hvq,aj⟩
 subst vq;(try dsimp only at hM);replace H:=H.bk aj;clear aj;refine kg 2 ?_;refine W.ret ?_
 have aq:=M.e_pure hM
 exact ⟨_,resE_tmp rfl,⟨r2,aq,rfl,H⟩⟩

def zbJ {T_:Type} (ab:T_->Int->M (Bool × T_)) (aa:List Work) (ac:Int):(Nat × T_)->M ((Nat × T_) ⊕ (T_ ⊕ T_)):=fun (s,t2) =>
  bif decide ((s:Int)<(aa.length:Int)) then (
  M.bind (zbO aa (s:Int) ac) fun r2 =>
  M.bind (M.opt r2 (ab t2 (s:Int)) (false,t2)) fun (go,t) =>
  bif (r2&&(!go)) then (
  M.pure (.inr (.inl t)))
  else (
  M.pure (.inl (s+1,t))))
  else (
  M.pure (.inr (.inr t2)))
def zaZ {T_:Type} (aa:T_->Int->M (Bool × T_)) (t_:T_) (ab:List Work) (ac:Int):M T_ :=
  M.bind (M.iter (zbJ aa ab ac) (0,t_)) fun x_=>match x_ with
  | (.inl t3)=>(
  M.pure t3)
  | (.inr t4)=>(
  M.pure t4)
theorem zd5 {R:List Chunk} {T_:Type} {Y_:T_->List Chunk->Prop} {ae:Value} {ag:List Chunk} {ah:Nat} {ai:Nat} {av:Cells} {aw:Value} {aj:Nat} (am:T_->Int->M (Bool × T_)) (t_:T_) (ab:List Work) (ac:Int) (aE:YieldC Try.prog R arI Y_ ae am) (aF:Y_ t_ ag) (aG:Reads R av) (ax:Sl av aw ab) (aH:Has R (cBlk ai [aw] 102)) (aP:Has R (cBlk ah [Pq ai] 62)) (aQ:Has R (cBlk aj [I ac] 3)) {r:T_} (hM:(zaZ am t_ ab ac).Ends r) (w:World) (H:St w w [cAll ag] R):Ret Try.prog 77 #[ae,Pq ah,Pq aj] w fun v w'=>∃ (y0:T_) (Ls0:List Chunk),y0=r/\v = .tuple #[]/\St w w' [cAll Ls0] R/\Y_ y0 Ls0:=by
 refine ret_of_W Try.func77 rfl rfl rfl ?_
 have aR:=(ax).len_le
 refine kg 11 ?_;obtain ⟨aI,ao,ay⟩:=M.e_bind hM
 obtain ⟨aS,ao⟩:=M.e_iter ao
 refine W.loop (fun m σ W=>∃ (s:Nat) (t2:T_) (Ls_t2:List Chunk) (ρ:Env),σ=upds ρ [(0,ae),(1,Pq ah),(2,Pq aj),(10,I (ab.length:Int)),(11,I (s:Int))]/\M.iterN (zbJ am ab ac) m (s,t2)=some aI/\St w W [cAll Ls_t2] R/\Y_ t2 Ls_t2) ?_ ?_
 ·exact ⟨_,0,t_,ag,_,upds_of _ _ ⟨rfl,rfl,rfl,rfl,rfl,trivial⟩,ao,H,aF⟩
 rintro aT σ aU ⟨s,t2,Ls_t2,ρ,rfl,az,H,hY_t2⟩
 obtain ⟨aJ,aK,aV,hM,ap⟩:=M.e_iterN az
 simp only [zbJ] at hM
 clear az;refine kg 5 ?_
 refine W.cond (decide ((s:Int)<(ab.length:Int))) rfl (fun aa=>?_) (fun aa=>?_)
 ·replace hM:=M.e_t hM aa
  replace aa:=dI aa
  refine kg 13 ?_;obtain ⟨aW,aL,hM⟩:=M.e_bind hM;refine s_call cf78 [Pq ai,I (s:Int),I ac] rfl (zdd ab (s:Int) ac (aG.app _) ax (aH.app _) aL _ (H.gt 1)) ?_
  rintro vq aX ⟨r2,rfl,hvq,aB⟩
  subst vq;(try dsimp only at hM);replace H:=H.bk aB;clear aB;refine kg 3 ?_
  obtain ⟨⟨go,t⟩,aM,hM⟩:=M.e_bind hM
  (try dsimp only at hM);refine t_gyield (L:=[]) r2 (gy_t rfl) H aE hY_t2 (fun hg=>(gd_of hg (ae))) [I (s:Int)] (fun hg=>lst1 (gd_of hg (I (s:Int)))) (s:Int) Reads.none rfl aM ?_;intro aC aY aD H;replace H:=H.nf;refine kg 1 ?_;refine s_val (x_pand (b:=r2) (r:=!go) rfl (fun hb=>gd_of (c:=r2) (by first | exact hb | (rw [hb]; rfl) | simp_all) (B (!go))) rfl)<|s_nil ?_
  refine W.cond (r2&&(!go)) rfl (fun aq=>?_) (fun aq=>?_)
  ·replace hM:=M.e_t hM aq;refine W.ret ?_
   have aN:=M.e_inr hM ap
   subst aN;replace hM:=ay;(try dsimp only at hM)
   have au:=M.e_pure hM
   exact ⟨_,resE_tmp0 rfl,⟨t,aC,au,rfl,H,aD⟩⟩
  replace hM:=M.e_f hM aq;refine kg 5 ?_
  exact ⟨aJ,aK,s+1,t,aC,_,upds_of _ _ ⟨rfl,rfl,rfl,rfl,rfl,trivial⟩,M.e_inl hM ap,H,aD⟩
 replace hM:=M.e_f hM aa
 replace aa:=dI aa
 refine W.exit ?_
 have aO:=M.e_inr hM ap
 subst aO;replace hM:=ay;(try dsimp only at hM)
 have au:=M.e_pure hM
 exact ⟨_,resE_tmp0 rfl,⟨t2,Ls_t2,au,rfl,H,hY_t2⟩⟩
theorem zcX {T_:Type} {n_:Nat} {y y':T_->Int->M (Bool × T_)} (h:∀ s a,M.LeN n_ (y s a) (y' s a)) (t_:T_) (aa:List Work) (ab:Int):M.LeN n_ (zaZ y t_ aa ab) (zaZ y' t_ aa ab):=by
  simp only [zaZ,zbJ]
  repeat' (first | exact M.le_same _ _ | exact h _ _ | refine M.le_grd ?_ | refine M.le_if ?_ ?_ | refine M.le_bind ?_ (fun x=>?_) | refine M.le_opt ?_ | refine M.le_iter (fun x=>?_) _ | (rename_i x; cases x) | (rename_i x; obtain ⟨_,_⟩:=x))

def zbC (i:Int) (aa:List Int):M Bool :=
  M.bind (zaa aa i) fun r2 =>
  M.pure r2
theorem zcO {R:List Chunk} {ac:Nat} {ae:Cells} {aa:Value} (i:Int) (ab:List Int) (ah:Reads R ae) (ai:Sl ae aa ab) (ao:Has R (cBlk ac [aa] 26)) {r:Bool} (hM:(zbC i ab).Ends r) (w:World) (H:St w w [] R):Ret Try.prog 56 #[I i,Pq ac] w fun v w'=>∃ (y0:Bool),y0=r/\v=B y0/\St w w' [] R:=by
 refine ret_of_W Try.func56 rfl rfl rfl ?_;refine kg 8 ?_;obtain ⟨ap,aj,hM⟩:=M.e_bind hM;refine s_call cf12 [aa,I i] rfl (zaj ab i (ah.app _) ai aj _ (H.gt 0)) ?_
 rintro vq aq ⟨r2,rfl,hvq,ag⟩
 subst vq;(try dsimp only at hM);replace H:=H.bk ag;clear ag;refine kg 2 ?_;refine W.ret ?_
 have am:=M.e_pure hM
 exact ⟨_,resE_tmp rfl,⟨r2,am,rfl,H⟩⟩

def zaF (fence:List Int):Unit->Int->M (Unit ⊕ Unit):=fun (_:Unit) x =>
  M.bind (zbC x fence) fun r5 =>
  bif !r5 then (
  M.pure (.inr ()))
  else (
  M.pure (.inl ()))
def zcK (w_:List Work) (fence:List Int):Nat->M (Nat ⊕ (Unit ⊕ Unit)):=fun s =>
  bif decide ((s:Int)<(fence.length:Int)) then (
  M.grd (decide ((s:Int)<(fence.length:Int))) <|
  M.bind (zc9 w_ (fence.getD s 0)) fun aa =>
  M.bind (zaZ (M.yl (zaF fence)) (.inl ()) w_ aa) fun x_=>match x_ with
  | .inl _=>(
  M.pure (.inl (s+1)))
  | .inr _=>(
  M.pure (.inr (.inl ()))))
  else (
  M.pure (.inr (.inr ())))
def zbu (w_:List Work) (revised fence:List Int):M (Bool × Int) :=
  M.bind (zaB w_ revised) fun x_=>match x_ with
  | (.inl (r2,r3))=>(
  bif r3==0 then (
  M.fail)
  else (
  bif r3 != 0 then (
  M.pure (false,r3))
  else (
  M.fail)))
  | (.inr (r1,ac,aa))=>(
  bif aa==0 then (
  M.bind (zcI w_ fence) fun r4 =>
  bif r4 != 0 then (
  M.pure (false,r4))
  else (
  M.bind (M.iter (zcK w_ fence) 0) fun x_=>match x_ with
  | (.inl (_:Unit))=>(
  M.pure (false,0))
  | (.inr (_:Unit))=>(
  M.bind (zam (fun ab=>zbC ab fence) revised) fun r6 =>
  M.pure (r6,0))))
  else (
  M.fail))
theorem zdj {R:List Chunk} {aU:Cells} {ai:Value} {aV:Cells} {az:Value} {aW:Cells} {ae:Value} (w_:List Work) (revised:List Int) (fence:List Int) (ax:Reads R aU) (aB:Sl aU ai w_) (aI:Reads R aV) (aK:Sl aV az revised) (aC:Reads R aW) (ay:Sl aW ae fence) {r:(Bool × Int)} (hM:(zbu w_ revised fence).Ends r) (w:World) (H:St w w [] R):Ret Try.prog 34 #[ai,az,ae] w fun v w'=>∃ (y0:Bool) (y1:Int),(y0,y1)=r/\v = .tuple #[B y0,I y1]/\St w w' [] R:=by
 refine ret_of_WD Try.func34 rfl rfl rfl ?_
 replace H:St w w [cMk ([])] R:=H.mk0
 have bQ:=aB.len_le
 have bR:=aK.len_le
 have bS:=ay.len_le
 unfold zbu at hM
 refine WD.seq<|WD.of<|W.region rfl ?_;refine t_box (v:=ae) (cs:=[ae]) H rfl (Sl.cells ay) ?_;intro aa bT H;refine t_alloc (cs:=[B false]) H Al4 rfl ?_;intro ag bU H;refine t_alloc (cs:=[I 0]) H Al40 rfl ?_;intro ah bV H;refine s_nil<|WD.seq<|WD.of ?_;refine kg 3 ?_;obtain ⟨bW,a6,hM⟩:=M.e_bind hM;refine s_call cf26 [ai,az] rfl (za1 w_ revised (ax.app _) aB (aI.app _) aK a6 _ (H.gt 4)) ?_
 rintro vq bX (⟨r2,r3,a7,hvq,ab,a8⟩ | ⟨r1,aX,a9,ac,ba,bb,hvq,ab,bc⟩)
 ·subst a7;subst vq;(try dsimp only at hM);replace H:=H.bk ab;clear ab;refine kg 5 ?_;refine t_alloc (cs:=encB (List.replicate 30 false)) H Al73 rfl ?_;intro aD bY H
  have aL:(List.replicate 30 false).length=30:=by simp
  refine kg 2 ?_;refine t_stArrA (k:=0) (b:=aD) (l:=List.replicate 30 false) (l':=r2) (L':=[cBlk aD (encB r2) 73,cBlk ah [I 0] 40,cBlk ag [B false] 4,cBlk aa [ae] 26,cMk ([])]) H rfl rfl rfl Sz73 aL a8 rfl ?_;intro bZ H;refine kg 2 ?_;refine WD.seq<|WD.seq<|WD.of ?_;refine kg 4 ?_
  refine WD.cond (r3==0) rfl (fun aE=>?_) (fun aE=>?_)
  ·replace hM:=M.e_t hM aE
   exact (M.e_fail hM).elim
  replace hM:=M.e_f hM aE
  replace aE:=dI aE
  refine WD.of<|W.skip<|WD.seq<|WD.seq<|WD.of ?_;refine kg 4 ?_
  refine WD.cond (r3 != 0) rfl (fun aF=>?_) (fun aF=>?_)
  ·replace hM:=M.e_t hM aF
   replace aF:=dI aF
   refine WD.seq<|WD.of ?_;refine kg 2 ?_;refine t_sw 2 0 [B false] (B false) H rfl rfl Sz4 rfl rfl rfl rfl ?_;intro b7 H;refine t_sw 1 0 [I r3] (I r3) H rfl rfl Sz40 rfl rfl rfl rfl ?_;intro b8 H;refine s_nil ?_;replace H:=H.pk [1,2,4];refine WD.of ?_;refine W.ret ?_;refine bodyD_r (H.pk [2,0,1]) ?_;intro b9 H;replace H:=H.nf
   have bg:=(H.bl 1)
   have bh:=(H.bl 0)
   have ao:=M.e_pure hM
   exact ⟨_,(resE_ofn (vs:=[B false,I r3]) rfl rfl (.cell (v:=B false) rfl (run_loadVar_sc Sc4 bg rfl)<|.cell (v:=I r3) rfl (run_loadVar_sc Sc40 bh rfl)<|.nil)),⟨false,r3,ao,rfl,(H.pk [])⟩⟩
  replace hM:=M.e_f hM aF
  exact (M.e_fail hM).elim
 subst bb;subst vq;(try dsimp only at hM);replace H:=H.bk ab;clear ab;refine kg 5 ?_;refine t_alloc (cs:=encB (List.replicate 30 false)) H Al73 rfl ?_;intro aD ca H
 have aL:(List.replicate 30 false).length=30:=by simp
 refine kg 2 ?_;refine t_stArrA (k:=0) (b:=aD) (l:=List.replicate 30 false) (l':=aX) (L':=[cBlk aD (encB aX) 73,cBlk ac [ai] 102,cOwn (α:=Int) 3 ba r1,cBlk ah [I 0] 40,cBlk ag [B false] 4,cBlk aa [ae] 26,cMk ([])]) H rfl rfl rfl Sz73 aL bc rfl ?_;intro cb H;refine kg 2 ?_;replace H:=H.pk [1,3,4,5,6];refine WD.seq<|WD.seq<|WD.of ?_;refine kg 4 ?_
 refine WD.cond (a9==0) rfl (fun aG=>?_) (fun aG=>?_)
 ·replace hM:=M.e_t hM aG
  replace aG:=dI aG
  refine WD.of ?_;refine kg 3 ?_;obtain ⟨cc,bi,hM⟩:=M.e_bind hM;refine s_call cf44 [ai,ae] rfl (zcP w_ fence (ax.app _) aB (aC.app _) ay bi _ (H.gt 5)) ?_
  rintro vq cd ⟨r4,rfl,hvq,ab⟩
  subst vq;(try dsimp only at hM);replace H:=H.bk ab;clear ab;refine kg 2 ?_;refine WD.seq<|WD.seq<|WD.of ?_;refine kg 4 ?_
  refine WD.cond (r4 != 0) rfl (fun ap=>?_) (fun ap=>?_)
  ·replace hM:=M.e_t hM ap
   replace ap:=dI ap
   refine WD.seq<|WD.of ?_;refine kg 2 ?_;refine t_sw 2 0 [B false] (B false) H rfl rfl Sz4 rfl rfl rfl rfl ?_;intro ce H;refine t_sw 1 0 [I r4] (I r4) H rfl rfl Sz40 rfl rfl rfl rfl ?_;intro cf H;refine s_nil ?_;replace H:=H.pk [1,2,4];refine WD.of ?_;refine W.ret ?_;refine bodyD_r (H.pk [2,0,1]) ?_;intro cg H;replace H:=H.nf
   have bj:=(H.bl 1)
   have bm:=(H.bl 0)
   have ao:=M.e_pure hM
   exact ⟨_,(resE_ofn (vs:=[B false,I r4]) rfl rfl (.cell (v:=B false) rfl (run_loadVar_sc Sc4 bj rfl)<|.cell (v:=I r4) rfl (run_loadVar_sc Sc40 bm rfl)<|.nil)),⟨false,r4,ao,rfl,(H.pk [])⟩⟩
  replace hM:=M.e_f hM ap
  replace ap:=dI ap
  refine WD.of<|W.skip<|WD.seq<|WD.of<|W.region rfl<|s_val (x_mf (fs:=[]) (cs:=[Pq aa]) rfl rfl) ?_;refine t_alloc (cs:=[.nilFunc]) H Al72 rfl ?_;intro aj ch H;refine t_sw 0 0 [.func (.func 56) #[] #[Pq aa]] (.func (.func 56) #[] #[Pq aa]) H rfl rfl Sz72 rfl rfl rfl rfl ?_;intro ci H;refine s_nil<|WD.seq<|WD.seq<|WD.of ?_
  have cj:=(ay).len_le
  refine kg 5 ?_;refine WD.block ?_;obtain ⟨bn,aM,aY⟩:=M.e_bind hM
  obtain ⟨ck,aM⟩:=M.e_iter aM
  refine WD.loop (fun m aH σ W=>∃ (s:Nat) (ρ:Env),σ=upds ρ [(1,az),(6,Pq ag),(7,Pq ah),(8,Pq ac),(12,Pq aj),(33,ae),(34,I (fence.length:Int)),(35,I (s:Int))]/\M.iterN (zcK w_ fence) m s=some bn/\St w W [cBlk aj [.func (.func 56) #[] #[Pq aa]] 72,cBlk ac [ai] 102,cBlk ah [I 0] 40,cBlk ag [B false] 4,cBlk aa [ae] 26,cMk aH] R) ?_ ?_
  ·exact ⟨_,0,_,upds_of _ _ ⟨rfl,rfl,rfl,rfl,rfl,rfl,rfl,rfl,trivial⟩,aM,H⟩
  rintro cm aH σ cn ⟨s,ρ,rfl,aZ,H⟩
  obtain ⟨bp,br,co,hM,aN⟩:=M.e_iterN aZ
  simp only [zcK] at hM
  clear aZ;refine WD.seq<|WD.of ?_;refine kg 3 ?_;refine WD.seq ?_
  refine WD.cond (decide ((s:Int)<(fence.length:Int))) rfl (fun aq=>?_) (fun aq=>?_)
  ·replace hM:=M.e_t hM aq
   replace aq:=dI aq
   refine WD.of<|W.skip<|WD.seq<|WD.block<|WD.seq<|WD.of ?_;obtain ⟨cp,hM⟩:=M.e_gd hM;refine kg 5 ?_;refine WD.seq<|WD.of ?_;refine kg 3 ?_;obtain ⟨cq,bt,hM⟩:=M.e_bind hM;refine s_call cf57 [Pq ac,I (fence.getD s 0)] rfl (zd3 w_ (fence.getD s 0) (ax.app _) aB (Has.here (k:=1) rfl) bt _ (H.gt 6)) ?_
   rintro vq cr ⟨au,av,aw,rfl,hvq,ab⟩
   subst vq;(try dsimp only at hM);replace H:=H.bk ab;clear ab;refine s_nil<|WD.block ?_;obtain ⟨ct,bu,hM⟩:=M.e_bind hM;refine WD.range (L:=[cBlk ah [I 0] 40,cBlk ag [B false] 4,cBlk av [Pq ac] 62,cBlk aw [I au] 3,cBlk aj [.func (.func 56) #[] #[Pq aa]] 72,cBlk ac [ai] 102,cBlk aa [ae] 26]) [Pq av,Pq aw] (H.pk [7,4,5,0,1,2,3,6]) rfl cf77 ?_;intro aJ aO aP bv aQ H
   have hYC:YieldC Try.prog ([cMk (aO :: aH),cBlk av [Pq ac] 62,cBlk aw [I au] 3,cBlk aj [.func (.func 56) #[] #[Pq aa]] 72,cBlk ac [ai] 102,cBlk aa [ae] 26]++R) arI (yJ aJ aP (fun _ am=>am=[cBlk ah [I 0] 40,cBlk ag [B false] 4]) (fun _ am=>am=[cBlk ah [I 0] 40,cBlk ag [B false] 4]) (fun _=>.ret)) (.func (.yield aJ) #[] #[]) (M.yl (zaF fence)):=by
    refine YieldC.mk aQ (fun _ am=>am=[cBlk ah [I 0] 40,cBlk ag [B false] 4]) (fun _ am=>am=[cBlk ah [I 0] 40,cBlk ag [B false] 4]) (fun _=>.ret) (zaF fence) (by rintro _ _ h_; obtain ⟨rfl⟩:=h_; rfl) (by rintro _ _ h_; (obtain ⟨rfl⟩:=h_; rfl)) rfl (arI_len rfl) ?_;intro C_ cu x W_ bw
    obtain rfl:=bw
    refine kg 3 ?_
    refine ⟨rfl,rfl,?_⟩
    intro w R aR am s_ r bx hM H
    skip
    obtain ⟨rfl⟩:=bx
    replace ax:=ax.sub aR
    replace aI:=aI.sub aR
    replace aC:=aC.sub aR
    replace hM:(zaF fence () x).Ends r:=hM
    simp only [zaF] at hM
    replace H:=H.pk [0,1,3,4,5,6,7,2];refine kg 5 ?_;obtain ⟨cv,bz,hM⟩:=M.e_bind hM;refine s_callv (f:=56) rfl cf56 [I x] rfl (zcO x fence (aC.app _) ay (Has.here (k:=6) rfl) bz _ (H.gt 8)) ?_
    rintro vq cw ⟨r5,rfl,hvq,ab⟩
    subst vq;(try dsimp only at hM);replace H:=H.bk ab;clear ab;refine kg 2 ?_
    refine W.cond (!r5) rfl (fun aS=>?_) (fun aS=>?_)
    ·replace hM:=M.e_t hM aS;refine kg 2 ?_;refine t_sw 1 0 [B false] (B false) H rfl rfl Sz4 rfl rfl rfl rfl ?_;intro cx H;refine t_sw 0 0 [I 0] (I 0) H rfl rfl Sz40 rfl rfl rfl rfl ?_;intro cy H;refine s_nil ?_;refine W.ret ?_
     exact ⟨(),[cBlk ah [I 0] 40,cBlk ag [B false] 4],(M.e_pure hM).symm,rfl,H.pick [0,1,7,2,3,4,5,6] (by decide) rfl,rfl⟩
    replace hM:=M.e_f hM aS;refine W.skip ?_
    exact ⟨(),[cBlk ah [I 0] 40,cBlk ag [B false] 4],(M.e_pure hM).symm,rfl,H.pick [0,1,7,2,3,4,5,6] (by decide) rfl⟩
   replace H:St w bv (cAll (cObj aJ (.loop aP) :: [cBlk ah [I 0] 40,cBlk ag [B false] 4]) :: [cMk (aO :: aH),cBlk av [Pq ac] 62,cBlk aw [I au] 3,cBlk aj [.func (.func 56) #[] #[Pq aa]] 72,cBlk ac [ai] 102,cBlk aa [ae] 26]) R:=St.bundleB (A:=cObj aJ (.loop aP) :: [cBlk ah [I 0] 40,cBlk ag [B false] 4]) (T:=[cMk (aO :: aH),cBlk av [Pq ac] 62,cBlk aw [I au] 3,cBlk aj [.func (.func 56) #[] #[Pq aa]] 72,cBlk ac [ai] 102,cBlk aa [ae] 26]) rfl (H.pk [0,2,3,1,4,5,6,7,8])
   refine (zd5 (M.yl (zaF fence)) (.inl ()) w_ au hYC ⟨_,rfl,rfl⟩ (ax.app _) aB (Has.here (k:=4) rfl) (Has.here (k:=1) rfl) (Has.here (k:=2) rfl) bu _ (H.gt 6)).mono ?_
   rintro vq cz ⟨bA,cA,rfl,hvq,ab,a4⟩
   replace H:=H.back ab rfl
   clear ab hYC
   rcases bA with _ | _
   ·(try dsimp only at hM)
    obtain ⟨_,rfl,rfl⟩:=a4
    refine ⟨_,[cBlk ah [I 0] 40,cBlk ag [B false] 4,cBlk av [Pq ac] 62,cBlk aw [I au] 3,cBlk aj [.func (.func 56) #[] #[Pq aa]] 72,cBlk ac [ai] 102,cBlk aa [ae] 26],H.unbundle.pick [0,3,1,2,4,5,6,7,8] (by decide) rfl,aQ.nb,?_⟩
    intro bB H
    rw [aQ.pd]
    replace H:=H.nf
    try simp only []
    replace H:=H.pk [0,1,2,5,6,7];refine WD.of ?_;refine kg 4 ?_
    exact ⟨bp,br,s+1,_,upds_of _ _ ⟨rfl,rfl,rfl,rfl,rfl,rfl,rfl,rfl,trivial⟩,M.e_inl hM aN,(H.pk [3,4,1,2,5,0])⟩
   (try dsimp only at hM)
   obtain ⟨_,rfl,rfl⟩:=a4
   refine ⟨_,[cBlk ah [I 0] 40,cBlk ag [B false] 4,cBlk av [Pq ac] 62,cBlk aw [I au] 3,cBlk aj [.func (.func 56) #[] #[Pq aa]] 72,cBlk ac [ai] 102,cBlk aa [ae] 26],H.unbundle.pick [0,3,1,2,4,5,6,7,8] (by decide) rfl,nofun,?_⟩
   intro bB H
   show WD _ _ _ (.ret) _ _ _
   refine WD.of ?_;refine W.ret ?_;replace H:=H.nf
   have bC:=M.e_inr hM aN
   subst bC;replace hM:=aY;(try dsimp only at hM);refine bodyD_r (H.pk [0,1,2,3,4,5,6,7]) ?_;intro cB H;replace H:=H.nf
   have bD:=(H.bl 1)
   have bE:=(H.bl 0)
   have ao:=M.e_pure hM
   exact ⟨_,(resE_ofn (vs:=[B false,I 0]) rfl rfl (.cell (v:=B false) rfl (run_loadVar_sc Sc4 bD rfl)<|.cell (v:=I 0) rfl (run_loadVar_sc Sc40 bE rfl)<|.nil)),⟨false,0,ao,rfl,(H.pk [])⟩⟩
  replace hM:=M.e_f hM aq
  replace aq:=dI aq
  refine WD.of ?_;refine W.exit ?_
  have bF:=M.e_inr hM aN
  subst bF;replace hM:=aY;(try dsimp only at hM);refine WD.seq<|WD.of ?_;refine kg 3 ?_;obtain ⟨cC,bG,hM⟩:=M.e_bind hM;refine s_call cf24 [.func (.func 56) #[] #[Pq aa],az] rfl (zaR (fun aT=>zbC aT fence) revised ⟨56,[Pq aa],rfl,cf56,fun a5 cD cE bH aT cF bI cG bJ bK=>by obtain rfl:=Arg.int bJ; exact (zcO aT fence (Reads.app (aC.app _) _) ay (Has.app (Has.here (k:=4) rfl) _) bK a5 (St.refl bI)).mono fun bH a5 ⟨cH,bL,bM,bN⟩=>by subst bL; exact ⟨bM,bN⟩⟩ (aI.app _) aK bG _ (H.gt 6)) ?_
  rintro vq cI ⟨r6,rfl,hvq,ab⟩
  subst vq;(try dsimp only at hM);replace H:=H.bk ab;clear ab;refine t_sw 3 0 [B r6] (B r6) H rfl rfl Sz4 rfl rfl rfl rfl ?_;intro cJ H;refine t_sw 2 0 [I 0] (I 0) H rfl rfl Sz40 rfl rfl rfl rfl ?_;intro cK H;refine s_nil ?_;replace H:=H.pk [2,3,5];refine WD.of ?_;refine W.ret ?_;refine bodyD_r (H.pk [2,0,1]) ?_;intro cL H;replace H:=H.nf
  have bO:=(H.bl 1)
  have bP:=(H.bl 0)
  have ao:=M.e_pure hM
  exact ⟨_,(resE_ofn (vs:=[B r6,I 0]) rfl rfl (.cell (v:=B r6) rfl (run_loadVar_sc Sc4 bO rfl)<|.cell (v:=I 0) rfl (run_loadVar_sc Sc40 bP rfl)<|.nil)),⟨r6,0,ao,rfl,(H.pk [])⟩⟩
 replace hM:=M.e_f hM aG
 exact (M.e_fail hM).elim

def zcQ (w_:List Work) (revised:List Int) (work:Int):M (Int ⊕ Int) :=
  M.bind (zaB w_ revised) fun x_=>match x_ with
  | (.inl (r2,r3))=>(
  bif r3 != 0 then (
  M.pure (.inl r3))
  else (
  M.fail))
  | (.inr (r1,ab,aa))=>(
  bif aa != 0 then (
  M.fail)
  else (
  M.bind (zac work 0 ((w_.length:Int)-1)) fun r4 =>
  bif !r4 then (
  M.pure (.inl 2))
  else (
  M.bind (zaa revised work) fun r5 =>
  bif r5 then (
  M.pure (.inl 8))
  else (
  M.pure (.inr 0)))))
theorem zdD {R:List Chunk} {ap:Cells} {ac:Value} {aq:Cells} {ai:Value} (w_:List Work) (revised:List Int) (work:Int) (aB:Reads R ap) (au:Sl ap ac w_) (av:Reads R aq) (aw:Sl aq ai revised) {r:(Int ⊕ Int)} (hM:(zcQ w_ revised work).Ends r) (w:World) (H:St w w [] R):Ret Try.prog 79 #[ac,ai,I work] w fun v w'=>(∃ (y0:Int),(.inl y0)=r/\v = .tuple #[.pointer none,I y0]/\St w w' [] R)∨(∃ (y0:Int) (ax:Nat),(.inr y0)=r/\v = .tuple #[Pq ax,I y0]/\St w w' [cBlk ax [ac] 102] R):=by
 refine ret_of_W Try.func79 rfl rfl rfl ?_;refine kg 9 ?_;obtain ⟨aL,aC,hM⟩:=M.e_bind hM;refine s_call cf26 [ac,ai] rfl (za1 w_ revised (aB.app _) au (av.app _) aw aC _ (H.gt 0)) ?_
 rintro vq aM (⟨r2,r3,aD,hvq,aa,aE⟩ | ⟨r1,ay,aF,az,aG,aH,hvq,aa,aI⟩)
 ·subst aD;subst vq;(try dsimp only at hM);replace H:=H.bk aa;clear aa;refine kg 5 ?_;refine t_alloc (cs:=encB (List.replicate 30 false)) H Al73 rfl ?_;intro ae aN H
  have aj:(List.replicate 30 false).length=30:=by simp
  refine kg 2 ?_;refine t_stArrA (k:=0) (b:=ae) (l:=List.replicate 30 false) (l':=r2) (L':=[cBlk ae (encB r2) 73]) H rfl rfl rfl Sz73 aj aE rfl ?_;intro aO H;refine kg 10 ?_
  refine W.cond (r3 != 0) rfl (fun ag=>?_) (fun ag=>?_)
  ·replace hM:=M.e_t hM ag
   replace ag:=dI ag
   refine kg 6 ?_;refine W.ret ?_
   have ab:=M.e_pure hM
   exact ⟨_,resE_tmp2 rfl,.inl (⟨r3,ab,rfl,(H.pk [])⟩)⟩
  replace hM:=M.e_f hM ag
  exact (M.e_fail hM).elim
 subst aH;subst vq;(try dsimp only at hM);replace H:=H.bk aa;clear aa;refine kg 5 ?_;refine t_alloc (cs:=encB (List.replicate 30 false)) H Al73 rfl ?_;intro ae aP H
 have aj:(List.replicate 30 false).length=30:=by simp
 refine kg 2 ?_;refine t_stArrA (k:=0) (b:=ae) (l:=List.replicate 30 false) (l':=ay) (L':=[cBlk ae (encB ay) 73,cBlk az [ac] 102,cOwn (α:=Int) 3 aG r1]) H rfl rfl rfl Sz73 aj aI rfl ?_;intro aQ H;refine kg 2 ?_;replace H:=H.pk [1];refine kg 8 ?_
 refine W.cond (aF != 0) rfl (fun ah=>?_) (fun ah=>?_)
 ·replace hM:=M.e_t hM ah
  exact (M.e_fail hM).elim
 replace hM:=M.e_f hM ah
 replace ah:=dI ah
 have aR:=(au).len_le
 refine kg 6 ?_;obtain ⟨aS,aJ,hM⟩:=M.e_bind hM;refine s_call cf21 [I work,I 0,I ((w_.length:Int)-1)] rfl (zae work 0 ((w_.length:Int)-1) aJ _ (H.gt 1)) ?_
 rintro vq aT ⟨r4,rfl,hvq,aa⟩
 subst vq;(try dsimp only at hM);replace H:=H.bk aa;clear aa;refine kg 3 ?_
 refine W.cond (!r4) rfl (fun am=>?_) (fun am=>?_)
 ·replace hM:=M.e_t hM am;refine kg 5 ?_;refine W.ret ?_
  have ab:=M.e_pure hM
  exact ⟨_,resE_tmp2 rfl,.inl (⟨2,ab,rfl,(H.pk [])⟩)⟩
 replace hM:=M.e_f hM am;refine kg 4 ?_;obtain ⟨aU,aK,hM⟩:=M.e_bind hM;refine s_call cf12 [ai,I work] rfl (zaj revised work (av.app _) aw aK _ (H.gt 1)) ?_
 rintro vq aV ⟨r5,rfl,hvq,aa⟩
 subst vq;(try dsimp only at hM);replace H:=H.bk aa;clear aa;refine kg 2 ?_
 refine W.cond r5 rfl (fun ao=>?_) (fun ao=>?_)
 ·replace hM:=M.e_t hM ao;refine kg 5 ?_;refine W.ret ?_
  have ab:=M.e_pure hM
  exact ⟨_,resE_tmp2 rfl,.inl (⟨8,ab,rfl,(H.pk [])⟩)⟩
 replace hM:=M.e_f hM ao;refine kg 7 ?_;refine W.ret ?_
 have ab:=M.e_pure hM
 exact ⟨_,resE_tmp2 rfl,.inr (⟨0,az,ab,rfl,H⟩)⟩

def zbW (i:Int) (aa:List Work) (ab:Int):M Bool :=
  M.bind (zbO aa ab i) fun r2 =>
  M.pure r2
theorem zdq {R:List Chunk} {ae:Nat} {ab:Nat} {ag:Cells} {ah:Value} {ai:Nat} (i:Int) (ac:List Work) (aa:Int) (am:Reads R ag) (ao:Sl ag ah ac) (ap:Has R (cBlk ab [ah] 102)) (av:Has R (cBlk ae [Pq ab] 62)) (aw:Has R (cBlk ai [I aa] 3)) {r:Bool} (hM:(zbW i ac aa).Ends r) (w:World) (H:St w w [] R):Ret Try.prog 80 #[I i,Pq ae,Pq ai] w fun v w'=>∃ (y0:Bool),y0=r/\v=B y0/\St w w' [] R:=by
 refine ret_of_W Try.func80 rfl rfl rfl ?_;refine kg 9 ?_;obtain ⟨ax,aq,hM⟩:=M.e_bind hM;refine s_call cf78 [Pq ab,I aa,I i] rfl (zdd ac aa i (am.app _) ao (ap.app _) aq _ (H.gt 0)) ?_
 rintro vq ay ⟨r2,rfl,hvq,aj⟩
 subst vq;(try dsimp only at hM);replace H:=H.bk aj;clear aj;refine kg 2 ?_;refine W.ret ?_
 have au:=M.e_pure hM
 exact ⟨_,resE_tmp rfl,⟨r2,au,rfl,H⟩⟩

def zaP (ab:List Work) (aa:List Int) (n_work:Int) (ac:Gate->Option Int) (ae:Int->Option Bool) (i:Int):M Bool :=
  M.bind (M.opt (i != n_work) (zaa aa i) false) fun r2 =>
  M.pure ((i != n_work)&&(!r2))
theorem zbv {R:List Chunk} {ae:Nat} {ag:Nat} {ah:Cells} {ai:Value} {aj:Cells} {aa:Value} {am:Nat} {ao:Nat} (ap:List Work) (ab:List Int) (n_work:Int) (aq:Gate->Option Int) (au:Int->Option Bool) (i:Int) (az:Reads R ah) (aB:Sl ah ai ap) (aC:Has R (cBlk ag [ai] 102)) (av:Reads R aj) (aw:Sl aj aa ab) (aD:Has R (cMap encG I am aq)) (aE:Has R (cMap I B ao au)) (aF:Has R (cBlk ae [Pq ag,aa,I n_work,.map (some am),.map (some ao)] 126)) {r:Bool} (hM:(zaP ap ab n_work aq au i).Ends r) (w:World) (H:St w w [] R):Ret Try.prog 60 #[Pq ae,I i] w fun v w'=>∃ (y0:Bool),y0=r/\v=B y0/\St w w' [] R:=by
 refine ret_of_W Try.func60 rfl rfl rfl ?_;refine kg 18 ?_;obtain ⟨r2,ax,hM⟩:=M.e_bind hM;refine t_gcall (i != n_work) (gy_t rfl) cf12 (B r2) (fun _=>[aa,I i]) (fun hg=>lst2 (gd_of hg (aa)) (gd_of hg (I i))) H (fun hg=>(zaj ab i (av.app _) aw (M.e_opt ax hg) _ (H.give (A:=[]) rfl)).mono fun v_ w_ ⟨y_,ac,ay,H_⟩=>by subst ac; exact ⟨ay,H.via H_⟩) ?_;intro aG H;refine kg 1 ?_;refine s_val (x_pand (b:=i != n_work) (r:=!r2) rfl (fun hb=>gd_of (c:=i != n_work) (by first | exact hb | (rw [hb]; rfl) | simp_all) (B (!r2))) rfl) ?_;refine kg 2 ?_;refine W.ret ?_
 have ac:=M.e_pure hM
 exact ⟨_,resE_tmp rfl,⟨((i != n_work)&&(!r2)),ac,rfl,H⟩⟩

end Go.Proofs.Ytigidakpcepdkaa
end
section
set_option maxRecDepth 100000
set_option maxHeartbeats 16000000
namespace Go.Proofs.Ytigidakpcepdkaa
open Go Go.Nm
attribute [local irreducible] gd execOp SL SLD SLT WR
def za4 (ae:List Work) (ah:List Int) (n_work aa:Int) (ai:((List Work) × (List Int) × Int × (Gate->Option Int) × (Int->Option Bool) × Int)->M (Bool × (Gate->Option Int) × (Int->Option Bool))):((Gate->Option Int) × (Int->Option Bool) × Nat)->M (((Gate->Option Int) × (Int->Option Bool) × Nat) ⊕ (((Gate->Option Int) × (Int->Option Bool)) ⊕ ((Gate->Option Int) × (Int->Option Bool)))):=fun (mp,ac,s) =>
  bif decide ((s:Int)<(2*(ae.length:Int))) then (
  bif ((decide (0<((mp (⟨(aa:Int),(s:Int)⟩:Gate)).getD 0)))&&(!((ac (s:Int)).getD false))) then (
  M.bind (ai (ae,ah,n_work,mp,ac,(s:Int))) fun (r2,ab,ag) =>
  bif (((decide (0<((mp (⟨(aa:Int),(s:Int)⟩:Gate)).getD 0)))&&(!((ac (s:Int)).getD false)))&&r2) then (
  M.grd (decide ((-9223372036854775808:Int)<=(((ab (⟨(aa:Int),(s:Int)⟩:Gate)).getD 0)-1))&&decide ((((ab (⟨(aa:Int),(s:Int)⟩:Gate)).getD 0)-1)<=(9223372036854775807:Int))) <|
  M.grd (decide ((-9223372036854775808:Int)<=((((updF ab (⟨(aa:Int),(s:Int)⟩:Gate) (((ab (⟨(aa:Int),(s:Int)⟩:Gate)).getD 0)-1:Int)) (⟨(s:Int),(aa:Int)⟩:Gate)).getD 0)+1))&&decide (((((updF ab (⟨(aa:Int),(s:Int)⟩:Gate) (((ab (⟨(aa:Int),(s:Int)⟩:Gate)).getD 0)-1:Int)) (⟨(s:Int),(aa:Int)⟩:Gate)).getD 0)+1)<=(9223372036854775807:Int))) <|
  M.pure (.inr (.inl (updF (updF ab (⟨(aa:Int),(s:Int)⟩:Gate) (((ab (⟨(aa:Int),(s:Int)⟩:Gate)).getD 0)-1:Int)) (⟨(s:Int),(aa:Int)⟩:Gate) ((((updF ab (⟨(aa:Int),(s:Int)⟩:Gate) (((ab (⟨(aa:Int),(s:Int)⟩:Gate)).getD 0)-1:Int)) (⟨(s:Int),(aa:Int)⟩:Gate)).getD 0)+1:Int),ag))))
  else (
  M.grd (decide ((-9223372036854775808:Int)<=((s:Int)+1))&&decide (((s:Int)+1)<=(9223372036854775807:Int))) <|
  M.pure (.inl (ab,ag,s+1))))
  else (
  M.grd (decide ((-9223372036854775808:Int)<=((s:Int)+1))&&decide (((s:Int)+1)<=(9223372036854775807:Int))) <|
  M.pure (.inl (mp,ac,s+1))))
  else (
  M.pure (.inr (.inr (mp,ac))))
def zaM (ag:((List Work) × (List Int) × Int × (Gate->Option Int) × (Int->Option Bool) × Int)->M (Bool × (Gate->Option Int) × (Int->Option Bool))):((List Work) × (List Int) × Int × (Gate->Option Int) × (Int->Option Bool) × Int)->M (Bool × (Gate->Option Int) × (Int->Option Bool)):=fun (aa,ah,n_work,ac,ae,ab) =>
  M.grd (decide ((-9223372036854775808:Int)<=(2*n_work))&&decide ((2*n_work)<=(9223372036854775807:Int))) <|
  bif ab==(2*n_work) then (
  M.pure (true,ac,ae))
  else (
  M.grd (decide ((-9223372036854775808:Int)<=(2*(aa.length:Int)))&&decide ((2*(aa.length:Int))<=(9223372036854775807:Int))) <|
  M.bind (M.iter (za4 aa ah n_work ab ag) (ac,updF ae (ab:Int) true,0)) fun x_=>match x_ with
  | (.inl (ai,aj))=>(
  M.pure (true,ai,aj))
  | (.inr (am,ao))=>(
  M.pure (false,am,ao)))
theorem zdM  : M.Mon zaM:=by
  intro n f g h a
  obtain ⟨aa,ab,n_work,ac,ae,ag⟩:=a
  simp only [zaM,za4]
  repeat' (first | (with_reducible refine M.le_iter ?_ _; simp only [Prod.forall,za4]; intros) | with_reducible exact M.le_same _ _ | with_reducible exact h _ | with_reducible refine M.le_grd ?_ | with_reducible refine M.le_if ?_ ?_ | with_reducible refine M.le_bind ?_ (fun x=>?_) | with_reducible refine M.le_opt ?_ | with_reducible refine M.le_iter (fun x=>?_) _ | with_reducible refine zc4 (M.le_yl (fun s_ a_=>?_)) _ _ _ _ | with_reducible refine zcX (M.le_yl (fun s_ a_=>?_)) _ _ _ | (rename_i x; cases x) | (rename_i x; obtain ⟨_,_⟩:=x) | refine M.le_grd ?_ | refine M.le_if ?_ ?_ | refine M.le_bind ?_ (fun x=>?_) | refine M.le_opt ?_ | refine M.le_iter (fun x=>?_) _ | refine zc4 (M.le_yl (fun s_ a_=>?_)) _ _ _ _ | refine zcX (M.le_yl (fun s_ a_=>?_)) _ _ _ | (rename_i x; cases x) | (rename_i x; obtain ⟨_,_⟩:=x))
def zcs (aa:List Work) (ab:List Int) (n_work:Int) (ac:Gate->Option Int) (ae:Int->Option Bool) (ag:Int):M (Bool × (Gate->Option Int) × (Int->Option Bool)):=M.fix zaM zdM (aa,ab,n_work,ac,ae,ag)
theorem zd4 (n_:Nat):∀ {R:List Chunk} {ap:Nat} {aB:Nat} {aC:Cells} {aD:Value} {aE:Cells} {aF:Value} {ah:Nat} {ac:Nat} (aj:List Work) (ax:List Int) (n_work:Int) (aq:Gate->Option Int) (am:Int->Option Bool) (aa:Int) (aH:Reads R aC) (aG:Sl aC aD aj) (aI:Has R (cBlk aB [aD] 102)) (aJ:Reads R aE) (aK:Sl aE aF ax) (aL:Has R (cBlk ap [Pq aB,aF,I n_work,.map (some ah),.map (some ac)] 126)) {r:(Bool × (Gate->Option Int) × (Int->Option Bool))} (hM:(M.fixN zaM n_ (aj,ax,n_work,aq,am,aa)).Ends r) (w:World) (H:St w w [cMap encG I ah aq,cMap I B ac am] R),Ret Try.prog 59 #[Pq ap,I aa] w fun v w'=>∃ (y0:Bool) (y1:Gate->Option Int) (y2:Int->Option Bool),(y0,y1,y2)=r/\v=B y0/\St w w' [cMap encG I ah y1,cMap I B ac y2] R:=by
  induction n_ with
  | zero=>intro R ap aB aC aD aE aF ah ac aj ax n_work aq am aa aH aG aI aJ aK aL r hM w H; exact (M.e_fail hM).elim
  | succ n_ ih =>
    intro R ap aB aC aD aE aF ah ac aj ax n_work aq am aa aH aG aI aJ aK aL r hM w H;refine ret_of_W Try.func59 rfl rfl rfl ?_;obtain ⟨a4,hM⟩:=M.e_gd hM;refine kg 15 ?_
    refine W.cond (aa==(2*n_work)) rfl (fun au=>?_) (fun au=>?_)
    ·replace hM:=M.e_t hM au
     replace au:=dI au
     refine kg 4 ?_;refine W.ret ?_
     have ai:=M.e_pure hM
     exact ⟨_,resE_tmp rfl,⟨true,aq,am,ai,rfl,H⟩⟩
    replace hM:=M.e_f hM au
    replace au:=dI au
    refine kg 8 ?_;refine t_mapu (i:=1) (kenc:=I) (venc:=B) (f:=am) (k:=(aa:Int)) (v:=true) (L':=[cMap encG I ah aq,cMap I B ac (updF am (aa:Int) true)]) keyIntB Try.underlying124 H rfl rfl rfl rfl rfl ?_;intro a5 H
    have a6:=(aG).len_le
    obtain ⟨a7,hM⟩:=M.e_gd hM;refine kg 17 ?_;obtain ⟨aT,aM,ay⟩:=M.e_bind hM
    obtain ⟨a8,aM⟩:=M.e_iter aM
    refine W.loop (fun m σ W=>∃ (mp:Gate->Option Int) (ae:Int->Option Bool) (s:Nat) (ρ:Env),σ=upds ρ [(0,Pq ap),(1,I aa),(27,I (2*(aj.length:Int))),(28,I (s:Int))]/\M.iterN (za4 aj ax n_work aa (M.fixN zaM n_)) m (mp,ae,s)=some aT/\St w W [cMap encG I ah mp,cMap I B ac ae] R) ?_ ?_
    ·exact ⟨_,aq,updF am (aa:Int) true,0,_,upds_of _ _ ⟨rfl,rfl,rfl,rfl,trivial⟩,aM,H⟩
    rintro a9 σ ba ⟨mp,ae,s,ρ,rfl,aO,H⟩
    obtain ⟨aP,aQ,bb,hM,av⟩:=M.e_iterN aO
    simp only [za4] at hM
    clear aO;refine kg 5 ?_
    refine W.cond (decide ((s:Int)<(2*(aj.length:Int)))) rfl (fun aw=>?_) (fun aw=>?_)
    ·replace hM:=M.e_t hM aw
     replace aw:=dI aw
     refine kg 16 ?_;refine s_val (x_bld (ps:=[(0,I aa),(1,I (s:Int))]) (zs:=[I 0,I 0]) (L':=[I aa,I (s:Int)]) rfl Try.underlying128 Al128 rfl (Bd128 Try.underlying128) (.cons (cs:=[I aa]) rfl rfl rfl rfl rfl<|.cons (cs:=[I (s:Int)]) rfl rfl rfl rfl rfl<|.nil))<|s_val (q_look (kenc:=encG) (venc:=I) (f:=mp) (k:=(⟨(aa:Int),(s:Int)⟩:Gate)) (v:=I ((mp (⟨(aa:Int),(s:Int)⟩:Gate)).getD 0)) keyGate Try.underlying123 Al3 rfl rfl (H.get (k:=0) rfl) false (by rw [if_neg (by decide),int_val])) ?_;refine kg 7 ?_;refine g_val (decide (0<((mp (⟨(aa:Int),(s:Int)⟩:Gate)).getD 0))) (gy_t rfl) (fun hg=>q_look (kenc:=I) (venc:=B) (f:=ae) (k:=(s:Int)) (v:=B ((ae (s:Int)).getD false)) keyIntB Try.underlying124 Al4 (by exact (gd_of hg (.map (some ac)))) (by exact (gd_of hg (I (s:Int)))) (H.get (k:=1) rfl) false (by rw [if_neg (by decide),bool_val])) ?_;refine kg 1 ?_;refine s_val (x_pand (b:=decide (0<((mp (⟨(aa:Int),(s:Int)⟩:Gate)).getD 0))) (r:=!((ae (s:Int)).getD false)) rfl (fun hb=>gd_of (c:=decide (0<((mp (⟨(aa:Int),(s:Int)⟩:Gate)).getD 0))) (by first | exact hb | (rw [hb]; rfl) | simp_all) (B (!((ae (s:Int)).getD false)))) rfl) ?_;refine kg 3 ?_
     refine g_splitV ((decide (0<((mp (⟨(aa:Int),(s:Int)⟩:Gate)).getD 0)))&&(!((ae (s:Int)).getD false))) (B false) (gy_t rfl) (fun az=>?_) (fun az=>?_)
     ·replace hM:=M.e_t hM az;obtain ⟨bc,aU,hM⟩:=M.e_bind hM;refine s_call cf59 [Pq ap,I (s:Int)] (lst2 (gd_of (c:=((decide (0<((mp (⟨(aa:Int),(s:Int)⟩:Gate)).getD 0)))&&(!((ae (s:Int)).getD false)))) az (Pq ap)) (gd_of (c:=((decide (0<((mp (⟨(aa:Int),(s:Int)⟩:Gate)).getD 0)))&&(!((ae (s:Int)).getD false)))) az (I (s:Int)))) (ih aj ax n_work mp ae (s:Int) (aH.app _) aG (aI.app _) (aJ.app _) aK (aL.app _) aU _ (H.gt 0)) ?_
      rintro vq bg ⟨r2,ab,ag,rfl,hvq,aR⟩
      subst vq;(try dsimp only at hM);replace H:=H.bk aR;clear aR;refine s_val (x_pand (b:=((decide (0<((mp (⟨(aa:Int),(s:Int)⟩:Gate)).getD 0)))&&(!((ae (s:Int)).getD false)))) (r:=r2) rfl (fun _=>rfl) rfl)<|s_nil ?_
      refine W.cond (((decide (0<((mp (⟨(aa:Int),(s:Int)⟩:Gate)).getD 0)))&&(!((ae (s:Int)).getD false)))&&r2) rfl (fun aN=>?_) (fun aN=>?_)
      ·replace hM:=M.e_t hM aN;refine W.seq ?_;refine W.drawT (fun W=>St w W [cMap I B ac ag] R) (.q 0 (.q 1 (.q 2 (.q 3 (.q 4 (.q 5 (.q 6 (.l2 7 (.q 8 (.l 9 (.q 10 (.l 11 .nil)))) 9 (.q 10 (.l 7 (.q 8 (.l 11 .nil)))))))))))) mixed (by decide +kernel) rfl ?_;intro bh ao;replace H:=H.ext ao;clear ao
       refine ⟨(H.pk [1]),?_⟩
       refine kg 6 ?_;refine t_q rfl (fun w' H=>x_bld (ps:=[(0,I aa),(1,I (s:Int))]) (zs:=[I 0,I 0]) (L':=[I aa,I (s:Int)]) rfl Try.underlying128 Al128 rfl (Bd128 Try.underlying128) (.cons (cs:=[I aa]) rfl rfl rfl rfl rfl<|.cons (cs:=[I (s:Int)]) rfl rfl rfl rfl rfl<|.nil)) ?_;obtain ⟨bi,hM⟩:=M.e_gd hM;refine t_l2 rfl rfl ?_ ?_
       ·skip
        refine s_val (q_look (kenc:=encG) (venc:=I) (f:=ab) (k:=(⟨(aa:Int),(s:Int)⟩:Gate)) (v:=I ((ab (⟨(aa:Int),(s:Int)⟩:Gate)).getD 0)) keyGate Try.underlying123 Al3 rfl rfl (H.get (k:=0) rfl) false (by rw [if_neg (by decide),int_val])) ?_
        refine s_nil ⟨(H.pk [1]),?_⟩
        refine kg 1 ?_;refine t_l rfl ?_;refine t_ment (i:=0) (kenc:=encG) (venc:=I) (f:=ab) (k:=(⟨(aa:Int),(s:Int)⟩:Gate)) (z:=0) keyGate Try.underlying123 Al3 H rfl rfl rfl ?_;intro bj bm H;replace H:=H.nf
        refine s_nil ⟨(H.pk [1]),?_⟩
        refine kg 1 ?_;refine t_l rfl ?_;refine t_enst (i:=0) (kenc:=encG) (venc:=I) (f0:=ab) (k:=(⟨(aa:Int),(s:Int)⟩:Gate)) (v:=(((ab (⟨(aa:Int),(s:Int)⟩:Gate)).getD 0)-1:Int)) (L':=[cMap encG I ah (updF ab (⟨(aa:Int),(s:Int)⟩:Gate) (((ab (⟨(aa:Int),(s:Int)⟩:Gate)).getD 0)-1:Int)),cMap I B ac ag]) H rfl rfl rfl rfl rfl ?_;intro bn H
        refine s_nil ⟨(H.pk [1]),?_⟩
        refine kg 2 ?_;refine W.drawT (fun W=>St w W [cMap I B ac ag] R) (.q 0 (.q 1 (.q 2 (.q 3 (.q 4 (.q 5 (.q 6 (.l2 7 (.q 8 (.l 9 (.q 10 (.l 11 .nil)))) 9 (.q 10 (.l 7 (.q 8 (.l 11 .nil)))))))))))) mixed (by decide +kernel) rfl ?_;intro bp ao;replace H:=H.ext ao;clear ao
        refine ⟨(H.pk [1]),?_⟩
        refine kg 6 ?_;refine t_q rfl (fun w' H=>x_bld (ps:=[(0,I (s:Int)),(1,I aa)]) (zs:=[I 0,I 0]) (L':=[I (s:Int),I aa]) rfl Try.underlying128 Al128 rfl (Bd128 Try.underlying128) (.cons (cs:=[I (s:Int)]) rfl rfl rfl rfl rfl<|.cons (cs:=[I aa]) rfl rfl rfl rfl rfl<|.nil)) ?_;obtain ⟨br,hM⟩:=M.e_gd hM;refine t_l2 rfl rfl ?_ ?_
        ·skip
         refine s_val (q_look (kenc:=encG) (venc:=I) (f:=updF ab (⟨(aa:Int),(s:Int)⟩:Gate) (((ab (⟨(aa:Int),(s:Int)⟩:Gate)).getD 0)-1:Int)) (k:=(⟨(s:Int),(aa:Int)⟩:Gate)) (v:=I (((updF ab (⟨(aa:Int),(s:Int)⟩:Gate) (((ab (⟨(aa:Int),(s:Int)⟩:Gate)).getD 0)-1:Int)) (⟨(s:Int),(aa:Int)⟩:Gate)).getD 0)) keyGate Try.underlying123 Al3 rfl rfl (H.get (k:=0) rfl) false (by rw [if_neg (by decide),int_val])) ?_
         refine s_nil ⟨(H.pk [1]),?_⟩
         refine kg 1 ?_;refine t_l rfl ?_;refine t_ment (i:=0) (kenc:=encG) (venc:=I) (f:=updF ab (⟨(aa:Int),(s:Int)⟩:Gate) (((ab (⟨(aa:Int),(s:Int)⟩:Gate)).getD 0)-1:Int)) (k:=(⟨(s:Int),(aa:Int)⟩:Gate)) (z:=0) keyGate Try.underlying123 Al3 H rfl rfl rfl ?_;intro bt bu H;replace H:=H.nf
         refine s_nil ⟨(H.pk [1]),?_⟩
         refine kg 1 ?_;refine t_l rfl ?_;refine t_enst (i:=0) (kenc:=encG) (venc:=I) (f0:=updF ab (⟨(aa:Int),(s:Int)⟩:Gate) (((ab (⟨(aa:Int),(s:Int)⟩:Gate)).getD 0)-1:Int)) (k:=(⟨(s:Int),(aa:Int)⟩:Gate)) (v:=((((updF ab (⟨(aa:Int),(s:Int)⟩:Gate) (((ab (⟨(aa:Int),(s:Int)⟩:Gate)).getD 0)-1:Int)) (⟨(s:Int),(aa:Int)⟩:Gate)).getD 0)+1:Int)) (L':=[cMap encG I ah (updF (updF ab (⟨(aa:Int),(s:Int)⟩:Gate) (((ab (⟨(aa:Int),(s:Int)⟩:Gate)).getD 0)-1:Int)) (⟨(s:Int),(aa:Int)⟩:Gate) ((((updF ab (⟨(aa:Int),(s:Int)⟩:Gate) (((ab (⟨(aa:Int),(s:Int)⟩:Gate)).getD 0)-1:Int)) (⟨(s:Int),(aa:Int)⟩:Gate)).getD 0)+1:Int)),cMap I B ac ag]) H rfl rfl rfl rfl rfl ?_;intro bv H
         refine s_nil ⟨(H.pk [1]),?_⟩
         refine kg 5 ?_;refine W.ret ?_
         have aV:=M.e_inr hM av
         subst aV;replace hM:=ay;(try dsimp only at hM)
         have ai:=M.e_pure hM
         exact ⟨_,resE_tmp rfl,⟨true,(updF (updF ab (⟨(aa:Int),(s:Int)⟩:Gate) (((ab (⟨(aa:Int),(s:Int)⟩:Gate)).getD 0)-1:Int)) (⟨(s:Int),(aa:Int)⟩:Gate) ((((updF ab (⟨(aa:Int),(s:Int)⟩:Gate) (((ab (⟨(aa:Int),(s:Int)⟩:Gate)).getD 0)-1:Int)) (⟨(s:Int),(aa:Int)⟩:Gate)).getD 0)+1:Int)),ag,ai,rfl,H⟩⟩
        skip
        refine t_ment (i:=0) (kenc:=encG) (venc:=I) (f:=updF ab (⟨(aa:Int),(s:Int)⟩:Gate) (((ab (⟨(aa:Int),(s:Int)⟩:Gate)).getD 0)-1:Int)) (k:=(⟨(s:Int),(aa:Int)⟩:Gate)) (z:=0) keyGate Try.underlying123 Al3 H rfl rfl rfl ?_;intro bw bx H;replace H:=H.nf
        refine s_nil ⟨(H.pk [1]),?_⟩
        refine kg 1 ?_;refine t_l rfl<|s_val (q_look (kenc:=encG) (venc:=I) (f:=updF (updF ab (⟨(aa:Int),(s:Int)⟩:Gate) (((ab (⟨(aa:Int),(s:Int)⟩:Gate)).getD 0)-1:Int)) (⟨(s:Int),(aa:Int)⟩:Gate) (((updF ab (⟨(aa:Int),(s:Int)⟩:Gate) (((ab (⟨(aa:Int),(s:Int)⟩:Gate)).getD 0)-1:Int)) (⟨(s:Int),(aa:Int)⟩:Gate)).getD 0)) (k:=(⟨(s:Int),(aa:Int)⟩:Gate)) (v:=I (((updF ab (⟨(aa:Int),(s:Int)⟩:Gate) (((ab (⟨(aa:Int),(s:Int)⟩:Gate)).getD 0)-1:Int)) (⟨(s:Int),(aa:Int)⟩:Gate)).getD 0)) keyGate Try.underlying123 Al3 rfl rfl (entMap (H.get (k:=0) rfl)) false (by rw [if_neg (by decide),int_val,updF_same])) ?_
        refine s_nil ⟨(H.pk [1]),?_⟩
        refine kg 1 ?_;refine t_l rfl ?_;refine t_enst (i:=0) (kenc:=encG) (venc:=I) (f0:=updF ab (⟨(aa:Int),(s:Int)⟩:Gate) (((ab (⟨(aa:Int),(s:Int)⟩:Gate)).getD 0)-1:Int)) (k:=(⟨(s:Int),(aa:Int)⟩:Gate)) (v:=((((updF ab (⟨(aa:Int),(s:Int)⟩:Gate) (((ab (⟨(aa:Int),(s:Int)⟩:Gate)).getD 0)-1:Int)) (⟨(s:Int),(aa:Int)⟩:Gate)).getD 0)+1:Int)) (L':=[cMap encG I ah (updF (updF ab (⟨(aa:Int),(s:Int)⟩:Gate) (((ab (⟨(aa:Int),(s:Int)⟩:Gate)).getD 0)-1:Int)) (⟨(s:Int),(aa:Int)⟩:Gate) ((((updF ab (⟨(aa:Int),(s:Int)⟩:Gate) (((ab (⟨(aa:Int),(s:Int)⟩:Gate)).getD 0)-1:Int)) (⟨(s:Int),(aa:Int)⟩:Gate)).getD 0)+1:Int)),cMap I B ac ag]) H rfl rfl rfl rfl rfl ?_;intro bz H
        refine s_nil ⟨(H.pk [1]),?_⟩
        refine kg 5 ?_;refine W.ret ?_
        have aW:=M.e_inr hM av
        subst aW;replace hM:=ay;(try dsimp only at hM)
        have ai:=M.e_pure hM
        exact ⟨_,resE_tmp rfl,⟨true,(updF (updF ab (⟨(aa:Int),(s:Int)⟩:Gate) (((ab (⟨(aa:Int),(s:Int)⟩:Gate)).getD 0)-1:Int)) (⟨(s:Int),(aa:Int)⟩:Gate) ((((updF ab (⟨(aa:Int),(s:Int)⟩:Gate) (((ab (⟨(aa:Int),(s:Int)⟩:Gate)).getD 0)-1:Int)) (⟨(s:Int),(aa:Int)⟩:Gate)).getD 0)+1:Int)),ag,ai,rfl,H⟩⟩
       skip
       refine t_ment (i:=0) (kenc:=encG) (venc:=I) (f:=ab) (k:=(⟨(aa:Int),(s:Int)⟩:Gate)) (z:=0) keyGate Try.underlying123 Al3 H rfl rfl rfl ?_;intro bA bB H;replace H:=H.nf
       refine s_nil ⟨(H.pk [1]),?_⟩
       refine kg 1 ?_;refine t_l rfl<|s_val (q_look (kenc:=encG) (venc:=I) (f:=updF ab (⟨(aa:Int),(s:Int)⟩:Gate) ((ab (⟨(aa:Int),(s:Int)⟩:Gate)).getD 0)) (k:=(⟨(aa:Int),(s:Int)⟩:Gate)) (v:=I ((ab (⟨(aa:Int),(s:Int)⟩:Gate)).getD 0)) keyGate Try.underlying123 Al3 rfl rfl (entMap (H.get (k:=0) rfl)) false (by rw [if_neg (by decide),int_val,updF_same])) ?_
       refine s_nil ⟨(H.pk [1]),?_⟩
       refine kg 1 ?_;refine t_l rfl ?_;refine t_enst (i:=0) (kenc:=encG) (venc:=I) (f0:=ab) (k:=(⟨(aa:Int),(s:Int)⟩:Gate)) (v:=(((ab (⟨(aa:Int),(s:Int)⟩:Gate)).getD 0)-1:Int)) (L':=[cMap encG I ah (updF ab (⟨(aa:Int),(s:Int)⟩:Gate) (((ab (⟨(aa:Int),(s:Int)⟩:Gate)).getD 0)-1:Int)),cMap I B ac ag]) H rfl rfl rfl rfl rfl ?_;intro bC H
       refine s_nil ⟨(H.pk [1]),?_⟩
       refine kg 2 ?_;refine W.drawT (fun W=>St w W [cMap I B ac ag] R) (.q 0 (.q 1 (.q 2 (.q 3 (.q 4 (.q 5 (.q 6 (.l2 7 (.q 8 (.l 9 (.q 10 (.l 11 .nil)))) 9 (.q 10 (.l 7 (.q 8 (.l 11 .nil)))))))))))) mixed (by decide +kernel) rfl ?_;intro bD ao;replace H:=H.ext ao;clear ao
       refine ⟨(H.pk [1]),?_⟩
       refine kg 6 ?_;refine t_q rfl (fun w' H=>x_bld (ps:=[(0,I (s:Int)),(1,I aa)]) (zs:=[I 0,I 0]) (L':=[I (s:Int),I aa]) rfl Try.underlying128 Al128 rfl (Bd128 Try.underlying128) (.cons (cs:=[I (s:Int)]) rfl rfl rfl rfl rfl<|.cons (cs:=[I aa]) rfl rfl rfl rfl rfl<|.nil)) ?_;obtain ⟨bE,hM⟩:=M.e_gd hM;refine t_l2 rfl rfl ?_ ?_
       ·skip
        refine s_val (q_look (kenc:=encG) (venc:=I) (f:=updF ab (⟨(aa:Int),(s:Int)⟩:Gate) (((ab (⟨(aa:Int),(s:Int)⟩:Gate)).getD 0)-1:Int)) (k:=(⟨(s:Int),(aa:Int)⟩:Gate)) (v:=I (((updF ab (⟨(aa:Int),(s:Int)⟩:Gate) (((ab (⟨(aa:Int),(s:Int)⟩:Gate)).getD 0)-1:Int)) (⟨(s:Int),(aa:Int)⟩:Gate)).getD 0)) keyGate Try.underlying123 Al3 rfl rfl (H.get (k:=0) rfl) false (by rw [if_neg (by decide),int_val])) ?_
        refine s_nil ⟨(H.pk [1]),?_⟩
        refine kg 1 ?_;refine t_l rfl ?_;refine t_ment (i:=0) (kenc:=encG) (venc:=I) (f:=updF ab (⟨(aa:Int),(s:Int)⟩:Gate) (((ab (⟨(aa:Int),(s:Int)⟩:Gate)).getD 0)-1:Int)) (k:=(⟨(s:Int),(aa:Int)⟩:Gate)) (z:=0) keyGate Try.underlying123 Al3 H rfl rfl rfl ?_;intro bF bG H;replace H:=H.nf
        refine s_nil ⟨(H.pk [1]),?_⟩
        refine kg 1 ?_;refine t_l rfl ?_;refine t_enst (i:=0) (kenc:=encG) (venc:=I) (f0:=updF ab (⟨(aa:Int),(s:Int)⟩:Gate) (((ab (⟨(aa:Int),(s:Int)⟩:Gate)).getD 0)-1:Int)) (k:=(⟨(s:Int),(aa:Int)⟩:Gate)) (v:=((((updF ab (⟨(aa:Int),(s:Int)⟩:Gate) (((ab (⟨(aa:Int),(s:Int)⟩:Gate)).getD 0)-1:Int)) (⟨(s:Int),(aa:Int)⟩:Gate)).getD 0)+1:Int)) (L':=[cMap encG I ah (updF (updF ab (⟨(aa:Int),(s:Int)⟩:Gate) (((ab (⟨(aa:Int),(s:Int)⟩:Gate)).getD 0)-1:Int)) (⟨(s:Int),(aa:Int)⟩:Gate) ((((updF ab (⟨(aa:Int),(s:Int)⟩:Gate) (((ab (⟨(aa:Int),(s:Int)⟩:Gate)).getD 0)-1:Int)) (⟨(s:Int),(aa:Int)⟩:Gate)).getD 0)+1:Int)),cMap I B ac ag]) H rfl rfl rfl rfl rfl ?_;intro bH H
        refine s_nil ⟨(H.pk [1]),?_⟩
        refine kg 5 ?_;refine W.ret ?_
        have aX:=M.e_inr hM av
        subst aX;replace hM:=ay;(try dsimp only at hM)
        have ai:=M.e_pure hM
        exact ⟨_,resE_tmp rfl,⟨true,(updF (updF ab (⟨(aa:Int),(s:Int)⟩:Gate) (((ab (⟨(aa:Int),(s:Int)⟩:Gate)).getD 0)-1:Int)) (⟨(s:Int),(aa:Int)⟩:Gate) ((((updF ab (⟨(aa:Int),(s:Int)⟩:Gate) (((ab (⟨(aa:Int),(s:Int)⟩:Gate)).getD 0)-1:Int)) (⟨(s:Int),(aa:Int)⟩:Gate)).getD 0)+1:Int)),ag,ai,rfl,H⟩⟩
       skip
       refine t_ment (i:=0) (kenc:=encG) (venc:=I) (f:=updF ab (⟨(aa:Int),(s:Int)⟩:Gate) (((ab (⟨(aa:Int),(s:Int)⟩:Gate)).getD 0)-1:Int)) (k:=(⟨(s:Int),(aa:Int)⟩:Gate)) (z:=0) keyGate Try.underlying123 Al3 H rfl rfl rfl ?_;intro bI bJ H;replace H:=H.nf
       refine s_nil ⟨(H.pk [1]),?_⟩
       refine kg 1 ?_;refine t_l rfl<|s_val (q_look (kenc:=encG) (venc:=I) (f:=updF (updF ab (⟨(aa:Int),(s:Int)⟩:Gate) (((ab (⟨(aa:Int),(s:Int)⟩:Gate)).getD 0)-1:Int)) (⟨(s:Int),(aa:Int)⟩:Gate) (((updF ab (⟨(aa:Int),(s:Int)⟩:Gate) (((ab (⟨(aa:Int),(s:Int)⟩:Gate)).getD 0)-1:Int)) (⟨(s:Int),(aa:Int)⟩:Gate)).getD 0)) (k:=(⟨(s:Int),(aa:Int)⟩:Gate)) (v:=I (((updF ab (⟨(aa:Int),(s:Int)⟩:Gate) (((ab (⟨(aa:Int),(s:Int)⟩:Gate)).getD 0)-1:Int)) (⟨(s:Int),(aa:Int)⟩:Gate)).getD 0)) keyGate Try.underlying123 Al3 rfl rfl (entMap (H.get (k:=0) rfl)) false (by rw [if_neg (by decide),int_val,updF_same])) ?_
       refine s_nil ⟨(H.pk [1]),?_⟩
       refine kg 1 ?_;refine t_l rfl ?_;refine t_enst (i:=0) (kenc:=encG) (venc:=I) (f0:=updF ab (⟨(aa:Int),(s:Int)⟩:Gate) (((ab (⟨(aa:Int),(s:Int)⟩:Gate)).getD 0)-1:Int)) (k:=(⟨(s:Int),(aa:Int)⟩:Gate)) (v:=((((updF ab (⟨(aa:Int),(s:Int)⟩:Gate) (((ab (⟨(aa:Int),(s:Int)⟩:Gate)).getD 0)-1:Int)) (⟨(s:Int),(aa:Int)⟩:Gate)).getD 0)+1:Int)) (L':=[cMap encG I ah (updF (updF ab (⟨(aa:Int),(s:Int)⟩:Gate) (((ab (⟨(aa:Int),(s:Int)⟩:Gate)).getD 0)-1:Int)) (⟨(s:Int),(aa:Int)⟩:Gate) ((((updF ab (⟨(aa:Int),(s:Int)⟩:Gate) (((ab (⟨(aa:Int),(s:Int)⟩:Gate)).getD 0)-1:Int)) (⟨(s:Int),(aa:Int)⟩:Gate)).getD 0)+1:Int)),cMap I B ac ag]) H rfl rfl rfl rfl rfl ?_;intro bK H
       refine s_nil ⟨(H.pk [1]),?_⟩
       refine kg 5 ?_;refine W.ret ?_
       have aY:=M.e_inr hM av
       subst aY;replace hM:=ay;(try dsimp only at hM)
       have ai:=M.e_pure hM
       exact ⟨_,resE_tmp rfl,⟨true,(updF (updF ab (⟨(aa:Int),(s:Int)⟩:Gate) (((ab (⟨(aa:Int),(s:Int)⟩:Gate)).getD 0)-1:Int)) (⟨(s:Int),(aa:Int)⟩:Gate) ((((updF ab (⟨(aa:Int),(s:Int)⟩:Gate) (((ab (⟨(aa:Int),(s:Int)⟩:Gate)).getD 0)-1:Int)) (⟨(s:Int),(aa:Int)⟩:Gate)).getD 0)+1:Int)),ag,ai,rfl,H⟩⟩
      replace hM:=M.e_f hM aN;obtain ⟨bL,hM⟩:=M.e_gd hM;refine kg 5 ?_
      exact ⟨aP,aQ,ab,ag,s+1,_,upds_of _ _ ⟨rfl,rfl,rfl,rfl,trivial⟩,M.e_inl hM av,H⟩
     replace hM:=M.e_f hM az;refine s_val (x_pand0 (b:=((decide (0<((mp (⟨(aa:Int),(s:Int)⟩:Gate)).getD 0)))&&(!((ae (s:Int)).getD false)))) rfl (fun hb=>gd_of (c:=((decide (0<((mp (⟨(aa:Int),(s:Int)⟩:Gate)).getD 0)))&&(!((ae (s:Int)).getD false)))) (by first | exact hb | (rw [hb]; rfl) | simp_all) (B false)) rfl)<|s_nil ?_
     refine W.cond false rfl (fun aS=>?_) (fun aS=>?_)
     ·skip
      exact absurd aS (by decide)
     skip
     obtain ⟨bM,hM⟩:=M.e_gd hM;refine kg 5 ?_
     exact ⟨aP,aQ,mp,ae,s+1,_,upds_of _ _ ⟨rfl,rfl,rfl,rfl,trivial⟩,M.e_inl hM av,H⟩
    replace hM:=M.e_f hM aw
    replace aw:=dI aw
    refine W.exit ?_
    have aZ:=M.e_inr hM av
    subst aZ;replace hM:=ay;(try dsimp only at hM);refine kg 4 ?_;refine W.ret ?_
    have ai:=M.e_pure hM
    exact ⟨_,resE_tmp rfl,⟨false,mp,ae,ai,rfl,H⟩⟩
theorem zcR {R:List Chunk} {aj:Nat} {am:Nat} {ao:Cells} {ap:Value} {aq:Cells} {au:Value} {aa:Nat} {ab:Nat} (ac:List Work) (ae:List Int) (n_work:Int) (ag:Gate->Option Int) (ah:Int->Option Bool) (ai:Int) (av:Reads R ao) (aw:Sl ao ap ac) (ax:Has R (cBlk am [ap] 102)) (ay:Reads R aq) (az:Sl aq au ae) (aB:Has R (cBlk aj [Pq am,au,I n_work,.map (some aa),.map (some ab)] 126)) {r:(Bool × (Gate->Option Int) × (Int->Option Bool))} (hM:(zcs ac ae n_work ag ah ai).Ends r) (w:World) (H:St w w [cMap encG I aa ag,cMap I B ab ah] R):Ret Try.prog 59 #[Pq aj,I ai] w fun v w'=>∃ (y0:Bool) (y1:Gate->Option Int) (y2:Int->Option Bool),(y0,y1,y2)=r/\v=B y0/\St w w' [cMap encG I aa y1,cMap I B ab y2] R:=by
  obtain ⟨n_,hM⟩:=M.e_fix hM
  exact zd4 n_ ac ae n_work ag ah ai av aw ax ay az aB hM w H

def zb8 (aa:List Work) (revised:List Int) (work:Int) (s2:Nat):((Gate->Option Int) × Nat)->M (((Gate->Option Int) × Nat) ⊕ (Gate->Option Int)):=fun (ab,s) =>
  bif decide ((s:Int)<(((aa.getD s2 default).of).length:Int)) then (
  M.grd (decide ((s:Int)<(((aa.getD s2 default).of).length:Int))) <|
  M.bind (M.opt (((((aa.getD s2 default).of).getD s 0) != work)&&!((s2:Int)==work)) (zaP aa revised work ab (fun _=>none) (s2:Int)) false) fun r3 =>
  bif (((((aa.getD s2 default).of).getD s 0) != work)&&(((s2:Int)==work)||r3)) then (
  M.grd (decide ((-9223372036854775808:Int)<=(2*(((aa.getD s2 default).of).getD s 0)))&&decide ((2*(((aa.getD s2 default).of).getD s 0))<=(9223372036854775807:Int))) <|
  M.grd (decide ((-9223372036854775808:Int)<=((2*(((aa.getD s2 default).of).getD s 0))+1))&&decide (((2*(((aa.getD s2 default).of).getD s 0))+1)<=(9223372036854775807:Int))) <|
  M.grd (decide ((-9223372036854775808:Int)<=(2*(s2:Int)))&&decide ((2*(s2:Int))<=(9223372036854775807:Int))) <|
  M.pure (.inl (updF ab (⟨((2*(((aa.getD s2 default).of).getD s 0))+1:Int),2*(s2:Int)⟩:Gate) (30:Int),s+1)))
  else (
  M.pure (.inl (ab,s+1))))
  else (
  M.pure (.inr ab))
def zbB (aa:List Work) (revised:List Int) (work:Int) (s2:Nat) (mp:Gate->Option Int):M (((Gate->Option Int) × Nat) ⊕ (Gate->Option Int)) :=
  M.bind (M.iter (zb8 aa revised work s2) (mp,0)) fun ab =>
  M.pure (.inl (ab,s2+1))
def zcc (aa:List Work) (revised:List Int) (work:Int):((Gate->Option Int) × Nat)->M (((Gate->Option Int) × Nat) ⊕ (Gate->Option Int)):=fun (ab,s2) =>
  bif decide ((s2:Int)<(aa.length:Int)) then (
  M.grd (decide ((s2:Int)<(aa.length:Int))) <|
  M.bind (zaP aa revised work ab (fun _=>none) (s2:Int)) fun r2 =>
  bif r2 then (
  M.grd (decide ((-9223372036854775808:Int)<=(2*(s2:Int)))&&decide ((2*(s2:Int))<=(9223372036854775807:Int))) <|
  M.grd (decide ((-9223372036854775808:Int)<=((2*(s2:Int))+1))&&decide (((2*(s2:Int))+1)<=(9223372036854775807:Int))) <|
  zbB aa revised work s2 (updF ab (⟨2*(s2:Int),((2*(s2:Int))+1:Int)⟩:Gate) (1:Int)))
  else (
  zbB aa revised work s2 ab))
  else (
  M.pure (.inr ab))
def zcH (ac:List Work) (revised:List Int) (work:Int) (s3:Nat):((Gate->Option Int) × (Int->Option Bool))->M (((Gate->Option Int) × (Int->Option Bool)) ⊕ ((Gate->Option Int) × (Int->Option Bool))):=fun (ae,ag) =>
  M.grd (decide ((-9223372036854775808:Int)<=(2*(revised.getD s3 0)))&&decide ((2*(revised.getD s3 0))<=(9223372036854775807:Int))) <|
  M.grd (decide ((-9223372036854775808:Int)<=((2*(revised.getD s3 0))+1))&&decide (((2*(revised.getD s3 0))+1)<=(9223372036854775807:Int))) <|
  M.bind (zcs ac revised work ae (fun _=>none) ((2*(revised.getD s3 0))+1)) fun (r4,aa,ab) =>
  bif !r4 then (
  M.pure (.inr (aa,ab)))
  else (
  M.pure (.inl (aa,ab)))
def zca (ac:List Work) (revised:List Int) (work:Int):((Gate->Option Int) × (Int->Option Bool) × Nat)->M (((Gate->Option Int) × (Int->Option Bool) × Nat) ⊕ ((Gate->Option Int) × (Int->Option Bool))):=fun (aa,ab,s3) =>
  bif decide ((s3:Int)<(revised.length:Int)) then (
  M.grd (decide ((s3:Int)<(revised.length:Int))) <|
  M.bind (M.iter (zcH ac revised work s3) (aa,ab)) fun (ae,ag) =>
  M.pure (.inl (ae,ag,s3+1)))
  else (
  M.pure (.inr (aa,ab)))
def zdb (aa:List Work) (revised:List Int) (work:Int):M (Int × (Gate->Option Int) × (Int->Option Bool)) :=
  M.bind (M.iter (zcc aa revised work) ((fun _=>none),0)) fun ab =>
  M.bind (M.iter (zca aa revised work) (ab,(fun _=>none),0)) fun (ac,ae) =>
  M.pure (work,ac,ae)
theorem zds {R:List Chunk} {ah:Nat} {aS:Cells} {au:Value} {aT:Cells} {ae:Value} (aa:List Work) (revised:List Int) (work:Int) (aE:Reads R aS) (av:Sl aS au aa) (aG:Has R (cBlk ah [au] 102)) (aH:Reads R aT) (aw:Sl aT ae revised) {r:(Int × (Gate->Option Int) × (Int->Option Bool))} (hM:(zdb aa revised work).Ends r) (w:World) (H:St w w [] R):Ret Try.prog 81 #[Pq ah,ae,I work] w fun v w'=>∃ (y0:Int) (y1:Gate->Option Int) (y2:Int->Option Bool) (aU:Nat) (aV:Nat) (aW:Nat),(y0,y1,y2)=r/\v=Pq aU/\St w w' [cBlk aU [Pq ah,ae,I y0,.map (some aV),.map (some aW)] 126,cMap encG I aV y1,cMap I B aW y2] R:=by
 refine ret_of_W Try.func81 rfl rfl rfl ?_;refine kg 9 ?_;refine t_mkmap (κ:=Gate) (ν:=Int) encG I H ?_;intro ab bJ H;refine t_mkmap (κ:=Int) (ν:=Bool) I B H ?_;intro ac bK H;refine s_val (x_bld (ps:=[(0,Pq ah),(1,ae),(2,I work),(3,.map (some ab)),(4,.map (some ac))]) (zs:=[.pointer none,.slice none 0 0,I 0,.map none,.map none]) (L':=[Pq ah,ae,I work,.map (some ab),.map (some ac)]) rfl Try.underlying126 Al126 rfl (Bd126 Try.underlying126) (.cons (cs:=[Pq ah]) rfl rfl rfl rfl rfl<|.cons (cs:=[ae]) (Sl.cells aw) rfl rfl rfl rfl<|.cons (cs:=[I work]) rfl rfl rfl rfl rfl<|.cons (cs:=[.map (some ab)]) rfl rfl rfl rfl rfl<|.cons (cs:=[.map (some ac)]) rfl rfl rfl rfl rfl<|.nil)) ?_;refine t_bx [Pq ah,ae,I work,.map (some ab),.map (some ac)] H rfl ?_;intro ag bL H
 have bM:=(av).len_le
 refine kg 14 ?_;obtain ⟨bc,aI,bg⟩:=M.e_bind hM
 obtain ⟨aJ,aI⟩:=M.e_iter aI
 refine W.loop (fun m σ W=>∃ (ai:Gate->Option Int) (s2:Nat) (ρ:Env),σ=upds ρ [(1,ae),(2,I work),(7,Pq ag),(25,au),(26,I (aa.length:Int)),(27,I (s2:Int))]/\M.iterN (zcc aa revised work) m (ai,s2)=some bc/\St w W [cBlk ag [Pq ah,ae,I work,.map (some ab),.map (some ac)] 126,cMap I B ac (fun _=>none),cMap encG I ab ai] R) ?_ ?_
 ·exact ⟨_,(fun _=>none),0,_,upds_of _ _ ⟨rfl,rfl,rfl,rfl,rfl,rfl,trivial⟩,aI,H⟩
 rintro bN σ bO ⟨ai,s2,ρ,rfl,aX,H⟩
 obtain ⟨bh,bi,bj,hM,aY⟩:=M.e_iterN aX
 simp only [zcc] at hM
 clear aX;refine kg 5 ?_
 refine W.cond (decide ((s2:Int)<(aa.length:Int))) rfl (fun ao=>?_) (fun ao=>?_)
 ·replace hM:=M.e_t hM ao
  replace ao:=dI ao
  obtain ⟨bP,hM⟩:=M.e_gd hM;refine kg 7 ?_
  obtain ⟨aj,bm,ax⟩:=Work_atA av (i:=(s2:Int)) (by omega) (by omega)
  replace ax:Sl _ aj (aa.getD s2 default).of:=ax
  have bQ:=ax.len_le
  refine s_val (x_ld (v:=.agg #[aj,I ((aa.getD s2 default).base),I ((aa.getD s2 default).minutes)]) rfl (ld_ag Ag37 Sz37 (At.mono bm (aE.at H)))) ?_;refine t_alloc (cs:=[.slice none 0 0,I 0,I 0]) H Al37 rfl ?_;intro ay bR H;refine kg 1 ?_;refine t_sw 0 0 [aj,I ((aa.getD s2 default).base),I ((aa.getD s2 default).minutes)] (.agg #[aj,I ((aa.getD s2 default).base),I ((aa.getD s2 default).minutes)]) H rfl rfl Sz37 rfl rfl rfl (by simp only [List.all_cons,List.all_nil,Bool.true_and,Bool.and_true,Sl.oc ax]; try rfl) ?_;intro bS H;refine s_nil ?_;refine W.seqJ (fun σ W=>∃ (mp:Gate->Option Int) (ρ:Env),σ=upds ρ [(1,ae),(2,I work),(7,Pq ag),(8,I (s2:Int)),(9,Pq ay),(25,au),(26,I (aa.length:Int)),(27,I (s2:Int))]/\(zbB aa revised work s2 mp).Ends bj/\St w W [cBlk ay [aj,I ((aa.getD s2 default).base),I ((aa.getD s2 default).minutes)] 37,cBlk ag [Pq ah,ae,I work,.map (some ab),.map (some ac)] 126,cMap I B ac (fun _=>none),cMap encG I ab mp] R) ?_ ?_
  ·skip
   refine kg 4 ?_;obtain ⟨bT,bn,hM⟩:=M.e_bind hM;refine s_call cf60 [Pq ag,I (s2:Int)] rfl (zbv aa revised work ai (fun _=>none) (s2:Int) (aE.app _) av (aG.app _) (aH.app _) aw (Has.here (k:=3) rfl) (Has.here (k:=2) rfl) (Has.here (k:=1) rfl) bn _ (H.gt 4)) ?_
   rintro vq bU ⟨r2,rfl,hvq,az⟩
   subst vq;(try dsimp only at hM);replace H:=H.bk az;clear az;refine s_nil ?_
   refine W.cond r2 rfl (fun aK=>?_) (fun aK=>?_)
   ·replace hM:=M.e_t hM aK;obtain ⟨bV,hM⟩:=M.e_gd hM;obtain ⟨bW,hM⟩:=M.e_gd hM;refine kg 10 ?_;refine s_val (x_bld (ps:=[(0,I (2*(s2:Int))),(1,I ((2*(s2:Int))+1))]) (zs:=[I 0,I 0]) (L':=[I (2*(s2:Int)),I ((2*(s2:Int))+1)]) rfl Try.underlying128 Al128 rfl (Bd128 Try.underlying128) (.cons (cs:=[I (2*(s2:Int))]) rfl rfl rfl rfl rfl<|.cons (cs:=[I ((2*(s2:Int))+1)]) rfl rfl rfl rfl rfl<|.nil)) ?_;refine t_mapu (i:=3) (kenc:=encG) (venc:=I) (f:=ai) (k:=(⟨2*(s2:Int),((2*(s2:Int))+1:Int)⟩:Gate)) (v:=(1:Int)) (L':=[cBlk ay [aj,I ((aa.getD s2 default).base),I ((aa.getD s2 default).minutes)] 37,cBlk ag [Pq ah,ae,I work,.map (some ab),.map (some ac)] 126,cMap I B ac (fun _=>none),cMap encG I ab (updF ai (⟨2*(s2:Int),((2*(s2:Int))+1:Int)⟩:Gate) (1:Int))]) keyGate Try.underlying123 H rfl rfl rfl rfl rfl ?_;intro bX H;refine s_nil ?_
    exact ⟨updF ai (⟨2*(s2:Int),((2*(s2:Int))+1:Int)⟩:Gate) (1:Int),_,upds_of _ _ ⟨rfl,rfl,rfl,rfl,rfl,rfl,rfl,rfl,trivial⟩,hM,H⟩
   replace hM:=M.e_f hM aK;refine W.skip ?_
   exact ⟨ai,_,upds_of _ _ ⟨rfl,rfl,rfl,rfl,rfl,rfl,rfl,rfl,trivial⟩,hM,H⟩
  rintro _ bY ⟨mp,ρ,rfl,hM,H⟩
  unfold zbB at hM
  have bZ:=(ax).len_le
  refine kg 8 ?_;obtain ⟨bp,aL,br⟩:=M.e_bind hM
  obtain ⟨aJ,aL⟩:=M.e_iter aL
  refine W.loop (fun m σ W=>∃ (am:Gate->Option Int) (s:Nat) (ρ:Env),σ=upds ρ [(1,ae),(2,I work),(7,Pq ag),(8,I (s2:Int)),(25,au),(26,I (aa.length:Int)),(27,I (s2:Int)),(46,aj),(47,I (((aa.getD s2 default).of).length:Int)),(48,I (s:Int))]/\M.iterN (zb8 aa revised work s2) m (am,s)=some bp/\St w W [cBlk ay [aj,I ((aa.getD s2 default).base),I ((aa.getD s2 default).minutes)] 37,cBlk ag [Pq ah,ae,I work,.map (some ab),.map (some ac)] 126,cMap I B ac (fun _=>none),cMap encG I ab am] R) ?_ ?_
  ·exact ⟨_,mp,0,_,upds_of _ _ ⟨rfl,rfl,rfl,rfl,rfl,rfl,rfl,rfl,rfl,rfl,trivial⟩,aL,H⟩
  rintro b7 σ b8 ⟨am,s,ρ,rfl,aZ,H⟩
  obtain ⟨a4,a5,b9,hM,aM⟩:=M.e_iterN aZ
  simp only [zb8] at hM
  clear aZ;refine kg 5 ?_
  refine W.cond (decide ((s:Int)<(((aa.getD s2 default).of).length:Int))) rfl (fun ap=>?_) (fun ap=>?_)
  ·replace hM:=M.e_t hM ap
   replace ap:=dI ap
   obtain ⟨ca,hM⟩:=M.e_gd hM;refine kg 21 ?_;obtain ⟨r3,bt,hM⟩:=M.e_bind hM;refine t_gcall (((((aa.getD s2 default).of).getD s 0) != work)&&!((s2:Int)==work)) (gy_gf rfl rfl) cf60 (B r3) (fun _=>[Pq ag,I (s2:Int)]) (fun hg=>lst2 (gd_of hg (Pq ag)) (gd_of hg (I (s2:Int)))) H (fun hg=>(zbv aa revised work am (fun _=>none) (s2:Int) (aE.app _) av (aG.app _) (aH.app _) aw (Has.here (k:=3) rfl) (Has.here (k:=2) rfl) (Has.here (k:=1) rfl) (M.e_opt bt hg) _ (H.give (A:=[]) rfl)).mono fun v_ w_ ⟨y_,aN,bu,H_⟩=>by subst aN; exact ⟨bu,H.via H_⟩) ?_;intro cb H;refine g_val ((((aa.getD s2 default).of).getD s 0) != work) (gy_t rfl) (fun hg=>x_por (b:=(s2:Int)==work) (r:=r3) (gd_of hg (B ((s2:Int)==work))) rfl (fun hb=>gd_of (c:=(((((aa.getD s2 default).of).getD s 0) != work)&&!((s2:Int)==work))) (by first | exact hb | (rw [hb]; rfl) | simp_all) (B r3)))<|s_val (x_pand (b:=(((aa.getD s2 default).of).getD s 0) != work) (r:=(((s2:Int)==work)||r3)) rfl (fun hb=>gd_of (c:=(((aa.getD s2 default).of).getD s 0) != work) (by first | exact hb | (rw [hb]; rfl) | simp_all) (B (((s2:Int)==work)||r3))) rfl)<|s_nil ?_
   refine W.cond (((((aa.getD s2 default).of).getD s 0) != work)&&(((s2:Int)==work)||r3)) rfl (fun aO=>?_) (fun aO=>?_)
   ·replace hM:=M.e_t hM aO;obtain ⟨cc,hM⟩:=M.e_gd hM;obtain ⟨cd,hM⟩:=M.e_gd hM;obtain ⟨ce,hM⟩:=M.e_gd hM;refine kg 10 ?_;refine s_val (x_bld (ps:=[(0,I ((2*(((aa.getD s2 default).of).getD s 0))+1)),(1,I (2*(s2:Int)))]) (zs:=[I 0,I 0]) (L':=[I ((2*(((aa.getD s2 default).of).getD s 0))+1),I (2*(s2:Int))]) rfl Try.underlying128 Al128 rfl (Bd128 Try.underlying128) (.cons (cs:=[I ((2*(((aa.getD s2 default).of).getD s 0))+1)]) rfl rfl rfl rfl rfl<|.cons (cs:=[I (2*(s2:Int))]) rfl rfl rfl rfl rfl<|.nil)) ?_;refine t_mapu (i:=3) (kenc:=encG) (venc:=I) (f:=am) (k:=(⟨((2*(((aa.getD s2 default).of).getD s 0))+1:Int),2*(s2:Int)⟩:Gate)) (v:=(30:Int)) (L':=[cBlk ay [aj,I ((aa.getD s2 default).base),I ((aa.getD s2 default).minutes)] 37,cBlk ag [Pq ah,ae,I work,.map (some ab),.map (some ac)] 126,cMap I B ac (fun _=>none),cMap encG I ab (updF am (⟨((2*(((aa.getD s2 default).of).getD s 0))+1:Int),2*(s2:Int)⟩:Gate) (30:Int))]) keyGate Try.underlying123 H rfl rfl rfl rfl rfl ?_;intro cf H;refine kg 5 ?_
    exact ⟨a4,a5,updF am (⟨((2*(((aa.getD s2 default).of).getD s 0))+1:Int),2*(s2:Int)⟩:Gate) (30:Int),s+1,_,upds_of _ _ ⟨rfl,rfl,rfl,rfl,rfl,rfl,rfl,rfl,rfl,rfl,trivial⟩,M.e_inl hM aM,H⟩
   replace hM:=M.e_f hM aO;refine kg 5 ?_
   exact ⟨a4,a5,am,s+1,_,upds_of _ _ ⟨rfl,rfl,rfl,rfl,rfl,rfl,rfl,rfl,rfl,rfl,trivial⟩,M.e_inl hM aM,H⟩
  replace hM:=M.e_f hM ap
  replace ap:=dI ap
  refine W.exit ?_
  have bv:=M.e_inr hM aM
  subst bv;replace hM:=br;(try dsimp only at hM);refine kg 4 ?_
  exact ⟨bh,bi,am,s2+1,_,upds_of _ _ ⟨rfl,rfl,rfl,rfl,rfl,rfl,trivial⟩,M.e_inl hM aY,(H.pk [1,2,3])⟩
 replace hM:=M.e_f hM ao
 replace ao:=dI ao
 refine W.exit ?_
 have bw:=M.e_inr hM aY
 subst bw;replace hM:=bg;(try dsimp only at hM)
 have cg:=(aw).len_le
 refine kg 8 ?_;obtain ⟨bx,aP,bz⟩:=M.e_bind hM
 obtain ⟨aJ,aP⟩:=M.e_iter aP
 refine W.loop (fun m σ W=>∃ (aB:Gate->Option Int) (aC:Int->Option Bool) (s3:Nat) (ρ:Env),σ=upds ρ [(7,Pq ag),(77,ae),(78,I (revised.length:Int)),(79,I (s3:Int))]/\M.iterN (zca aa revised work) m (aB,aC,s3)=some bx/\St w W [cBlk ag [Pq ah,ae,I work,.map (some ab),.map (some ac)] 126,cMap I B ac aC,cMap encG I ab aB] R) ?_ ?_
 ·exact ⟨_,ai,(fun _=>none),0,_,upds_of _ _ ⟨rfl,rfl,rfl,rfl,trivial⟩,aP,H⟩
 rintro ch σ ci ⟨aB,aC,s3,ρ,rfl,a6,H⟩
 obtain ⟨bA,bB,cj,hM,a7⟩:=M.e_iterN a6
 simp only [zca] at hM
 clear a6;refine kg 5 ?_
 refine W.cond (decide ((s3:Int)<(revised.length:Int))) rfl (fun aq=>?_) (fun aq=>?_)
 ·replace hM:=M.e_t hM aq
  replace aq:=dI aq
  obtain ⟨ck,hM⟩:=M.e_gd hM;refine kg 9 ?_;refine W.scope<|W.seq ?_;refine W.label<|W.block ?_;obtain ⟨bC,aQ,bD⟩:=M.e_bind hM
  obtain ⟨aJ,aQ⟩:=M.e_iter aQ
  refine W.loop (fun m σ W=>∃ (aD:Gate->Option Int) (aF:Int->Option Bool) (ρ:Env),σ=upds ρ [(7,Pq ag),(13,I (revised.getD s3 0)),(77,ae),(78,I (revised.length:Int)),(79,I (s3:Int))]/\M.iterN (zcH aa revised work s3) m (aD,aF)=some bC/\St w W [cBlk ag [Pq ah,ae,I work,.map (some ab),.map (some ac)] 126,cMap I B ac aF,cMap encG I ab aD] R) ?_ ?_
  ·exact ⟨_,aB,aC,_,upds_of _ _ ⟨rfl,rfl,rfl,rfl,rfl,trivial⟩,aQ,H⟩
  rintro cm σ cn ⟨aD,aF,ρ,rfl,a8,H⟩
  obtain ⟨bE,bF,co,hM,a9⟩:=M.e_iterN a8
  simp only [zcH] at hM
  clear a8;refine kg 7 ?_;refine t_clearm (i:=1) (kenc:=I) (venc:=B) (f:=aF) (L':=[cBlk ag [Pq ah,ae,I work,.map (some ab),.map (some ac)] 126,cMap I B ac (fun _=>none),cMap encG I ab aD]) (by rw [show (#[124]:Array TypeId)[0]?.bind Try.prog.underlying = Try.prog.underlying 124 from rfl,Try.underlying124]; rfl) H rfl rfl rfl ?_;intro cp H;obtain ⟨cq,hM⟩:=M.e_gd hM;obtain ⟨cr,hM⟩:=M.e_gd hM;refine kg 7 ?_;obtain ⟨ct,bG,hM⟩:=M.e_bind hM;refine s_call cf59 [Pq ag,I ((2*(revised.getD s3 0))+1)] rfl (zcR aa revised work aD (fun _=>none) ((2*(revised.getD s3 0))+1) (aE.app _) av (aG.app _) (aH.app _) aw (Has.here (k:=0) rfl) bG _ ((H.pk [2,1,0]).gt 1)) ?_
  rintro vq cu ⟨r4,ba,bb,rfl,hvq,az⟩
  subst vq;(try dsimp only at hM)
  replace H:=H.pk [2,1,0] |>.bk az
  clear az;refine kg 2 ?_
  refine W.cond (!r4) rfl (fun aR=>?_) (fun aR=>?_)
  ·replace hM:=M.e_t hM aR;refine W.exit ?_
   have bH:=M.e_inr hM a9
   subst bH;replace hM:=bD;(try dsimp only at hM);refine kg 4 ?_
   exact ⟨bA,bB,ba,bb,s3+1,_,upds_of _ _ ⟨rfl,rfl,rfl,rfl,trivial⟩,M.e_inl hM a7,(H.pk [2,1,0])⟩
  replace hM:=M.e_f hM aR;refine W.skip ?_
  exact ⟨bE,bF,ba,bb,_,upds_of _ _ ⟨rfl,rfl,rfl,rfl,rfl,trivial⟩,M.e_inl hM a9,(H.pk [2,1,0])⟩
 replace hM:=M.e_f hM aq
 replace aq:=dI aq
 refine W.exit ?_
 have bI:=M.e_inr hM a7
 subst bI;replace hM:=bz;(try dsimp only at hM);refine kg 5 ?_;refine W.ret ?_
 have aN:=M.e_pure hM
 exact ⟨_,resE_tmp rfl,⟨work,aB,aC,ag,ab,ac,aN,rfl,(H.pk [0,2,1])⟩⟩

def zcm (w_:List Work) (revised:List Int) (work:Int):M (Int ⊕ (Int × (Gate->Option Int) × (Int->Option Bool) × Int)) :=
  M.bind (zcQ w_ revised work) fun x_=>match x_ with
  | (.inl r1)=>(
  bif r1 != 0 then (
  M.pure (.inl r1))
  else (
  M.fail))
  | (.inr aa)=>(
  bif aa != 0 then (
  M.fail)
  else (
  M.bind (zba revised (fun ab=>zbW ab w_ work)) fun r2 =>
  bif r2 then (
  M.pure (.inl 5))
  else (
  M.bind (zdb w_ revised work) fun (ac,r3,r4) =>
  M.pure (.inr (ac,r3,r4,0)))))
theorem zcU {R:List Chunk} {ax:Cells} {ah:Value} {ay:Cells} {ab:Value} (w_:List Work) (revised:List Int) (work:Int) (am:Reads R ax) (ao:Sl ax ah w_) (ap:Reads R ay) (aq:Sl ay ab revised) {r:(Int ⊕ (Int × (Gate->Option Int) × (Int->Option Bool) × Int))} (hM:(zcm w_ revised work).Ends r) (w:World) (H:St w w [] R):Ret Try.prog 58 #[ah,ab,I work] w fun v w'=>(∃ (y0:Int),(.inl y0)=r/\v = .tuple #[.pointer none,I y0]/\St w w' [] R)∨(∃ (y0:Int) (y1:Gate->Option Int) (y2:Int->Option Bool) (y3:Int) (az:Nat) (aB:Nat) (aC:Nat) (aD:Nat),(.inr (y0,y1,y2,y3))=r/\v = .tuple #[Pq az,I y3]/\St w w' [cBlk az [Pq aB,ab,I y0,.map (some aC),.map (some aD)] 126,cBlk aB [ah] 102,cMap encG I aC y1,cMap I B aD y2] R):=by
 refine ret_of_W Try.func58 rfl rfl rfl ?_;refine kg 2 ?_;refine t_b1 (I work) H rfl rfl ?_;intro au aW H;refine kg 8 ?_;obtain ⟨aX,aF,hM⟩:=M.e_bind hM;refine s_call cf79 [ah,ab,I work] rfl (zdD w_ revised work (am.app _) ao (ap.app _) aq aF _ (H.gt 1)) ?_
 rintro vq aY (⟨r1,aG,hvq,aa⟩ | ⟨aH,ai,aI,hvq,aa⟩)
 ·subst aG;subst vq;(try dsimp only at hM);replace H:=H.bk aa;clear aa;refine kg 3 ?_;refine t_alloc (cs:=[.pointer none]) H Al62 rfl ?_;intro aj aZ H;refine t_sw 0 0 [.pointer none] (.pointer none) H rfl rfl Sz62 rfl rfl rfl rfl ?_;intro a4 H;refine kg 10 ?_
  refine W.cond (r1 != 0) rfl (fun ac=>?_) (fun ac=>?_)
  ·replace hM:=M.e_t hM ac
   replace ac:=dI ac
   refine kg 6 ?_;replace H:=H.pk [];refine W.ret ?_
   have ae:=M.e_pure hM
   exact ⟨_,resE_tmp2 rfl,.inl (⟨r1,ae,rfl,H⟩)⟩
  replace hM:=M.e_f hM ac
  exact (M.e_fail hM).elim
 subst aI;subst vq;(try dsimp only at hM);replace H:=H.bk aa;clear aa;refine kg 3 ?_;refine t_alloc (cs:=[.pointer none]) H Al62 rfl ?_;intro aj a5 H;refine t_sw 0 0 [Pq ai] (Pq ai) H rfl rfl Sz62 rfl rfl rfl rfl ?_;intro a6 H;refine kg 10 ?_
 refine W.cond (aH != 0) rfl (fun ag=>?_) (fun ag=>?_)
 ·replace hM:=M.e_t hM ag
  exact (M.e_fail hM).elim
 replace hM:=M.e_f hM ag
 replace ag:=dI ag
 refine kg 3 ?_;refine s_val (x_mf (fs:=[]) (cs:=[Pq aj,Pq au]) rfl rfl) ?_;obtain ⟨a7,aJ,hM⟩:=M.e_bind hM;refine s_call cf42 [ab,.func (.func 80) #[] #[Pq aj,Pq au]] rfl (zco revised (fun av=>zbW av w_ work) (ap.app _) aq ⟨80,[Pq aj,Pq au],rfl,cf80,fun aE a8 a9 aK av ba aL bb aM aN=>by obtain rfl:=Arg.int aM; exact (zdq av w_ work (Reads.app (am.app _) _) ao (Has.app (Has.here (k:=1) rfl) _) (Has.app (Has.here (k:=0) rfl) _) (Has.app (Has.here (k:=2) rfl) _) aN aE (St.refl aL)).mono fun aK aE ⟨bc,aO,aP,aQ⟩=>by subst aO; exact ⟨aP,aQ⟩⟩ aJ _ (H.gt 3)) ?_
 rintro vq bg ⟨r2,rfl,hvq,aa⟩
 subst vq;(try dsimp only at hM);replace H:=H.bk aa;clear aa;refine kg 2 ?_
 refine W.cond r2 rfl (fun aw=>?_) (fun aw=>?_)
 ·replace hM:=M.e_t hM aw;refine kg 5 ?_;replace H:=H.pk [];refine W.ret ?_
  have ae:=M.e_pure hM
  exact ⟨_,resE_tmp2 rfl,.inl (⟨5,ae,rfl,H⟩)⟩
 replace hM:=M.e_f hM aw;refine kg 6 ?_;obtain ⟨bh,aR,hM⟩:=M.e_bind hM;refine s_call cf81 [Pq ai,ab,I work] rfl (zds w_ revised work (am.app _) ao (Has.here (k:=1) rfl) (ap.app _) aq aR _ (H.gt 3)) ?_
 rintro vq bi ⟨aS,r3,r4,aT,aU,aV,rfl,hvq,aa⟩
 subst vq;(try dsimp only at hM);replace H:=H.bk aa;clear aa;refine kg 3 ?_;replace H:=H.pk [0,1,2,4];refine W.ret ?_
 have ae:=M.e_pure hM
 exact ⟨_,resE_tmp2 rfl,.inr (⟨aS,r3,r4,0,aT,ai,aU,aV,ae,rfl,(H.pk [0,3,1,2])⟩)⟩

def zcp (w_:List Work) (revised:List Int) (ab:Int):((Gate->Option Int) × (Int->Option Bool) × Nat)->M (((Gate->Option Int) × (Int->Option Bool) × Nat) ⊕ ((Gate->Option Int) × (Int->Option Bool))):=fun (mp,aa,s) =>
  bif decide ((s:Int)<(revised.length:Int)) then (
  M.grd (decide ((s:Int)<(revised.length:Int))) <|
  M.grd (decide ((-9223372036854775808:Int)<=(2*(revised.getD s 0)))&&decide ((2*(revised.getD s 0))<=(9223372036854775807:Int))) <|
  M.grd (decide ((-9223372036854775808:Int)<=((2*(revised.getD s 0))+1))&&decide (((2*(revised.getD s 0))+1)<=(9223372036854775807:Int))) <|
  M.bind (zcs w_ revised ab mp aa ((2*(revised.getD s 0))+1)) fun (r2,ac,ae) =>
  M.pure (.inl (ac,ae,s+1)))
  else (
  M.pure (.inr (mp,aa)))
def zb6 (w_:List Work) (revised:List Int) (ab:Int) (ac:Gate->Option Int) (aa:Int->Option Bool):(Nat × (List Int))->M ((Nat × (List Int)) ⊕ ((List Int) × (List Int))):=fun (s2,l) =>
  bif decide ((s2:Int)<(w_.length:Int)) then (
  M.bind (zaP w_ revised ab ac aa (s2:Int)) fun r3 =>
  M.grd ((!r3||(decide ((-9223372036854775808:Int)<=(2*(s2:Int)))&&decide ((2*(s2:Int))<=(9223372036854775807:Int))))) <|
  M.grd ((!(r3&&((aa (2*(s2:Int))).getD false))||(decide ((-9223372036854775808:Int)<=(2*(s2:Int)))&&decide ((2*(s2:Int))<=(9223372036854775807:Int))))) <|
  M.grd ((!(r3&&((aa (2*(s2:Int))).getD false))||(decide ((-9223372036854775808:Int)<=((2*(s2:Int))+1))&&decide (((2*(s2:Int))+1)<=(9223372036854775807:Int))))) <|
  bif ((r3&&((aa (2*(s2:Int))).getD false))&&(!((aa ((2*(s2:Int))+1:Int)).getD false))) then (
  M.grd (decide ((l.length+([(s2:Int)]).length)*8<=140737488355328)) <|
  M.pure (.inl (s2+1,l++([(s2:Int)]))))
  else (
  M.pure (.inl (s2+1,l))))
  else (
  M.pure (.inr (l,l)))
def zcE (w_:List Work) (revised:List Int) (work:Int):M ((List Int) × Int) :=
  M.bind (zcm w_ revised work) fun x_=>match x_ with
  | (.inl r1)=>(
  bif r1 != 0 then (
  M.pure (([]),r1))
  else (
  M.fail))
  | (.inr (aa,ab,ah,ac))=>(
  bif ac != 0 then (
  M.fail)
  else (
  M.bind (M.iter (zcp w_ revised aa) (ab,(fun _=>none),0)) fun (ae,ag) =>
  M.bind (M.iter (zb6 w_ revised aa ae ag) (0,[])) fun (l2,l3) =>
  M.pure (l3,0)))
theorem zcY {R:List Chunk} {aJ:Cells} {ae:Value} {aK:Cells} {ag:Value} (w_:List Work) (revised:List Int) (work:Int) (ay:Reads R aJ) (aw:Sl aJ ae w_) (az:Reads R aK) (ax:Sl aK ag revised) {r:((List Int) × Int)} (hM:(zcE w_ revised work).Ends r) (w:World) (H:St w w [] R):Ret Try.prog 35 #[ae,ag,I work] w fun v w'=>∃ (y0:List Int) (y1:Int) (u0:Value),(y0,y1)=r/\v = .tuple #[u0,I y1]/\St w w' [cOwn (α:=Int) 3 u0 y0] R:=by
 refine ret_of_W Try.func35 rfl rfl rfl ?_;refine kg 10 ?_;obtain ⟨bi,aR,hM⟩:=M.e_bind hM;refine s_call cf58 [ae,ag,I work] rfl (zcU w_ revised work (ay.app _) aw (az.app _) ax aR _ (H.gt 0)) ?_
 rintro vq bj (⟨r1,aS,hvq,ab⟩ | ⟨ah,aL,aT,aU,ai,ao,ap,ac,aV,hvq,ab⟩)
 ·subst aS;subst vq;(try dsimp only at hM);replace H:=H.bk ab;clear ab;refine kg 12 ?_
  refine W.cond (r1 != 0) rfl (fun aq=>?_) (fun aq=>?_)
  ·replace hM:=M.e_t hM aq
   replace aq:=dI aq
   refine kg 6 ?_;refine W.ret ?_
   have aB:=M.e_pure hM
   replace H:=H.nilOwn (α:=Int) 3
   exact ⟨_,resE_tmp2 rfl,⟨([]),r1,(.slice none 0 0),aB,rfl,H⟩⟩
  replace hM:=M.e_f hM aq
  exact (M.e_fail hM).elim
 subst aV;subst vq;(try dsimp only at hM);replace H:=H.bk ab;clear ab;refine kg 12 ?_
 refine W.cond (aU != 0) rfl (fun au=>?_) (fun au=>?_)
 ·replace hM:=M.e_t hM au
  exact (M.e_fail hM).elim
 replace hM:=M.e_f hM au
 replace au:=dI au
 refine kg 7 ?_;refine t_clearm (i:=3) (kenc:=I) (venc:=B) (f:=aT) (L':=[cBlk ai [Pq ao,ag,I ah,.map (some ap),.map (some ac)] 126,cBlk ao [ae] 102,cMap encG I ap aL,cMap I B ac (fun _=>none)]) (by rw [show (#[124]:Array TypeId)[0]?.bind Try.prog.underlying = Try.prog.underlying 124 from rfl,Try.underlying124]; rfl) H rfl rfl rfl ?_;intro bm H
 have bn:=(ax).len_le
 refine kg 9 ?_;obtain ⟨aW,aC,aX⟩:=M.e_bind hM
 obtain ⟨aY,aC⟩:=M.e_iter aC
 refine W.loop (fun m σ W=>∃ (mp:Gate->Option Int) (aa:Int->Option Bool) (s:Nat) (ρ:Env),σ=upds ρ [(0,ae),(8,Pq ai),(28,ag),(29,I (revised.length:Int)),(30,I (s:Int))]/\M.iterN (zcp w_ revised ah) m (mp,aa,s)=some aW/\St w W [cBlk ai [Pq ao,ag,I ah,.map (some ap),.map (some ac)] 126,cBlk ao [ae] 102,cMap encG I ap mp,cMap I B ac aa] R) ?_ ?_
 ·exact ⟨_,aL,(fun _=>none),0,_,upds_of _ _ ⟨rfl,rfl,rfl,rfl,rfl,trivial⟩,aC,H⟩
 rintro bp σ br ⟨mp,aa,s,ρ,rfl,aM,H⟩
 obtain ⟨aZ,a4,bt,hM,aN⟩:=M.e_iterN aM
 simp only [zcp] at hM
 clear aM;refine kg 5 ?_
 refine W.cond (decide ((s:Int)<(revised.length:Int))) rfl (fun aj=>?_) (fun aj=>?_)
 ·replace hM:=M.e_t hM aj
  replace aj:=dI aj
  obtain ⟨bu,hM⟩:=M.e_gd hM;obtain ⟨bv,hM⟩:=M.e_gd hM;obtain ⟨bw,hM⟩:=M.e_gd hM;refine kg 14 ?_;obtain ⟨bx,a5,hM⟩:=M.e_bind hM;refine s_call cf59 [Pq ai,I ((2*(revised.getD s 0))+1)] rfl (zcR w_ revised ah mp aa ((2*(revised.getD s 0))+1) (ay.app _) aw (Has.here (k:=1) rfl) (az.app _) ax (Has.here (k:=0) rfl) a5 _ ((H.pk [2,3,0,1]).gt 2)) ?_
  rintro vq bz ⟨r2,a6,a7,rfl,hvq,ab⟩
  subst vq;(try dsimp only at hM)
  replace H:=H.pk [2,3,0,1] |>.bk ab
  clear ab;refine kg 5 ?_
  exact ⟨aZ,a4,a6,a7,s+1,_,upds_of _ _ ⟨rfl,rfl,rfl,rfl,rfl,trivial⟩,M.e_inl hM aN,(H.pk [2,3,0,1])⟩
 replace hM:=M.e_f hM aj
 replace aj:=dI aj
 refine W.exit ?_
 have a8:=M.e_inr hM aN
 subst a8;replace hM:=aX;(try dsimp only at hM)
 have bA:=(aw).len_le
 refine kg 12 ?_
 replace H:=H.nilOwn (α:=Int) 3
 obtain ⟨a9,aD,ba⟩:=M.e_bind hM
 obtain ⟨aY,aD⟩:=M.e_iter aD
 refine W.loop (fun m σ W=>∃ (s2:Nat) (l:List Int) (av:Value) (ρ:Env),σ=upds ρ [(8,Pq ai),(12,av),(41,I (w_.length:Int)),(42,I (s2:Int))]/\M.iterN (zb6 w_ revised ah mp aa) m (s2,l)=some a9/\St w W [cOwn (α:=Int) 3 av l,cBlk ai [Pq ao,ag,I ah,.map (some ap),.map (some ac)] 126,cBlk ao [ae] 102,cMap encG I ap mp,cMap I B ac aa] R) ?_ ?_
 ·exact ⟨_,0,[],(.slice none 0 0),_,upds_of _ _ ⟨rfl,rfl,rfl,rfl,trivial⟩,aD,H⟩
 rintro bB σ bC ⟨s2,l,av,ρ,rfl,aO,H⟩
 obtain ⟨aP,aQ,bD,hM,aE⟩:=M.e_iterN aO
 simp only [zb6] at hM
 clear aO;refine kg 5 ?_
 refine W.cond (decide ((s2:Int)<(w_.length:Int))) rfl (fun am=>?_) (fun am=>?_)
 ·replace hM:=M.e_t hM am
  replace am:=dI am
  refine kg 12 ?_;obtain ⟨bE,bb,hM⟩:=M.e_bind hM;refine s_call cf60 [Pq ai,I (s2:Int)] rfl (zbv w_ revised ah mp aa (s2:Int) (ay.app _) aw (Has.here (k:=2) rfl) (az.app _) ax (Has.here (k:=3) rfl) (Has.here (k:=4) rfl) (Has.here (k:=1) rfl) bb _ (H.gt 5)) ?_
  rintro vq bF ⟨r3,rfl,hvq,ab⟩
  subst vq;(try dsimp only at hM);replace H:=H.bk ab;clear ab;obtain ⟨aF,hM⟩:=M.e_grd hM
  replace aF:=M.imp_of aF
  simp only [Bool.and_eq_true,decide_eq_true_eq] at aF
  refine kg 7 ?_;refine g_val r3 (gy_t rfl) (fun hg=>q_look (kenc:=I) (venc:=B) (f:=aa) (k:=(2*(s2:Int))) (v:=B ((aa (2*(s2:Int))).getD false)) keyIntB Try.underlying124 Al4 (by exact (gd_of hg (.map (some ac)))) (by exact (gd_of hg (I (2*(s2:Int))))) (H.get (k:=4) rfl) false (by rw [if_neg (by decide),bool_val]))<|s_val (x_pand (b:=r3) (r:=(aa (2*(s2:Int))).getD false) rfl (fun hb=>gd_of (c:=r3) (by first | exact hb | (rw [hb]; rfl) | simp_all) (B ((aa (2*(s2:Int))).getD false))) rfl) ?_;obtain ⟨aG,hM⟩:=M.e_grd hM
  replace aG:=M.imp_of aG
  simp only [Bool.and_eq_true,decide_eq_true_eq] at aG
  obtain ⟨aH,hM⟩:=M.e_grd hM
  replace aH:=M.imp_of aH
  simp only [Bool.and_eq_true,decide_eq_true_eq] at aH
  refine kg 8 ?_;refine g_val (r3&&((aa (2*(s2:Int))).getD false)) (gy_t rfl) (fun hg=>q_look (kenc:=I) (venc:=B) (f:=aa) (k:=((2*(s2:Int))+1:Int)) (v:=B ((aa ((2*(s2:Int))+1:Int)).getD false)) keyIntB Try.underlying124 Al4 (by exact (gd_of hg (.map (some ac)))) (by exact (gd_of hg (I ((2*(s2:Int))+1)))) (H.get (k:=4) rfl) false (by rw [if_neg (by decide),bool_val])) ?_;refine kg 1 ?_;refine s_val (x_pand (b:=(r3&&((aa (2*(s2:Int))).getD false))) (r:=!((aa ((2*(s2:Int))+1:Int)).getD false)) rfl (fun hb=>gd_of (c:=(r3&&((aa (2*(s2:Int))).getD false))) (by first | exact hb | (rw [hb]; rfl) | simp_all) (B (!((aa ((2*(s2:Int))+1:Int)).getD false)))) rfl)<|s_nil ?_
  refine W.cond ((r3&&((aa (2*(s2:Int))).getD false))&&(!((aa ((2*(s2:Int))+1:Int)).getD false))) rfl (fun aI=>?_) (fun aI=>?_)
  ·replace hM:=M.e_t hM aI;refine kg 3 ?_;refine t_bs (α:=Int) T26 [I (s2:Int)] [(s2:Int)] H rfl (.cons rfl (Flat.rep_enc _ (s2:Int))<|.nil) rfl rfl rfl ?_;intro bc bG H;obtain ⟨bH,hM⟩:=M.e_gd hM;refine t_app (α:=Int) (k:=1) (l:=l) (l2:=[(s2:Int)]) (l':=l++([(s2:Int)])) (vy:=bc) T26 rfl H rfl rfl rfl (H.os 0) (H.ol 0) (rfl) (by first | omega | (simp only [List.length_nil] at *; omega)) ?_;intro bg bI H;replace H:=H.nf;refine kg 6 ?_
   exact ⟨aP,aQ,s2+1,l++([(s2:Int)]),bg,_,upds_of _ _ ⟨rfl,rfl,rfl,rfl,trivial⟩,M.e_inl hM aE,(H.pk [1,2,3,4,5])⟩
  replace hM:=M.e_f hM aI;refine kg 5 ?_
  exact ⟨aP,aQ,s2+1,l,av,_,upds_of _ _ ⟨rfl,rfl,rfl,rfl,trivial⟩,M.e_inl hM aE,H⟩
 replace hM:=M.e_f hM am
 replace am:=dI am
 refine W.exit ?_
 have bh:=M.e_inr hM aE
 subst bh;replace hM:=ba;(try dsimp only at hM);replace H:=H.pk [0];refine kg 6 ?_;refine W.ret ?_
 have aB:=M.e_pure hM
 exact ⟨_,resE_tmp2 rfl,⟨l,0,av,aB,rfl,H⟩⟩

def zcD (i k:Int) (ab:List Work) (ac:List Int) (ae:Int) (aa:Gate->Option Int) (ag:Int->Option Bool):M Bool :=
  M.grd (decide ((-9223372036854775808:Int)<=(2*k))&&decide ((2*k)<=(9223372036854775807:Int))) <|
  M.grd (decide ((-9223372036854775808:Int)<=(2*i))&&decide ((2*i)<=(9223372036854775807:Int))) <|
  M.grd (decide ((-9223372036854775808:Int)<=((2*i)+1))&&decide (((2*i)+1)<=(9223372036854775807:Int))) <|
  M.pure (decide (0<((aa (⟨(2*k:Int),((2*i)+1:Int)⟩:Gate)).getD 0)))
theorem zdh {R:List Chunk} {ab:Nat} {ac:Nat} {ae:Nat} {ag:Cells} {ah:Value} {ai:Cells} {aj:Value} {am:Nat} {ao:Nat} (i:Int) (k:Int) (ap:List Work) (aq:List Int) (au:Int) (aa:Gate->Option Int) (av:Int->Option Bool) (ay:Reads R ag) (az:Sl ag ah ap) (aB:Has R (cBlk ae [ah] 102)) (aC:Reads R ai) (aD:Sl ai aj aq) (aw:Has R (cMap encG I am aa)) (aE:Has R (cMap I B ao av)) (aF:Has R (cBlk ac [Pq ae,aj,I au,.map (some am),.map (some ao)] 126)) (aG:Has R (cBlk ab [Pq ac] 120)) {r:Bool} (hM:(zcD i k ap aq au aa av).Ends r) (w:World) (H:St w w [] R):Ret Try.prog 61 #[I i,I k,Pq ab] w fun v w'=>∃ (y0:Bool),y0=r/\v=B y0/\St w w' [] R:=by
 refine ret_of_W Try.func61 rfl rfl rfl ?_;obtain ⟨aH,hM⟩:=M.e_gd hM;obtain ⟨aI,hM⟩:=M.e_gd hM;obtain ⟨aJ,hM⟩:=M.e_gd hM;refine kg 15 ?_;refine s_val (x_bld (ps:=[(0,I (2*k)),(1,I ((2*i)+1))]) (zs:=[I 0,I 0]) (L':=[I (2*k),I ((2*i)+1)]) rfl Try.underlying128 Al128 rfl (Bd128 Try.underlying128) (.cons (cs:=[I (2*k)]) rfl rfl rfl rfl rfl<|.cons (cs:=[I ((2*i)+1)]) rfl rfl rfl rfl rfl<|.nil))<|s_val (q_look (kenc:=encG) (venc:=I) (f:=aa) (k:=(⟨(2*k:Int),((2*i)+1:Int)⟩:Gate)) (v:=I ((aa (⟨(2*k:Int),((2*i)+1:Int)⟩:Gate)).getD 0)) keyGate Try.underlying123 Al3 rfl rfl (aw.at H) false (by rw [if_neg (by decide),int_val])) ?_;refine kg 3 ?_;refine W.ret ?_
 have ax:=M.e_pure hM
 exact ⟨_,resE_tmp rfl,⟨(decide (0<((aa (⟨(2*k:Int),((2*i)+1:Int)⟩:Gate)).getD 0))),ax,rfl,H⟩⟩

def zbP (k:Int) (aa:List Work) (ab:List Int) (ac:Int) (ae:Gate->Option Int) (ag:Int->Option Bool) (ah:Int):M Bool :=
  M.bind (zcD ah k aa ab ac ae ag) fun r2 =>
  M.pure r2
theorem zef {R:List Chunk} {ai:Nat} {aj:Nat} {am:Nat} {ao:Nat} {ap:Cells} {aq:Value} {au:Cells} {av:Value} {aw:Nat} {ax:Nat} {ay:Nat} (k:Int) (ab:List Work) (ac:List Int) (ae:Int) (ag:Gate->Option Int) (ah:Int->Option Bool) (aa:Int) (aB:Reads R ap) (aC:Sl ap aq ab) (aD:Has R (cBlk ao [aq] 102)) (aE:Reads R au) (aF:Sl au av ac) (aG:Has R (cMap encG I aw ag)) (aH:Has R (cMap I B ax ah)) (aI:Has R (cBlk am [Pq ao,av,I ae,.map (some aw),.map (some ax)] 126)) (aJ:Has R (cBlk aj [Pq am] 120)) (aM:Has R (cBlk ai [.func (.func 61) #[] #[Pq aj]] 129)) (aN:Has R (cBlk ay [I aa] 3)) {r:Bool} (hM:(zbP k ab ac ae ag ah aa).Ends r) (w:World) (H:St w w [] R):Ret Try.prog 62 #[I k,Pq ai,Pq ay] w fun v w'=>∃ (y0:Bool),y0=r/\v=B y0/\St w w' [] R:=by
 refine ret_of_W Try.func62 rfl rfl rfl ?_;refine kg 9 ?_;obtain ⟨aO,aK,hM⟩:=M.e_bind hM;refine s_callv (f:=61) rfl cf61 [I aa,I k] rfl (zdh aa k ab ac ae ag ah (aB.app _) aC (aD.app _) (aE.app _) aF (aG.app _) (aH.app _) (aI.app _) (aJ.app _) aK _ (H.gt 0)) ?_
 rintro vq aP ⟨r2,rfl,hvq,az⟩
 subst vq;(try dsimp only at hM);replace H:=H.bk az;clear az;refine kg 2 ?_;refine W.ret ?_
 have aL:=M.e_pure hM
 exact ⟨_,resE_tmp rfl,⟨r2,aL,rfl,H⟩⟩

def zcl (w_:List Work):((List Int) × Nat)->M (((List Int) × Nat) ⊕ ((List Int) × (List Int))):=fun (l,s) =>
  bif decide ((s:Int)<((List.replicate (w_.length) (0:Int)).length:Int)) then (
  M.grd (decide ((s:Int)<(l.length:Int))) <|
  M.grd (decide ((-9223372036854775808:Int)<=((s:Int)+1))&&decide (((s:Int)+1)<=(9223372036854775807:Int))) <|
  M.pure (.inl (l.set s (s:Int),s+1)))
  else (
  M.pure (.inr (l,l)))
def zb9 (w_:List Work) (revised:List Int) (work aa:Int) (ab:Gate->Option Int) (ac:Int->Option Bool) (l3:List Int):((List Int) × Int)->M (((List Int) × Int) ⊕ ((List Int) × (List Int))):=fun (l4,s2) =>
  bif s2 != work then (
  M.grd (decide ((l4.length+([(s2:Int)]).length)*8<=140737488355328)) <|
  M.bind (zaO l3 (fun ae=>zbP ae w_ revised aa ab ac s2)) fun r4 =>
  M.pure (.inl (l4++([(s2:Int)]),r4)))
  else (
  M.pure (.inr (l4,l4)))
def zb5 (w_:List Work) (revised:List Int) (work ab:Int) (ac:Gate->Option Int) (ae:Int->Option Bool) (l3:List Int) (s4:Nat):(Nat × (List (List Int)))->M ((Nat × (List (List Int))) ⊕ ((List (List Int)) × (List (List Int)))):=fun (s3,aa) =>
  bif decide ((s3:Int)<(l3.length:Int)) then (
  M.grd (decide ((s3:Int)<(l3.length:Int))) <|
  M.bind (zaP w_ revised ab ac ae (l3.getD s3 0)) fun r2 =>
  M.bind (M.opt (!(!r2)) (zcD (revised.getD s4 0) (l3.getD s3 0) w_ revised ab ac ae) false) fun r3 =>
  bif ((!r2)||(!r3)) then (
  M.grd (decide ((-9223372036854775808:Int)<=((s3:Int)+1))&&decide (((s3:Int)+1)<=(9223372036854775807:Int))) <|
  M.pure (.inl (s3+1,aa)))
  else (
  M.bind (M.iter (zb9 w_ revised work ab ac ae l3) ([(revised.getD s4 0:Int)],l3.getD s3 0)) fun (l5,l6) =>
  M.grd (decide ((l6.length+([(work:Int)]).length)*8<=140737488355328)) <|
  M.grd (decide ((aa.length+([l6++([(work:Int)])]).length)*24<=140737488355328)) <|
  M.grd (decide ((-9223372036854775808:Int)<=((s3:Int)+1))&&decide (((s3:Int)+1)<=(9223372036854775807:Int))) <|
  M.pure (.inl (s3+1,aa++([l6++([(work:Int)])])))))
  else (
  M.pure (.inr (aa,aa)))
def zck (w_:List Work) (revised:List Int) (work ab:Int) (ac:Gate->Option Int) (ae:Int->Option Bool) (l3:List Int):(Nat × (List (List Int)))->M ((Nat × (List (List Int))) ⊕ ((List (List Int)) × (List (List Int)))):=fun (s4,aa) =>
  bif decide ((s4:Int)<(revised.length:Int)) then (
  M.grd (decide ((s4:Int)<(revised.length:Int))) <|
  M.bind (M.iter (zb5 w_ revised work ab ac ae l3 s4) (0,aa)) fun (l8,ag) =>
  M.grd (decide ((-9223372036854775808:Int)<=((s4:Int)+1))&&decide (((s4:Int)+1)<=(9223372036854775807:Int))) <|
  M.pure (.inl (s4+1,ag)))
  else (
  M.pure (.inr (aa,aa)))
def zc3 (w_:List Work) (revised:List Int) (work:Int):M ((List (List Int)) × Int) :=
  M.bind (zcm w_ revised work) fun x_=>match x_ with
  | (.inl r1)=>(
  bif r1 != 0 then (
  M.pure (([]),r1))
  else (
  M.fail))
  | (.inr (aa,ab,ac,ae))=>(
  bif ae != 0 then (
  M.fail)
  else (
  M.grd (decide ((0:Int)<=(w_.length:Int))&&decide ((8:Int)*(w_.length:Int)<=281474976710656)&&decide ((w_.length:Int)<=(9223372036854775807:Int))) <|
  M.bind (M.iter (zcl w_) (List.replicate (w_.length) (0:Int),0)) fun (l2,l3) =>
  M.bind (M.iter (zck w_ revised work aa ab ac l3) (0,[])) fun (ah,ag) =>
  M.pure (ag,0)))
theorem zdL {R:List Chunk} {a6:Cells} {av:Value} {a7:Cells} {ae:Value} (w_:List Work) (revised:List Int) (work:Int) (aP:Reads R a6) (aG:Sl a6 av w_) (aQ:Reads R a7) (aH:Sl a7 ae revised) {r:((List (List Int)) × Int)} (hM:(zc3 w_ revised work).Ends r) (w:World) (H:St w w [] R):Ret Try.prog 36 #[av,ae,I work] w fun v w'=>∃ (y0:List (List Int)) (y1:Int) (u0:Value) (rr1:List (Raw 0)) (a8:Base),(y0,y1)=r/\v = .tuple #[u0,I y1]/\St w w' [cOwn (α:=Raw 0) 26 u0 rr1,cRo a8] R/\RepR (α:=List Int) a8.cells rr1 y0:=by
 refine ret_of_W Try.func36 rfl rfl rfl ?_;refine kg 10 ?_;obtain ⟨cv,bv,hM⟩:=M.e_bind hM;refine s_call cf58 [av,ae,I work] rfl (zcU w_ revised work (aP.app _) aG (aQ.app _) aH bv _ (H.gt 0)) ?_
 rintro vq cw (⟨r1,bw,hvq,am⟩ | ⟨ag,ah,ai,bx,ac,ao,ap,aq,bz,hvq,am⟩)
 ·subst bw;subst vq;(try dsimp only at hM);replace H:=H.bk am;clear am;refine kg 3 ?_;refine t_alloc (cs:=[.pointer none]) H Al120 rfl ?_;intro aa cx H;refine t_sw 0 0 [.pointer none] (.pointer none) H rfl rfl Sz120 rfl rfl rfl rfl ?_;intro cy H;refine kg 8 ?_
  refine W.cond (r1 != 0) rfl (fun aI=>?_) (fun aI=>?_)
  ·replace hM:=M.e_t hM aI
   replace aI:=dI aI
   refine kg 6 ?_;refine W.ret ?_
   have aJ:=M.e_pure hM
   obtain ⟨a9,H⟩:=H.emptyE
   replace H:=H.nilOwn (α:=Raw 0) 26
   have bA:RepR (α:=List Int) (n:=0) a9.cells [] []:=.nil
   exact ⟨_,resE_tmp2 rfl,⟨([]),r1,(.slice none 0 0),[],a9,aJ,rfl,(H.pk [0,1]),bA⟩⟩
  replace hM:=M.e_f hM aI
  exact (M.e_fail hM).elim
 subst bz;subst vq;(try dsimp only at hM);replace H:=H.bk am;clear am;refine kg 3 ?_;refine t_alloc (cs:=[.pointer none]) H Al120 rfl ?_;intro aa cz H;refine t_sw 0 0 [Pq ac] (Pq ac) H rfl rfl Sz120 rfl rfl rfl rfl ?_;intro cA H;refine kg 8 ?_
 refine W.cond (bx != 0) rfl (fun aK=>?_) (fun aK=>?_)
 ·replace hM:=M.e_t hM aK
  exact (M.e_fail hM).elim
 replace hM:=M.e_f hM aK
 replace aK:=dI aK
 refine kg 3 ?_;refine s_val (x_mf (fs:=[]) (cs:=[Pq aa]) rfl rfl) ?_;refine t_alloc (cs:=[.nilFunc]) H Al129 rfl ?_;intro aj cB H;refine t_sw 0 0 [.func (.func 61) #[] #[Pq aa]] (.func (.func 61) #[] #[Pq aa]) H rfl rfl Sz129 rfl rfl rfl rfl ?_;intro cC H
 have cD:=(aG).len_le
 obtain ⟨cE,hM⟩:=M.e_gd hM;refine kg 5 ?_;refine t_mk (α:=Int) T26 (0:Int) rfl (n:=(w_.length:Int)) H rfl rfl (by omega) (by omega) (by omega) ?_;intro bB cF H;replace H:=H.nf
 have cG:=((H.os 0)).len_le
 refine kg 10 ?_;obtain ⟨bC,aS,bD⟩:=M.e_bind hM
 obtain ⟨aT,aS⟩:=M.e_iter aS
 refine W.loop (fun m σ W=>∃ (l:List Int) (s:Nat) (ab:Value) (ρ:Env),σ=upds ρ [(1,ae),(2,I work),(8,Pq aa),(10,Pq aj),(11,ab),(35,I ((List.replicate (w_.length) (0:Int)).length:Int)),(36,I (s:Int))]/\M.iterN (zcl w_) m (l,s)=some bC/\St w W [cOwn (α:=Int) 3 ab l,cBlk aj [.func (.func 61) #[] #[Pq aa]] 129,cBlk aa [Pq ac] 120,cBlk ac [Pq ao,ae,I ag,.map (some ap),.map (some aq)] 126,cBlk ao [av] 102,cMap encG I ap ah,cMap I B aq ai] R) ?_ ?_
 ·exact ⟨_,List.replicate (w_.length) (0:Int),0,bB,_,upds_of _ _ ⟨rfl,rfl,rfl,rfl,rfl,rfl,rfl,trivial⟩,aS,H⟩
 rintro cH σ cI ⟨l,s,ab,ρ,rfl,ba,H⟩
 obtain ⟨bE,bF,cJ,hM,bb⟩:=M.e_iterN ba
 simp only [zcl] at hM
 clear ba;refine kg 5 ?_
 refine W.cond (decide ((s:Int)<((List.replicate (w_.length) (0:Int)).length:Int))) rfl (fun aw=>?_) (fun aw=>?_)
 ·replace hM:=M.e_t hM aw
  replace aw:=dI aw
  obtain ⟨cK,hM⟩:=M.e_gd hM;refine kg 13 ?_;refine t_ost (k:=0) (i:=(s:Int)) (l:=l) (l':=l.set s (s:Int)) (val:=I (s:Int)) (L':=[cOwn (α:=Int) 3 ab (l.set s (s:Int)),cBlk aj [.func (.func 61) #[] #[Pq aa]] 129,cBlk aa [Pq ac] 120,cBlk ac [Pq ao,ae,I ag,.map (some ap),.map (some aq)] 126,cBlk ao [av] 102,cMap encG I ap ah,cMap I B aq ai]) H rfl Sz3 (by omega) (by omega) (s:Int) rfl rfl rfl rfl rfl ?_;intro cL H;obtain ⟨cM,hM⟩:=M.e_gd hM;refine kg 5 ?_
  exact ⟨bE,bF,l.set s (s:Int),s+1,ab,_,upds_of _ _ ⟨rfl,rfl,rfl,rfl,rfl,rfl,rfl,trivial⟩,M.e_inl hM bb,H⟩
 replace hM:=M.e_f hM aw
 replace aw:=dI aw
 refine W.exit ?_
 have bG:=M.e_inr hM bb
 subst bG;replace hM:=bD;(try dsimp only at hM)
 have cN:=(aH).len_le
 refine kg 12 ?_
 obtain ⟨bc,H⟩:=H.emptyE
 replace H:=H.nilOwn (α:=Raw 0) 26
 have bH:RepR (α:=List Int) (n:=0) bc.cells [] []:=.nil
 obtain ⟨bI,aU,bJ⟩:=M.e_bind hM
 obtain ⟨aT,aU⟩:=M.e_iter aU
 refine W.loop (fun m σ W=>∃ (s4:Nat) (aL:List (List Int)) (aM:Value) (aN:List (Raw 0)) (B_l12:Base) (ρ:Env),σ=upds ρ [(2,I work),(8,Pq aa),(10,Pq aj),(11,ab),(13,aM),(44,ae),(45,I (revised.length:Int)),(46,I (s4:Int))]/\M.iterN (zck w_ revised work ag ah ai l) m (s4,aL)=some bI/\St w W [cOwn (α:=Raw 0) 26 aM aN,cRo B_l12,cOwn (α:=Int) 3 ab l,cBlk aj [.func (.func 61) #[] #[Pq aa]] 129,cBlk aa [Pq ac] 120,cBlk ac [Pq ao,ae,I ag,.map (some ap),.map (some aq)] 126,cBlk ao [av] 102,cMap encG I ap ah,cMap I B aq ai] R/\RepR (α:=List Int) B_l12.cells aN aL) ?_ ?_
 ·exact ⟨_,0,[],(.slice none 0 0),[],bc,_,upds_of _ _ ⟨rfl,rfl,rfl,rfl,rfl,rfl,rfl,rfl,trivial⟩,aU,H,bH⟩
 rintro cO σ cP ⟨s4,aL,aM,aN,B_l12,ρ,rfl,bg,H,bh⟩
 obtain ⟨bK,bL,cQ,hM,bi⟩:=M.e_iterN bg
 simp only [zck] at hM
 clear bg;refine kg 5 ?_
 refine W.cond (decide ((s4:Int)<(revised.length:Int))) rfl (fun ax=>?_) (fun ax=>?_)
 ·replace hM:=M.e_t hM ax
  replace ax:=dI ax
  obtain ⟨cR,hM⟩:=M.e_gd hM
  have cS:=((H.os 2)).len_le
  refine kg 16 ?_;obtain ⟨bM,aV,bN⟩:=M.e_bind hM
  obtain ⟨aT,aV⟩:=M.e_iter aV
  refine W.loop (fun m σ W=>∃ (s3:Nat) (aD:List (List Int)) (ay:Value) (au:List (Raw 0)) (B_l10:Base) (ρ:Env),σ=upds ρ [(2,I work),(8,Pq aa),(10,Pq aj),(11,ab),(13,ay),(15,I (revised.getD s4 0)),(44,ae),(45,I (revised.length:Int)),(46,I (s4:Int)),(50,ab),(51,I (l.length:Int)),(52,I (s3:Int))]/\M.iterN (zb5 w_ revised work ag ah ai l s4) m (s3,aD)=some bM/\St w W [cOwn (α:=Raw 0) 26 ay au,cRo B_l10,cOwn (α:=Int) 3 ab l,cBlk aj [.func (.func 61) #[] #[Pq aa]] 129,cBlk aa [Pq ac] 120,cBlk ac [Pq ao,ae,I ag,.map (some ap),.map (some aq)] 126,cBlk ao [av] 102,cMap encG I ap ah,cMap I B aq ai] R/\RepR (α:=List Int) B_l10.cells au aD) ?_ ?_
  ·exact ⟨_,0,aL,aM,aN,B_l12,_,upds_of _ _ ⟨rfl,rfl,rfl,rfl,rfl,rfl,rfl,rfl,rfl,rfl,rfl,rfl,trivial⟩,aV,H,bh⟩
  rintro cT σ cU ⟨s3,aD,ay,au,B_l10,ρ,rfl,bj,H,aE⟩
  obtain ⟨bm,bn,cV,hM,aW⟩:=M.e_iterN bj
  simp only [zb5] at hM
  clear bj;refine kg 5 ?_
  refine W.cond (decide ((s3:Int)<(l.length:Int))) rfl (fun az=>?_) (fun az=>?_)
  ·replace hM:=M.e_t hM az
   replace az:=dI az
   obtain ⟨cW,hM⟩:=M.e_gd hM;refine kg 14 ?_;obtain ⟨cX,bO,hM⟩:=M.e_bind hM;refine s_call cf60 [Pq ac,I (l.getD s3 0)] rfl (zbv w_ revised ag ah ai (l.getD s3 0) (aP.app _) aG (Has.here (k:=6) rfl) (aQ.app _) aH (Has.here (k:=7) rfl) (Has.here (k:=8) rfl) (Has.here (k:=5) rfl) bO _ (H.gt 9)) ?_
   rintro vq cY ⟨r2,rfl,hvq,am⟩
   subst vq;(try dsimp only at hM);replace H:=H.bk am;clear am;refine kg 5 ?_;obtain ⟨r3,bP,hM⟩:=M.e_bind hM;refine t_gcallv (cap:=[Pq aa]) (!(!r2)) (gy_f rfl) cf61 (fun hg=>(gd_of hg (.func (.func 61) #[] #[Pq aa]))) (B r3) (fun _=>[I (revised.getD s4 0),I (l.getD s3 0)]) (fun hg=>lst2 (gd_of hg (I (revised.getD s4 0))) (gd_of hg (I (l.getD s3 0)))) H (fun hg=>(zdh (revised.getD s4 0) (l.getD s3 0) w_ revised ag ah ai (aP.app _) aG (Has.here (k:=6) rfl) (aQ.app _) aH (Has.here (k:=7) rfl) (Has.here (k:=8) rfl) (Has.here (k:=5) rfl) (Has.here (k:=4) rfl) (M.e_opt bP hg) _ (H.give (A:=[]) rfl)).mono fun v_ w_ ⟨y_,aJ,bQ,H_⟩=>by subst aJ; exact ⟨bQ,H.via H_⟩) ?_;intro cZ H;refine kg 1 ?_;refine s_val (x_por (b:=!r2) (r:=!r3) rfl rfl (fun hb=>gd_of (c:=!(!r2)) (by first | exact hb | (rw [hb]; rfl) | simp_all) (B (!r3))))<|s_nil ?_
   refine W.cond ((!r2)||(!r3)) rfl (fun aX=>?_) (fun aX=>?_)
   ·replace hM:=M.e_t hM aX;refine W.exit ?_;obtain ⟨c6,hM⟩:=M.e_gd hM;refine kg 4 ?_
    exact ⟨bm,bn,s3+1,aD,ay,au,B_l10,_,upds_of _ _ ⟨rfl,rfl,rfl,rfl,rfl,rfl,rfl,rfl,rfl,rfl,rfl,rfl,trivial⟩,M.e_inl hM aW,H,aE⟩
   replace hM:=M.e_f hM aX;refine kg 4 ?_;refine t_bs (α:=Int) T26 [I (revised.getD s4 0)] [(revised.getD s4 0:Int)] H rfl (.cons rfl (Flat.rep_enc _ (revised.getD s4 0:Int))<|.nil) rfl rfl rfl ?_;intro bR c7 H;refine kg 6 ?_;refine t_alloc (cs:=[I 0]) H Al3 rfl ?_;intro bS c8 H;refine t_sw 0 0 [I (l.getD s3 0)] (I (l.getD s3 0)) H rfl rfl Sz3 rfl rfl rfl rfl ?_;intro c9 H;refine kg 2 ?_;obtain ⟨bT,aY,bU⟩:=M.e_bind hM
   obtain ⟨aT,aY⟩:=M.e_iter aY
   refine W.loop (fun m σ W=>∃ (aF:Nat) (l4:List Int) (s2:Int) (aZ:Value) (ρ:Env),σ=upds ρ [(2,I work),(8,Pq aa),(10,Pq aj),(11,ab),(13,ay),(15,I (revised.getD s4 0)),(18,aZ),(19,Pq aF),(44,ae),(45,I (revised.length:Int)),(46,I (s4:Int)),(50,ab),(51,I (l.length:Int)),(52,I (s3:Int)),(61,gd (!(!r2)) (.func (.func 61) #[] #[Pq aa])),(62,gd (!(!r2)) (I (revised.getD s4 0))),(63,gd (!(!r2)) (I (l.getD s3 0))),(64,gd (!(!r2)) (B r3)),(65,gd (!(!r2)) (B (!r3)))]/\M.iterN (zb9 w_ revised work ag ah ai l) m (l4,s2)=some bT/\St w W [cBlk aF [I s2] 3,cOwn (α:=Int) 3 aZ l4,cOwn (α:=Raw 0) 26 ay au,cRo B_l10,cOwn (α:=Int) 3 ab l,cBlk aj [.func (.func 61) #[] #[Pq aa]] 129,cBlk aa [Pq ac] 120,cBlk ac [Pq ao,ae,I ag,.map (some ap),.map (some aq)] 126,cBlk ao [av] 102,cMap encG I ap ah,cMap I B aq ai] R) ?_ ?_
   ·exact ⟨_,bS,[(revised.getD s4 0:Int)],l.getD s3 0,bR,_,upds_of _ _ ⟨rfl,rfl,rfl,rfl,rfl,rfl,rfl,rfl,rfl,rfl,rfl,rfl,rfl,rfl,rfl,rfl,rfl,rfl,rfl,trivial⟩,aY,H⟩
   rintro da σ db ⟨aF,l4,s2,aZ,ρ,rfl,bp,H⟩
   obtain ⟨bV,bW,dc,hM,br⟩:=M.e_iterN bp
   simp only [zb9] at hM
   clear bp;refine kg 7 ?_
   refine W.cond (s2 != work) rfl (fun aB=>?_) (fun aB=>?_)
   ·replace hM:=M.e_t hM aB
    replace aB:=dI aB
    refine kg 7 ?_;refine t_bs (α:=Int) T26 [I s2] [(s2:Int)] H rfl (.cons rfl (Flat.rep_enc _ (s2:Int))<|.nil) rfl rfl rfl ?_;intro bX dg H;obtain ⟨dh,hM⟩:=M.e_gd hM;refine t_app (α:=Int) (k:=2) (l:=l4) (l2:=[(s2:Int)]) (l':=l4++([(s2:Int)])) (vy:=bX) T26 rfl H rfl rfl rfl (H.os 0) (H.ol 0) (rfl) (by first | omega | (simp only [List.length_nil] at *; omega)) ?_;intro bY di H;replace H:=H.nf;refine kg 4 ?_;refine s_val (x_mf (fs:=[]) (cs:=[Pq aj,Pq aF]) rfl rfl) ?_;obtain ⟨dj,bZ,hM⟩:=M.e_bind hM;refine s_call cf53 [ab,.func (.func 62) #[] #[Pq aj,Pq aF]] rfl (zcB l (fun a4=>zbP a4 w_ revised ag ah ai s2) (rdo 5) (H.os 5) ⟨62,[Pq aj,Pq aF],rfl,cf62,fun bt dk dl b7 a4 dm b8 dp b9 ca=>by obtain rfl:=Arg.int b9; exact (zef a4 w_ revised ag ah ai s2 (Reads.app (aP.app _) _) aG (Has.app (Has.here (k:=9) rfl) _) (Reads.app (aQ.app _) _) aH (Has.app (Has.here (k:=10) rfl) _) (Has.app (Has.here (k:=11) rfl) _) (Has.app (Has.here (k:=8) rfl) _) (Has.app (Has.here (k:=7) rfl) _) (Has.app (Has.here (k:=6) rfl) _) (Has.app (Has.here (k:=1) rfl) _) ca bt (St.refl b8)).mono fun b7 bt ⟨dq,cb,cc,cd⟩=>by subst cb; exact ⟨cc,cd⟩⟩ bZ _ (H.gt 12)) ?_
    rintro vq dr ⟨r4,rfl,hvq,am⟩
    subst vq;(try dsimp only at hM);replace H:=H.bk am;clear am;refine t_sw 1 0 [I r4] (I r4) H rfl rfl Sz3 rfl rfl rfl rfl ?_;intro dt H;refine kg 6 ?_;refine t_alloc (cs:=[I 0]) H Al3 rfl ?_;intro ce du H;refine t_sw 0 0 [I r4] (I r4) H rfl rfl Sz3 rfl rfl rfl rfl ?_;intro dv H;refine s_nil ?_
    exact ⟨bV,bW,ce,l4++([(s2:Int)]),r4,bY,_,upds_of _ _ ⟨rfl,rfl,rfl,rfl,rfl,rfl,rfl,rfl,rfl,rfl,rfl,rfl,rfl,rfl,rfl,rfl,rfl,rfl,rfl,trivial⟩,M.e_inl hM br,(H.pk [0,3,4,5,6,7,8,9,10,11,12])⟩
   replace hM:=M.e_f hM aB
   replace aB:=dI aB
   refine W.exit ?_
   have cf:=M.e_inr hM br
   subst cf;replace hM:=bU;(try dsimp only at hM);refine kg 4 ?_;refine t_bs (α:=Int) T26 [I work] [(work:Int)] H rfl (.cons rfl (Flat.rep_enc _ (work:Int))<|.nil) rfl rfl rfl ?_;intro cg dw H;obtain ⟨dy,hM⟩:=M.e_gd hM;refine t_app (α:=Int) (k:=2) (l:=l4) (l2:=[(work:Int)]) (l':=l4++([(work:Int)])) (vy:=cg) T26 rfl H rfl rfl rfl (H.os 0) (H.ol 0) (rfl) (by first | omega | (simp only [List.length_nil] at *; omega)) ?_;intro a5 dz H;replace H:=H.nf
   obtain ⟨dA,H⟩:=H.emptyE
   obtain ⟨dB,H,ch⟩:=H.freezeE (k:=3) rfl
   replace H:=H.nf
   have aO:=ch
   obtain ⟨ci,H,dC,cj⟩:=H.joinE (i:=0) (j:=3) rfl rfl
   replace aO:=aO.mono cj
   obtain ⟨aC,bu⟩:∃ r:Raw 0,r.cs=[a5]:=⟨Raw.of [a5] rfl (by simp only [List.all_cons,List.all_nil,Bool.true_and,Bool.and_true,Sl.oc aO]; try rfl),rfl⟩
   have ck:RepR (α:=List Int) ci.cells [aC] [l4++([(work:Int)])]:=.cons (by rw [bu]; exact ⟨_,rfl,aO⟩)<|.nil
   refine t_bs (α:=Raw 0) T95 [a5] [aC] H rfl (.cons (by rw [show (Flat.enc aC:List Value)=aC.cs from rfl,bu]; exact Sl.cells aO) (Flat.rep_enc _ _)<|.nil) rfl rfl rfl ?_;intro cm dD H;replace H:=H.nf;obtain ⟨dE,hM⟩:=M.e_gd hM
   have aR:=ck
   obtain ⟨cn,H,co,cp⟩:=H.joinE (i:=7) (j:=1) rfl rfl
   replace aE:=aE.mono co
   replace aR:=aR.mono cp
   have cq:=aE.app aR
   refine t_app (α:=Raw 0) (k:=7) (l:=au) (l2:=[aC]) (l':=au++([aC])) (vy:=cm) T95 rfl H rfl rfl rfl (H.os 1) (H.ol 1) (rfl) (by have a_:=aE.len; have b_:=aR.len; (try simp only [List.length_nil] at *); first | omega | (rw [a_,b_]; omega)) ?_;intro cr dF H;replace H:=H.nf;refine kg 2 ?_;replace H:=H.pk [0,7,8,9,10,11,12,13,14,15];obtain ⟨dG,hM⟩:=M.e_gd hM;refine kg 4 ?_
   exact ⟨bm,bn,s3+1,aD++([l4++([(work:Int)])]),cr,au++([aC]),cn,_,upds_of _ _ ⟨rfl,rfl,rfl,rfl,rfl,rfl,rfl,rfl,rfl,rfl,rfl,rfl,trivial⟩,M.e_inl hM aW,(H.pk [1,0,3,4,5,6,7,8,9]),cq⟩
  replace hM:=M.e_f hM az
  replace az:=dI az
  refine W.exit ?_
  have ct:=M.e_inr hM aW
  subst ct;replace hM:=bN;(try dsimp only at hM);obtain ⟨dH,hM⟩:=M.e_gd hM;refine kg 4 ?_
  exact ⟨bK,bL,s4+1,aD,ay,au,B_l10,_,upds_of _ _ ⟨rfl,rfl,rfl,rfl,rfl,rfl,rfl,rfl,trivial⟩,M.e_inl hM bi,H,aE⟩
 replace hM:=M.e_f hM ax
 replace ax:=dI ax
 refine W.exit ?_
 have cu:=M.e_inr hM bi
 subst cu;replace hM:=bJ;(try dsimp only at hM);replace H:=H.pk [0,1];refine kg 6 ?_;refine W.ret ?_
 have aJ:=M.e_pure hM
 exact ⟨_,resE_tmp2 rfl,⟨aL,0,aM,aN,B_l12,aJ,rfl,H,bh⟩⟩

end Go.Proofs.Ytigidakpcepdkaa
end
section
set_option maxRecDepth 100000
set_option maxHeartbeats 16000000
namespace Go.Proofs.Ytigidakpcepdkaa
open Go Go.Nm
attribute [local irreducible] gd execOp SL SLD SLT WR
def zcr  : M Bool :=
  M.bind (zad) fun r2 =>
  M.bind (zaA r2 ([(⟨(0:Int),(2:Int),(7:Int)⟩:Note),(⟨(1:Int),(0:Int),(9:Int)⟩:Note)])) fun (r0,r1) =>
  M.bind (zad) fun r3 =>
  M.bind (zaK r3 ([(0:Int)])) fun (aq,aa) =>
  M.bind (zad) fun r4 =>
  M.bind (zc6 r4 ([(1:Int)])) fun (au,ab) =>
  M.bind (zad) fun r5 =>
  M.bind (zda r5 ([(0:Int)])) fun (av,ac) =>
  M.bind (M.opt (!((((r1 != 0)||(aa != 0))||(ab != 0))||(ac != 0))) (zaf r0 ([(7:Int),(9:Int),(26:Int),(10:Int),(47:Int),(48:Int)])) false) fun r6 =>
  M.bind (M.opt (!(((((r1 != 0)||(aa != 0))||(ab != 0))||(ac != 0))||(!r6))) (zaf aq ([(0:Int),(2:Int),(4:Int),(5:Int)])) false) fun r7 =>
  M.bind (M.opt (!((((((r1 != 0)||(aa != 0))||(ab != 0))||(ac != 0))||(!r6))||(!r7))) (zaf au ([(-1:Int),(6:Int),(16:Int),(36:Int),(56:Int),(57:Int)])) false) fun r8 =>
  M.bind (M.opt (!(((((((r1 != 0)||(aa != 0))||(ab != 0))||(ac != 0))||(!r6))||(!r7))||(!r8))) (zaf av ([(0:Int),(2:Int),(4:Int),(5:Int)])) false) fun r9 =>
  bif ((((((((r1 != 0)||(aa != 0))||(ab != 0))||(ac != 0))||(!r6))||(!r7))||(!r8))||(!r9)) then (
  M.pure false)
  else (
  M.bind (zad) fun aw =>
  M.bind (zbu aw ([(0:Int)]) ([(0:Int),(2:Int),(4:Int),(5:Int)])) fun (ae,ag) =>
  M.bind (zad) fun ax =>
  M.bind (zbu ax ([(0:Int)]) ([(0:Int),(2:Int),(4:Int)])) fun (ah,ai) =>
  M.bind (zad) fun ay =>
  M.bind (zcE ay ([(1:Int)]) 4) fun (az,aj) =>
  M.bind (zad) fun aB =>
  M.bind (zc3 aB ([(1:Int)]) 4) fun (aC,am) =>
  M.bind (zad) fun aD =>
  M.bind (zcE aD ([(1:Int)]) 3) fun (aI,ao) =>
  M.bind (M.opt (!(((((((ag != 0)||(ai != 0))||(aj != 0))||(am != 0))||(ao != 5))||(!ae))||ah)) (zaf az ([(2:Int),(3:Int)])) false) fun aE =>
  bif (((((((((ag != 0)||(ai != 0))||(aj != 0))||(am != 0))||(ao != 5))||(!ae))||ah)||(!aE))||((aC.length:Int) != 2)) then (
  M.pure false)
  else (
  M.bind (zad) fun aF =>
  M.bind (zay aF ([(⟨(0:Int),(3:Int),(8:Int)⟩:Note),(⟨(0:Int),(2:Int),(7:Int)⟩:Note),(⟨(1:Int),(0:Int),(9:Int)⟩:Note)]) ([(⟨(2:Int),(26:Int)⟩:Pub),(⟨(3:Int),(10:Int)⟩:Pub)])) fun (aG,ap) =>
  M.bind (M.opt (ap==0) (zaf aG ([(0:Int)])) false) fun aH =>
  M.pure ((ap==0)&&aH)))
theorem zdX {R:List Chunk}    {r:Bool} (hM:(zcr).Ends r) (w:World) (H:St w w [] R):Ret Try.prog 14 #[] w fun v w'=>∃ (y0:Bool),y0=r/\v=B y0/\St w w' [] R:=by
 refine ret_of_W Try.func14 rfl rfl rfl ?_;refine kg 6 ?_;obtain ⟨cp,aP,hM⟩:=M.e_bind hM;refine s_call cf31 [] rfl (zag aP _ (H.gt 0)) ?_
 rintro vq cq ⟨r2,aQ,cr,ct,rfl,hvq,aa,aR⟩
 subst vq;(try dsimp only at hM);replace H:=H.bk aa;clear aa;refine s_val (x_bld (ps:=[(0,I 0),(1,I 2),(2,I 7)]) (zs:=[I 0,I 0,I 0]) (L':=[I 0,I 2,I 7]) rfl Try.underlying39 Al39 rfl (Bd39 Try.underlying39) (.cons (cs:=[I 0]) rfl rfl rfl rfl rfl<|.cons (cs:=[I 2]) rfl rfl rfl rfl rfl<|.cons (cs:=[I 7]) rfl rfl rfl rfl rfl<|.nil))<|s_val (x_bld (ps:=[(0,I 1),(2,I 9)]) (zs:=[I 0,I 0,I 0]) (L':=[I 1,I 0,I 9]) rfl Try.underlying39 Al39 rfl (Bd39 Try.underlying39) (.cons (cs:=[I 1]) rfl rfl rfl rfl rfl<|.cons (cs:=[I 9]) rfl rfl rfl rfl rfl<|.nil)) ?_;refine t_bs (α:=Note) T32 [.agg #[I 0,I 2,I 7],.agg #[I 1,I 0,I 9]] [(⟨(0:Int),(2:Int),(7:Int)⟩:Note),(⟨(1:Int),(0:Int),(9:Int)⟩:Note)] H rfl (.cons rfl (Flat.rep_enc _ (⟨(0:Int),(2:Int),(7:Int)⟩:Note))<|.cons rfl (Flat.rep_enc _ (⟨(1:Int),(0:Int),(9:Int)⟩:Note))<|.nil) rfl rfl rfl ?_;intro aS cu H;obtain ⟨cv,aT,hM⟩:=M.e_bind hM;refine s_call cf7 [aQ,aS] rfl (zcG r2 ([(⟨(0:Int),(2:Int),(7:Int)⟩:Note),(⟨(1:Int),(0:Int),(9:Int)⟩:Note)]) (Reads.sup (rdo 1) (Reads.of (k:=2) rfl roLe)) (rowSl rfl (H.get (k:=1) rfl) (roLe _ (H.get (k:=2) rfl)) aR) (rdo 0) (H.os 0) aT _ (H.gt 3)) ?_
 rintro vq cw ⟨r0,r1,az,rfl,hvq,aa⟩
 subst vq;(try dsimp only at hM);replace H:=H.bk aa;clear aa;refine kg 6 ?_;replace H:=H.pk [0];refine kg 2 ?_;obtain ⟨cx,aU,hM⟩:=M.e_bind hM;refine s_call cf31 [] rfl (zag aU _ (H.gt 1)) ?_
 rintro vq cy ⟨r3,aV,cz,cA,rfl,hvq,aa,aW⟩
 subst vq;(try dsimp only at hM);replace H:=H.bk aa;clear aa;refine t_bs (α:=Int) T26 [I 0] [(0:Int)] H rfl (.cons rfl (Flat.rep_enc _ (0:Int))<|.nil) rfl rfl rfl ?_;intro aX cB H;obtain ⟨cC,aY,hM⟩:=M.e_bind hM;refine s_call cf9 [aV,aX] rfl (zcW r3 ([(0:Int)]) (Reads.sup (rdo 1) (Reads.of (k:=2) rfl roLe)) (rowSl rfl (H.get (k:=1) rfl) (roLe _ (H.get (k:=2) rfl)) aW) (rdo 0) (H.os 0) aY _ (H.gt 4)) ?_
 rintro vq cD ⟨aZ,ab,aB,rfl,hvq,aa⟩
 subst vq;(try dsimp only at hM);replace H:=H.bk aa;clear aa;refine kg 6 ?_;replace H:=H.pk [0,4];refine kg 2 ?_;obtain ⟨cE,a4,hM⟩:=M.e_bind hM;refine s_call cf31 [] rfl (zag a4 _ (H.gt 2)) ?_
 rintro vq cF ⟨r4,a5,cG,cH,rfl,hvq,aa,a6⟩
 subst vq;(try dsimp only at hM);replace H:=H.bk aa;clear aa;refine t_bs (α:=Int) T26 [I 1] [(1:Int)] H rfl (.cons rfl (Flat.rep_enc _ (1:Int))<|.nil) rfl rfl rfl ?_;intro a7 cI H;obtain ⟨cJ,a8,hM⟩:=M.e_bind hM;refine s_call cf32 [a5,a7] rfl (zdx r4 ([(1:Int)]) (Reads.sup (rdo 1) (Reads.of (k:=2) rfl roLe)) (rowSl rfl (H.get (k:=1) rfl) (roLe _ (H.get (k:=2) rfl)) a6) (rdo 0) (H.os 0) a8 _ (H.gt 5)) ?_
 rintro vq cK ⟨a9,ag,aC,rfl,hvq,aa⟩
 subst vq;(try dsimp only at hM);replace H:=H.bk aa;clear aa;refine kg 6 ?_;replace H:=H.pk [0,4,5];refine kg 2 ?_;obtain ⟨cL,ba,hM⟩:=M.e_bind hM;refine s_call cf31 [] rfl (zag ba _ (H.gt 3)) ?_
 rintro vq cM ⟨r5,bb,cN,cO,rfl,hvq,aa,bc⟩
 subst vq;(try dsimp only at hM);replace H:=H.bk aa;clear aa;refine t_bs (α:=Int) T26 [I 0] [(0:Int)] H rfl (.cons rfl (Flat.rep_enc _ (0:Int))<|.nil) rfl rfl rfl ?_;intro bg cP H;obtain ⟨cQ,bh,hM⟩:=M.e_bind hM;refine s_call cf33 [bb,bg] rfl (zdz r5 ([(0:Int)]) (Reads.sup (rdo 1) (Reads.of (k:=2) rfl roLe)) (rowSl rfl (H.get (k:=1) rfl) (roLe _ (H.get (k:=2) rfl)) bc) (rdo 0) (H.os 0) bh _ (H.gt 6)) ?_
 rintro vq cR ⟨bi,ai,aD,rfl,hvq,aa⟩
 subst vq;(try dsimp only at hM);replace H:=H.bk aa;clear aa;refine kg 6 ?_;replace H:=H.pk [0,4,5,6];refine kg 8 ?_;refine s_val (x_por (b:=r1 != 0) (r:=ab != 0) rfl rfl (fun hb=>gd_of (c:=!(r1 != 0)) (by first | exact hb | (rw [hb]; rfl) | simp_all) (B (ab != 0))))<|zM (B ((r1 != 0)||(ab != 0))) rfl<|g_val (!((r1 != 0)||(ab != 0))) (gy_f rfl) (fun hg=>x_mv (v:=I ag) rfl)<|g_val (!((r1 != 0)||(ab != 0))) (gy_f rfl) (fun hg=>x_cmp (kd:=.i64) (r:=ag != 0) (gd_of hg (I ag)) rfl rfl)<|s_val (x_por (b:=((r1 != 0)||(ab != 0))) (r:=ag != 0) rfl rfl (fun hb=>gd_of (c:=!((r1 != 0)||(ab != 0))) (by first | exact hb | (rw [hb]; rfl) | simp_all) (B (ag != 0))))<|zM (B (((r1 != 0)||(ab != 0))||(ag != 0))) rfl<|g_val (!(((r1 != 0)||(ab != 0))||(ag != 0))) (gy_f rfl) (fun hg=>x_mv (v:=I ai) rfl)<|g_val (!(((r1 != 0)||(ab != 0))||(ag != 0))) (gy_f rfl) (fun hg=>x_cmp (kd:=.i64) (r:=ai != 0) (gd_of hg (I ai)) rfl rfl)<|s_val (x_por (b:=(((r1 != 0)||(ab != 0))||(ag != 0))) (r:=ai != 0) rfl rfl (fun hb=>gd_of (c:=!(((r1 != 0)||(ab != 0))||(ag != 0))) (by first | exact hb | (rw [hb]; rfl) | simp_all) (B (ai != 0))))<|zM (B ((((r1 != 0)||(ab != 0))||(ag != 0))||(ai != 0))) rfl ?_;refine g_val (!((((r1 != 0)||(ab != 0))||(ag != 0))||(ai != 0))) (gy_f rfl) (fun hg=>x_mv (v:=az) rfl) ?_;refine t_gbs (α:=Int) T26 (!((((r1 != 0)||(ab != 0))||(ag != 0))||(ai != 0))) (gy_f rfl) [I 7,I 9,I 26,I 10,I 47,I 48] [(7:Int),(9:Int),(26:Int),(10:Int),(47:Int),(48:Int)] H (fun _=>rfl) (.cons rfl (Flat.rep_enc _ (7:Int))<|.cons rfl (Flat.rep_enc _ (9:Int))<|.cons rfl (Flat.rep_enc _ (26:Int))<|.cons rfl (Flat.rep_enc _ (10:Int))<|.cons rfl (Flat.rep_enc _ (47:Int))<|.cons rfl (Flat.rep_enc _ (48:Int))<|.nil) rfl rfl rfl ?_;intro aH cS cT H bj;obtain ⟨r6,bm,hM⟩:=M.e_bind hM;refine t_gcall (!((((r1 != 0)||(ab != 0))||(ag != 0))||(ai != 0))) (gy_f rfl) cf11 (B r6) (fun _=>[az,aH]) (fun hg=>lst2 (gd_of hg (az)) (gd_of hg (aH))) H (fun hg=>(zau r0 ([(7:Int),(9:Int),(26:Int),(10:Int),(47:Int),(48:Int)]) (rdo 4) (H.os 4) (Reads.of (k:=0) rfl roLe) (bj hg) (M.e_opt bm hg) _ (H.give (A:=[]) rfl)).mono fun v_ w_ ⟨y_,ap,av,H_⟩=>by subst ap; exact ⟨av,H.via H_⟩) ?_;intro cU H;refine g_val (!((((r1 != 0)||(ab != 0))||(ag != 0))||(ai != 0))) (gy_f rfl) (fun hg=>x_not (b:=r6) (gd_of hg (B r6)))<|s_val (x_por (b:=((((r1 != 0)||(ab != 0))||(ag != 0))||(ai != 0))) (r:=!r6) rfl rfl (fun hb=>gd_of (c:=!((((r1 != 0)||(ab != 0))||(ag != 0))||(ai != 0))) (by first | exact hb | (rw [hb]; rfl) | simp_all) (B (!r6))))<|zM (B (((((r1 != 0)||(ab != 0))||(ag != 0))||(ai != 0))||(!r6))) rfl<|g_val (!(((((r1 != 0)||(ab != 0))||(ag != 0))||(ai != 0))||(!r6))) (gy_f rfl) (fun hg=>x_mv (v:=aB) rfl) ?_;refine t_gbs (α:=Int) T26 (!(((((r1 != 0)||(ab != 0))||(ag != 0))||(ai != 0))||(!r6))) (gy_f rfl) [I 0,I 2,I 4,I 5] [(0:Int),(2:Int),(4:Int),(5:Int)] H (fun _=>rfl) (.cons rfl (Flat.rep_enc _ (0:Int))<|.cons rfl (Flat.rep_enc _ (2:Int))<|.cons rfl (Flat.rep_enc _ (4:Int))<|.cons rfl (Flat.rep_enc _ (5:Int))<|.nil) rfl rfl rfl ?_;intro aI cV cW H bn;obtain ⟨r7,bp,hM⟩:=M.e_bind hM;refine t_gcall (!(((((r1 != 0)||(ab != 0))||(ag != 0))||(ai != 0))||(!r6))) (gy_f rfl) cf11 (B r7) (fun _=>[aB,aI]) (fun hg=>lst2 (gd_of hg (aB)) (gd_of hg (aI))) H (fun hg=>(zau aZ ([(0:Int),(2:Int),(4:Int),(5:Int)]) (rdo 4) (H.os 4) (Reads.of (k:=0) rfl roLe) (bn hg) (M.e_opt bp hg) _ (H.give (A:=[]) rfl)).mono fun v_ w_ ⟨y_,ap,av,H_⟩=>by subst ap; exact ⟨av,H.via H_⟩) ?_;intro cX H;refine g_val (!(((((r1 != 0)||(ab != 0))||(ag != 0))||(ai != 0))||(!r6))) (gy_f rfl) (fun hg=>x_not (b:=r7) (gd_of hg (B r7)))<|s_val (x_por (b:=(((((r1 != 0)||(ab != 0))||(ag != 0))||(ai != 0))||(!r6))) (r:=!r7) rfl rfl (fun hb=>gd_of (c:=!(((((r1 != 0)||(ab != 0))||(ag != 0))||(ai != 0))||(!r6))) (by first | exact hb | (rw [hb]; rfl) | simp_all) (B (!r7))))<|zM (B ((((((r1 != 0)||(ab != 0))||(ag != 0))||(ai != 0))||(!r6))||(!r7))) rfl<|g_val (!((((((r1 != 0)||(ab != 0))||(ag != 0))||(ai != 0))||(!r6))||(!r7))) (gy_f rfl) (fun hg=>x_mv (v:=aC) rfl) ?_;refine t_gbs (α:=Int) T26 (!((((((r1 != 0)||(ab != 0))||(ag != 0))||(ai != 0))||(!r6))||(!r7))) (gy_f rfl) [I (-1),I 6,I 16,I 36,I 56,I 57] [(-1:Int),(6:Int),(16:Int),(36:Int),(56:Int),(57:Int)] H (fun _=>rfl) (.cons rfl (Flat.rep_enc _ (-1:Int))<|.cons rfl (Flat.rep_enc _ (6:Int))<|.cons rfl (Flat.rep_enc _ (16:Int))<|.cons rfl (Flat.rep_enc _ (36:Int))<|.cons rfl (Flat.rep_enc _ (56:Int))<|.cons rfl (Flat.rep_enc _ (57:Int))<|.nil) rfl rfl rfl ?_;intro aJ cY cZ H br;obtain ⟨r8,bt,hM⟩:=M.e_bind hM;refine t_gcall (!((((((r1 != 0)||(ab != 0))||(ag != 0))||(ai != 0))||(!r6))||(!r7))) (gy_f rfl) cf11 (B r8) (fun _=>[aC,aJ]) (fun hg=>lst2 (gd_of hg (aC)) (gd_of hg (aJ))) H (fun hg=>(zau a9 ([(-1:Int),(6:Int),(16:Int),(36:Int),(56:Int),(57:Int)]) (rdo 4) (H.os 4) (Reads.of (k:=0) rfl roLe) (br hg) (M.e_opt bt hg) _ (H.give (A:=[]) rfl)).mono fun v_ w_ ⟨y_,ap,av,H_⟩=>by subst ap; exact ⟨av,H.via H_⟩) ?_;intro c6 H;refine g_val (!((((((r1 != 0)||(ab != 0))||(ag != 0))||(ai != 0))||(!r6))||(!r7))) (gy_f rfl) (fun hg=>x_not (b:=r8) (gd_of hg (B r8)))<|s_val (x_por (b:=((((((r1 != 0)||(ab != 0))||(ag != 0))||(ai != 0))||(!r6))||(!r7))) (r:=!r8) rfl rfl (fun hb=>gd_of (c:=!((((((r1 != 0)||(ab != 0))||(ag != 0))||(ai != 0))||(!r6))||(!r7))) (by first | exact hb | (rw [hb]; rfl) | simp_all) (B (!r8))))<|zM (B (((((((r1 != 0)||(ab != 0))||(ag != 0))||(ai != 0))||(!r6))||(!r7))||(!r8))) rfl<|g_val (!(((((((r1 != 0)||(ab != 0))||(ag != 0))||(ai != 0))||(!r6))||(!r7))||(!r8))) (gy_f rfl) (fun hg=>x_mv (v:=aD) rfl) ?_;refine t_gbs (α:=Int) T26 (!(((((((r1 != 0)||(ab != 0))||(ag != 0))||(ai != 0))||(!r6))||(!r7))||(!r8))) (gy_f rfl) [I 0,I 2,I 4,I 5] [(0:Int),(2:Int),(4:Int),(5:Int)] H (fun _=>rfl) (.cons rfl (Flat.rep_enc _ (0:Int))<|.cons rfl (Flat.rep_enc _ (2:Int))<|.cons rfl (Flat.rep_enc _ (4:Int))<|.cons rfl (Flat.rep_enc _ (5:Int))<|.nil) rfl rfl rfl ?_;intro aK c7 c8 H bu;obtain ⟨r9,bv,hM⟩:=M.e_bind hM;refine t_gcall (!(((((((r1 != 0)||(ab != 0))||(ag != 0))||(ai != 0))||(!r6))||(!r7))||(!r8))) (gy_f rfl) cf11 (B r9) (fun _=>[aD,aK]) (fun hg=>lst2 (gd_of hg (aD)) (gd_of hg (aK))) H (fun hg=>(zau bi ([(0:Int),(2:Int),(4:Int),(5:Int)]) (rdo 4) (H.os 4) (Reads.of (k:=0) rfl roLe) (bu hg) (M.e_opt bv hg) _ (H.give (A:=[]) rfl)).mono fun v_ w_ ⟨y_,ap,av,H_⟩=>by subst ap; exact ⟨av,H.via H_⟩) ?_;intro c9 H;refine g_val (!(((((((r1 != 0)||(ab != 0))||(ag != 0))||(ai != 0))||(!r6))||(!r7))||(!r8))) (gy_f rfl) (fun hg=>x_not (b:=r9) (gd_of hg (B r9)))<|s_val (x_por (b:=(((((((r1 != 0)||(ab != 0))||(ag != 0))||(ai != 0))||(!r6))||(!r7))||(!r8))) (r:=!r9) rfl rfl (fun hb=>gd_of (c:=!(((((((r1 != 0)||(ab != 0))||(ag != 0))||(ai != 0))||(!r6))||(!r7))||(!r8))) (by first | exact hb | (rw [hb]; rfl) | simp_all) (B (!r9))))<|s_nil ?_;replace H:=H.pk []
 refine W.cond ((((((((r1 != 0)||(ab != 0))||(ag != 0))||(ai != 0))||(!r6))||(!r7))||(!r8))||(!r9)) rfl (fun aE=>?_) (fun aE=>?_)
 ·replace hM:=M.e_t hM aE;refine kg 4 ?_;refine W.ret ?_
  have ap:=M.e_pure hM
  exact ⟨_,resE_tmp rfl,⟨false,ap,rfl,H⟩⟩
 replace hM:=M.e_f hM aE;refine kg 3 ?_;obtain ⟨da,bw,hM⟩:=M.e_bind hM;refine s_call cf31 [] rfl (zag bw _ (H.gt 0)) ?_
 rintro vq db ⟨bx,bz,dc,dg,rfl,hvq,aa,bA⟩
 subst vq;(try dsimp only at hM);replace H:=H.bk aa;clear aa;refine t_bs (α:=Int) T26 [I 0] [(0:Int)] H rfl (.cons rfl (Flat.rep_enc _ (0:Int))<|.nil) rfl rfl rfl ?_;intro bB dh H;refine t_bs (α:=Int) T26 [I 0,I 2,I 4,I 5] [(0:Int),(2:Int),(4:Int),(5:Int)] H rfl (.cons rfl (Flat.rep_enc _ (0:Int))<|.cons rfl (Flat.rep_enc _ (2:Int))<|.cons rfl (Flat.rep_enc _ (4:Int))<|.cons rfl (Flat.rep_enc _ (5:Int))<|.nil) rfl rfl rfl ?_;intro bC di H;obtain ⟨dj,bD,hM⟩:=M.e_bind hM;refine s_call cf34 [bz,bB,bC] rfl (zdj bx ([(0:Int)]) ([(0:Int),(2:Int),(4:Int),(5:Int)]) (Reads.sup (rdo 2) (Reads.of (k:=3) rfl roLe)) (rowSl rfl (H.get (k:=2) rfl) (roLe _ (H.get (k:=3) rfl)) bA) (rdo 1) (H.os 1) (rdo 0) (H.os 0) bD _ (H.gt 4)) ?_
 rintro vq dk ⟨ao,ac,rfl,hvq,aa⟩
 subst vq;(try dsimp only at hM);replace H:=H.bk aa;clear aa;refine kg 6 ?_;replace H:=H.pk [];refine kg 2 ?_;obtain ⟨dl,bE,hM⟩:=M.e_bind hM;refine s_call cf31 [] rfl (zag bE _ (H.gt 0)) ?_
 rintro vq dm ⟨bF,bG,dp,dq,rfl,hvq,aa,bH⟩
 subst vq;(try dsimp only at hM);replace H:=H.bk aa;clear aa;refine t_bs (α:=Int) T26 [I 0] [(0:Int)] H rfl (.cons rfl (Flat.rep_enc _ (0:Int))<|.nil) rfl rfl rfl ?_;intro bI dr H;refine t_bs (α:=Int) T26 [I 0,I 2,I 4] [(0:Int),(2:Int),(4:Int)] H rfl (.cons rfl (Flat.rep_enc _ (0:Int))<|.cons rfl (Flat.rep_enc _ (2:Int))<|.cons rfl (Flat.rep_enc _ (4:Int))<|.nil) rfl rfl rfl ?_;intro bJ dt H;obtain ⟨du,bK,hM⟩:=M.e_bind hM;refine s_call cf34 [bG,bI,bJ] rfl (zdj bF ([(0:Int)]) ([(0:Int),(2:Int),(4:Int)]) (Reads.sup (rdo 2) (Reads.of (k:=3) rfl roLe)) (rowSl rfl (H.get (k:=2) rfl) (roLe _ (H.get (k:=3) rfl)) bH) (rdo 1) (H.os 1) (rdo 0) (H.os 0) bK _ (H.gt 4)) ?_
 rintro vq dv ⟨aq,ae,rfl,hvq,aa⟩
 subst vq;(try dsimp only at hM);replace H:=H.bk aa;clear aa;refine kg 6 ?_;replace H:=H.pk [];refine kg 2 ?_;obtain ⟨dw,bL,hM⟩:=M.e_bind hM;refine s_call cf31 [] rfl (zag bL _ (H.gt 0)) ?_
 rintro vq dy ⟨bM,bN,dz,dA,rfl,hvq,aa,bO⟩
 subst vq;(try dsimp only at hM);replace H:=H.bk aa;clear aa;refine t_bs (α:=Int) T26 [I 1] [(1:Int)] H rfl (.cons rfl (Flat.rep_enc _ (1:Int))<|.nil) rfl rfl rfl ?_;intro bP dB H;obtain ⟨dC,bQ,hM⟩:=M.e_bind hM;refine s_call cf35 [bN,bP,I 4] rfl (zcY bM ([(1:Int)]) 4 (Reads.sup (rdo 1) (Reads.of (k:=2) rfl roLe)) (rowSl rfl (H.get (k:=1) rfl) (roLe _ (H.get (k:=2) rfl)) bO) (rdo 0) (H.os 0) bQ _ (H.gt 3)) ?_
 rintro vq dD ⟨bR,ah,aF,rfl,hvq,aa⟩
 subst vq;(try dsimp only at hM);replace H:=H.bk aa;clear aa;refine kg 6 ?_;replace H:=H.pk [0];refine kg 2 ?_;obtain ⟨dE,bS,hM⟩:=M.e_bind hM;refine s_call cf31 [] rfl (zag bS _ (H.gt 1)) ?_
 rintro vq dF ⟨bT,bU,dG,dH,rfl,hvq,aa,bV⟩
 subst vq;(try dsimp only at hM);replace H:=H.bk aa;clear aa;refine t_bs (α:=Int) T26 [I 1] [(1:Int)] H rfl (.cons rfl (Flat.rep_enc _ (1:Int))<|.nil) rfl rfl rfl ?_;intro bW dJ H;obtain ⟨dK,bX,hM⟩:=M.e_bind hM;refine s_call cf36 [bU,bW,I 4] rfl (zdL bT ([(1:Int)]) 4 (Reads.sup (rdo 1) (Reads.of (k:=2) rfl roLe)) (rowSl rfl (H.get (k:=1) rfl) (roLe _ (H.get (k:=2) rfl)) bV) (rdo 0) (H.os 0) bX _ (H.gt 4)) ?_
 rintro vq dL ⟨aw,aj,aL,dM,dN,rfl,hvq,aa,bY⟩
 subst vq;(try dsimp only at hM);replace H:=H.bk aa;clear aa;refine kg 6 ?_;replace H:=H.pk [0,1,5];refine kg 2 ?_;obtain ⟨dO,bZ,hM⟩:=M.e_bind hM;refine s_call cf31 [] rfl (zag bZ _ (H.gt 3)) ?_
 rintro vq dP ⟨b7,b8,dQ,dR,rfl,hvq,aa,b9⟩
 subst vq;(try dsimp only at hM);replace H:=H.bk aa;clear aa;refine t_bs (α:=Int) T26 [I 1] [(1:Int)] H rfl (.cons rfl (Flat.rep_enc _ (1:Int))<|.nil) rfl rfl rfl ?_;intro ca dS H;obtain ⟨dT,cb,hM⟩:=M.e_bind hM;refine s_call cf35 [b8,ca,I 3] rfl (zcY b7 ([(1:Int)]) 3 (Reads.sup (rdo 1) (Reads.of (k:=2) rfl roLe)) (rowSl rfl (H.get (k:=1) rfl) (roLe _ (H.get (k:=2) rfl)) b9) (rdo 0) (H.os 0) cb _ (H.gt 6)) ?_
 rintro vq dU ⟨dV,am,dW,rfl,hvq,aa⟩
 subst vq;(try dsimp only at hM);replace H:=H.bk aa;clear aa;refine kg 6 ?_;replace H:=H.pk [4,5,6];refine kg 8 ?_;refine s_val (x_por (b:=ac != 0) (r:=ae != 0) rfl rfl (fun hb=>gd_of (c:=!(ac != 0)) (by first | exact hb | (rw [hb]; rfl) | simp_all) (B (ae != 0))))<|zM (B ((ac != 0)||(ae != 0))) rfl<|g_val (!((ac != 0)||(ae != 0))) (gy_f rfl) (fun hg=>x_mv (v:=I ah) rfl)<|g_val (!((ac != 0)||(ae != 0))) (gy_f rfl) (fun hg=>x_cmp (kd:=.i64) (r:=ah != 0) (gd_of hg (I ah)) rfl rfl)<|s_val (x_por (b:=((ac != 0)||(ae != 0))) (r:=ah != 0) rfl rfl (fun hb=>gd_of (c:=!((ac != 0)||(ae != 0))) (by first | exact hb | (rw [hb]; rfl) | simp_all) (B (ah != 0))))<|zM (B (((ac != 0)||(ae != 0))||(ah != 0))) rfl<|g_val (!(((ac != 0)||(ae != 0))||(ah != 0))) (gy_f rfl) (fun hg=>x_mv (v:=I aj) rfl)<|g_val (!(((ac != 0)||(ae != 0))||(ah != 0))) (gy_f rfl) (fun hg=>x_cmp (kd:=.i64) (r:=aj != 0) (gd_of hg (I aj)) rfl rfl)<|s_val (x_por (b:=(((ac != 0)||(ae != 0))||(ah != 0))) (r:=aj != 0) rfl rfl (fun hb=>gd_of (c:=!(((ac != 0)||(ae != 0))||(ah != 0))) (by first | exact hb | (rw [hb]; rfl) | simp_all) (B (aj != 0))))<|zM (B ((((ac != 0)||(ae != 0))||(ah != 0))||(aj != 0))) rfl ?_;refine g_val (!((((ac != 0)||(ae != 0))||(ah != 0))||(aj != 0))) (gy_f rfl) (fun hg=>x_mv (v:=I am) rfl)<|g_val (!((((ac != 0)||(ae != 0))||(ah != 0))||(aj != 0))) (gy_f rfl) (fun hg=>x_cmp (kd:=.i64) (r:=am != 5) (gd_of hg (I am)) rfl rfl)<|s_val (x_por (b:=((((ac != 0)||(ae != 0))||(ah != 0))||(aj != 0))) (r:=am != 5) rfl rfl (fun hb=>gd_of (c:=!((((ac != 0)||(ae != 0))||(ah != 0))||(aj != 0))) (by first | exact hb | (rw [hb]; rfl) | simp_all) (B (am != 5))))<|zM (B (((((ac != 0)||(ae != 0))||(ah != 0))||(aj != 0))||(am != 5))) rfl<|g_val (!(((((ac != 0)||(ae != 0))||(ah != 0))||(aj != 0))||(am != 5))) (gy_f rfl) (fun hg=>x_mv (v:=B ao) rfl)<|g_val (!(((((ac != 0)||(ae != 0))||(ah != 0))||(aj != 0))||(am != 5))) (gy_f rfl) (fun hg=>x_not (b:=ao) (gd_of hg (B ao)))<|s_val (x_por (b:=(((((ac != 0)||(ae != 0))||(ah != 0))||(aj != 0))||(am != 5))) (r:=!ao) rfl rfl (fun hb=>gd_of (c:=!(((((ac != 0)||(ae != 0))||(ah != 0))||(aj != 0))||(am != 5))) (by first | exact hb | (rw [hb]; rfl) | simp_all) (B (!ao))))<|zM (B ((((((ac != 0)||(ae != 0))||(ah != 0))||(aj != 0))||(am != 5))||(!ao))) rfl<|g_val (!((((((ac != 0)||(ae != 0))||(ah != 0))||(aj != 0))||(am != 5))||(!ao))) (gy_f rfl) (fun hg=>x_mv (v:=B aq) rfl)<|s_val (x_por (b:=((((((ac != 0)||(ae != 0))||(ah != 0))||(aj != 0))||(am != 5))||(!ao))) (r:=aq) rfl rfl (fun hb=>gd_of (c:=!((((((ac != 0)||(ae != 0))||(ah != 0))||(aj != 0))||(am != 5))||(!ao))) (by first | exact hb | (rw [hb]; rfl) | simp_all) (B aq))) ?_;refine zM (B (((((((ac != 0)||(ae != 0))||(ah != 0))||(aj != 0))||(am != 5))||(!ao))||aq)) rfl<|g_val (!(((((((ac != 0)||(ae != 0))||(ah != 0))||(aj != 0))||(am != 5))||(!ao))||aq)) (gy_f rfl) (fun hg=>x_mv (v:=aF) rfl) ?_;refine t_gbs (α:=Int) T26 (!(((((((ac != 0)||(ae != 0))||(ah != 0))||(aj != 0))||(am != 5))||(!ao))||aq)) (gy_f rfl) [I 2,I 3] [(2:Int),(3:Int)] H (fun _=>rfl) (.cons rfl (Flat.rep_enc _ (2:Int))<|.cons rfl (Flat.rep_enc _ (3:Int))<|.nil) rfl rfl rfl ?_;intro aM dX dY H cc;obtain ⟨au,cd,hM⟩:=M.e_bind hM;refine t_gcall (!(((((((ac != 0)||(ae != 0))||(ah != 0))||(aj != 0))||(am != 5))||(!ao))||aq)) (gy_f rfl) cf11 (B au) (fun _=>[aF,aM]) (fun hg=>lst2 (gd_of hg (aF)) (gd_of hg (aM))) H (fun hg=>(zau bR ([(2:Int),(3:Int)]) (rdo 3) (H.os 3) (Reads.of (k:=0) rfl roLe) (cc hg) (M.e_opt cd hg) _ (H.give (A:=[]) rfl)).mono fun v_ w_ ⟨y_,ap,av,H_⟩=>by subst ap; exact ⟨av,H.via H_⟩) ?_;intro dZ H;refine g_val (!(((((((ac != 0)||(ae != 0))||(ah != 0))||(aj != 0))||(am != 5))||(!ao))||aq)) (gy_f rfl) (fun hg=>x_not (b:=au) (gd_of hg (B au)))<|s_val (x_por (b:=(((((((ac != 0)||(ae != 0))||(ah != 0))||(aj != 0))||(am != 5))||(!ao))||aq)) (r:=!au) rfl rfl (fun hb=>gd_of (c:=!(((((((ac != 0)||(ae != 0))||(ah != 0))||(aj != 0))||(am != 5))||(!ao))||aq)) (by first | exact hb | (rw [hb]; rfl) | simp_all) (B (!au))))<|zM (B ((((((((ac != 0)||(ae != 0))||(ah != 0))||(aj != 0))||(am != 5))||(!ao))||aq)||(!au))) rfl<|g_val (!((((((((ac != 0)||(ae != 0))||(ah != 0))||(aj != 0))||(am != 5))||(!ao))||aq)||(!au))) (gy_f rfl) (fun hg=>x_mv (v:=aL) rfl)<|g_val (!((((((((ac != 0)||(ae != 0))||(ah != 0))||(aj != 0))||(am != 5))||(!ao))||aq)||(!au))) (gy_f rfl) (fun hg=>x_lenS T95.und (gd_of hg (aL)) (rowSl rfl (H.get (k:=1) rfl) (roLe _ (H.get (k:=2) rfl)) bY))<|g_val (!((((((((ac != 0)||(ae != 0))||(ah != 0))||(aj != 0))||(am != 5))||(!ao))||aq)||(!au))) (gy_f rfl) (fun hg=>x_cmp (kd:=.i64) (r:=(aw.length:Int) != 2) (gd_of hg (I (aw.length:Int))) rfl rfl)<|s_val (x_por (b:=((((((((ac != 0)||(ae != 0))||(ah != 0))||(aj != 0))||(am != 5))||(!ao))||aq)||(!au))) (r:=(aw.length:Int) != 2) rfl rfl (fun hb=>gd_of (c:=!((((((((ac != 0)||(ae != 0))||(ah != 0))||(aj != 0))||(am != 5))||(!ao))||aq)||(!au))) (by first | exact hb | (rw [hb]; rfl) | simp_all) (B ((aw.length:Int) != 2))))<|s_nil ?_;replace H:=H.pk []
 refine W.cond (((((((((ac != 0)||(ae != 0))||(ah != 0))||(aj != 0))||(am != 5))||(!ao))||aq)||(!au))||((aw.length:Int) != 2)) rfl (fun aG=>?_) (fun aG=>?_)
 ·replace hM:=M.e_t hM aG;refine kg 4 ?_;refine W.ret ?_
  have ap:=M.e_pure hM
  exact ⟨_,resE_tmp rfl,⟨false,ap,rfl,H⟩⟩
 replace hM:=M.e_f hM aG;refine kg 3 ?_;obtain ⟨d4,ce,hM⟩:=M.e_bind hM;refine s_call cf31 [] rfl (zag ce _ (H.gt 0)) ?_
 rintro vq d5 ⟨cf,cg,d6,d7,rfl,hvq,aa,ch⟩
 subst vq;(try dsimp only at hM);replace H:=H.bk aa;clear aa;refine s_val (x_bld (ps:=[(0,I 0),(1,I 3),(2,I 8)]) (zs:=[I 0,I 0,I 0]) (L':=[I 0,I 3,I 8]) rfl Try.underlying39 Al39 rfl (Bd39 Try.underlying39) (.cons (cs:=[I 0]) rfl rfl rfl rfl rfl<|.cons (cs:=[I 3]) rfl rfl rfl rfl rfl<|.cons (cs:=[I 8]) rfl rfl rfl rfl rfl<|.nil))<|s_val (x_bld (ps:=[(0,I 0),(1,I 2),(2,I 7)]) (zs:=[I 0,I 0,I 0]) (L':=[I 0,I 2,I 7]) rfl Try.underlying39 Al39 rfl (Bd39 Try.underlying39) (.cons (cs:=[I 0]) rfl rfl rfl rfl rfl<|.cons (cs:=[I 2]) rfl rfl rfl rfl rfl<|.cons (cs:=[I 7]) rfl rfl rfl rfl rfl<|.nil))<|s_val (x_bld (ps:=[(0,I 1),(2,I 9)]) (zs:=[I 0,I 0,I 0]) (L':=[I 1,I 0,I 9]) rfl Try.underlying39 Al39 rfl (Bd39 Try.underlying39) (.cons (cs:=[I 1]) rfl rfl rfl rfl rfl<|.cons (cs:=[I 9]) rfl rfl rfl rfl rfl<|.nil)) ?_;refine t_bs (α:=Note) T32 [.agg #[I 0,I 3,I 8],.agg #[I 0,I 2,I 7],.agg #[I 1,I 0,I 9]] [(⟨(0:Int),(3:Int),(8:Int)⟩:Note),(⟨(0:Int),(2:Int),(7:Int)⟩:Note),(⟨(1:Int),(0:Int),(9:Int)⟩:Note)] H rfl (.cons rfl (Flat.rep_enc _ (⟨(0:Int),(3:Int),(8:Int)⟩:Note))<|.cons rfl (Flat.rep_enc _ (⟨(0:Int),(2:Int),(7:Int)⟩:Note))<|.cons rfl (Flat.rep_enc _ (⟨(1:Int),(0:Int),(9:Int)⟩:Note))<|.nil) rfl rfl rfl ?_;intro ci d8 H;refine s_val (x_bld (ps:=[(0,I 2),(1,I 26)]) (zs:=[I 0,I 0]) (L':=[I 2,I 26]) rfl Try.underlying44 Al44 rfl (Bd44 Try.underlying44) (.cons (cs:=[I 2]) rfl rfl rfl rfl rfl<|.cons (cs:=[I 26]) rfl rfl rfl rfl rfl<|.nil))<|s_val (x_bld (ps:=[(0,I 3),(1,I 10)]) (zs:=[I 0,I 0]) (L':=[I 3,I 10]) rfl Try.underlying44 Al44 rfl (Bd44 Try.underlying44) (.cons (cs:=[I 3]) rfl rfl rfl rfl rfl<|.cons (cs:=[I 10]) rfl rfl rfl rfl rfl<|.nil)) ?_;refine t_bs (α:=Pub) T45 [.agg #[I 2,I 26],.agg #[I 3,I 10]] [(⟨(2:Int),(26:Int)⟩:Pub),(⟨(3:Int),(10:Int)⟩:Pub)] H rfl (.cons rfl (Flat.rep_enc _ (⟨(2:Int),(26:Int)⟩:Pub))<|.cons rfl (Flat.rep_enc _ (⟨(3:Int),(10:Int)⟩:Pub))<|.nil) rfl rfl rfl ?_;intro cj d9 H;obtain ⟨ea,ck,hM⟩:=M.e_bind hM;refine s_call cf10 [cg,ci,cj] rfl (zc8 cf ([(⟨(0:Int),(3:Int),(8:Int)⟩:Note),(⟨(0:Int),(2:Int),(7:Int)⟩:Note),(⟨(1:Int),(0:Int),(9:Int)⟩:Note)]) ([(⟨(2:Int),(26:Int)⟩:Pub),(⟨(3:Int),(10:Int)⟩:Pub)]) (Reads.sup (rdo 2) (Reads.of (k:=3) rfl roLe)) (rowSl rfl (H.get (k:=2) rfl) (roLe _ (H.get (k:=3) rfl)) ch) (rdo 1) (H.os 1) (rdo 0) (H.os 0) ck _ (H.gt 4)) ?_
 rintro vq eb ⟨cm,ax,aN,rfl,hvq,aa⟩
 subst vq;(try dsimp only at hM);replace H:=H.bk aa;clear aa;refine kg 6 ?_;replace H:=H.pk [0];refine kg 6 ?_;refine t_gbs (α:=Int) T26 (ax==0) (gy_t rfl) [I 0] [(0:Int)] H (fun _=>rfl) (.cons rfl (Flat.rep_enc _ (0:Int))<|.nil) rfl rfl rfl ?_;intro aO ec ee H cn;obtain ⟨ay,co,hM⟩:=M.e_bind hM;refine t_gcall (ax==0) (gy_t rfl) cf11 (B ay) (fun _=>[aN,aO]) (fun hg=>lst2 (gd_of hg (aN)) (gd_of hg (aO))) H (fun hg=>(zau cm ([(0:Int)]) (rdo 1) (H.os 1) (Reads.of (k:=0) rfl roLe) (cn hg) (M.e_opt co hg) _ (H.give (A:=[]) rfl)).mono fun v_ w_ ⟨y_,ap,av,H_⟩=>by subst ap; exact ⟨av,H.via H_⟩) ?_;intro ef H;refine s_val (x_pand (b:=ax==0) (r:=ay) rfl (fun hb=>gd_of (c:=ax==0) (by first | exact hb | (rw [hb]; rfl) | simp_all) (B ay)) rfl) ?_;refine kg 2 ?_;replace H:=H.pk [];refine W.ret ?_
 have ap:=M.e_pure hM
 exact ⟨_,resE_tmp rfl,⟨((ax==0)&&ay),ap,rfl,H⟩⟩

end Go.Proofs.Ytigidakpcepdkaa
end
section
set_option maxRecDepth 100000
set_option maxHeartbeats 16000000
namespace Go.Proofs.Ytigidakpcepdkaa
open Go Go.Nm
attribute [local irreducible] gd execOp SL SLD SLT WR
def zbG (bytes:List UInt8):M (Int × Int) :=
  M.pure (0,0)
theorem zdc {R:List Chunk} {ab:Cells} {aa:Value} (bytes:List UInt8) (ai:Reads R ab) (ae:Sl ab aa bytes) {r:(Int × Int)} (hM:(zbG bytes).Ends r) (w:World) (H:St w w [] R):Ret Try.prog 5 #[aa] w fun v w'=>∃ (y0:Int) (y1:Int) (ac:Nat),(y0,y1)=r/\v=Pq ac/\St w w' [cBlk ac [aa,I y0,I y1] 61] R:=by
 refine ret_of_W Try.func5 rfl rfl rfl ?_;refine kg 7 ?_;refine s_val (x_bld (ps:=[(0,aa)]) (zs:=[.slice none 0 0,I 0,I 0]) (L':=[aa,I 0,I 0]) rfl Try.underlying61 Al61 rfl (Bd61 Try.underlying61) (.cons (cs:=[aa]) (Sl.cells ae) rfl rfl rfl rfl<|.nil)) ?_;refine t_bx [aa,I 0,I 0] H rfl ?_;intro ag aj H;refine kg 2 ?_;refine W.ret ?_
 have ah:=M.e_pure hM
 exact ⟨_,resE_tmp rfl,⟨0,0,ag,ah,rfl,H⟩⟩

end Go.Proofs.Ytigidakpcepdkaa
end
