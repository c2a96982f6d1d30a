/- Part 3 of the texts on which the proof rests. Conditions: none. -/
import Derived.Test.YtfdgkdkfbaghpaaGreatZA2
set_option linter.unusedVariables false
set_option linter.unusedSimpArgs false
set_option linter.unusedSectionVars false
section
set_option maxRecDepth 100000
set_option maxHeartbeats 16000000
namespace Go.Proofs.YtfdgkdkfbaghpaaGreat
open Go Go.Nm
attribute [local irreducible] gd execOp SL SLD SLT WR
def zaa (n a b:Int):M Bool :=
  M.pure ((decide (n<a))||(decide (b<n)))
theorem zam {R:List Chunk}  (n:Int) (a:Int) (b:Int)  {r:Bool} (hM:(zaa n a b).Ends r) (w:World) (H:St w w [] R):Ret Tryz.prog 46 #[I n,I a,I b] w fun v w'=>∃ (y0:Bool),y0=r/\v=B y0/\St w w' [] R:=by
 refine ret_of_W Tryz.func46 rfl rfl rfl ?_;refine kg 16 ?_;refine W.ret ?_
 have aa:=M.e_pure hM
 exact ⟨_,resE_tmp rfl,⟨((decide (n<a))||(decide (b<n))),aa,rfl,H⟩⟩

def zbr (n_Marks:Int) (n_Lines:List Line):Nat->M (Nat ⊕ (Unit ⊕ Unit)):=fun i =>
  bif decide ((i:Int)<(n_Lines.length:Int)) then (
  M.grd (decide ((i:Int)<(n_Lines.length:Int))) <|
  M.grd (decide ((-9223372036854775808:Int)<=(n_Marks-1))&&decide ((n_Marks-1)<=(9223372036854775807:Int))) <|
  M.bind (zaa ((n_Lines.getD i default).src) 0 (n_Marks-1)) fun r2 =>
  M.bind (M.opt (!r2) (zaa ((n_Lines.getD i default).dst) 0 (n_Marks-1)) false) fun r3 =>
  M.bind (M.opt (!((r2||r3)||(((n_Lines.getD i default).src)==((n_Lines.getD i default).dst)))) (zaa ((n_Lines.getD i default).day) 0 40000) false) fun r4 =>
  M.bind (M.opt (!(((r2||r3)||(((n_Lines.getD i default).src)==((n_Lines.getD i default).dst)))||r4)) (zaa ((n_Lines.getD i default).rise) (-1000000) 1000000) false) fun r5 =>
  M.bind (M.opt (!((((r2||r3)||(((n_Lines.getD i default).src)==((n_Lines.getD i default).dst)))||r4)||r5)) (zaa ((n_Lines.getD i default).err) 0 10000) false) fun r6 =>
  bif (((((r2||r3)||(((n_Lines.getD i default).src)==((n_Lines.getD i default).dst)))||r4)||r5)||r6) then (
  M.pure (.inr (.inl ())))
  else (
  M.pure (.inl (i+1))))
  else (
  M.pure (.inr (.inr ())))
def zan (n_Marks:Int) (n_Lines:List Line):M Int :=
  bif (((decide (n_Marks<1))||(decide (12<n_Marks)))||(decide (30<(n_Lines.length:Int)))) then (
  M.pure 3)
  else (
  M.bind (M.iter (zbr n_Marks n_Lines) 0) fun x_=>match x_ with
  | (.inl (_:Unit))=>(
  M.pure 20)
  | (.inr (_:Unit))=>(
  M.pure 0))
theorem zaJ {R:List Chunk} {al:Cells} {ae:Value} (n_Marks:Int) (n_Lines:List Line) (aE:Reads R al) (am:Sl al ae n_Lines) {r:Int} (hM:(zan n_Marks n_Lines).Ends r) (w:World) (H:St w w [] R):Ret Tryz.prog 14 #[.agg #[I n_Marks,ae]] w fun v w'=>∃ (y0:Int),y0=r/\v=I y0/\St w w' [] R:=by
 refine ret_of_W Tryz.func14 rfl rfl rfl ?_;refine kg 2 ?_;refine t_bx [I n_Marks,ae] H rfl ?_;intro ao aF H
 have aG:=(am).len_le
 refine kg 20 ?_
 refine W.cond (((decide (n_Marks<1))||(decide (12<n_Marks)))||(decide (30<(n_Lines.length:Int)))) rfl (fun ag=>?_) (fun ag=>?_)
 ·replace hM:=M.e_t hM ag;refine kg 4 ?_;refine W.ret ?_
  have aa:=M.e_pure hM
  exact ⟨_,resE_tmp rfl,⟨3,aa,rfl,(H.pk [])⟩⟩
 replace hM:=M.e_f hM ag;refine kg 7 ?_;obtain ⟨au,ah,ap⟩:=M.e_bind hM
 obtain ⟨aH,ah⟩:=M.e_iter ah
 refine W.loop (fun m σ W=>∃ (i:Nat) (ρ:Env),σ=upds ρ [(1,Pq ao),(3,I (i:Int))]/\M.iterN (zbr n_Marks n_Lines) m i=some au/\St w W [cBlk ao [I n_Marks,ae] 53] R) ?_ ?_
 ·exact ⟨_,0,_,upds_of _ _ ⟨rfl,rfl,trivial⟩,ah,H⟩
 rintro aI σ aJ ⟨i,ρ,rfl,aq,H⟩
 obtain ⟨av,aw,aK,hM,ai⟩:=M.e_iterN aq
 simp only [zbr] at hM
 clear aq
 have aL:=(am).len_le
 refine kg 9 ?_
 refine W.cond (decide ((i:Int)<(n_Lines.length:Int))) rfl (fun ab=>?_) (fun ab=>?_)
 ·replace hM:=M.e_t hM ab
  replace ab:=dI ab
  obtain ⟨aM,hM⟩:=M.e_gd hM;refine kg 10 ?_;refine t_alloc (cs:=[I 0,I 0,I 0,I 0,I 0]) H Al106 rfl ?_;intro aN aO H;refine t_sw 0 0 [I ((n_Lines.getD i default).src),I ((n_Lines.getD i default).dst),I ((n_Lines.getD i default).day),I ((n_Lines.getD i default).rise),I ((n_Lines.getD i default).err)] (.agg #[I ((n_Lines.getD i default).src),I ((n_Lines.getD i default).dst),I ((n_Lines.getD i default).day),I ((n_Lines.getD i default).rise),I ((n_Lines.getD i default).err)]) H rfl rfl Sz106 rfl rfl rfl rfl ?_;intro aP H;obtain ⟨aQ,hM⟩:=M.e_gd hM;refine kg 8 ?_;obtain ⟨aR,ax,hM⟩:=M.e_bind hM;refine s_call cf46 [I ((n_Lines.getD i default).src),I 0,I (n_Marks-1)] rfl (zam ((n_Lines.getD i default).src) 0 (n_Marks-1) ax _ (H.gt 2)) ?_
  rintro vq aS ⟨r2,rfl,hvq,ar⟩
  subst vq;(try dsimp only at hM);replace H:=H.bk ar;clear ar;refine kg 6 ?_;obtain ⟨r3,ay,hM⟩:=M.e_bind hM;refine t_gcall (!r2) (gy_f rfl) cf46 (B r3) (fun _=>[I ((n_Lines.getD i default).dst),I 0,I (n_Marks-1)]) (fun hg=>lst3 (gd_of hg (I ((n_Lines.getD i default).dst))) rfl (gd_of hg (I (n_Marks-1)))) H (fun hg=>(zam ((n_Lines.getD i default).dst) 0 (n_Marks-1) (M.e_opt ay hg) _ (H.give (A:=[]) rfl)).mono fun v_ w_ ⟨y_,aa,ac,H_⟩=>by subst aa; exact ⟨ac,H.via H_⟩) ?_;intro aT H;refine kg 11 ?_;obtain ⟨r4,az,hM⟩:=M.e_bind hM;refine t_gcall (!((r2||r3)||(((n_Lines.getD i default).src)==((n_Lines.getD i default).dst)))) (gy_f rfl) cf46 (B r4) (fun _=>[I ((n_Lines.getD i default).day),I 0,I 40000]) (fun hg=>lst3 (gd_of hg (I ((n_Lines.getD i default).day))) rfl rfl) H (fun hg=>(zam ((n_Lines.getD i default).day) 0 40000 (M.e_opt az hg) _ (H.give (A:=[]) rfl)).mono fun v_ w_ ⟨y_,aa,ac,H_⟩=>by subst aa; exact ⟨ac,H.via H_⟩) ?_;intro aU H;refine kg 4 ?_;obtain ⟨r5,aA,hM⟩:=M.e_bind hM;refine t_gcall (!(((r2||r3)||(((n_Lines.getD i default).src)==((n_Lines.getD i default).dst)))||r4)) (gy_f rfl) cf46 (B r5) (fun _=>[I ((n_Lines.getD i default).rise),I (-1000000),I 1000000]) (fun hg=>lst3 (gd_of hg (I ((n_Lines.getD i default).rise))) rfl rfl) H (fun hg=>(zam ((n_Lines.getD i default).rise) (-1000000) 1000000 (M.e_opt aA hg) _ (H.give (A:=[]) rfl)).mono fun v_ w_ ⟨y_,aa,ac,H_⟩=>by subst aa; exact ⟨ac,H.via H_⟩) ?_;intro aV H;refine kg 4 ?_;obtain ⟨r6,aB,hM⟩:=M.e_bind hM;refine t_gcall (!((((r2||r3)||(((n_Lines.getD i default).src)==((n_Lines.getD i default).dst)))||r4)||r5)) (gy_f rfl) cf46 (B r6) (fun _=>[I ((n_Lines.getD i default).err),I 0,I 10000]) (fun hg=>lst3 (gd_of hg (I ((n_Lines.getD i default).err))) rfl rfl) H (fun hg=>(zam ((n_Lines.getD i default).err) 0 10000 (M.e_opt aB hg) _ (H.give (A:=[]) rfl)).mono fun v_ w_ ⟨y_,aa,ac,H_⟩=>by subst aa; exact ⟨ac,H.via H_⟩) ?_;intro aW H;refine kg 2 ?_
  refine W.cond (((((r2||r3)||(((n_Lines.getD i default).src)==((n_Lines.getD i default).dst)))||r4)||r5)||r6) rfl (fun aj=>?_) (fun aj=>?_)
  ·replace hM:=M.e_t hM aj;refine kg 4 ?_;refine W.ret ?_
   have aC:=M.e_inr hM ai
   subst aC;replace hM:=ap;(try dsimp only at hM)
   have aa:=M.e_pure hM
   exact ⟨_,resE_tmp rfl,⟨20,aa,rfl,(H.pk [])⟩⟩
  replace hM:=M.e_f hM aj;refine kg 6 ?_
  exact ⟨av,aw,i+1,_,upds_of _ _ ⟨rfl,rfl,trivial⟩,M.e_inl hM ai,(H.pk [1])⟩
 replace hM:=M.e_f hM ab
 replace ab:=dI ab
 refine W.exit ?_
 have aD:=M.e_inr hM ai
 subst aD;replace hM:=ap;(try dsimp only at hM);refine kg 4 ?_;refine W.ret ?_
 have aa:=M.e_pure hM
 exact ⟨_,resE_tmp rfl,⟨0,aa,rfl,(H.pk [])⟩⟩

def zbQ (n_Lines:List Line) (a b:Nat):(Int × Nat)->M ((Int × Nat) ⊕ Int):=fun (most,i) =>
  bif decide ((i:Int)<(n_Lines.length:Int)) then (
  M.grd (decide ((i:Int)<(n_Lines.length:Int))) <|
  bif ((((n_Lines.getD i default).src)==(a:Int))&&(((n_Lines.getD i default).dst)==(b:Int))) then (
  M.grd (decide ((-9223372036854775808:Int)<=(((n_Lines.getD i default).rise)+((n_Lines.getD i default).err)))&&decide ((((n_Lines.getD i default).rise)+((n_Lines.getD i default).err))<=(9223372036854775807:Int))) <|
  bif ((((n_Lines.getD i default).src)==(b:Int))&&(((n_Lines.getD i default).dst)==(a:Int))) then (
  M.grd (decide ((-9223372036854775808:Int)<=(((n_Lines.getD i default).err)-((n_Lines.getD i default).rise)))&&decide ((((n_Lines.getD i default).err)-((n_Lines.getD i default).rise))<=(9223372036854775807:Int))) <|
  M.pure (.inl (min (min most (((n_Lines.getD i default).rise)+((n_Lines.getD i default).err))) (((n_Lines.getD i default).err)-((n_Lines.getD i default).rise)),i+1)))
  else (
  M.pure (.inl (min most (((n_Lines.getD i default).rise)+((n_Lines.getD i default).err)),i+1))))
  else (
  bif ((((n_Lines.getD i default).src)==(b:Int))&&(((n_Lines.getD i default).dst)==(a:Int))) then (
  M.grd (decide ((-9223372036854775808:Int)<=(((n_Lines.getD i default).err)-((n_Lines.getD i default).rise)))&&decide ((((n_Lines.getD i default).err)-((n_Lines.getD i default).rise))<=(9223372036854775807:Int))) <|
  M.pure (.inl (min most (((n_Lines.getD i default).err)-((n_Lines.getD i default).rise)),i+1)))
  else (
  M.pure (.inl (most,i+1)))))
  else (
  M.pure (.inr most))
def zaB (n_Lines:List Line) (a b:Nat):(Int × Nat)->M ((Int × Nat) ⊕ Int):=fun (most,i) =>
  bif decide ((i:Int)<(n_Lines.length:Int)) then (
  M.grd (decide ((i:Int)<(n_Lines.length:Int))) <|
  bif ((((n_Lines.getD i default).src)==(a:Int))&&(((n_Lines.getD i default).dst)==(b:Int))) then (
  M.grd (decide ((-9223372036854775808:Int)<=(((n_Lines.getD i default).rise)+((n_Lines.getD i default).err)))&&decide ((((n_Lines.getD i default).rise)+((n_Lines.getD i default).err))<=(9223372036854775807:Int))) <|
  bif ((((n_Lines.getD i default).src)==(b:Int))&&(((n_Lines.getD i default).dst)==(a:Int))) then (
  M.grd (decide ((-9223372036854775808:Int)<=(((n_Lines.getD i default).err)-((n_Lines.getD i default).rise)))&&decide ((((n_Lines.getD i default).err)-((n_Lines.getD i default).rise))<=(9223372036854775807:Int))) <|
  M.pure (.inl (min (min most (((n_Lines.getD i default).rise)+((n_Lines.getD i default).err))) (((n_Lines.getD i default).err)-((n_Lines.getD i default).rise)),i+1)))
  else (
  M.pure (.inl (min most (((n_Lines.getD i default).rise)+((n_Lines.getD i default).err)),i+1))))
  else (
  bif ((((n_Lines.getD i default).src)==(b:Int))&&(((n_Lines.getD i default).dst)==(a:Int))) then (
  M.grd (decide ((-9223372036854775808:Int)<=(((n_Lines.getD i default).err)-((n_Lines.getD i default).rise)))&&decide ((((n_Lines.getD i default).err)-((n_Lines.getD i default).rise))<=(9223372036854775807:Int))) <|
  M.pure (.inl (min most (((n_Lines.getD i default).err)-((n_Lines.getD i default).rise)),i+1)))
  else (
  M.pure (.inl (most,i+1)))))
  else (
  M.pure (.inr most))
def zbq (n_Marks:Int) (n_Lines:List Line) (a:Nat):(Nat × (List Int))->M ((Nat × (List Int)) ⊕ ((List Int) × (List Int))):=fun (b,l) =>
  bif decide ((b:Int)<n_Marks) then (
  bif (a:Int)==(b:Int) then (
  M.bind (M.iter (zbQ n_Lines a b) (0,0)) fun most2 =>
  M.grd (decide ((l.length+([(most2:Int)]).length)*8<=140737488355328)) <|
  M.grd (decide ((-9223372036854775808:Int)<=((b:Int)+1))&&decide (((b:Int)+1)<=(9223372036854775807:Int))) <|
  M.pure (.inl (b+1,l++([(most2:Int)]))))
  else (
  M.bind (M.iter (zaB n_Lines a b) (1000000000000,0)) fun most2 =>
  M.grd (decide ((l.length+([(most2:Int)]).length)*8<=140737488355328)) <|
  M.grd (decide ((-9223372036854775808:Int)<=((b:Int)+1))&&decide (((b:Int)+1)<=(9223372036854775807:Int))) <|
  M.pure (.inl (b+1,l++([(most2:Int)])))))
  else (
  M.pure (.inr (l,l)))
def zbf (n_Marks:Int) (n_Lines:List Line):(Nat × (List (List Int)))->M ((Nat × (List (List Int))) ⊕ ((List (List Int)) × (List (List Int)))):=fun (a,l4) =>
  bif decide ((a:Int)<n_Marks) then (
  M.bind (M.iter (zbq n_Marks n_Lines a) (0,[])) fun (l2,l3) =>
  M.grd (decide ((l4.length+1)*24<=140737488355328)) <|
  M.grd (decide ((-9223372036854775808:Int)<=((a:Int)+1))&&decide (((a:Int)+1)<=(9223372036854775807:Int))) <|
  M.pure (.inl (a+1,l4++[l3])))
  else (
  M.pure (.inr (l4,l4)))
def zb8 (n_Marks:Int) (k a2:Nat):((List (List Int)) × Nat)->M (((List (List Int)) × Nat) ⊕ ((List (List Int)) × (List (List Int)))):=fun (l7,b2) =>
  bif decide ((b2:Int)<n_Marks) then (
  M.grd (decide ((a2:Int)<(l7.length:Int))) <|
  M.grd (decide ((k:Int)<((l7.getD a2 ([])).length:Int))) <|
  M.grd ((!(decide (((l7.getD a2 ([])).getD k 0)<1000000000000))||(decide ((k:Int)<(l7.length:Int))))) <|
  M.grd ((!(decide (((l7.getD a2 ([])).getD k 0)<1000000000000))||(decide ((b2:Int)<((l7.getD k ([])).length:Int))))) <|
  bif ((decide (((l7.getD a2 ([])).getD k 0)<1000000000000))&&(decide (((l7.getD k ([])).getD b2 0)<1000000000000))) then (
  M.grd (decide ((b2:Int)<((l7.getD a2 ([])).length:Int))) <|
  M.grd (decide ((k:Int)<(l7.length:Int))) <|
  M.grd (decide ((b2:Int)<((l7.getD k ([])).length:Int))) <|
  M.grd (decide ((-9223372036854775808:Int)<=(((l7.getD a2 ([])).getD k 0)+((l7.getD k ([])).getD b2 0)))&&decide ((((l7.getD a2 ([])).getD k 0)+((l7.getD k ([])).getD b2 0))<=(9223372036854775807:Int))) <|
  M.grd (decide ((-9223372036854775808:Int)<=((b2:Int)+1))&&decide (((b2:Int)+1)<=(9223372036854775807:Int))) <|
  M.pure (.inl (l7.set a2 ((l7.getD a2 ([])).set b2 (max (-1000000000000) (min ((l7.getD a2 ([])).getD b2 0) (((l7.getD a2 ([])).getD k 0)+((l7.getD k ([])).getD b2 0))):Int)),b2+1)))
  else (
  M.grd (decide ((-9223372036854775808:Int)<=((b2:Int)+1))&&decide (((b2:Int)+1)<=(9223372036854775807:Int))) <|
  M.pure (.inl (l7,b2+1))))
  else (
  M.pure (.inr (l7,l7)))
def zcm (n_Marks:Int) (k:Nat):((List (List Int)) × Nat)->M (((List (List Int)) × Nat) ⊕ ((List (List Int)) × (List (List Int)))):=fun (aa,a2) =>
  bif decide ((a2:Int)<n_Marks) then (
  M.bind (M.iter (zb8 n_Marks k a2) (aa,0)) fun (l8,l9) =>
  M.grd (decide ((-9223372036854775808:Int)<=((a2:Int)+1))&&decide (((a2:Int)+1)<=(9223372036854775807:Int))) <|
  M.pure (.inl (l9,a2+1)))
  else (
  M.pure (.inr (aa,aa)))
def zbH (n_Marks:Int):((List (List Int)) × Nat)->M (((List (List Int)) × Nat) ⊕ ((List (List Int)) × (List (List Int)))):=fun (aa,k) =>
  bif decide ((k:Int)<n_Marks) then (
  M.bind (M.iter (zcm n_Marks k) (aa,0)) fun (ac,ab) =>
  M.grd (decide ((-9223372036854775808:Int)<=((k:Int)+1))&&decide (((k:Int)+1)<=(9223372036854775807:Int))) <|
  M.pure (.inl (ab,k+1)))
  else (
  M.pure (.inr (aa,aa)))
def zbM (n_Marks:Int) (n_Lines:List Line):M (List (List Int)) :=
  M.bind (M.iter (zbf n_Marks n_Lines) (0,[])) fun (l5,l6) =>
  M.bind (M.iter (zbH n_Marks) (l6,0)) fun (ab,aa) =>
  M.pure aa
theorem zdl {R:List Chunk} {a8:Cells} {aj:Value} (n_Marks:Int) (n_Lines:List Line) (cm:Reads R a8) (ba:Sl a8 aj n_Lines) {r:(List (List Int))} (hM:(zbM n_Marks n_Lines).Ends r) (w:World) (H:St w w [] R):Ret Tryz.prog 57 #[.agg #[I n_Marks,aj]] w fun v w'=>∃ (y0:List (List Int)) (u0:Value) (bb:Base),y0=r/\v=u0/\St w w' [cRo bb] R/\Sl bb.cells u0 y0:=by
 refine ret_of_W Tryz.func57 rfl rfl rfl ?_;refine kg 2 ?_;refine t_bx [I n_Marks,aj] H rfl ?_;intro ah bA H;refine kg 12 ?_
 replace H:St w bA [cMat (α:=Int) 22 3 (.slice none 0 0) ([]) ([]),cBlk ah [I n_Marks,aj] 53] R:=H.nilMat (α:=Int) 22 3
 have bB:([]:List SV).length=([]:List (List Int)).length:=rfl
 obtain ⟨bC,aL,bD⟩:=M.e_bind hM
 obtain ⟨az,aL⟩:=M.e_iter aL
 refine W.loop (fun m σ W=>∃ (a:Nat) (l4:List (List Int)) (am:Value) (us_l4:List SV) (ρ:Env),σ=upds ρ [(1,Pq ah),(3,am),(4,I (a:Int))]/\M.iterN (zbf n_Marks n_Lines) m (a,l4)=some bC/\St w W [cMat (α:=Int) 22 3 am us_l4 l4,cBlk ah [I n_Marks,aj] 53] R/\us_l4.length=l4.length) ?_ ?_
 ·exact ⟨_,0,[],(.slice none 0 0),[],_,upds_of _ _ ⟨rfl,rfl,rfl,trivial⟩,aL,H,bB⟩
 rintro cn σ co ⟨a,l4,am,us_l4,ρ,rfl,bc,H,hus_l4⟩
 obtain ⟨bE,bF,cp,hM,bg⟩:=M.e_iterN bc
 simp only [zbf] at hM
 clear bc;refine kg 8 ?_
 refine W.cond (decide ((a:Int)<n_Marks)) rfl (fun ap=>?_) (fun ap=>?_)
 ·replace hM:=M.e_t hM ap
  replace ap:=dI ap
  refine kg 13 ?_
  replace H:=H.nilOwn (α:=Int) 3
  obtain ⟨bG,aM,bH⟩:=M.e_bind hM
  obtain ⟨az,aM⟩:=M.e_iter aM
  refine W.loop (fun m σ W=>∃ (b:Nat) (l:List Int) (al:Value) (ρ:Env),σ=upds ρ [(1,Pq ah),(3,am),(4,I (a:Int)),(5,al),(6,I (b:Int))]/\M.iterN (zbq n_Marks n_Lines a) m (b,l)=some bG/\St w W [cOwn (α:=Int) 3 al l,cMat (α:=Int) 22 3 am us_l4 l4,cBlk ah [I n_Marks,aj] 53] R) ?_ ?_
  ·exact ⟨_,0,[],(.slice none 0 0),_,upds_of _ _ ⟨rfl,rfl,rfl,rfl,rfl,trivial⟩,aM,H⟩
  rintro cq σ cr ⟨b,l,al,ρ,rfl,bh,H⟩
  obtain ⟨bi,bj,ct,hM,aN⟩:=M.e_iterN bh
  simp only [zbq] at hM
  clear bh;refine kg 8 ?_
  refine W.cond (decide ((b:Int)<n_Marks)) rfl (fun aq=>?_) (fun aq=>?_)
  ·replace hM:=M.e_t hM aq
   replace aq:=dI aq
   refine kg 14 ?_
   refine W.cond ((a:Int)==(b:Int)) rfl (fun ar=>?_) (fun ar=>?_)
   ·replace hM:=M.e_t hM ar
    replace ar:=dI ar
    refine kg 9 ?_;obtain ⟨bI,aO,bJ⟩:=M.e_bind hM
    obtain ⟨az,aO⟩:=M.e_iter aO
    refine W.loop (fun m σ W=>∃ (most:Int) (i:Nat) (ρ:Env),σ=upds ρ [(1,Pq ah),(3,am),(4,I (a:Int)),(5,al),(6,I (b:Int)),(7,I most),(8,I (i:Int))]/\M.iterN (zbQ n_Lines a b) m (most,i)=some bI/\St w W [cOwn (α:=Int) 3 al l,cMat (α:=Int) 22 3 am us_l4 l4,cBlk ah [I n_Marks,aj] 53] R) ?_ ?_
    ·exact ⟨_,0,0,_,upds_of _ _ ⟨rfl,rfl,rfl,rfl,rfl,rfl,rfl,trivial⟩,aO,H⟩
    rintro cu σ cv ⟨most,i,ρ,rfl,bn,H⟩
    obtain ⟨aH,aI,cw,hM,aC⟩:=M.e_iterN bn
    simp only [zbQ] at hM
    clear bn
    have cx:=(ba).len_le
    refine kg 9 ?_
    refine W.cond (decide ((i:Int)<(n_Lines.length:Int))) rfl (fun au=>?_) (fun au=>?_)
    ·replace hM:=M.e_t hM au
     replace au:=dI au
     obtain ⟨cy,hM⟩:=M.e_gd hM;refine kg 10 ?_;refine t_alloc (cs:=[I 0,I 0,I 0,I 0,I 0]) H Al106 rfl ?_;intro bK cz H;refine t_sw 0 0 [I ((n_Lines.getD i default).src),I ((n_Lines.getD i default).dst),I ((n_Lines.getD i default).day),I ((n_Lines.getD i default).rise),I ((n_Lines.getD i default).err)] (.agg #[I ((n_Lines.getD i default).src),I ((n_Lines.getD i default).dst),I ((n_Lines.getD i default).day),I ((n_Lines.getD i default).rise),I ((n_Lines.getD i default).err)]) H rfl rfl Sz106 rfl rfl rfl rfl ?_;intro cA H;refine kg 15 ?_
     refine W.cond ((((n_Lines.getD i default).src)==(a:Int))&&(((n_Lines.getD i default).dst)==(b:Int))) rfl (fun aP=>?_) (fun aP=>?_)
     ·replace hM:=M.e_t hM aP;obtain ⟨cB,hM⟩:=M.e_gd hM;refine kg 23 ?_
      refine W.cond ((((n_Lines.getD i default).src)==(b:Int))&&(((n_Lines.getD i default).dst)==(a:Int))) rfl (fun aQ=>?_) (fun aQ=>?_)
      ·replace hM:=M.e_t hM aQ;obtain ⟨cC,hM⟩:=M.e_gd hM;refine kg 15 ?_
       exact ⟨aH,aI,min (min most (((n_Lines.getD i default).rise)+((n_Lines.getD i default).err))) (((n_Lines.getD i default).err)-((n_Lines.getD i default).rise)),i+1,_,upds_of _ _ ⟨rfl,rfl,rfl,rfl,rfl,rfl,rfl,trivial⟩,M.e_inl hM aC,(H.pk [1,2,3])⟩
      replace hM:=M.e_f hM aQ;refine kg 6 ?_
      exact ⟨aH,aI,min most (((n_Lines.getD i default).rise)+((n_Lines.getD i default).err)),i+1,_,upds_of _ _ ⟨rfl,rfl,rfl,rfl,rfl,rfl,rfl,trivial⟩,M.e_inl hM aC,(H.pk [1,2,3])⟩
     replace hM:=M.e_f hM aP;refine kg 14 ?_
     refine W.cond ((((n_Lines.getD i default).src)==(b:Int))&&(((n_Lines.getD i default).dst)==(a:Int))) rfl (fun aR=>?_) (fun aR=>?_)
     ·replace hM:=M.e_t hM aR;obtain ⟨cD,hM⟩:=M.e_gd hM;refine kg 15 ?_
      exact ⟨aH,aI,min most (((n_Lines.getD i default).err)-((n_Lines.getD i default).rise)),i+1,_,upds_of _ _ ⟨rfl,rfl,rfl,rfl,rfl,rfl,rfl,trivial⟩,M.e_inl hM aC,(H.pk [1,2,3])⟩
     replace hM:=M.e_f hM aR;refine kg 6 ?_
     exact ⟨aH,aI,most,i+1,_,upds_of _ _ ⟨rfl,rfl,rfl,rfl,rfl,rfl,rfl,trivial⟩,M.e_inl hM aC,(H.pk [1,2,3])⟩
    replace hM:=M.e_f hM au
    replace au:=dI au
    refine W.exit ?_
    have bL:=M.e_inr hM aC
    subst bL;replace hM:=bJ;(try dsimp only at hM);refine kg 3 ?_;refine t_bs (α:=Int) T22 [I most] [(most:Int)] H rfl (.cons rfl (Flat.rep_enc _ (most:Int))<|.nil) rfl rfl rfl ?_;intro bM cE H;obtain ⟨cF,hM⟩:=M.e_gd hM;refine t_app (α:=Int) (k:=1) (l:=l) (l2:=[(most:Int)]) (l':=l++([(most:Int)])) (vy:=bM) T22 rfl H rfl rfl rfl (H.os 0) (H.ol 0) (rfl) (by first | omega | (simp only [List.length_nil] at *; omega)) ?_;intro bN cG H;replace H:=H.nf;obtain ⟨cH,hM⟩:=M.e_gd hM;refine kg 7 ?_
    exact ⟨bi,bj,b+1,l++([(most:Int)]),bN,_,upds_of _ _ ⟨rfl,rfl,rfl,rfl,rfl,trivial⟩,M.e_inl hM aN,(H.pk [1,2,3])⟩
   replace hM:=M.e_f hM ar
   replace ar:=dI ar
   refine kg 7 ?_;obtain ⟨bO,aS,bP⟩:=M.e_bind hM
   obtain ⟨az,aS⟩:=M.e_iter aS
   refine W.loop (fun m σ W=>∃ (most:Int) (i:Nat) (ρ:Env),σ=upds ρ [(1,Pq ah),(3,am),(4,I (a:Int)),(5,al),(6,I (b:Int)),(7,I most),(8,I (i:Int))]/\M.iterN (zaB n_Lines a b) m (most,i)=some bO/\St w W [cOwn (α:=Int) 3 al l,cMat (α:=Int) 22 3 am us_l4 l4,cBlk ah [I n_Marks,aj] 53] R) ?_ ?_
   ·exact ⟨_,1000000000000,0,_,upds_of _ _ ⟨rfl,rfl,rfl,rfl,rfl,rfl,rfl,trivial⟩,aS,H⟩
   rintro cI σ cJ ⟨most,i,ρ,rfl,bp,H⟩
   obtain ⟨aJ,aK,cK,hM,aD⟩:=M.e_iterN bp
   simp only [zaB] at hM
   clear bp
   have cL:=(ba).len_le
   refine kg 9 ?_
   refine W.cond (decide ((i:Int)<(n_Lines.length:Int))) rfl (fun av=>?_) (fun av=>?_)
   ·replace hM:=M.e_t hM av
    replace av:=dI av
    obtain ⟨cM,hM⟩:=M.e_gd hM;refine kg 10 ?_;refine t_alloc (cs:=[I 0,I 0,I 0,I 0,I 0]) H Al106 rfl ?_;intro bK cN H;refine t_sw 0 0 [I ((n_Lines.getD i default).src),I ((n_Lines.getD i default).dst),I ((n_Lines.getD i default).day),I ((n_Lines.getD i default).rise),I ((n_Lines.getD i default).err)] (.agg #[I ((n_Lines.getD i default).src),I ((n_Lines.getD i default).dst),I ((n_Lines.getD i default).day),I ((n_Lines.getD i default).rise),I ((n_Lines.getD i default).err)]) H rfl rfl Sz106 rfl rfl rfl rfl ?_;intro cO H;refine kg 15 ?_
    refine W.cond ((((n_Lines.getD i default).src)==(a:Int))&&(((n_Lines.getD i default).dst)==(b:Int))) rfl (fun aT=>?_) (fun aT=>?_)
    ·replace hM:=M.e_t hM aT;obtain ⟨cP,hM⟩:=M.e_gd hM;refine kg 23 ?_
     refine W.cond ((((n_Lines.getD i default).src)==(b:Int))&&(((n_Lines.getD i default).dst)==(a:Int))) rfl (fun aU=>?_) (fun aU=>?_)
     ·replace hM:=M.e_t hM aU;obtain ⟨cQ,hM⟩:=M.e_gd hM;refine kg 15 ?_
      exact ⟨aJ,aK,min (min most (((n_Lines.getD i default).rise)+((n_Lines.getD i default).err))) (((n_Lines.getD i default).err)-((n_Lines.getD i default).rise)),i+1,_,upds_of _ _ ⟨rfl,rfl,rfl,rfl,rfl,rfl,rfl,trivial⟩,M.e_inl hM aD,(H.pk [1,2,3])⟩
     replace hM:=M.e_f hM aU;refine kg 6 ?_
     exact ⟨aJ,aK,min most (((n_Lines.getD i default).rise)+((n_Lines.getD i default).err)),i+1,_,upds_of _ _ ⟨rfl,rfl,rfl,rfl,rfl,rfl,rfl,trivial⟩,M.e_inl hM aD,(H.pk [1,2,3])⟩
    replace hM:=M.e_f hM aT;refine kg 14 ?_
    refine W.cond ((((n_Lines.getD i default).src)==(b:Int))&&(((n_Lines.getD i default).dst)==(a:Int))) rfl (fun aV=>?_) (fun aV=>?_)
    ·replace hM:=M.e_t hM aV;obtain ⟨cR,hM⟩:=M.e_gd hM;refine kg 15 ?_
     exact ⟨aJ,aK,min most (((n_Lines.getD i default).err)-((n_Lines.getD i default).rise)),i+1,_,upds_of _ _ ⟨rfl,rfl,rfl,rfl,rfl,rfl,rfl,trivial⟩,M.e_inl hM aD,(H.pk [1,2,3])⟩
    replace hM:=M.e_f hM aV;refine kg 6 ?_
    exact ⟨aJ,aK,most,i+1,_,upds_of _ _ ⟨rfl,rfl,rfl,rfl,rfl,rfl,rfl,trivial⟩,M.e_inl hM aD,(H.pk [1,2,3])⟩
   replace hM:=M.e_f hM av
   replace av:=dI av
   refine W.exit ?_
   have bQ:=M.e_inr hM aD
   subst bQ;replace hM:=bP;(try dsimp only at hM);refine kg 3 ?_;refine t_bs (α:=Int) T22 [I most] [(most:Int)] H rfl (.cons rfl (Flat.rep_enc _ (most:Int))<|.nil) rfl rfl rfl ?_;intro bR cT H;obtain ⟨cU,hM⟩:=M.e_gd hM;refine t_app (α:=Int) (k:=1) (l:=l) (l2:=[(most:Int)]) (l':=l++([(most:Int)])) (vy:=bR) T22 rfl H rfl rfl rfl (H.os 0) (H.ol 0) (rfl) (by first | omega | (simp only [List.length_nil] at *; omega)) ?_;intro bS cV H;replace H:=H.nf;obtain ⟨cW,hM⟩:=M.e_gd hM;refine kg 7 ?_
   exact ⟨bi,bj,b+1,l++([(most:Int)]),bS,_,upds_of _ _ ⟨rfl,rfl,rfl,rfl,rfl,trivial⟩,M.e_inl hM aN,(H.pk [1,2,3])⟩
  replace hM:=M.e_f hM aq
  replace aq:=dI aq
  refine W.exit ?_
  have bT:=M.e_inr hM aN
  subst bT;replace hM:=bH;(try dsimp only at hM);refine kg 3 ?_
  have aE:=sl_one (H.os 0)
  refine t_bs (α:=SV) T115 [al] [(⟨al,aE⟩:SV)] H rfl (.cons (oneCell_cells aE) rfl<|.nil) rfl rfl rfl ?_;intro cX cY H;replace H:=H.nf;obtain ⟨cZ,hM⟩:=M.e_gd hM;replace H:=H.pk [2,1,0,3];refine t_matapp (T:=l4) (row:=l) (sv:=(⟨al,aE⟩:SV)) T115 rfl H hus_l4 rfl rfl rfl (H.os 2) (H.ol 2) (by first | omega | (simp only [List.length_nil] at *; omega)) ?_;intro bU c5 H;replace H:=H.nf
  have bV:(us_l4++[(⟨al,aE⟩:SV)]).length=(l4++[l]).length:=by simp only [List.length_append,List.length_cons,List.length_nil,hus_l4]
  obtain ⟨c6,hM⟩:=M.e_gd hM;refine kg 7 ?_
  exact ⟨bE,bF,a+1,l4++[l],bU,us_l4++[(⟨al,aE⟩:SV)],_,upds_of _ _ ⟨rfl,rfl,rfl,trivial⟩,M.e_inl hM bg,(H.pk [0,2]),bV⟩
 replace hM:=M.e_f hM ap
 replace ap:=dI ap
 refine W.exit ?_
 have bW:=M.e_inr hM bg
 subst bW;replace hM:=bD;(try dsimp only at hM);refine kg 6 ?_;obtain ⟨bX,aW,bY⟩:=M.e_bind hM
 obtain ⟨az,aW⟩:=M.e_iter aW
 refine W.loop (fun m σ W=>∃ (aA:List (List Int)) (k:Nat) (aF:Value) (us_l13:List SV) (ρ:Env),σ=upds ρ [(1,Pq ah),(3,aF),(10,I (k:Int))]/\M.iterN (zbH n_Marks) m (aA,k)=some bX/\St w W [cMat (α:=Int) 22 3 aF us_l13 aA,cBlk ah [I n_Marks,aj] 53] R/\us_l13.length=aA.length) ?_ ?_
 ·exact ⟨_,l4,0,am,us_l4,_,upds_of _ _ ⟨rfl,rfl,rfl,trivial⟩,aW,H,hus_l4⟩
 rintro c7 σ c8 ⟨aA,k,aF,us_l13,ρ,rfl,br,H,hus_l13⟩
 obtain ⟨bZ,b0,c9,hM,bt⟩:=M.e_iterN br
 simp only [zbH] at hM
 clear br;refine kg 8 ?_
 refine W.cond (decide ((k:Int)<n_Marks)) rfl (fun aw=>?_) (fun aw=>?_)
 ·replace hM:=M.e_t hM aw
  replace aw:=dI aw
  refine kg 8 ?_;obtain ⟨b7,aX,b8⟩:=M.e_bind hM
  obtain ⟨az,aX⟩:=M.e_iter aX
  refine W.loop (fun m σ W=>∃ (aB:List (List Int)) (a2:Nat) (aG:Value) (us_l10:List SV) (ρ:Env),σ=upds ρ [(1,Pq ah),(3,aG),(10,I (k:Int)),(11,I (a2:Int))]/\M.iterN (zcm n_Marks k) m (aB,a2)=some b7/\St w W [cMat (α:=Int) 22 3 aG us_l10 aB,cBlk ah [I n_Marks,aj] 53] R/\us_l10.length=aB.length) ?_ ?_
  ·exact ⟨_,aA,0,aF,us_l13,_,upds_of _ _ ⟨rfl,rfl,rfl,rfl,trivial⟩,aX,H,hus_l13⟩
  rintro da σ db ⟨aB,a2,aG,us_l10,ρ,rfl,bu,H,hus_l10⟩
  obtain ⟨b9,ca,dc,hM,bv⟩:=M.e_iterN bu
  simp only [zcm] at hM
  clear bu;refine kg 8 ?_
  refine W.cond (decide ((a2:Int)<n_Marks)) rfl (fun ax=>?_) (fun ax=>?_)
  ·replace hM:=M.e_t hM ax
   replace ax:=dI ax
   refine kg 8 ?_;obtain ⟨cb,aY,cd⟩:=M.e_bind hM
   obtain ⟨az,aY⟩:=M.e_iter aY
   refine W.loop (fun m σ W=>∃ (l7:List (List Int)) (b2:Nat) (ag:Value) (us_l7:List SV) (ρ:Env),σ=upds ρ [(1,Pq ah),(3,ag),(10,I (k:Int)),(11,I (a2:Int)),(12,I (b2:Int))]/\M.iterN (zb8 n_Marks k a2) m (l7,b2)=some cb/\St w W [cMat (α:=Int) 22 3 ag us_l7 l7,cBlk ah [I n_Marks,aj] 53] R/\us_l7.length=l7.length) ?_ ?_
   ·exact ⟨_,aB,0,aG,us_l10,_,upds_of _ _ ⟨rfl,rfl,rfl,rfl,rfl,trivial⟩,aY,H,hus_l10⟩
   rintro dh σ di ⟨l7,b2,ag,us_l7,ρ,rfl,bw,H,hus_l7⟩
   obtain ⟨bx,bz,dj,hM,aZ⟩:=M.e_iterN bw
   simp only [zb8] at hM
   clear bw;refine kg 8 ?_
   refine W.cond (decide ((b2:Int)<n_Marks)) rfl (fun ay=>?_) (fun ay=>?_)
   ·replace hM:=M.e_t hM ay
    replace ay:=dI ay
    obtain ⟨dk,hM⟩:=M.e_gd hM;refine kg 7 ?_;refine s_val (x_ix (v:=vat ag 1 (Int.toNat (a2:Int))) rfl rfl (Sl.ix (α:=SV) T115.und T115.size (ownSl (matOuter (H.get (k:=0) rfl))) (by have ab:=hus_l7; omega) (by have ab:=hus_l7; omega)))<|s_val (x_ld (v:=((us_l7).getD a2 default).v) rfl (ld_sc Sc22 (At.mono (matCells (i:=(a2:Int)) (H.get (k:=0) rfl) hus_l7 (by have ab:=hus_l7; omega) (by have ab:=hus_l7; omega)) (ownLe _ (matOuter (H.get (k:=0) rfl)))))) ?_;obtain ⟨dl,hM⟩:=M.e_gd hM;refine kg 1 ?_;refine s_val (x_ix (v:=vat (((us_l7).getD a2 default).v) 1 (Int.toNat (k:Int))) rfl rfl (Sl.ix (α:=Int) T22.und T22.size (ownSl (matRow (H.get (k:=0) rfl) hus_l7 (by have ab:=hus_l7; omega))) (by omega) (by omega)))<|s_val (x_ld (v:=I ((l7.getD a2 ([])).getD k 0)) rfl (ld_sc Sc3 (At.mono (Int_at (ownSl (matRow (H.get (k:=0) rfl) hus_l7 (by have ab:=hus_l7; omega))) (i:=(k:Int)) (by omega) (by omega)) (ownLe _ (matRow (H.get (k:=0) rfl) hus_l7 (by have ab:=hus_l7; omega)))))) ?_;obtain ⟨ai,hM⟩:=M.e_grd hM
    replace ai:=M.imp_of ai
    simp only [Bool.and_eq_true,decide_eq_true_eq] at ai
    refine kg 4 ?_;refine g_val (decide (((l7.getD a2 ([])).getD k 0)<1000000000000)) (gy_t rfl) (fun hg=>x_ix (v:=vat ag 1 (Int.toNat (k:Int))) (gd_of hg (ag)) (gd_of hg (I (k:Int))) (Sl.ix (α:=SV) T115.und T115.size (ownSl (matOuter (H.get (k:=0) rfl))) (by have ab:=hus_l7; have aa:=ai.resolve_left (by rw [hg]; decide); first | exact aa | exact aa.1 | exact aa.2 | omega | (have ae:=hg; simp at ae; omega)) (by have ab:=hus_l7; have aa:=ai.resolve_left (by rw [hg]; decide); first | exact aa | exact aa.1 | exact aa.2 | omega | (have ae:=hg; simp at ae; omega))))<|g_val (decide (((l7.getD a2 ([])).getD k 0)<1000000000000)) (gy_t rfl) (fun hg=>x_ld (v:=((us_l7).getD k default).v) (gd_of hg (vat ag 1 (Int.toNat (k:Int)))) (ld_sc Sc22 (At.mono (matCells (i:=(k:Int)) (H.get (k:=0) rfl) hus_l7 (by have ab:=hus_l7; have aa:=ai.resolve_left (by rw [hg]; decide); first | exact aa | exact aa.1 | exact aa.2 | omega | (have ae:=hg; simp at ae; omega)) (by have ab:=hus_l7; have aa:=ai.resolve_left (by rw [hg]; decide); first | exact aa | exact aa.1 | exact aa.2 | omega | (have ae:=hg; simp at ae; omega))) (ownLe _ (matOuter (H.get (k:=0) rfl)))))) ?_;obtain ⟨ao,hM⟩:=M.e_grd hM
    replace ao:=M.imp_of ao
    simp only [Bool.and_eq_true,decide_eq_true_eq] at ao
    refine kg 1 ?_;refine g_val (decide (((l7.getD a2 ([])).getD k 0)<1000000000000)) (gy_t rfl) (fun hg=>x_ix (v:=vat (((us_l7).getD k default).v) 1 (Int.toNat (b2:Int))) (gd_of hg (((us_l7).getD k default).v)) (gd_of hg (I (b2:Int))) (Sl.ix (α:=Int) T22.und T22.size (ownSl (matRow (H.get (k:=0) rfl) hus_l7 (by have ab:=hus_l7; have aa:=ai.resolve_left (by rw [hg]; decide); have ac:=ao.resolve_left (by rw [hg]; decide); first | exact aa | exact aa.1 | exact aa.2 | exact ac | exact ac.1 | exact ac.2 | omega | (have ae:=hg; simp at ae; omega)))) (by have aa:=ai.resolve_left (by rw [hg]; decide); have ac:=ao.resolve_left (by rw [hg]; decide); first | exact aa | exact aa.1 | exact aa.2 | exact ac | exact ac.1 | exact ac.2 | omega | (have ae:=hg; simp at ae; omega)) (by have aa:=ai.resolve_left (by rw [hg]; decide); have ac:=ao.resolve_left (by rw [hg]; decide); first | exact aa | exact aa.1 | exact aa.2 | exact ac | exact ac.1 | exact ac.2 | omega | (have ae:=hg; simp at ae; omega))))<|g_val (decide (((l7.getD a2 ([])).getD k 0)<1000000000000)) (gy_t rfl) (fun hg=>x_ld (v:=I ((l7.getD k ([])).getD b2 0)) (gd_of hg (vat (((us_l7).getD k default).v) 1 (Int.toNat (b2:Int)))) (ld_sc Sc3 (At.mono (Int_at (ownSl (matRow (H.get (k:=0) rfl) hus_l7 (by have ab:=hus_l7; have aa:=ai.resolve_left (by rw [hg]; decide); have ac:=ao.resolve_left (by rw [hg]; decide); first | exact aa | exact aa.1 | exact aa.2 | exact ac | exact ac.1 | exact ac.2 | omega | (have ae:=hg; simp at ae; omega)))) (i:=(b2:Int)) (by have aa:=ai.resolve_left (by rw [hg]; decide); have ac:=ao.resolve_left (by rw [hg]; decide); first | exact aa | exact aa.1 | exact aa.2 | exact ac | exact ac.1 | exact ac.2 | omega | (have ae:=hg; simp at ae; omega)) (by have aa:=ai.resolve_left (by rw [hg]; decide); have ac:=ao.resolve_left (by rw [hg]; decide); first | exact aa | exact aa.1 | exact aa.2 | exact ac | exact ac.1 | exact ac.2 | omega | (have ae:=hg; simp at ae; omega))) (ownLe _ (matRow (H.get (k:=0) rfl) hus_l7 (by have ab:=hus_l7; have aa:=ai.resolve_left (by rw [hg]; decide); have ac:=ao.resolve_left (by rw [hg]; decide); first | exact aa | exact aa.1 | exact aa.2 | exact ac | exact ac.1 | exact ac.2 | omega | (have ae:=hg; simp at ae; omega))))))) ?_;refine kg 3 ?_
    refine W.cond ((decide (((l7.getD a2 ([])).getD k 0)<1000000000000))&&(decide (((l7.getD k ([])).getD b2 0)<1000000000000))) rfl (fun a7=>?_) (fun a7=>?_)
    ·replace hM:=M.e_t hM a7;refine W.drawZ (fun W=>St w W [cMat (α:=Int) 22 3 ag us_l7 l7,cBlk ah [I n_Marks,aj] 53] R) [0,1,2,3,4,5,6,7,8,9,10,11,12,13,14,15,16,17,18,19,20,21,22,23,24,25,26,27,28,29] 30 mixed (by decide +kernel) rfl ?_;intro dm ae;replace H:=H.ext ae;clear ae
     refine ⟨H,?_⟩
     refine z_q rfl (fun w' H=>x_mv (v:=ag) rfl)<|z_q rfl (fun w' H=>x_mv (v:=I (a2:Int)) rfl)<|z_q rfl (fun w' H=>x_ix (v:=vat ag 1 (Int.toNat (a2:Int))) rfl rfl (Sl.ix (α:=SV) T115.und T115.size (ownSl (matOuter (H.get (k:=0) rfl))) (by have ab:=hus_l7; omega) (by have ab:=hus_l7; omega)))<|z_q rfl (fun w' H=>x_ld (v:=((us_l7).getD a2 default).v) rfl (ld_sc Sc22 (At.mono (matCells (i:=(a2:Int)) (H.get (k:=0) rfl) hus_l7 (by have ab:=hus_l7; omega) (by have ab:=hus_l7; omega)) (ownLe _ (matOuter (H.get (k:=0) rfl))))))<|z_q rfl (fun w' H=>x_mv (v:=I (b2:Int)) rfl)<|z_q rfl (fun w' H=>x_mv (v:=ag) rfl)<|z_q rfl (fun w' H=>x_mv (v:=I (a2:Int)) rfl)<|z_q rfl (fun w' H=>x_ix (v:=vat ag 1 (Int.toNat (a2:Int))) rfl rfl (Sl.ix (α:=SV) T115.und T115.size (ownSl (matOuter (H.get (k:=0) rfl))) (by have ab:=hus_l7; omega) (by have ab:=hus_l7; omega)))<|z_q rfl (fun w' H=>x_ld (v:=((us_l7).getD a2 default).v) rfl (ld_sc Sc22 (At.mono (matCells (i:=(a2:Int)) (H.get (k:=0) rfl) hus_l7 (by have ab:=hus_l7; omega) (by have ab:=hus_l7; omega)) (ownLe _ (matOuter (H.get (k:=0) rfl))))))<|z_q rfl (fun w' H=>x_mv (v:=I (b2:Int)) rfl) ?_;obtain ⟨dp,hM⟩:=M.e_gd hM;refine z_q rfl (fun w' H=>x_ix (v:=vat (((us_l7).getD a2 default).v) 1 (Int.toNat (b2:Int))) rfl rfl (Sl.ix (α:=Int) T22.und T22.size (ownSl (matRow (H.get (k:=0) rfl) hus_l7 (by have ab:=hus_l7; omega))) (by omega) (by omega)))<|z_q rfl (fun w' H=>x_ld (v:=I ((l7.getD a2 ([])).getD b2 0)) rfl (ld_sc Sc3 (At.mono (Int_at (ownSl (matRow (H.get (k:=0) rfl) hus_l7 (by have ab:=hus_l7; omega))) (i:=(b2:Int)) (by omega) (by omega)) (ownLe _ (matRow (H.get (k:=0) rfl) hus_l7 (by have ab:=hus_l7; omega))))))<|z_q rfl (fun w' H=>x_mv (v:=ag) rfl)<|z_q rfl (fun w' H=>x_mv (v:=I (a2:Int)) rfl)<|z_q rfl (fun w' H=>x_ix (v:=vat ag 1 (Int.toNat (a2:Int))) rfl rfl (Sl.ix (α:=SV) T115.und T115.size (ownSl (matOuter (H.get (k:=0) rfl))) (by have ab:=hus_l7; omega) (by have ab:=hus_l7; omega)))<|z_q rfl (fun w' H=>x_ld (v:=((us_l7).getD a2 default).v) rfl (ld_sc Sc22 (At.mono (matCells (i:=(a2:Int)) (H.get (k:=0) rfl) hus_l7 (by have ab:=hus_l7; omega) (by have ab:=hus_l7; omega)) (ownLe _ (matOuter (H.get (k:=0) rfl))))))<|z_q rfl (fun w' H=>x_mv (v:=I (k:Int)) rfl)<|z_q rfl (fun w' H=>x_ix (v:=vat (((us_l7).getD a2 default).v) 1 (Int.toNat (k:Int))) rfl rfl (Sl.ix (α:=Int) T22.und T22.size (ownSl (matRow (H.get (k:=0) rfl) hus_l7 (by have ab:=hus_l7; omega))) (by omega) (by omega)))<|z_q rfl (fun w' H=>x_ld (v:=I ((l7.getD a2 ([])).getD k 0)) rfl (ld_sc Sc3 (At.mono (Int_at (ownSl (matRow (H.get (k:=0) rfl) hus_l7 (by have ab:=hus_l7; omega))) (i:=(k:Int)) (by omega) (by omega)) (ownLe _ (matRow (H.get (k:=0) rfl) hus_l7 (by have ab:=hus_l7; omega))))))<|z_q rfl (fun w' H=>x_mv (v:=ag) rfl) ?_;refine z_q rfl (fun w' H=>x_mv (v:=I (k:Int)) rfl) ?_;obtain ⟨dt,hM⟩:=M.e_gd hM;refine z_q rfl (fun w' H=>x_ix (v:=vat ag 1 (Int.toNat (k:Int))) rfl rfl (Sl.ix (α:=SV) T115.und T115.size (ownSl (matOuter (H.get (k:=0) rfl))) (by have ab:=hus_l7; omega) (by have ab:=hus_l7; omega)))<|z_q rfl (fun w' H=>x_ld (v:=((us_l7).getD k default).v) rfl (ld_sc Sc22 (At.mono (matCells (i:=(k:Int)) (H.get (k:=0) rfl) hus_l7 (by have ab:=hus_l7; omega) (by have ab:=hus_l7; omega)) (ownLe _ (matOuter (H.get (k:=0) rfl))))))<|z_q rfl (fun w' H=>x_mv (v:=I (b2:Int)) rfl) ?_;obtain ⟨du,hM⟩:=M.e_gd hM;refine z_q rfl (fun w' H=>x_ix (v:=vat (((us_l7).getD k default).v) 1 (Int.toNat (b2:Int))) rfl rfl (Sl.ix (α:=Int) T22.und T22.size (ownSl (matRow (H.get (k:=0) rfl) hus_l7 (by have ab:=hus_l7; omega))) (by omega) (by omega)))<|z_q rfl (fun w' H=>x_ld (v:=I ((l7.getD k ([])).getD b2 0)) rfl (ld_sc Sc3 (At.mono (Int_at (ownSl (matRow (H.get (k:=0) rfl) hus_l7 (by have ab:=hus_l7; omega))) (i:=(b2:Int)) (by omega) (by omega)) (ownLe _ (matRow (H.get (k:=0) rfl) hus_l7 (by have ab:=hus_l7; omega)))))) ?_;obtain ⟨dv,hM⟩:=M.e_gd hM;refine z_q rfl (fun w' H=>x_ari (r:=((l7.getD a2 ([])).getD k 0)+((l7.getD k ([])).getD b2 0)) rfl rfl rfl (by omega))<|z_q rfl (fun w' H=>x_min (kd:=.i64) (a:=(l7.getD a2 ([])).getD b2 0) (b:=((l7.getD a2 ([])).getD k 0)+((l7.getD k ([])).getD b2 0)) rfl rfl)<|z_q rfl (fun w' H=>x_max (kd:=.i64) (a:=-1000000000000) (b:=min ((l7.getD a2 ([])).getD b2 0) (((l7.getD a2 ([])).getD k 0)+((l7.getD k ([])).getD b2 0))) rfl rfl)<|z_q rfl (fun w' H=>x_ix (v:=vat (((us_l7).getD a2 default).v) 1 (Int.toNat (b2:Int))) rfl rfl (Sl.ix (α:=Int) T22.und T22.size (ownSl (matRow (H.get (k:=0) rfl) hus_l7 (by have ab:=hus_l7; omega))) (by omega) (by omega)))<|z_l rfl ?_;refine t_matst (k:=0) (i:=a2) (j:=(b2:Int)) (T:=l7) (T':=l7.set a2 ((l7.getD a2 ([])).set b2 (max (-1000000000000) (min ((l7.getD a2 ([])).getD b2 0) (((l7.getD a2 ([])).getD k 0)+((l7.getD k ([])).getD b2 0))):Int))) (L':=[cMat (α:=Int) 22 3 ag us_l7 (l7.set a2 ((l7.getD a2 ([])).set b2 (max (-1000000000000) (min ((l7.getD a2 ([])).getD b2 0) (((l7.getD a2 ([])).getD k 0)+((l7.getD k ([])).getD b2 0))):Int))),cBlk ah [I n_Marks,aj] 53]) H rfl hus_l7 Sz3 (by have ab:=hus_l7; omega) (by omega) (by omega) (max (-1000000000000) (min ((l7.getD a2 ([])).getD b2 0) (((l7.getD a2 ([])).getD k 0)+((l7.getD k ([])).getD b2 0))):Int) rfl rfl rfl rfl rfl ?_;intro dw H
     have ce:(us_l7).length=(l7.set a2 ((l7.getD a2 ([])).set b2 (max (-1000000000000) (min ((l7.getD a2 ([])).getD b2 0) (((l7.getD a2 ([])).getD k 0)+((l7.getD k ([])).getD b2 0))):Int))).length:=hus_l7.trans (List.length_set).symm
     refine s_nil ⟨trivial,?_⟩
     obtain ⟨dx,hM⟩:=M.e_gd hM;refine kg 5 ?_
     exact ⟨bx,bz,l7.set a2 ((l7.getD a2 ([])).set b2 (max (-1000000000000) (min ((l7.getD a2 ([])).getD b2 0) (((l7.getD a2 ([])).getD k 0)+((l7.getD k ([])).getD b2 0))):Int)),b2+1,ag,us_l7,_,upds_of _ _ ⟨rfl,rfl,rfl,rfl,rfl,trivial⟩,M.e_inl hM aZ,H,ce⟩
    replace hM:=M.e_f hM a7;obtain ⟨dy,hM⟩:=M.e_gd hM;refine kg 6 ?_
    exact ⟨bx,bz,l7,b2+1,ag,us_l7,_,upds_of _ _ ⟨rfl,rfl,rfl,rfl,rfl,trivial⟩,M.e_inl hM aZ,H,hus_l7⟩
   replace hM:=M.e_f hM ay
   replace ay:=dI ay
   refine W.exit ?_
   have cf:=M.e_inr hM aZ
   subst cf;replace hM:=cd;(try dsimp only at hM);obtain ⟨dz,hM⟩:=M.e_gd hM;refine kg 5 ?_
   exact ⟨b9,ca,l7,a2+1,ag,us_l7,_,upds_of _ _ ⟨rfl,rfl,rfl,rfl,trivial⟩,M.e_inl hM bv,H,hus_l7⟩
  replace hM:=M.e_f hM ax
  replace ax:=dI ax
  refine W.exit ?_
  have cg:=M.e_inr hM bv
  subst cg;replace hM:=b8;(try dsimp only at hM);obtain ⟨dA,hM⟩:=M.e_gd hM;refine kg 5 ?_
  exact ⟨bZ,b0,aB,k+1,aG,us_l10,_,upds_of _ _ ⟨rfl,rfl,rfl,trivial⟩,M.e_inl hM bt,H,hus_l10⟩
 replace hM:=M.e_f hM aw
 replace aw:=dI aw
 refine W.exit ?_
 have ch:=M.e_inr hM bt
 subst ch;replace hM:=bY;(try dsimp only at hM);refine kg 5 ?_;refine W.ret ?_
 obtain ⟨ci,H,cj⟩:=H.matE (k:=0) rfl hus_l13
 replace H:=H.nf
 have ck:=M.e_pure hM
 exact ⟨_,resE_tmp rfl,⟨aA,aF,ci,ck,rfl,(H.pk [0]),cj⟩⟩

def zbB (n_Marks:Int) (r2:List (List Int)):Nat->M (Nat ⊕ (Unit ⊕ Unit)):=fun a =>
  bif decide ((a:Int)<n_Marks) then (
  M.grd (decide ((a:Int)<(r2.length:Int))) <|
  M.grd (decide ((a:Int)<((r2.getD a ([])).length:Int))) <|
  bif decide (((r2.getD a ([])).getD a 0)<0) then (
  M.pure (.inr (.inl ())))
  else (
  M.pure (.inl (a+1))))
  else (
  M.pure (.inr (.inr ())))
def zaw (n_Marks:Int) (n_Lines:List Line):M Bool :=
  M.bind (zbM n_Marks n_Lines) fun r2 =>
  M.bind (M.iter (zbB n_Marks r2) 0) fun x_=>match x_ with
  | (.inl (_:Unit))=>(
  M.pure false)
  | (.inr (_:Unit))=>(
  M.pure true)
theorem zbK {R:List Chunk} {aj:Cells} {ac:Value} (n_Marks:Int) (n_Lines:List Line) (ar:Reads R aj) (au:Sl aj ac n_Lines) {r:Bool} (hM:(zaw n_Marks n_Lines).Ends r) (w:World) (H:St w w [] R):Ret Tryz.prog 49 #[.agg #[I n_Marks,ac]] w fun v w'=>∃ (y0:Bool),y0=r/\v=B y0/\St w w' [] R:=by
 refine ret_of_W Tryz.func49 rfl rfl rfl ?_;refine kg 2 ?_;refine t_bx [I n_Marks,ac] H rfl ?_;intro al aF H;refine kg 5 ?_;obtain ⟨aG,av,hM⟩:=M.e_bind hM;refine s_call cf57 [.agg #[I n_Marks,ac]] rfl (zdl n_Marks n_Lines (ar.app _) au av _ (H.gt 1)) ?_
 rintro vq aH ⟨r2,aw,ax,rfl,hvq,am,ay⟩
 subst vq;(try dsimp only at hM);replace H:=H.bk am;clear am;refine kg 8 ?_;obtain ⟨az,ag,ao⟩:=M.e_bind hM
 obtain ⟨aI,ag⟩:=M.e_iter ag
 refine W.loop (fun m σ W=>∃ (a:Nat) (ρ:Env),σ=upds ρ [(1,Pq al),(3,aw),(4,I (a:Int))]/\M.iterN (zbB n_Marks r2) m a=some az/\St w W [cRo ax,cBlk al [I n_Marks,ac] 53] R) ?_ ?_
 ·exact ⟨_,0,_,upds_of _ _ ⟨rfl,rfl,rfl,trivial⟩,ag,H⟩
 rintro aJ σ aK ⟨a,ρ,rfl,ap,H⟩
 obtain ⟨aA,aB,aL,hM,ah⟩:=M.e_iterN ap
 simp only [zbB] at hM
 clear ap;refine kg 8 ?_
 refine W.cond (decide ((a:Int)<n_Marks)) rfl (fun aa=>?_) (fun aa=>?_)
 ·replace hM:=M.e_t hM aa
  replace aa:=dI aa
  obtain ⟨aM,hM⟩:=M.e_gd hM;refine kg 8 ?_
  obtain ⟨aq,aC,ae⟩:=List_at ay (i:=(a:Int)) (by omega) (by omega)
  replace ae:Sl _ aq (r2.getD a ([])):=ae
  have aN:=ae.len_le
  refine s_val (x_ld (v:=aq) rfl (ld_sc Sc22 (At.mono (aC) (roLe _ (H.get (k:=0) rfl))))) ?_;obtain ⟨aO,hM⟩:=M.e_gd hM;refine kg 2 ?_;refine s_val (x_ld (v:=I ((r2.getD a ([])).getD a 0)) rfl (ld_sc Sc3 (At.mono (Int_at ae (i:=(a:Int)) (by omega) (by omega)) (roLe _ (H.get (k:=0) rfl))))) ?_;refine kg 2 ?_
  refine W.cond (decide (((r2.getD a ([])).getD a 0)<0)) rfl (fun ab=>?_) (fun ab=>?_)
  ·replace hM:=M.e_t hM ab
   replace ab:=dI ab
   refine kg 4 ?_;refine W.ret ?_
   have aD:=M.e_inr hM ah
   subst aD;replace hM:=ao;(try dsimp only at hM)
   have ai:=M.e_pure hM
   exact ⟨_,resE_tmp rfl,⟨false,ai,rfl,(H.pk [])⟩⟩
  replace hM:=M.e_f hM ab
  replace ab:=dI ab
  refine kg 6 ?_
  exact ⟨aA,aB,a+1,_,upds_of _ _ ⟨rfl,rfl,rfl,trivial⟩,M.e_inl hM ah,H⟩
 replace hM:=M.e_f hM aa
 replace aa:=dI aa
 refine W.exit ?_
 have aE:=M.e_inr hM ah
 subst aE;replace hM:=ao;(try dsimp only at hM);refine kg 4 ?_;refine W.ret ?_
 have ai:=M.e_pure hM
 exact ⟨_,resE_tmp rfl,⟨true,ai,rfl,(H.pk [])⟩⟩

def zbj (n_Marks:Int) (n_Lines:List Line):M (Bool × Int) :=
  M.bind (zan n_Marks n_Lines) fun r2 =>
  bif r2 != 0 then (
  M.pure (false,r2))
  else (
  M.bind (zaw n_Marks n_Lines) fun r3 =>
  M.pure (r3,0))
theorem zdj {R:List Chunk} {ag:Cells} {ab:Value} (n_Marks:Int) (n_Lines:List Line) (ah:Reads R ag) (ai:Sl ag ab n_Lines) {r:(Bool × Int)} (hM:(zbj n_Marks n_Lines).Ends r) (w:World) (H:St w w [] R):Ret Tryz.prog 17 #[.agg #[I n_Marks,ab]] w fun v w'=>∃ (y0:Bool) (y1:Int),(y0,y1)=r/\v = .tuple #[B y0,I y1]/\St w w' [] R:=by
 refine ret_of_W Tryz.func17 rfl rfl rfl ?_;refine kg 2 ?_;refine t_bx [I n_Marks,ab] H rfl ?_;intro am ao H;refine kg 7 ?_;obtain ⟨ap,aj,hM⟩:=M.e_bind hM;refine s_call cf14 [.agg #[I n_Marks,ab]] rfl (zaJ n_Marks n_Lines (ah.app _) ai aj _ (H.gt 1)) ?_
 rintro vq aq ⟨r2,rfl,hvq,ac⟩
 subst vq;(try dsimp only at hM);replace H:=H.bk ac;clear ac;refine kg 7 ?_
 refine W.cond (r2 != 0) rfl (fun aa=>?_) (fun aa=>?_)
 ·replace hM:=M.e_t hM aa
  replace aa:=dI aa
  refine kg 6 ?_;refine W.ret ?_
  have ae:=M.e_pure hM
  exact ⟨_,resE_tmp2 rfl,⟨false,r2,ae,rfl,(H.pk [])⟩⟩
 replace hM:=M.e_f hM aa
 replace aa:=dI aa
 refine kg 4 ?_;obtain ⟨ar,al,hM⟩:=M.e_bind hM;refine s_call cf49 [.agg #[I n_Marks,ab]] rfl (zbK n_Marks n_Lines (ah.app _) ai al _ (H.gt 1)) ?_
 rintro vq au ⟨r3,rfl,hvq,ac⟩
 subst vq;(try dsimp only at hM);replace H:=H.bk ac;clear ac;refine kg 3 ?_;refine W.ret ?_
 have ae:=M.e_pure hM
 exact ⟨_,resE_tmp2 rfl,⟨r3,0,ae,rfl,(H.pk [])⟩⟩

def zbg (heights:List Int):Nat->M (Nat ⊕ (Unit ⊕ Unit)):=fun i =>
  bif decide ((i:Int)<(heights.length:Int)) then (
  M.grd (decide ((i:Int)<(heights.length:Int))) <|
  M.bind (zaa (heights.getD i 0) (-1000000000) 1000000000) fun r3 =>
  bif r3 then (
  M.pure (.inr (.inl ())))
  else (
  M.pure (.inl (i+1))))
  else (
  M.pure (.inr (.inr ())))
def zbn (n_Lines:List Line) (heights:List Int):Nat->M (Nat ⊕ (Int ⊕ Unit)):=fun i2 =>
  bif decide ((i2:Int)<(n_Lines.length:Int)) then (
  M.grd (decide ((i2:Int)<(n_Lines.length:Int))) <|
  M.grd (decide ((0:Int)<=((n_Lines.getD i2 default).dst))&&decide (((n_Lines.getD i2 default).dst)<(heights.length:Int))) <|
  M.grd (decide ((0:Int)<=((n_Lines.getD i2 default).src))&&decide (((n_Lines.getD i2 default).src)<(heights.length:Int))) <|
  M.grd (decide ((-9223372036854775808:Int)<=((heights.getD (Int.toNat ((n_Lines.getD i2 default).dst)) 0)-(heights.getD (Int.toNat ((n_Lines.getD i2 default).src)) 0)))&&decide (((heights.getD (Int.toNat ((n_Lines.getD i2 default).dst)) 0)-(heights.getD (Int.toNat ((n_Lines.getD i2 default).src)) 0))<=(9223372036854775807:Int))) <|
  M.grd (decide ((-9223372036854775808:Int)<=(((heights.getD (Int.toNat ((n_Lines.getD i2 default).dst)) 0)-(heights.getD (Int.toNat ((n_Lines.getD i2 default).src)) 0))-((n_Lines.getD i2 default).rise)))&&decide ((((heights.getD (Int.toNat ((n_Lines.getD i2 default).dst)) 0)-(heights.getD (Int.toNat ((n_Lines.getD i2 default).src)) 0))-((n_Lines.getD i2 default).rise))<=(9223372036854775807:Int))) <|
  M.grd ((!(!(decide (((n_Lines.getD i2 default).err)<(((heights.getD (Int.toNat ((n_Lines.getD i2 default).dst)) 0)-(heights.getD (Int.toNat ((n_Lines.getD i2 default).src)) 0))-((n_Lines.getD i2 default).rise)))))||(decide (-9223372036854775807<=(((heights.getD (Int.toNat ((n_Lines.getD i2 default).dst)) 0)-(heights.getD (Int.toNat ((n_Lines.getD i2 default).src)) 0))-((n_Lines.getD i2 default).rise)))&&decide ((((heights.getD (Int.toNat ((n_Lines.getD i2 default).dst)) 0)-(heights.getD (Int.toNat ((n_Lines.getD i2 default).src)) 0))-((n_Lines.getD i2 default).rise))<=9223372036854775807)))) <|
  bif ((decide (((n_Lines.getD i2 default).err)<(((heights.getD (Int.toNat ((n_Lines.getD i2 default).dst)) 0)-(heights.getD (Int.toNat ((n_Lines.getD i2 default).src)) 0))-((n_Lines.getD i2 default).rise))))||(decide (((n_Lines.getD i2 default).err)<(-(((heights.getD (Int.toNat ((n_Lines.getD i2 default).dst)) 0)-(heights.getD (Int.toNat ((n_Lines.getD i2 default).src)) 0))-((n_Lines.getD i2 default).rise)))))) then (
  M.pure (.inr (.inl (i2:Int))))
  else (
  M.pure (.inl (i2+1))))
  else (
  M.pure (.inr (.inr ())))
def zca (n_Marks:Int) (n_Lines:List Line) (heights:List Int):M (Int × Int) :=
  M.bind (zan n_Marks n_Lines) fun r2 =>
  bif r2 != 0 then (
  M.pure (0,r2))
  else (
  bif (heights.length:Int) != n_Marks then (
  M.pure (0,2))
  else (
  M.bind (M.iter (zbg heights) 0) fun x_=>match x_ with
  | (.inl (_:Unit))=>(
  M.pure (0,4))
  | (.inr (_:Unit))=>(
  M.bind (M.iter (zbn n_Lines heights) 0) fun x_=>match x_ with
  | (.inl s)=>(
  M.pure (s,0))
  | (.inr (_:Unit))=>(
  M.pure ((-1),0)))))
theorem zdc {R:List Chunk} {ay:Cells} {ab:Value} {az:Cells} {al:Value} (n_Marks:Int) (n_Lines:List Line) (heights:List Int) (aG:Reads R ay) (aA:Sl ay ab n_Lines) (aV:Reads R az) (aB:Sl az al heights) {r:(Int × Int)} (hM:(zca n_Marks n_Lines heights).Ends r) (w:World) (H:St w w [] R):Ret Tryz.prog 19 #[.agg #[I n_Marks,ab],al] w fun v w'=>∃ (y0:Int) (y1:Int),(y0,y1)=r/\v = .tuple #[I y0,I y1]/\St w w' [] R:=by
 refine ret_of_W Tryz.func19 rfl rfl rfl ?_;refine kg 2 ?_;refine t_bx [I n_Marks,ab] H rfl ?_;intro ai aW H;refine kg 7 ?_;obtain ⟨aX,aH,hM⟩:=M.e_bind hM;refine s_call cf14 [.agg #[I n_Marks,ab]] rfl (zaJ n_Marks n_Lines (aG.app _) aA aH _ (H.gt 1)) ?_
 rintro vq aY ⟨r2,rfl,hvq,aj⟩
 subst vq;(try dsimp only at hM);replace H:=H.bk aj;clear aj;refine kg 7 ?_
 refine W.cond (r2 != 0) rfl (fun ac=>?_) (fun ac=>?_)
 ·replace hM:=M.e_t hM ac
  replace ac:=dI ac
  refine kg 6 ?_;refine W.ret ?_
  have aa:=M.e_pure hM
  exact ⟨_,resE_tmp2 rfl,⟨0,r2,aa,rfl,(H.pk [])⟩⟩
 replace hM:=M.e_f hM ac
 replace ac:=dI ac
 have aZ:=(aB).len_le
 refine kg 10 ?_
 refine W.cond ((heights.length:Int) != n_Marks) rfl (fun ae=>?_) (fun ae=>?_)
 ·replace hM:=M.e_t hM ae
  replace ae:=dI ae
  refine kg 5 ?_;refine W.ret ?_
  have aa:=M.e_pure hM
  exact ⟨_,resE_tmp2 rfl,⟨0,2,aa,rfl,(H.pk [])⟩⟩
 replace hM:=M.e_f hM ae
 replace ae:=dI ae
 refine kg 7 ?_;obtain ⟨aI,ap,aC⟩:=M.e_bind hM
 obtain ⟨aJ,ap⟩:=M.e_iter ap
 refine W.loop (fun m σ W=>∃ (i:Nat) (ρ:Env),σ=upds ρ [(1,al),(2,Pq ai),(7,I (i:Int))]/\M.iterN (zbg heights) m i=some aI/\St w W [cBlk ai [I n_Marks,ab] 53] R) ?_ ?_
 ·exact ⟨_,0,_,upds_of _ _ ⟨rfl,rfl,rfl,trivial⟩,ap,H⟩
 rintro a7 σ a8 ⟨i,ρ,rfl,aD,H⟩
 obtain ⟨aK,aL,ba,hM,aq⟩:=M.e_iterN aD
 simp only [zbg] at hM
 clear aD
 have bb:=(aB).len_le
 refine kg 8 ?_
 refine W.cond (decide ((i:Int)<(heights.length:Int))) rfl (fun ag=>?_) (fun ag=>?_)
 ·replace hM:=M.e_t hM ag
  replace ag:=dI ag
  obtain ⟨bc,hM⟩:=M.e_gd hM;refine kg 9 ?_;obtain ⟨bg,aM,hM⟩:=M.e_bind hM;refine s_call cf46 [I (heights.getD i 0),I (-1000000000),I 1000000000] rfl (zam (heights.getD i 0) (-1000000000) 1000000000 aM _ (H.gt 1)) ?_
  rintro vq bh ⟨r3,rfl,hvq,aj⟩
  subst vq;(try dsimp only at hM);replace H:=H.bk aj;clear aj;refine s_nil ?_
  refine W.cond r3 rfl (fun ar=>?_) (fun ar=>?_)
  ·replace hM:=M.e_t hM ar;refine kg 5 ?_;refine W.ret ?_
   have aN:=M.e_inr hM aq
   subst aN;replace hM:=aC;(try dsimp only at hM)
   have aa:=M.e_pure hM
   exact ⟨_,resE_tmp2 rfl,⟨0,4,aa,rfl,(H.pk [])⟩⟩
  replace hM:=M.e_f hM ar;refine kg 6 ?_
  exact ⟨aK,aL,i+1,_,upds_of _ _ ⟨rfl,rfl,rfl,trivial⟩,M.e_inl hM aq,H⟩
 replace hM:=M.e_f hM ag
 replace ag:=dI ag
 refine W.exit ?_
 have aO:=M.e_inr hM aq
 subst aO;replace hM:=aC;(try dsimp only at hM);refine kg 6 ?_;obtain ⟨aP,au,aE⟩:=M.e_bind hM
 obtain ⟨aJ,au⟩:=M.e_iter au
 refine W.loop (fun m σ W=>∃ (i2:Nat) (ρ:Env),σ=upds ρ [(1,al),(2,Pq ai),(8,I (i2:Int))]/\M.iterN (zbn n_Lines heights) m i2=some aP/\St w W [cBlk ai [I n_Marks,ab] 53] R) ?_ ?_
 ·exact ⟨_,0,_,upds_of _ _ ⟨rfl,rfl,rfl,trivial⟩,au,H⟩
 rintro bi σ bj ⟨i2,ρ,rfl,aF,H⟩
 obtain ⟨aQ,aR,bn,hM,av⟩:=M.e_iterN aF
 simp only [zbn] at hM
 clear aF
 have bp:=(aA).len_le
 refine kg 9 ?_
 refine W.cond (decide ((i2:Int)<(n_Lines.length:Int))) rfl (fun ah=>?_) (fun ah=>?_)
 ·replace hM:=M.e_t hM ah
  replace ah:=dI ah
  obtain ⟨br,hM⟩:=M.e_gd hM;refine kg 10 ?_;refine t_alloc (cs:=[I 0,I 0,I 0,I 0,I 0]) H Al106 rfl ?_;intro aS bt H;refine t_sw 0 0 [I ((n_Lines.getD i2 default).src),I ((n_Lines.getD i2 default).dst),I ((n_Lines.getD i2 default).day),I ((n_Lines.getD i2 default).rise),I ((n_Lines.getD i2 default).err)] (.agg #[I ((n_Lines.getD i2 default).src),I ((n_Lines.getD i2 default).dst),I ((n_Lines.getD i2 default).day),I ((n_Lines.getD i2 default).rise),I ((n_Lines.getD i2 default).err)]) H rfl rfl Sz106 rfl rfl rfl rfl ?_;intro bu H;refine kg 2 ?_;refine W.draw (fun W=>St w W [cBlk aS [I ((n_Lines.getD i2 default).src),I ((n_Lines.getD i2 default).dst),I ((n_Lines.getD i2 default).day),I ((n_Lines.getD i2 default).rise),I ((n_Lines.getD i2 default).err)] 106,cBlk ai [I n_Marks,ab] 53] R) [(0,true),(1,true),(2,true),(3,true),(4,true),(5,true),(6,true),(7,true),(8,true),(9,true),(10,true),(11,true),(12,true),(13,true),(14,true)] mixed (by decide +kernel) rfl ?_;intro bv am;replace H:=H.ext am;clear am
  refine ⟨(H.pk [0,1]),?_⟩
  obtain ⟨bw,hM⟩:=M.e_gd hM;obtain ⟨bx,hM⟩:=M.e_gd hM;obtain ⟨bz,hM⟩:=M.e_gd hM;obtain ⟨bA,hM⟩:=M.e_gd hM;obtain ⟨ao,hM⟩:=M.e_grd hM
  replace ao:=M.imp_of ao
  simp only [Bool.and_eq_true,decide_eq_true_eq] at ao
  refine kg 24 ?_;refine g_val (!(decide (((n_Lines.getD i2 default).err)<(((heights.getD (Int.toNat ((n_Lines.getD i2 default).dst)) 0)-(heights.getD (Int.toNat ((n_Lines.getD i2 default).src)) 0))-((n_Lines.getD i2 default).rise))))) (gy_f rfl) (fun hg=>x_neg (a:=((heights.getD (Int.toNat ((n_Lines.getD i2 default).dst)) 0)-(heights.getD (Int.toNat ((n_Lines.getD i2 default).src)) 0))-((n_Lines.getD i2 default).rise)) (gd_of hg (I (((heights.getD (Int.toNat ((n_Lines.getD i2 default).dst)) 0)-(heights.getD (Int.toNat ((n_Lines.getD i2 default).src)) 0))-((n_Lines.getD i2 default).rise)))) (by have aw:=ao.resolve_left (by rw [hg]; decide); first | exact aw | exact aw.1 | exact aw.2 | omega | (have am:=hg; simp at am; omega))) ?_;refine kg 5 ?_
  refine W.cond ((decide (((n_Lines.getD i2 default).err)<(((heights.getD (Int.toNat ((n_Lines.getD i2 default).dst)) 0)-(heights.getD (Int.toNat ((n_Lines.getD i2 default).src)) 0))-((n_Lines.getD i2 default).rise))))||(decide (((n_Lines.getD i2 default).err)<(-(((heights.getD (Int.toNat ((n_Lines.getD i2 default).dst)) 0)-(heights.getD (Int.toNat ((n_Lines.getD i2 default).src)) 0))-((n_Lines.getD i2 default).rise)))))) rfl (fun ax=>?_) (fun ax=>?_)
  ·replace hM:=M.e_t hM ax;refine kg 6 ?_;refine W.ret ?_
   have aT:=M.e_inr hM av
   subst aT;replace hM:=aE;(try dsimp only at hM)
   have aa:=M.e_pure hM
   exact ⟨_,resE_tmp2 rfl,⟨(i2:Int),0,aa,rfl,(H.pk [])⟩⟩
  replace hM:=M.e_f hM ax;refine kg 6 ?_
  exact ⟨aQ,aR,i2+1,_,upds_of _ _ ⟨rfl,rfl,rfl,trivial⟩,M.e_inl hM av,(H.pk [1])⟩
 replace hM:=M.e_f hM ah
 replace ah:=dI ah
 refine W.exit ?_
 have aU:=M.e_inr hM av
 subst aU;replace hM:=aE;(try dsimp only at hM);refine kg 5 ?_;refine W.ret ?_
 have aa:=M.e_pure hM
 exact ⟨_,resE_tmp2 rfl,⟨(-1),0,aa,rfl,(H.pk [])⟩⟩

end Go.Proofs.YtfdgkdkfbaghpaaGreat
end
namespace Go.Nm
open Go
structure Row13 where
  v:List Int
deriving Inhabited
theorem encI:∀ l:List Int,encF (α:=Int) l=l.map I
  | []=>rfl
  | x :: l=>by
    have:=encI l
    unfold encF at *
    rw [List.map_cons,List.flatten_cons,this]
    rfl
instance:Elt Row13 where
  rep _ cs x:=cs=encF (α:=Int) x.v/\x.v.length=13
  sz:=13
  agg:=true
  sz_pos:=by decide
  len:=fun h=>by rw [h.1,encI,List.length_map,h.2]
  mono:=fun _ h=>h
  one:=fun h v hv=>by
    rw [h.1] at hv
    exact List.all_eq_true.1 (encF_one _) v hv
def rowsOf (c:List Int) (n:Nat):List Row13:=(List.range n).map fun i=>⟨(c.drop (i*13)).take 13⟩
def rowp (k:Nat) (x:Row13):Bool:=decide (x.v.getD k 0<1099511627776)
theorem sl_rows {w:World} {b n:Nat} {segs:List (List Value)} {et:TypeId} {fr:Nat × Nat} {c:List Int} (h:w.heap[b]?=some (.cells segs.flatten.toArray et fr)) (hk:segs[1]?=some (encF (α:=Int) c)) (ho:(segs.take 1).flatten.length=2) (hc:c.length=169) (hn:n<=13) :
    Sl w.cell? (.slice (some ⟨b,2,none⟩) n 13) (rowsOf c n):=by
  refine ⟨some ⟨b,2,none⟩,13,by simp [rowsOf],by simp [rowsOf]; exact hn,by decide,fun k x hx=>?_⟩
  unfold rowsOf at hx
  rw [List.getElem?_map] at hx
  by_cases hkn:k<n
  · rw [List.getElem?_range hkn] at hx
    obtain rfl:(⟨(c.drop (k*13)).take 13⟩:Row13)=x:=by simpa using hx
    refine ⟨b,2,encF (α:=Int) ((c.drop (k*13)).take 13),rfl,⟨rfl,by simp; omega⟩,fun j y hj=>?_⟩
    obtain ⟨b',o',hp,hcell⟩:=At.blk h (2+k*13) 13
    cases hp
    refine hcell j y ?_
    have hl:(encF (α:=Int) c).length=169:=by rw [encI,List.length_map]; exact hc
    rw [seg_split hk,List.drop_append,List.drop_of_length_le (by omega),List.nil_append,ho,show 2+k*13-2=k*13 by omega,List.drop_append_of_le_length (by omega),List.take_append_of_le_length (by rw [List.length_drop]; omega)]
    rw [encI,List.map_take,List.map_drop,← encI] at hj
    exact hj
  · rw [List.getElem?_eq_none (by simp; omega)] at hx
    cases hx
end Go.Nm
namespace Go.Proofs.YtfdgkdkfbaghpaaGreat
open Go Go.Nm
theorem cfr66:CF Tryz.prog 54:=⟨_,Tryz.func54,rfl,by decide +kernel⟩
theorem cfr67:CF Tryz.prog 55:=⟨_,Tryz.func55,rfl,by decide +kernel⟩
theorem szr114:(Tryz.prog.info? 96).map (·.size)=some 13:=by kernel_rfl
theorem agr114:isAg (Tryz.prog.underlying 96)=true:=by rw [Tryz.underlying96]; rfl
theorem run_sliceR {w:World} {b:Nat} {n:Int} (h0:0<=n) (h1:n<=13):(Instr.sliceAt 98 (.pointer (some ⟨b,2,none⟩)) none (some (I n)) none).run Tryz.prog w = .ok (.slice (some ⟨b,2,none⟩) n.toNat 13) w:=by
  simp [Instr.sliceAt,Instr.sureAddr,Instr.sliceBounds,Instr.sliceBound,asIntOf,run_underlying Tryz.underlying98,Go.Nm.run_sizeOf szr114,h0,h1,Addr.add]
set_option maxRecDepth 100000 in
theorem row_has {R:List Chunk} {bm:Nat} {k:Nat} (hk:k<13) (hb:Has R (cBlk bm [I (k:Int)] 3)):FnM Tryz.prog R (.func (.func 55) #[] #[.pointer (some ⟨bm,0,none⟩)]) (fun x:Row13=>M.pure (rowp k x)):=by
  refine ⟨55,[.pointer (some ⟨bm,0,none⟩)],rfl,cfr67,fun w L C v x b hs hC hA hp=>?_⟩
  obtain ⟨cs,⟨rfl,h13⟩,rfl⟩:=hA
  obtain rfl:=M.e_pure hp
  have H:St w w [] (L++R):=St.refl hs
  refine ret_of_W Tryz.func55 rfl rfl rfl ?_
  refine W.seq ?_
  refine W.region rfl ?_
  refine t_box (v:=.agg (encF (α:=Int) x.v).toArray) (cs:=List.flatten [encF (α:=Int) x.v]) H rfl (by simp [Value.cells]) ?_
  intro b1 w1 H
  refine s_val (x_as (v:=B false) rfl) ?_
  refine s_nil ?_
  refine W.seq ?_
  refine W.region rfl ?_
  refine s_val (x_ld (p:=.pointer (some ⟨bm,0,none⟩)) (v:=I (k:Int)) rfl (ldb_sc Sc3 ((hb.app L).blk H) rfl)) ?_
  refine s_val (x_ix (a:=.pointer (some ⟨b1,0,none⟩)) (b:=I (k:Int)) (v:=.pointer (some ⟨b1,0+Int.toNat (k:Int)*1,none⟩)) rfl rfl (run_indexS Tryz.underlying96 Sz3 (by omega) (by omega))) ?_
  refine s_val (x_ld (p:=.pointer (some ⟨b1,0+Int.toNat (k:Int)*1,none⟩)) (v:=I (x.v.getD k 0)) rfl (ldS (α:=Int) (k:=0) (off:=0) (i:=k) (f:=0) (sz:=1) 0 Sc3 (H.blk (k:=0) rfl) rfl rfl rfl (by decide) (by omega) (by omega) rfl)) ?_
  refine s_val (x_cmp (kd:=.i64) (a:=x.v.getD k 0) (b:=1099511627776) (r:=rowp k x) rfl rfl rfl) ?_
  refine s_val (x_as (v:=B (rowp k x)) rfl) ?_
  refine s_nil ?_
  refine W.ret ?_
  exact ⟨_,resE_tmp rfl,⟨rfl,H.pick [] (by decide) rfl⟩⟩
set_option maxRecDepth 100000 in
theorem rows_first {R:List Chunk} {v_f vs:Value} {w:World} {l:List Row13} {k:Nat} (hs:∀ w',Sep w' R->Sl w'.cell? vs l) (hf:FnM Tryz.prog R v_f (fun x:Row13=>M.pure (rowp k x))) (hsep:Sep w R) :
    Ret Tryz.prog 54 #[vs,v_f] w fun v w'=>v=I (idxP (rowp k) l)/\St w w' [] R:=by
 have H:St w w [] R:=St.refl hsep
 refine ret_of_W Tryz.func54 rfl rfl rfl ?_
 refine W.seq ?_
 refine W.region rfl ?_
 refine s_val (x_as (v:=I 0) rfl) ?_
 refine s_nil ?_
 refine W.seq ?_
 refine W.seq ?_
 refine W.region rfl ?_
 refine s_val (x_mv (v:=vs) rfl) ?_
 have hs0:=hs _ H.tl
 have hl1z:=hs0.len_le
 refine s_val (x_lenS Tryz.underlying112 rfl hs0) ?_
 refine s_val (x_mv (v:=I 0) rfl) ?_
 refine s_nil ?_
 refine W.block ?_
 refine W.loop (fun m σ W=>∃ (s2:Nat) (ρ:Env),σ=upds ρ [(0,vs),(1,v_f),(7,I (l.length:Int)),(8,I (s2:Int))]/\m=l.length-s2/\(∀ y∈l.take s2,rowp k y=false)/\St w W [] R) ?_ ?_
 ·exact ⟨_,0,_,upds_of _ _ ⟨rfl,rfl,rfl,rfl,trivial⟩,rfl,by simp,H⟩
 ·rintro m7z σ w5z ⟨s2,ρ,rfl,rfl,hno,H⟩
  have hs1:=hs _ H.tl
  refine W.seq ?_
  refine W.region rfl ?_
  refine s_val (x_cmp (kd:=.i64) (a:=(s2:Int)) (b:=(l.length:Int)) (r:=decide ((s2:Int)<(l.length:Int))) rfl rfl rfl) ?_
  refine s_nil ?_
  refine W.seq ?_
  refine W.cond (decide ((s2:Int)<(l.length:Int))) rfl (fun c=>?_) (fun c=>?_)
  ·have c:=of_decide_eq_true c
   refine W.skip ?_
   refine W.seq ?_
   refine W.block ?_
   refine W.seq ?_
   refine W.region rfl ?_
   refine s_val (x_mv (v:=I (s2:Int)) rfl) ?_
   refine s_val (x_as (v:=I (s2:Int)) rfl) ?_
   refine s_nil ?_
   refine W.seq ?_
   refine W.region rfl ?_
   refine s_val (x_mv (v:=v_f) rfl) ?_
   refine s_val (x_mv (v:=vs) rfl) ?_
   refine s_val (x_mv (v:=I (s2:Int)) rfl) ?_
   refine s_val (x_ix (a:=vs) (b:=I (s2:Int)) (v:=vat vs 13 (Int.toNat (s2:Int))) rfl rfl (Sl.ix (α:=Row13) Tryz.underlying112 szr114 hs1 (by omega) (by omega))) ?_
   obtain ⟨cs,hat,hrep,h13⟩:=hs1.atI (i:=(s2:Int)) (by omega) (by omega) default
   subst hrep
   refine s_val (x_ld (p:=vat vs 13 (Int.toNat (s2:Int))) (v:=.agg (encF (α:=Int) (l.getD (Int.toNat (s2:Int)) default).v).toArray) rfl (ld_ag agr114 (by rw [szr114,encF_len,h13]; rfl) hat)) ?_
   refine t_callM (b:=rowp k (l.getD (Int.toNat (s2:Int)) default)) H hf rfl rfl (l.getD (Int.toNat (s2:Int)) default) Reads.none ⟨_,⟨rfl,h13⟩,rfl⟩ M.i_pure ?_
   intro w14z H
   refine s_nil ?_
   refine W.cond (rowp k (l.getD (Int.toNat (s2:Int)) default)) rfl (fun c2=>?_) (fun c2=>?_)
   ·refine W.seq ?_
    refine W.region rfl ?_
    refine s_val (x_mv (v:=I (s2:Int)) rfl) ?_
    refine s_val (x_as (v:=I (s2:Int)) rfl) ?_
    refine s_nil ?_
    refine W.ret ?_
    exact ⟨_,resE_tmp rfl,⟨congrArg I (idx_yes c c2 hno),H⟩⟩
   ·refine W.skip ?_
    refine W.region rfl ?_
    refine s_val (x_ari (a:=(s2:Int)) (b:=1) (r:=(s2:Int)+1) rfl rfl rfl (by omega)) ?_
    refine s_val (x_mv (v:=I ((s2:Int)+1)) rfl) ?_
    refine s_nil ?_
    exact ⟨l.length-(s2+1),by omega,s2+1,_,upds_of _ _ ⟨rfl,rfl,rfl,rfl,trivial⟩,rfl,idx_step c hno c2,H⟩
  ·have c:=of_decide_eq_false c
   refine W.exit ?_
   refine W.seq ?_
   refine W.region rfl ?_
   refine s_val (x_as (v:=I (-1)) rfl) ?_
   refine s_nil ?_
   refine W.ret ?_
   exact ⟨_,resE_tmp rfl,⟨congrArg I (idx_no c hno),H⟩⟩
end Go.Proofs.YtfdgkdkfbaghpaaGreat
section
set_option maxRecDepth 100000
set_option maxHeartbeats 16000000
namespace Go.Proofs.YtfdgkdkfbaghpaaGreat
open Go Go.Nm
attribute [local irreducible] gd execOp SL SLD SLT WR
def zcq (n_Marks:Int) (aa:List Int):(Nat × (List Int))->M ((Nat × (List Int)) ⊕ ((List Int) × (List Int))):=fun (s,l) =>
  bif decide ((s:Int)<n_Marks) then (
  M.grd (decide ((0:Int)<=n_Marks)&&decide (n_Marks<=(13:Int))) <|
  M.grd (decide ((s:Int)<(13:Int))) <|
  M.grd (decide ((0:Int)<=(idxP (rowp s) (rowsOf aa (Int.toNat n_Marks))))&&decide ((idxP (rowp s) (rowsOf aa (Int.toNat n_Marks)))<(13:Int))) <|
  M.grd (decide ((0:Int)<=(s:Int))&&decide ((s:Int)<(13:Int))) <|
  M.grd (decide ((l.length+([(aa.getD ((Int.toNat (idxP (rowp s) (rowsOf aa (Int.toNat n_Marks))))*13+s) 0:Int)]).length)*8<=140737488355328)) <|
  M.grd (decide ((-9223372036854775808:Int)<=((s:Int)+1))&&decide (((s:Int)+1)<=(9223372036854775807:Int))) <|
  M.pure (.inl (s+1,l++([(aa.getD ((Int.toNat (idxP (rowp s) (rowsOf aa (Int.toNat n_Marks))))*13+s) 0:Int)]))))
  else (
  M.pure (.inr (l,l)))
def zbe (n_Marks:Int) (n_Lines:List Line):M ((List Int) × Int) :=
  M.bind (zaR n_Marks n_Lines) fun x_=>match x_ with
  | (.inl r1)=>(
  bif r1 != 0 then (
  M.pure (([]),r1))
  else (
  M.fail))
  | (.inr (ac,ab,ae,aa))=>(
  bif aa != 0 then (
  M.pure (([]),aa))
  else (
  M.bind (M.iter (zcq n_Marks ab) (0,[])) fun (l2,l3) =>
  M.pure (l3,0)))
theorem zdV {R:List Chunk} {av:Cells} {ab:Value} (n_Marks:Int) (n_Lines:List Line) (aA:Reads R av) (aB:Sl av ab n_Lines) {r:((List Int) × Int)} (hM:(zbe n_Marks n_Lines).Ends r) (w:World) (H:St w w [] R):Ret Tryz.prog 20 #[.agg #[I n_Marks,ab]] w fun v w'=>∃ (y0:List Int) (y1:Int) (u0:Value),(y0,y1)=r/\v = .tuple #[u0,I y1]/\St w w' [cOwn (α:=Int) 3 u0 y0] R:=by
 refine ret_of_W Tryz.func20 rfl rfl rfl ?_;refine kg 2 ?_;refine t_bx [I n_Marks,ab] H rfl ?_;intro aj aO H;refine kg 6 ?_;obtain ⟨aP,aC,hM⟩:=M.e_bind hM;refine s_call cf53 [.agg #[I n_Marks,ab]] rfl (zda n_Marks n_Lines (aA.app _) aB aC _ (H.gt 1)) ?_
 rintro vq aQ (⟨r1,aD,hvq,al⟩ | ⟨aq,aa,ar,aw,ac,aE,hvq,al,ax,aR⟩)
 ·subst aD;subst vq;(try dsimp only at hM);replace H:=H.bk al;clear al;refine kg 12 ?_
  refine W.cond (r1 != 0) rfl (fun am=>?_) (fun am=>?_)
  ·replace hM:=M.e_t hM am
   replace am:=dI am
   refine kg 6 ?_;refine W.ret ?_
   have ao:=M.e_pure hM
   replace H:=H.nilOwn (α:=Int) 3
   exact ⟨_,resE_tmp2 rfl,⟨([]),r1,(.slice none 0 0),ao,rfl,(H.pk [0])⟩⟩
  replace hM:=M.e_f hM am
  exact (M.e_fail hM).elim
 subst aE;subst vq;(try dsimp only at hM);replace H:=H.bk al;clear al;refine kg 12 ?_
 refine W.cond (aw != 0) rfl (fun ag=>?_) (fun ag=>?_)
 ·replace hM:=M.e_t hM ag
  replace ag:=dI ag
  refine kg 6 ?_;refine W.ret ?_
  have ao:=M.e_pure hM
  replace H:=H.nilOwn (α:=Int) 3
  exact ⟨_,resE_tmp2 rfl,⟨([]),aw,(.slice none 0 0),ao,rfl,(H.pk [0])⟩⟩
 replace hM:=M.e_f hM ag
 replace ag:=dI ag
 refine kg 13 ?_
 replace H:=H.nilOwn (α:=Int) 3
 obtain ⟨aF,au,aG⟩:=M.e_bind hM
 obtain ⟨aS,au⟩:=M.e_iter au
 refine W.loop (fun m σ W=>∃ (s:Nat) (l:List Int) (ai:Value) (ρ:Env),σ=upds ρ [(1,Pq aj),(4,Pq ac),(6,ai),(18,I n_Marks),(19,I (s:Int))]/\M.iterN (zcq n_Marks aa) m (s,l)=some aF/\St w W [cOwn (α:=Int) 3 ai l,cBlk ac (List.flatten [[I aq,ab],encF (α:=Int) aa,encF (α:=Leg) ar]) 102,cBlk aj [I n_Marks,ab] 25] R) ?_ ?_
 ·exact ⟨_,0,[],(.slice none 0 0),_,upds_of _ _ ⟨rfl,rfl,rfl,rfl,rfl,trivial⟩,au,H⟩
 rintro aT σ aU ⟨s,l,ai,ρ,rfl,ay,H⟩
 obtain ⟨aH,aI,aV,hM,az⟩:=M.e_iterN ay
 simp only [zcq] at hM
 clear ay;refine kg 5 ?_
 refine W.cond (decide ((s:Int)<n_Marks)) rfl (fun ah=>?_) (fun ah=>?_)
 ·replace hM:=M.e_t hM ah
  replace ah:=dI ah
  refine kg 6 ?_;refine t_alloc (cs:=[I 0]) H Al3 rfl ?_;intro ap aW H;refine t_sw 0 0 [I (s:Int)] (I (s:Int)) H rfl rfl Sz3 rfl rfl rfl rfl ?_;intro aX H;refine kg 2 ?_;refine W.draw (fun W=>St w W [cBlk ap [I (s:Int)] 3,cOwn (α:=Int) 3 ai l,cBlk ac (List.flatten [[I aq,ab],encF (α:=Int) aa,encF (α:=Leg) ar]) 102,cBlk aj [I n_Marks,ab] 25] R) [(0,true),(1,true),(2,true),(3,true),(4,true),(5,true),(6,true),(7,false),(8,true)] mixed (by decide +kernel) rfl ?_;intro aY ae;replace H:=H.ext ae;clear ae
  refine ⟨(H.pk [0,1,2,3]),?_⟩
  obtain ⟨aZ,hM⟩:=M.e_gd hM;refine kg 5 ?_;refine d_q rfl (fun w' H=>x_sl (v:=Oq ac 2) (u:=.slice (some ⟨ac,2,none⟩) (Int.toNat n_Marks) 13) (lo':=none) (hi':=some (I n_Marks)) (mx':=none) rfl rfl rfl rfl (run_sliceR (by omega) (by omega)))<|d_q rfl (fun w' H=>x_mf (fs:=[]) (cs:=[Pq ap]) rfl rfl)<|d_l rfl ?_;obtain ⟨a7,hM⟩:=M.e_gd hM;refine s_call cfr66 [.slice (some ⟨ac,2,none⟩) (Int.toNat n_Marks) 13,.func (.func 55) #[] #[Pq ap]] rfl (rows_first (k:=s) (l:=rowsOf aa (Int.toNat n_Marks)) (fun w_ aJ=>sl_rows ((Has.here (k:=2) rfl).of w_ aJ) rfl (sgo1 rfl) ax (by omega)) (row_has (by omega) (Has.here (k:=0) rfl)) H.sep) ?_
  rintro _ aK ⟨rfl,ae⟩
  replace H:St w aK [cBlk ap [I (s:Int)] 3,cOwn (α:=Int) 3 ai l,cBlk ac (List.flatten [[I aq,ab],encF (α:=Int) aa,encF (α:=Leg) ar]) 102,cBlk aj [I n_Marks,ab] 25] R:=H.via ae
  clear ae
  refine s_nil ⟨(H.pk [0,1,2,3]),?_⟩
  refine kg 2 ?_;refine W.draw (fun W=>St w W [cBlk ap [I (s:Int)] 3,cBlk ac (List.flatten [[I aq,ab],encF (α:=Int) aa,encF (α:=Leg) ar]) 102,cBlk aj [I n_Marks,ab] 25] R) [(0,true),(1,true),(2,true),(3,true),(4,true),(5,true),(6,true),(7,true),(8,true),(9,false),(10,false),(11,true)] mixed (by decide +kernel) rfl ?_;intro a8 ae;replace H:=H.ext ae;clear ae
  refine ⟨(H.pk [0,2,3]),?_⟩
  obtain ⟨ba,hM⟩:=M.e_gd hM;refine kg 6 ?_;refine d_q rfl (fun w' H=>x_ix (v:=.pointer (some ⟨ac,2+Int.toNat (idxP (rowp s) (rowsOf aa (Int.toNat n_Marks)))*13,none⟩)) rfl rfl (run_indexS Tryz.underlying98 Sz96 (by omega) (by omega))) ?_;obtain ⟨bb,hM⟩:=M.e_gd hM;refine d_q rfl (fun w' H=>x_ix (v:=.pointer (some ⟨ac,(2+Int.toNat (idxP (rowp s) (rowsOf aa (Int.toNat n_Marks)))*13)+Int.toNat (s:Int)*1,none⟩)) rfl rfl (run_indexS Tryz.underlying96 Sz3 (by omega) (by omega)))<|d_q rfl (fun w' H=>x_ld (v:=I (aa.getD ((Int.toNat (idxP (rowp s) (rowsOf aa (Int.toNat n_Marks))))*13+s) 0)) rfl (ldS (α:=Int) (k:=1) (off:=2) (i:=(Int.toNat (idxP (rowp s) (rowsOf aa (Int.toNat n_Marks))))*13+s) (f:=0) (sz:=1) 0 Sc3 (H.bl 1) rfl (sgo1 rfl) rfl (by decide) (by have bc:=ax; omega) (by omega) rfl))<|d_l rfl ?_;refine t_bs (α:=Int) T22 [I (aa.getD ((Int.toNat (idxP (rowp s) (rowsOf aa (Int.toNat n_Marks))))*13+s) 0)] [(aa.getD ((Int.toNat (idxP (rowp s) (rowsOf aa (Int.toNat n_Marks))))*13+s) 0:Int)] H rfl (.cons rfl (Flat.rep_enc _ (aa.getD ((Int.toNat (idxP (rowp s) (rowsOf aa (Int.toNat n_Marks))))*13+s) 0:Int))<|.nil) rfl rfl rfl ?_;intro aL bg H
  have bh:=Sl.cells (H.os 0)
  have bi:=Sl.oc (H.os 0)
  have bj:=Sl.cells (H.os 2)
  have bn:=Sl.oc (H.os 2)
  refine s_nil ⟨(H.pk [1,3,4]),?_⟩
  refine d_l rfl ?_;obtain ⟨bp,hM⟩:=M.e_gd hM;refine t_app (α:=Int) (k:=2) (l:=l) (l2:=[(aa.getD ((Int.toNat (idxP (rowp s) (rowsOf aa (Int.toNat n_Marks))))*13+s) 0:Int)]) (l':=l++([(aa.getD ((Int.toNat (idxP (rowp s) (rowsOf aa (Int.toNat n_Marks))))*13+s) 0:Int)])) (vy:=aL) T22 rfl H rfl rfl rfl (H.os 0) (H.ol 0) (rfl) (by first | omega | (simp only [List.length_nil] at *; omega)) ?_;intro aM br H;replace H:=H.nf
  have bt:=Sl.cells (H.os 2)
  have bu:=Sl.oc (H.os 2)
  refine s_nil ⟨(H.pk [1,3,4]),?_⟩
  obtain ⟨bv,hM⟩:=M.e_gd hM;refine kg 6 ?_
  exact ⟨aH,aI,s+1,l++([(aa.getD ((Int.toNat (idxP (rowp s) (rowsOf aa (Int.toNat n_Marks))))*13+s) 0:Int)]),aM,_,upds_of _ _ ⟨rfl,rfl,rfl,rfl,rfl,trivial⟩,M.e_inl hM az,(H.pk [2,3,4])⟩
 replace hM:=M.e_f hM ah
 replace ah:=dI ah
 refine W.exit ?_
 have aN:=M.e_inr hM az
 subst aN;replace hM:=aG;(try dsimp only at hM);refine kg 6 ?_;refine W.ret ?_
 have ao:=M.e_pure hM
 exact ⟨_,resE_tmp2 rfl,⟨l,0,ai,ao,rfl,(H.pk [0])⟩⟩

end Go.Proofs.YtfdgkdkfbaghpaaGreat
end
section
set_option maxRecDepth 100000
set_option maxHeartbeats 16000000
namespace Go.Proofs.YtfdgkdkfbaghpaaGreat
open Go Go.Nm
attribute [local irreducible] gd execOp SL SLD SLT WR
def zcv (l:List Int):M (List Int) :=
  M.grd (decide ((([]:List Int).length+l.length)*8<=140737488355328)) <|
  M.pure l
theorem zdN {R:List Chunk} {ab:Cells} {aa:Value} (l:List Int) (ac:Reads R ab) (ae:Sl ab aa l) {r:(List Int)} (hM:(zcv l).Ends r) (w:World) (H:St w w [] R):Ret Tryz.prog 13 #[aa] w fun v w'=>∃ (y0:List Int) (u0:Value),y0=r/\v=u0/\St w w' [cOwn (α:=Int) 3 u0 y0] R:=by
 refine ret_of_W Tryz.func13 rfl rfl rfl ?_;refine kg 12 ?_
 replace H:=H.nilOwn (α:=Int) 3
 obtain ⟨ai,hM⟩:=M.e_gd hM;refine t_app (α:=Int) (k:=0) (l:=[]) (l2:=l) (l':=l) (vy:=aa) T22 rfl H rfl rfl rfl ae (ac.at H) (List.nil_append _) (by first | omega | (simp only [List.length_nil] at *; omega)) ?_;intro ag aj H;replace H:=H.nf;refine kg 2 ?_;refine W.ret ?_
 have ah:=M.e_pure hM
 exact ⟨_,resE_tmp rfl,⟨l,ag,ah,rfl,H⟩⟩

def zcd (n_Lines:List Line):(Nat × (List Line))->M ((Nat × (List Line)) ⊕ ((List Line) × (List Line))):=fun (s,l) =>
  bif decide ((s:Int)<(n_Lines.length:Int)) then (
  M.grd (decide ((s:Int)<(n_Lines.length:Int))) <|
  M.grd (decide ((l.length+([(n_Lines.getD s default)]).length)*40<=140737488355328)) <|
  M.pure (.inl (s+1,l++([(n_Lines.getD s default)]))))
  else (
  M.pure (.inr (l,l)))
def zad (n_Marks:Int) (n_Lines:List Line):M (Int × (List Line)) :=
  M.bind (M.iter (zcd n_Lines) (0,[])) fun (l2,l3) =>
  M.pure (n_Marks,l3)
theorem zac {R:List Chunk} {ah:Cells} {ac:Value} (n_Marks:Int) (n_Lines:List Line) (aA:Reads R ah) (ao:Sl ah ac n_Lines) {r:(Int × (List Line))} (hM:(zad n_Marks n_Lines).Ends r) (w:World) (H:St w w [] R):Ret Tryz.prog 15 #[.agg #[I n_Marks,ac]] w fun v w'=>∃ (y0:Int) (y1:List Line) (u0:Value),(y0,y1)=r/\v = .agg #[I y0,u0]/\St w w' [cOwn (α:=Line) 106 u0 y1] R:=by
 refine ret_of_W Tryz.func15 rfl rfl rfl ?_;refine kg 2 ?_;refine t_bx [I n_Marks,ac] H rfl ?_;intro ap aB H;refine t_alloc (cs:=[I 0,.slice none 0 0]) H Al53 rfl ?_;intro ai aC H;refine kg 5 ?_;refine s_val (x_bld (ps:=[(0,I n_Marks)]) (zs:=[I 0,.slice none 0 0]) (L':=[I n_Marks,.slice none 0 0]) rfl Tryz.underlying53 Al53 rfl (Bd53 Tryz.underlying53) (.cons (cs:=[I n_Marks]) rfl rfl rfl rfl rfl<|.nil)) ?_;refine t_alloc (cs:=[I 0,.slice none 0 0]) H Al53 rfl ?_;intro aj aD H;refine t_sw 0 0 [I n_Marks,.slice none 0 0] (.agg #[I n_Marks,.slice none 0 0]) H rfl rfl Sz53 rfl rfl rfl rfl ?_;intro aE H
 have aF:=(ao).len_le
 refine kg 10 ?_
 replace H:=H.nilOwn (α:=Line) 106
 obtain ⟨aq,ae,ar⟩:=M.e_bind hM
 obtain ⟨aG,ae⟩:=M.e_iter ae
 refine W.loop (fun m σ W=>∃ (s:Nat) (l:List Line) (aa:Value) (ρ:Env),σ=upds ρ [(2,Pq ai),(3,Pq aj),(10,ac),(11,I (n_Lines.length:Int)),(12,I (s:Int))]/\M.iterN (zcd n_Lines) m (s,l)=some aq/\St w W [cOwn (α:=Line) 106 aa l,cBlk aj [I n_Marks,aa] 53,cBlk ai [I 0,.slice none 0 0] 53,cBlk ap [I n_Marks,ac] 25] R) ?_ ?_
 ·exact ⟨_,0,[],(.slice none 0 0),_,upds_of _ _ ⟨rfl,rfl,rfl,rfl,rfl,trivial⟩,ae,H⟩
 rintro aH σ aI ⟨s,l,aa,ρ,rfl,al,H⟩
 obtain ⟨au,av,aJ,hM,am⟩:=M.e_iterN al
 simp only [zcd] at hM
 clear al;refine kg 5 ?_
 refine W.cond (decide ((s:Int)<(n_Lines.length:Int))) rfl (fun ab=>?_) (fun ab=>?_)
 ·replace hM:=M.e_t hM ab
  replace ab:=dI ab
  obtain ⟨aK,hM⟩:=M.e_gd hM;refine kg 7 ?_;refine t_alloc (cs:=[I 0,I 0,I 0,I 0,I 0]) H Al34 rfl ?_;intro aL aM H;refine t_sw 0 0 [I ((n_Lines.getD s default).src),I ((n_Lines.getD s default).dst),I ((n_Lines.getD s default).day),I ((n_Lines.getD s default).rise),I ((n_Lines.getD s default).err)] (.agg #[I ((n_Lines.getD s default).src),I ((n_Lines.getD s default).dst),I ((n_Lines.getD s default).day),I ((n_Lines.getD s default).rise),I ((n_Lines.getD s default).err)]) H rfl rfl Sz34 rfl rfl rfl rfl ?_;intro aN H;refine kg 5 ?_;refine t_bs (α:=Line) T51 [.agg #[I ((n_Lines.getD s default).src),I ((n_Lines.getD s default).dst),I ((n_Lines.getD s default).day),I ((n_Lines.getD s default).rise),I ((n_Lines.getD s default).err)]] [(n_Lines.getD s default)] H rfl (.cons rfl (Flat.rep_enc _ (n_Lines.getD s default))<|.nil) rfl rfl rfl ?_;intro aw aO H;obtain ⟨aP,hM⟩:=M.e_gd hM;refine t_app (α:=Line) (k:=2) (l:=l) (l2:=[(n_Lines.getD s default)]) (l':=l++([(n_Lines.getD s default)])) (vy:=aw) T51 rfl H rfl rfl rfl (H.os 0) (H.ol 0) (rfl) (by first | omega | (simp only [List.length_nil] at *; omega)) ?_;intro ag aQ H;replace H:=H.nf;refine kg 1 ?_;refine t_sw 3 1 [ag] ag H rfl rfl Sz51 (Sl.cells (H.os 2)) rfl rfl (by simp only [List.all_cons,List.all_nil,Bool.true_and,Bool.and_true,Sl.oc (H.os 2)]; try rfl) ?_;intro aR H;refine kg 5 ?_
  exact ⟨au,av,s+1,l++([(n_Lines.getD s default)]),ag,_,upds_of _ _ ⟨rfl,rfl,rfl,rfl,rfl,trivial⟩,M.e_inl hM am,(H.pk [2,3,4,5])⟩
 replace hM:=M.e_f hM ab
 replace ab:=dI ab
 refine W.exit ?_
 have ax:=M.e_inr hM am
 subst ax;replace hM:=ar;(try dsimp only at hM);refine kg 3 ?_;refine t_sw 2 0 [I n_Marks,aa] (.agg #[I n_Marks,aa]) H rfl rfl Sz53 rfl rfl rfl (by simp only [List.all_cons,List.all_nil,Bool.true_and,Bool.and_true,Sl.oc (H.os 0)]; try rfl) ?_;intro aS H;refine s_nil ?_;refine W.ret ?_
 have ay:=(H.bl 2)
 have az:=M.e_pure hM
 exact ⟨_,(resE_of1 (v:=.agg #[I n_Marks,aa]) rfl (.cell (v:=.agg #[I n_Marks,aa]) rfl (run_loadVar_ag (ds:=[I n_Marks,aa]) Ag53 Sz53 ay rfl rfl)<|.nil)),⟨n_Marks,l,aa,az,rfl,(H.pk [0])⟩⟩

def zbX (s:List Int) (f:Int->M Bool):Nat->M (Nat ⊕ (Int ⊕ Unit)):=fun s2 =>
  bif decide ((s2:Int)<(s.length:Int)) then (
  M.grd (decide ((s2:Int)<(s.length:Int))) <|
  M.bind (f (s.getD s2 0)) fun r2 =>
  bif r2 then (
  M.pure (.inr (.inl (s2:Int))))
  else (
  M.pure (.inl (s2+1))))
  else (
  M.pure (.inr (.inr ())))
def zcN (s:List Int) (f:Int->M Bool):M Int :=
  M.bind (M.iter (zbX s f) 0) fun x_=>match x_ with
  | (.inl s3)=>(
  M.pure s3)
  | (.inr (_:Unit))=>(
  M.pure (-1))
theorem zdI {R:List Chunk} {aj:Cells} {ab:Value} {ac:Value} (s:List Int) (f:Int->M Bool) (ay:Reads R aj) (ao:Sl aj ab s) (ap:FnM Tryz.prog R ac f) {r:Int} (hM:(zcN s f).Ends r) (w:World) (H:St w w [] R):Ret Tryz.prog 83 #[ab,ac] w fun v w'=>∃ (y0:Int),y0=r/\v=I y0/\St w w' [] R:=by
 refine ret_of_W Tryz.func83 rfl rfl rfl ?_
 have az:=(ao).len_le
 refine kg 12 ?_;obtain ⟨aq,ae,al⟩:=M.e_bind hM
 obtain ⟨aA,ae⟩:=M.e_iter ae
 refine W.loop (fun m σ W=>∃ (s2:Nat) (ρ:Env),σ=upds ρ [(0,ab),(1,ac),(7,I (s.length:Int)),(8,I (s2:Int))]/\M.iterN (zbX s f) m s2=some aq/\St w W [] R) ?_ ?_
 ·exact ⟨_,0,_,upds_of _ _ ⟨rfl,rfl,rfl,rfl,trivial⟩,ae,H⟩
 rintro aB σ aC ⟨s2,ρ,rfl,am,H⟩
 obtain ⟨ar,au,aD,hM,ag⟩:=M.e_iterN am
 simp only [zbX] at hM
 clear am;refine kg 5 ?_
 refine W.cond (decide ((s2:Int)<(s.length:Int))) rfl (fun aa=>?_) (fun aa=>?_)
 ·replace hM:=M.e_t hM aa
  replace aa:=dI aa
  obtain ⟨aE,hM⟩:=M.e_gd hM;refine kg 15 ?_;obtain ⟨r2,av,hM⟩:=M.e_bind hM;refine t_callM H ap rfl rfl (s.getD s2 0) Reads.none (Arg.mkI (fun _=>none) _) av ?_;intro aF H;refine s_nil ?_
  refine W.cond r2 rfl (fun ah=>?_) (fun ah=>?_)
  ·replace hM:=M.e_t hM ah;refine kg 5 ?_;refine W.ret ?_
   have aw:=M.e_inr hM ag
   subst aw;replace hM:=al;(try dsimp only at hM)
   have ai:=M.e_pure hM
   exact ⟨_,resE_tmp rfl,⟨(s2:Int),ai,rfl,H⟩⟩
  replace hM:=M.e_f hM ah;refine kg 5 ?_
  exact ⟨ar,au,s2+1,_,upds_of _ _ ⟨rfl,rfl,rfl,rfl,trivial⟩,M.e_inl hM ag,H⟩
 replace hM:=M.e_f hM aa
 replace aa:=dI aa
 refine W.exit ?_
 have ax:=M.e_inr hM ag
 subst ax;replace hM:=al;(try dsimp only at hM);refine kg 4 ?_;refine W.ret ?_
 have ai:=M.e_pure hM
 exact ⟨_,resE_tmp rfl,⟨(-1),ai,rfl,H⟩⟩

def zc7 (s:List Int) (f:Int->M Bool):M Bool :=
  M.bind (zcN s f) fun r2 =>
  M.pure (decide (0<=r2))
theorem zd2 {R:List Chunk} {ac:Cells} {aa:Value} {ab:Value} (s:List Int) (f:Int->M Bool) (ag:Reads R ac) (ah:Sl ac aa s) (ai:FnM Tryz.prog R ab f) {r:Bool} (hM:(zc7 s f).Ends r) (w:World) (H:St w w [] R):Ret Tryz.prog 72 #[aa,ab] w fun v w'=>∃ (y0:Bool),y0=r/\v=B y0/\St w w' [] R:=by
 refine ret_of_W Tryz.func72 rfl rfl rfl ?_;refine kg 8 ?_;obtain ⟨am,aj,hM⟩:=M.e_bind hM;refine s_call cf83 [aa,ab] rfl (zdI s f (ag.app _) ah (ai.app _) aj _ (H.gt 0)) ?_
 rintro vq ao ⟨r2,rfl,hvq,ae⟩
 subst vq;(try dsimp only at hM);replace H:=H.bk ae;clear ae;refine kg 3 ?_;refine W.ret ?_
 have al:=M.e_pure hM
 exact ⟨_,resE_tmp rfl,⟨(decide (0<=r2)),al,rfl,H⟩⟩

def zcn (x:Int) (aa:Int->M Bool):M Bool :=
  M.bind (aa x) fun r2 =>
  M.pure (!r2)
theorem zdy {R:List Chunk} {aa:Nat} {ab:Value} (x:Int) (ac:Int->M Bool) (ae:FnM Tryz.prog R ab ac) (ai:Has R (cBlk aa [ab] 90)) {r:Bool} (hM:(zcn x ac).Ends r) (w:World) (H:St w w [] R):Ret Tryz.prog 73 #[I x,Pq aa] w fun v w'=>∃ (y0:Bool),y0=r/\v=B y0/\St w w' [] R:=by
 refine ret_of_W Tryz.func73 rfl rfl rfl ?_;refine kg 8 ?_;obtain ⟨r2,ag,hM⟩:=M.e_bind hM;refine t_callM H ae rfl rfl x Reads.none (Arg.mkI (fun _=>none) _) ag ?_;intro aj H;refine kg 3 ?_;refine W.ret ?_
 have ah:=M.e_pure hM
 exact ⟨_,resE_tmp rfl,⟨(!r2),ah,rfl,H⟩⟩

def zcs (l:List Int) (so:Int->M Bool):M Bool :=
  M.bind (zc7 l (fun aa=>zcn aa so)) fun r2 =>
  M.pure (!r2)
theorem zdw {R:List Chunk} {ag:Cells} {ab:Value} {aa:Value} (l:List Int) (so:Int->M Bool) (al:Reads R ag) (am:Sl ag ab l) (ah:FnM Tryz.prog R aa so) {r:Bool} (hM:(zcs l so).Ends r) (w:World) (H:St w w [] R):Ret Tryz.prog 50 #[ab,aa] w fun v w'=>∃ (y0:Bool),y0=r/\v=B y0/\St w w' [] R:=by
 refine ret_of_W Tryz.func50 rfl rfl rfl ?_;refine kg 2 ?_;refine t_box (v:=aa) (cs:=[aa]) H rfl (FnM.cells ah) ?_;intro ac az H;refine kg 5 ?_;refine s_val (x_mf (fs:=[]) (cs:=[Pq ac]) rfl rfl) ?_;obtain ⟨aA,ao,hM⟩:=M.e_bind hM;refine s_call cf72 [ab,.func (.func 73) #[] #[Pq ac]] rfl (zd2 l (fun ae=>zcn ae so) (al.app _) am ⟨73,[Pq ac],rfl,cf73,fun ai aB aC ap ae aD aq aE ar au=>by obtain rfl:=Arg.int ar; exact (zdy ae so (FnM.app (ah.app _) _) (Has.app (Has.here (k:=0) rfl) _) au ai (St.refl aq)).mono fun ap ai ⟨aF,av,aw,ax⟩=>by subst av; exact ⟨aw,ax⟩⟩ ao _ (H.gt 1)) ?_
 rintro vq aG ⟨r2,rfl,hvq,aj⟩
 subst vq;(try dsimp only at hM);replace H:=H.bk aj;clear aj;refine kg 3 ?_;refine W.ret ?_
 have ay:=M.e_pure hM
 exact ⟨_,resE_tmp rfl,⟨(!r2),ay,rfl,(H.pk [])⟩⟩

def zcR (h:Int):M Bool :=
  M.bind (zae h (-1000000000) 1000000000) fun r2 =>
  M.pure r2
theorem zdm {R:List Chunk}  (h:Int)  {r:Bool} (hM:(zcR h).Ends r) (w:World) (H:St w w [] R):Ret Tryz.prog 51 #[I h] w fun v w'=>∃ (y0:Bool),y0=r/\v=B y0/\St w w' [] R:=by
 refine ret_of_W Tryz.func51 rfl rfl rfl ?_;refine kg 7 ?_;obtain ⟨ae,ab,hM⟩:=M.e_bind hM;refine s_call cf39 [I h,I (-1000000000),I 1000000000] rfl (zah h (-1000000000) 1000000000 ab _ (H.gt 0)) ?_
 rintro vq ag ⟨r2,rfl,hvq,aa⟩
 subst vq;(try dsimp only at hM);replace H:=H.bk aa;clear aa;refine kg 2 ?_;refine W.ret ?_
 have ac:=M.e_pure hM
 exact ⟨_,resE_tmp rfl,⟨r2,ac,rfl,H⟩⟩

def zcW (l:Line) (heights:List Int):M Bool :=
  M.grd (decide ((0:Int)<=l.dst)&&decide (l.dst<(heights.length:Int))) <|
  M.grd (decide ((0:Int)<=l.src)&&decide (l.src<(heights.length:Int))) <|
  M.grd (decide ((-9223372036854775808:Int)<=((heights.getD (Int.toNat l.dst) 0)-(heights.getD (Int.toNat l.src) 0)))&&decide (((heights.getD (Int.toNat l.dst) 0)-(heights.getD (Int.toNat l.src) 0))<=(9223372036854775807:Int))) <|
  M.grd (decide ((-9223372036854775808:Int)<=(l.rise-l.err))&&decide ((l.rise-l.err)<=(9223372036854775807:Int))) <|
  M.grd (decide ((-9223372036854775808:Int)<=(l.rise+l.err))&&decide ((l.rise+l.err)<=(9223372036854775807:Int))) <|
  M.bind (zae ((heights.getD (Int.toNat l.dst) 0)-(heights.getD (Int.toNat l.src) 0)) (l.rise-l.err) (l.rise+l.err)) fun r2 =>
  M.pure r2
theorem zdG {R:List Chunk} {aa:Cells} {ab:Value} (l:Line) (heights:List Int) (aj:Reads R aa) (al:Sl aa ab heights) {r:Bool} (hM:(zcW l heights).Ends r) (w:World) (H:St w w [] R):Ret Tryz.prog 52 #[.agg #[I l.src,I l.dst,I l.day,I l.rise,I l.err],ab] w fun v w'=>∃ (y0:Bool),y0=r/\v=B y0/\St w w' [] R:=by
 refine ret_of_W Tryz.func52 rfl rfl rfl ?_;refine kg 2 ?_;refine t_bx [I l.src,I l.dst,I l.day,I l.rise,I l.err] H rfl ?_;intro ag am H;refine kg 3 ?_;refine W.draw (fun W=>St w W [cBlk ag [I l.src,I l.dst,I l.day,I l.rise,I l.err] 34] R) [(0,true),(1,true),(2,true),(3,true),(4,true),(5,true),(6,true),(7,true),(8,true),(9,true),(10,true),(11,true),(12,true),(13,true),(14,true),(15,true),(16,true),(17,true),(18,true),(19,true),(20,true),(21,false),(22,true)] mixed (by decide +kernel) rfl ?_;intro ao ac;replace H:=H.ext ac;clear ac
 refine ⟨(H.pk [0]),?_⟩
 obtain ⟨ap,hM⟩:=M.e_gd hM;obtain ⟨aq,hM⟩:=M.e_gd hM;obtain ⟨ar,hM⟩:=M.e_gd hM;obtain ⟨au,hM⟩:=M.e_gd hM;obtain ⟨av,hM⟩:=M.e_gd hM;refine kg 21 ?_;refine d_l rfl ?_;obtain ⟨aw,ah,hM⟩:=M.e_bind hM;refine s_call cf39 [I ((heights.getD (Int.toNat l.dst) 0)-(heights.getD (Int.toNat l.src) 0)),I (l.rise-l.err),I (l.rise+l.err)] rfl (zah ((heights.getD (Int.toNat l.dst) 0)-(heights.getD (Int.toNat l.src) 0)) (l.rise-l.err) (l.rise+l.err) ah _ (H.gt 1)) ?_
 rintro vq ax ⟨r2,rfl,hvq,ae⟩
 subst vq;(try dsimp only at hM);replace H:=H.bk ae;clear ae
 refine s_nil ⟨(H.pk [0]),?_⟩
 refine kg 2 ?_;refine W.ret ?_
 have ai:=M.e_pure hM
 exact ⟨_,resE_tmp rfl,⟨r2,ai,rfl,(H.pk [])⟩⟩

def zbt (n_Lines:List Line) (heights:List Int):Nat->M (Nat ⊕ (Int ⊕ Unit)):=fun s =>
  bif decide ((s:Int)<(n_Lines.length:Int)) then (
  M.grd (decide ((s:Int)<(n_Lines.length:Int))) <|
  M.bind (zcW (n_Lines.getD s default) heights) fun r4 =>
  bif !r4 then (
  M.pure (.inr (.inl (s:Int))))
  else (
  M.pure (.inl (s+1))))
  else (
  M.pure (.inr (.inr ())))
def zcM (n_Marks:Int) (n_Lines:List Line) (heights:List Int):M (Int × Int) :=
  M.bind (zak n_Marks n_Lines) fun r2 =>
  bif r2 != 0 then (
  M.pure (0,r2))
  else (
  bif (heights.length:Int) != n_Marks then (
  M.pure (0,2))
  else (
  M.bind (zcs heights (fun aa=>zcR aa)) fun r3 =>
  bif !r3 then (
  M.pure (0,4))
  else (
  M.bind (M.iter (zbt n_Lines heights) 0) fun x_=>match x_ with
  | (.inl s2)=>(
  M.pure (s2,0))
  | (.inr (_:Unit))=>(
  M.pure ((-1),0)))))
theorem zdn {R:List Chunk} {ar:Cells} {ah:Value} {au:Cells} {ai:Value} (n_Marks:Int) (n_Lines:List Line) (heights:List Int) (aA:Reads R ar) (av:Sl ar ah n_Lines) (aw:Reads R au) (aj:Sl au ai heights) {r:(Int × Int)} (hM:(zcM n_Marks n_Lines heights).Ends r) (w:World) (H:St w w [] R):Ret Tryz.prog 18 #[.agg #[I n_Marks,ah],ai] w fun v w'=>∃ (y0:Int) (y1:Int),(y0,y1)=r/\v = .tuple #[I y0,I y1]/\St w w' [] R:=by
 refine ret_of_W Tryz.func18 rfl rfl rfl ?_;refine kg 2 ?_;refine t_bx [I n_Marks,ah] H rfl ?_;intro aB aR H;refine kg 6 ?_;obtain ⟨aS,aC,hM⟩:=M.e_bind hM;refine s_call cf8 [.agg #[I n_Marks,ah]] rfl (zaC n_Marks n_Lines (aA.app _) av aC _ (H.gt 1)) ?_
 rintro vq aT ⟨r2,rfl,hvq,ab⟩
 subst vq;(try dsimp only at hM);replace H:=H.bk ab;clear ab;refine kg 10 ?_
 refine W.cond (r2 != 0) rfl (fun ac=>?_) (fun ac=>?_)
 ·replace hM:=M.e_t hM ac
  replace ac:=dI ac
  refine kg 6 ?_;refine W.ret ?_
  have aa:=M.e_pure hM
  exact ⟨_,resE_tmp2 rfl,⟨0,r2,aa,rfl,(H.pk [])⟩⟩
 replace hM:=M.e_f hM ac
 replace ac:=dI ac
 have aU:=(aj).len_le
 refine kg 9 ?_
 refine W.cond ((heights.length:Int) != n_Marks) rfl (fun ae=>?_) (fun ae=>?_)
 ·replace hM:=M.e_t hM ae
  replace ae:=dI ae
  refine kg 5 ?_;refine W.ret ?_
  have aa:=M.e_pure hM
  exact ⟨_,resE_tmp2 rfl,⟨0,2,aa,rfl,(H.pk [])⟩⟩
 replace hM:=M.e_f hM ae
 replace ae:=dI ae
 refine kg 3 ?_;obtain ⟨aV,aD,hM⟩:=M.e_bind hM;refine s_call cf50 [ai,.func (.func 51) #[] #[]] rfl (zdw heights (fun al=>zcR al) (aw.app _) aj ⟨51,[],rfl,cf51,fun ax aW aX aE al aY aF aZ aG aH=>by obtain rfl:=Arg.int aG; exact (zdm al aH ax (St.refl aF)).mono fun aE ax ⟨a7,aI,aJ,aK⟩=>by subst aI; exact ⟨aJ,aK⟩⟩ aD _ (H.gt 1)) ?_
 rintro vq a8 ⟨r3,rfl,hvq,ab⟩
 subst vq;(try dsimp only at hM);replace H:=H.bk ab;clear ab;refine kg 3 ?_
 refine W.cond (!r3) rfl (fun am=>?_) (fun am=>?_)
 ·replace hM:=M.e_t hM am;refine kg 5 ?_;refine W.ret ?_
  have aa:=M.e_pure hM
  exact ⟨_,resE_tmp2 rfl,⟨0,4,aa,rfl,(H.pk [])⟩⟩
 replace hM:=M.e_f hM am
 have ba:=(av).len_le
 refine kg 10 ?_;obtain ⟨aL,ao,ay⟩:=M.e_bind hM
 obtain ⟨bb,ao⟩:=M.e_iter ao
 refine W.loop (fun m σ W=>∃ (s:Nat) (ρ:Env),σ=upds ρ [(1,ai),(27,ah),(28,I (n_Lines.length:Int)),(29,I (s:Int))]/\M.iterN (zbt n_Lines heights) m s=some aL/\St w W [cBlk aB [I n_Marks,ah] 25] R) ?_ ?_
 ·exact ⟨_,0,_,upds_of _ _ ⟨rfl,rfl,rfl,rfl,trivial⟩,ao,H⟩
 rintro bc σ bg ⟨s,ρ,rfl,az,H⟩
 obtain ⟨aM,aN,bh,hM,ap⟩:=M.e_iterN az
 simp only [zbt] at hM
 clear az;refine kg 5 ?_
 refine W.cond (decide ((s:Int)<(n_Lines.length:Int))) rfl (fun ag=>?_) (fun ag=>?_)
 ·replace hM:=M.e_t hM ag
  replace ag:=dI ag
  obtain ⟨bi,hM⟩:=M.e_gd hM;refine kg 8 ?_;refine t_alloc (cs:=[I 0,I 0,I 0,I 0,I 0]) H Al34 rfl ?_;intro bj bn H;refine kg 1 ?_;refine t_sw 0 0 [I ((n_Lines.getD s default).src),I ((n_Lines.getD s default).dst),I ((n_Lines.getD s default).day),I ((n_Lines.getD s default).rise),I ((n_Lines.getD s default).err)] (.agg #[I ((n_Lines.getD s default).src),I ((n_Lines.getD s default).dst),I ((n_Lines.getD s default).day),I ((n_Lines.getD s default).rise),I ((n_Lines.getD s default).err)]) H rfl rfl Sz34 rfl rfl rfl rfl ?_;intro bp H;refine kg 4 ?_;refine s_val (x_mf (fs:=[.agg #[I ((n_Lines.getD s default).src),I ((n_Lines.getD s default).dst),I ((n_Lines.getD s default).day),I ((n_Lines.getD s default).rise),I ((n_Lines.getD s default).err)]]) (cs:=[]) rfl rfl) ?_;refine kg 6 ?_;obtain ⟨br,aO,hM⟩:=M.e_bind hM;refine s_callm (f:=52) (fs:=[.agg #[I ((n_Lines.getD s default).src),I ((n_Lines.getD s default).dst),I ((n_Lines.getD s default).day),I ((n_Lines.getD s default).rise),I ((n_Lines.getD s default).err)]]) rfl cf52 [ai] rfl (zdG (n_Lines.getD s default) heights (aw.app _) aj aO _ (H.gt 2)) ?_
  rintro vq bt ⟨r4,rfl,hvq,ab⟩
  subst vq;(try dsimp only at hM);replace H:=H.bk ab;clear ab;refine kg 2 ?_
  refine W.cond (!r4) rfl (fun aq=>?_) (fun aq=>?_)
  ·replace hM:=M.e_t hM aq;refine kg 6 ?_;refine W.ret ?_
   have aP:=M.e_inr hM ap
   subst aP;replace hM:=ay;(try dsimp only at hM)
   have aa:=M.e_pure hM
   exact ⟨_,resE_tmp2 rfl,⟨(s:Int),0,aa,rfl,(H.pk [])⟩⟩
  replace hM:=M.e_f hM aq;refine kg 5 ?_
  exact ⟨aM,aN,s+1,_,upds_of _ _ ⟨rfl,rfl,rfl,rfl,trivial⟩,M.e_inl hM ap,(H.pk [1])⟩
 replace hM:=M.e_f hM ag
 replace ag:=dI ag
 refine W.exit ?_
 have aQ:=M.e_inr hM ap
 subst aQ;replace hM:=ay;(try dsimp only at hM);refine kg 5 ?_;refine W.ret ?_
 have aa:=M.e_pure hM
 exact ⟨_,resE_tmp2 rfl,⟨(-1),0,aa,rfl,(H.pk [])⟩⟩

def zbZ (a b:List Line):Nat->M (Nat ⊕ (Unit ⊕ Unit)):=fun i =>
  bif decide ((i:Int)<(a.length:Int)) then (
  M.grd (decide ((i:Int)<(a.length:Int))) <|
  M.grd (decide ((i:Int)<(b.length:Int))) <|
  bif !(decide ((a.getD i default)=(b.getD i default))) then (
  M.pure (.inr (.inl ())))
  else (
  M.pure (.inl (i+1))))
  else (
  M.pure (.inr (.inr ())))
def zbE (a b:List Line):M Bool :=
  bif (a.length:Int) != (b.length:Int) then (
  M.pure false)
  else (
  M.bind (M.iter (zbZ a b) 0) fun x_=>match x_ with
  | (.inl (_:Unit))=>(
  M.pure false)
  | (.inr (_:Unit))=>(
  M.pure true))
theorem zdZ {R:List Chunk} {al:Cells} {ae:Value} {am:Cells} {ag:Value} (a:List Line) (b:List Line) (aA:Reads R al) (ao:Sl al ae a) (aB:Reads R am) (au:Sl am ag b) {r:Bool} (hM:(zbE a b).Ends r) (w:World) (H:St w w [] R):Ret Tryz.prog 56 #[ae,ag] w fun v w'=>∃ (y0:Bool),y0=r/\v=B y0/\St w w' [] R:=by
 refine ret_of_W Tryz.func56 rfl rfl rfl ?_
 have aC:=(ao).len_le
 have aD:=(au).len_le
 refine kg 13 ?_
 refine W.cond ((a.length:Int) != (b.length:Int)) rfl (fun aa=>?_) (fun aa=>?_)
 ·replace hM:=M.e_t hM aa
  replace aa:=dI aa
  refine kg 4 ?_;refine W.ret ?_
  have ac:=M.e_pure hM
  exact ⟨_,resE_tmp rfl,⟨false,ac,rfl,H⟩⟩
 replace hM:=M.e_f hM aa
 replace aa:=dI aa
 refine kg 7 ?_;obtain ⟨av,ah,ap⟩:=M.e_bind hM
 obtain ⟨aE,ah⟩:=M.e_iter ah
 refine W.loop (fun m σ W=>∃ (i:Nat) (ρ:Env),σ=upds ρ [(0,ae),(1,ag),(5,I (i:Int))]/\M.iterN (zbZ a b) m i=some av/\St w W [] R) ?_ ?_
 ·exact ⟨_,0,_,upds_of _ _ ⟨rfl,rfl,rfl,trivial⟩,ah,H⟩
 rintro aF σ aG ⟨i,ρ,rfl,aq,H⟩
 obtain ⟨aw,ax,aH,hM,ai⟩:=M.e_iterN aq
 simp only [zbZ] at hM
 clear aq
 have aI:=(ao).len_le
 refine kg 8 ?_
 refine W.cond (decide ((i:Int)<(a.length:Int))) rfl (fun ab=>?_) (fun ab=>?_)
 ·replace hM:=M.e_t hM ab
  replace ab:=dI ab
  refine kg 4 ?_;refine W.draw (fun W=>St w W [] R) [(0,true),(1,true),(2,true),(3,true),(4,true),(5,true),(6,true),(7,true),(8,true)] mixed (by decide +kernel) rfl ?_;intro aJ ar;replace H:=H.ext ar;clear ar
  refine ⟨(H.pk []),?_⟩
  obtain ⟨aK,hM⟩:=M.e_gd hM;obtain ⟨aL,hM⟩:=M.e_gd hM;refine kg 8 ?_;refine d_q rfl (fun w' H=>x_neS (eqT34 (a.getD i default) (b.getD i default) _) gdT34 rfl rfl) ?_;refine d_nil ?_
  refine W.cond (!(decide ((a.getD i default)=(b.getD i default)))) rfl (fun aj=>?_) (fun aj=>?_)
  ·replace hM:=M.e_t hM aj;refine kg 4 ?_;refine W.ret ?_
   have ay:=M.e_inr hM ai
   subst ay;replace hM:=ap;(try dsimp only at hM)
   have ac:=M.e_pure hM
   exact ⟨_,resE_tmp rfl,⟨false,ac,rfl,H⟩⟩
  replace hM:=M.e_f hM aj;refine kg 6 ?_
  exact ⟨aw,ax,i+1,_,upds_of _ _ ⟨rfl,rfl,rfl,trivial⟩,M.e_inl hM ai,H⟩
 replace hM:=M.e_f hM ab
 replace ab:=dI ab
 refine W.exit ?_
 have az:=M.e_inr hM ai
 subst az;replace hM:=ap;(try dsimp only at hM);refine kg 4 ?_;refine W.ret ?_
 have ac:=M.e_pure hM
 exact ⟨_,resE_tmp rfl,⟨true,ac,rfl,H⟩⟩

def zaZ (aa:Int) (ac:List Line) (ab:Int) (ae:List Line):M Bool :=
  M.bind (M.opt (aa==ab) (zbE ac ae) false) fun r2 =>
  M.pure ((aa==ab)&&r2)
theorem zaA {R:List Chunk} {aj:Cells} {aa:Value} {al:Cells} {ab:Value} (ac:Int) (ag:List Line) (ae:Int) (ah:List Line) (am:Reads R aj) (ao:Sl aj aa ag) (ap:Reads R al) (aq:Sl al ab ah) {r:Bool} (hM:(zaZ ac ag ae ah).Ends r) (w:World) (H:St w w [] R):Ret Tryz.prog 21 #[.agg #[I ac,aa],.agg #[I ae,ab]] w fun v w'=>∃ (y0:Bool),y0=r/\v=B y0/\St w w' [] R:=by
 refine ret_of_W Tryz.func21 rfl rfl rfl ?_;refine kg 2 ?_;refine t_bx [I ac,aa] H rfl ?_;intro av aw H;refine t_bx [I ae,ab] H rfl ?_;intro ax ay H;refine kg 14 ?_;obtain ⟨r2,ar,hM⟩:=M.e_bind hM;refine t_gcall (ac==ae) (gy_t rfl) cf56 (B r2) (fun _=>[aa,ab]) (fun hg=>lst2 (gd_of hg (aa)) (gd_of hg (ab))) H (fun hg=>(zdZ ag ah (am.app _) ao (ap.app _) aq (M.e_opt ar hg) _ (H.give (A:=[]) rfl)).mono fun v_ w_ ⟨y_,ai,au,H_⟩=>by subst ai; exact ⟨au,H.via H_⟩) ?_;intro az H;refine kg 3 ?_;refine W.ret ?_
 have ai:=M.e_pure hM
 exact ⟨_,resE_tmp rfl,⟨((ac==ae)&&r2),ai,rfl,(H.pk [])⟩⟩

def zbw (a b:List Int):Nat->M (Nat ⊕ (Unit ⊕ Unit)):=fun i =>
  bif decide ((i:Int)<(a.length:Int)) then (
  M.grd (decide ((i:Int)<(a.length:Int))) <|
  M.grd (decide ((i:Int)<(b.length:Int))) <|
  bif (a.getD i 0) != (b.getD i 0) then (
  M.pure (.inr (.inl ())))
  else (
  M.pure (.inl (i+1))))
  else (
  M.pure (.inr (.inr ())))
def zb3 (a b:List Int):M Bool :=
  bif (a.length:Int) != (b.length:Int) then (
  M.pure false)
  else (
  M.bind (M.iter (zbw a b) 0) fun x_=>match x_ with
  | (.inl (_:Unit))=>(
  M.pure false)
  | (.inr (_:Unit))=>(
  M.pure true))
theorem zdT {R:List Chunk} {al:Cells} {ag:Value} {am:Cells} {ah:Value} (a:List Int) (b:List Int) (aA:Reads R al) (ao:Sl al ag a) (aB:Reads R am) (au:Sl am ah b) {r:Bool} (hM:(zb3 a b).Ends r) (w:World) (H:St w w [] R):Ret Tryz.prog 22 #[ag,ah] w fun v w'=>∃ (y0:Bool),y0=r/\v=B y0/\St w w' [] R:=by
 refine ret_of_W Tryz.func22 rfl rfl rfl ?_
 have aC:=(ao).len_le
 have aD:=(au).len_le
 refine kg 13 ?_
 refine W.cond ((a.length:Int) != (b.length:Int)) rfl (fun aa=>?_) (fun aa=>?_)
 ·replace hM:=M.e_t hM aa
  replace aa:=dI aa
  refine kg 4 ?_;refine W.ret ?_
  have ae:=M.e_pure hM
  exact ⟨_,resE_tmp rfl,⟨false,ae,rfl,H⟩⟩
 replace hM:=M.e_f hM aa
 replace aa:=dI aa
 refine kg 7 ?_;obtain ⟨av,ai,ap⟩:=M.e_bind hM
 obtain ⟨aE,ai⟩:=M.e_iter ai
 refine W.loop (fun m σ W=>∃ (i:Nat) (ρ:Env),σ=upds ρ [(0,ag),(1,ah),(5,I (i:Int))]/\M.iterN (zbw a b) m i=some av/\St w W [] R) ?_ ?_
 ·exact ⟨_,0,_,upds_of _ _ ⟨rfl,rfl,rfl,trivial⟩,ai,H⟩
 rintro aF σ aG ⟨i,ρ,rfl,aq,H⟩
 obtain ⟨aw,ax,aH,hM,aj⟩:=M.e_iterN aq
 simp only [zbw] at hM
 clear aq
 have aI:=(ao).len_le
 refine kg 8 ?_
 refine W.cond (decide ((i:Int)<(a.length:Int))) rfl (fun ab=>?_) (fun ab=>?_)
 ·replace hM:=M.e_t hM ab
  replace ab:=dI ab
  refine kg 4 ?_;refine W.draw (fun W=>St w W [] R) [(0,true),(1,true),(2,true),(3,true),(4,true),(5,true),(6,true),(7,true),(8,true)] mixed (by decide +kernel) rfl ?_;intro aJ ar;replace H:=H.ext ar;clear ar
  refine ⟨(H.pk []),?_⟩
  obtain ⟨aK,hM⟩:=M.e_gd hM;obtain ⟨aL,hM⟩:=M.e_gd hM;refine kg 10 ?_
  refine W.cond ((a.getD i 0) != (b.getD i 0)) rfl (fun ac=>?_) (fun ac=>?_)
  ·replace hM:=M.e_t hM ac
   replace ac:=dI ac
   refine kg 4 ?_;refine W.ret ?_
   have ay:=M.e_inr hM aj
   subst ay;replace hM:=ap;(try dsimp only at hM)
   have ae:=M.e_pure hM
   exact ⟨_,resE_tmp rfl,⟨false,ae,rfl,H⟩⟩
  replace hM:=M.e_f hM ac
  replace ac:=dI ac
  refine kg 6 ?_
  exact ⟨aw,ax,i+1,_,upds_of _ _ ⟨rfl,rfl,rfl,trivial⟩,M.e_inl hM aj,H⟩
 replace hM:=M.e_f hM ab
 replace ab:=dI ab
 refine W.exit ?_
 have az:=M.e_inr hM aj
 subst az;replace hM:=ap;(try dsimp only at hM);refine kg 4 ?_;refine W.ret ?_
 have ae:=M.e_pure hM
 exact ⟨_,resE_tmp rfl,⟨true,ae,rfl,H⟩⟩

def zbk (n_Marks:Int) (n_Lines:List Line) (heights:List Int) (r0:Int) (r1:List Line) (r3:List Int):M Bool :=
  M.bind (zaZ r0 r1 n_Marks n_Lines) fun r6 =>
  M.bind (M.opt r6 (zb3 r3 heights) false) fun r7 =>
  M.bind (M.opt (r6&&r7) (zax) false) fun r8 =>
  M.pure ((r6&&r7)&&r8)
def zaW (n_Marks:Int) (n_Lines:List Line) (heights:List Int) (r0:Int) (r1:List Line) (r3:List Int) (s:Int):M Bool :=
  M.bind (zbe r0 r1) fun (aa,ab) =>
  bif ((ab != s)||((ab != 0)&&(decide (0<(aa.length:Int))))) then (
  M.pure false)
  else (
  bif ab==0 then (
  M.bind (zad n_Marks n_Lines) fun (ag,ah) =>
  M.bind (zca ag ah aa) fun (ac,ae) =>
  M.grd ((!(!(((ae != 0)||(ac != (-1)))||((aa.length:Int)==0)))||(decide (0<(aa.length:Int))))) <|
  bif ((((ae != 0)||(ac != (-1)))||((aa.length:Int)==0))||((aa.getD 0 0) != 0)) then (
  M.pure false)
  else (
  zbk n_Marks n_Lines heights r0 r1 r3))
  else (
  zbk n_Marks n_Lines heights r0 r1 r3))
def zaP (n_Marks:Int) (n_Lines:List Line) (heights:List Int):M Bool :=
  bif ((decide (35<(n_Lines.length:Int)))||(decide (20<(heights.length:Int)))) then (
  M.bind (zax) fun r2 =>
  M.pure r2)
  else (
  M.bind (za2 n_Marks n_Lines) fun (r0,r1) =>
  M.bind (zcv heights) fun r3 =>
  M.bind (zak r0 r1) fun r4 =>
  M.bind (zad n_Marks n_Lines) fun (ac,ae) =>
  M.bind (zan ac ae) fun r5 =>
  bif r4 != r5 then (
  M.pure false)
  else (
  M.bind (zaY r0 r1) fun (ag,ah) =>
  M.bind (zad n_Marks n_Lines) fun (ai,aj) =>
  M.bind (zbj ai aj) fun (ab,aa) =>
  bif ((ag != ab)||(ah != aa)) then (
  M.pure false)
  else (
  M.bind (zcM r0 r1 r3) fun (al,am) =>
  M.bind (zad n_Marks n_Lines) fun (ao,ap) =>
  M.bind (zca ao ap heights) fun (aq,ar) =>
  bif ((al != aq)||(am != ar)) then (
  M.pure false)
  else (
  bif ((aa==0)&&(!ab)) then (
  zaW n_Marks n_Lines heights r0 r1 r3 7)
  else (
  zaW n_Marks n_Lines heights r0 r1 r3 aa)))))
theorem zcJ {R:List Chunk} {aN:Cells} {ae:Value} {aO:Cells} {ag:Value} (n_Marks:Int) (n_Lines:List Line) (heights:List Int) (am:Reads R aN) (ai:Sl aN ae n_Lines) (av:Reads R aO) (ar:Sl aO ag heights) {r:Bool} (hM:(zaP n_Marks n_Lines heights).Ends r) (w:World) (H:St w w [] R):Ret Tryz.prog 5 #[.agg #[I n_Marks,ae],ag] w fun v w'=>∃ (y0:Bool),y0=r/\v=B y0/\St w w' [] R:=by
 refine ret_of_W Tryz.func5 rfl rfl rfl ?_;refine kg 2 ?_;refine t_bx [I n_Marks,ae] H rfl ?_;intro ao bE H
 have bF:=(ai).len_le
 have bG:=(ar).len_le
 refine kg 15 ?_
 refine W.cond ((decide (35<(n_Lines.length:Int)))||(decide (20<(heights.length:Int)))) rfl (fun aw=>?_) (fun aw=>?_)
 ·replace hM:=M.e_t hM aw;refine kg 2 ?_;obtain ⟨bH,aV,hM⟩:=M.e_bind hM;refine s_call cf11 [] rfl (zau aV _ (H.gt 1)) ?_
  rintro vq bI ⟨r2,rfl,hvq,aa⟩
  subst vq;(try dsimp only at hM);replace H:=H.bk aa;clear aa;refine kg 2 ?_;refine W.ret ?_
  have ab:=M.e_pure hM
  exact ⟨_,resE_tmp rfl,⟨r2,ab,rfl,(H.pk [])⟩⟩
 replace hM:=M.e_f hM aw;refine kg 4 ?_;obtain ⟨bJ,aW,hM⟩:=M.e_bind hM;refine s_call cf12 [.agg #[I n_Marks,ae]] rfl (zcX n_Marks n_Lines (am.app _) ai aW _ (H.gt 1)) ?_
 rintro vq bK ⟨r0,r1,ac,rfl,hvq,aa⟩
 subst vq;(try dsimp only at hM);replace H:=H.bk aa;clear aa;refine kg 1 ?_;obtain ⟨bL,aX,hM⟩:=M.e_bind hM;refine s_call cf13 [ag] rfl (zdN heights (av.app _) ar aX _ (H.gt 2)) ?_
 rintro vq bM ⟨r3,ah,rfl,hvq,aa⟩
 subst vq;(try dsimp only at hM);replace H:=H.bk aa;clear aa;refine t_alloc (cs:=[I 0,.slice none 0 0]) H Al25 rfl ?_;intro ap bN H;refine t_sw 0 0 [I r0,ac] (.agg #[I r0,ac]) H rfl rfl Sz25 rfl rfl rfl (by simp only [List.all_cons,List.all_nil,Bool.true_and,Bool.and_true,Sl.oc (H.os 2)]; try rfl) ?_;intro bO H;refine kg 4 ?_;refine W.draw (fun W=>St w W [cBlk ap [I r0,ac] 25,cOwn (α:=Int) 3 ah r3,cOwn (α:=Line) 34 ac r1,cBlk ao [I n_Marks,ae] 25] R) [(0,true),(2,true),(1,false),(3,false),(4,false),(5,true)] mixed (by decide +kernel) rfl ?_;intro bP aP;replace H:=H.ext aP;clear aP
 refine ⟨(H.pk [0,1,2,3]),?_⟩
 refine kg 2 ?_;refine d_l rfl ?_;obtain ⟨bQ,aY,hM⟩:=M.e_bind hM;refine s_call cf8 [.agg #[I r0,ac]] rfl (zaC r0 r1 (rdo 2) (H.os 2) aY _ (H.gt 4)) ?_
 rintro vq bR ⟨r4,rfl,hvq,aa⟩
 subst vq;(try dsimp only at hM);replace H:=H.bk aa;clear aa
 refine s_nil ⟨(H.pk [0,1,2,3]),?_⟩
 refine d_l rfl ?_;obtain ⟨bS,aZ,hM⟩:=M.e_bind hM;refine s_call cf15 [.agg #[I n_Marks,ae]] rfl (zac n_Marks n_Lines (am.app _) ai aZ _ (H.gt 4)) ?_
 rintro vq bT ⟨aQ,ax,ay,rfl,hvq,aa⟩
 subst vq;(try dsimp only at hM);replace H:=H.bk aa;clear aa
 have bU:=Sl.cells (H.os 0)
 have bV:=Sl.oc (H.os 0)
 refine s_nil ⟨(H.pk [1,2,3,4]),?_⟩
 refine d_l rfl ?_;obtain ⟨bW,a7,hM⟩:=M.e_bind hM;refine s_call cf14 [.agg #[I aQ,ay]] rfl (zaJ aQ ax (rdo 0) (H.os 0) a7 _ (H.gt 5)) ?_
 rintro vq bX ⟨r5,rfl,hvq,aa⟩
 subst vq;(try dsimp only at hM);replace H:=H.bk aa;clear aa
 refine s_nil ⟨(H.pk [1,2,3,4]),?_⟩
 refine kg 2 ?_
 refine W.cond (r4 != r5) rfl (fun aj=>?_) (fun aj=>?_)
 ·replace hM:=M.e_t hM aj
  replace aj:=dI aj
  refine kg 4 ?_;refine W.ret ?_
  have ab:=M.e_pure hM
  exact ⟨_,resE_tmp rfl,⟨false,ab,rfl,(H.pk [])⟩⟩
 replace hM:=M.e_f hM aj
 replace aj:=dI aj
 refine kg 4 ?_;obtain ⟨bY,a8,hM⟩:=M.e_bind hM;refine s_call cf16 [.agg #[I r0,ac]] rfl (zc9 r0 r1 (rdo 3) (H.os 3) a8 _ (H.gt 5)) ?_
 rintro vq bZ ⟨az,ba,rfl,hvq,aa⟩
 subst vq;(try dsimp only at hM);replace H:=H.bk aa;clear aa;refine kg 9 ?_;obtain ⟨b0,bb,hM⟩:=M.e_bind hM;refine s_call cf15 [.agg #[I n_Marks,ae]] rfl (zac n_Marks n_Lines (am.app _) ai bb _ (H.gt 5)) ?_
 rintro vq b7 ⟨aR,aA,aB,rfl,hvq,aa⟩
 subst vq;(try dsimp only at hM);replace H:=H.bk aa;clear aa;obtain ⟨b8,bc,hM⟩:=M.e_bind hM;refine s_call cf17 [.agg #[I aR,aB]] rfl (zdj aR aA (rdo 0) (H.os 0) bc _ (H.gt 6)) ?_
 rintro vq b9 ⟨au,aC,rfl,hvq,aa⟩
 subst vq;(try dsimp only at hM);replace H:=H.bk aa;clear aa;refine kg 11 ?_;refine s_val (x_eqb (a:=az) (b:=au) (r:=(az != au)) rfl rfl Tryz.underlying4 rfl) ?_;refine kg 6 ?_
 refine W.cond ((az != au)||(ba != aC)) rfl (fun aD=>?_) (fun aD=>?_)
 ·replace hM:=M.e_t hM aD;refine kg 4 ?_;refine W.ret ?_
  have ab:=M.e_pure hM
  exact ⟨_,resE_tmp rfl,⟨false,ab,rfl,(H.pk [])⟩⟩
 replace hM:=M.e_f hM aD;refine kg 5 ?_;obtain ⟨ca,bg,hM⟩:=M.e_bind hM;refine s_call cf18 [.agg #[I r0,ac],ah] rfl (zdn r0 r1 r3 (rdo 4) (H.os 4) (rdo 3) (H.os 3) bg _ (H.gt 6)) ?_
 rintro vq cb ⟨bh,bi,rfl,hvq,aa⟩
 subst vq;(try dsimp only at hM);replace H:=H.bk aa;clear aa;refine kg 9 ?_;obtain ⟨cd,bj,hM⟩:=M.e_bind hM;refine s_call cf15 [.agg #[I n_Marks,ae]] rfl (zac n_Marks n_Lines (am.app _) ai bj _ (H.gt 6)) ?_
 rintro vq ce ⟨aS,aE,aF,rfl,hvq,aa⟩
 subst vq;(try dsimp only at hM);replace H:=H.bk aa;clear aa;refine kg 1 ?_;obtain ⟨cf,bn,hM⟩:=M.e_bind hM;refine s_call cf19 [.agg #[I aS,aF],ag] rfl (zdc aS aE heights (rdo 0) (H.os 0) (av.app _) ar bn _ (H.gt 7)) ?_
 rintro vq cg ⟨bp,br,rfl,hvq,aa⟩
 subst vq;(try dsimp only at hM);replace H:=H.bk aa;clear aa;refine kg 18 ?_
 refine W.cond ((bh != bp)||(bi != br)) rfl (fun aG=>?_) (fun aG=>?_)
 ·replace hM:=M.e_t hM aG;refine kg 4 ?_;refine W.ret ?_
  have ab:=M.e_pure hM
  exact ⟨_,resE_tmp rfl,⟨false,ab,rfl,(H.pk [])⟩⟩
 replace hM:=M.e_f hM aG;refine W.skip ?_;refine W.seqJ (fun σ W=>∃ (s:Int) (ρ:Env),σ=upds ρ [(1,ag),(2,Pq ao),(5,Pq ap),(6,ah),(10,I s)]/\(zaW n_Marks n_Lines heights r0 r1 r3 s).Ends r/\St w W [cOwn (α:=Line) 106 aF aE,cOwn (α:=Line) 106 aB aA,cOwn (α:=Line) 106 ay ax,cBlk ap [I r0,ac] 25,cOwn (α:=Int) 3 ah r3,cOwn (α:=Line) 34 ac r1,cBlk ao [I n_Marks,ae] 25] R) ?_ ?_
 ·skip
  refine kg 9 ?_
  refine W.cond ((aC==0)&&(!au)) rfl (fun aH=>?_) (fun aH=>?_)
  ·replace hM:=M.e_t hM aH;refine kg 3 ?_
   exact ⟨7,_,upds_of _ _ ⟨rfl,rfl,rfl,rfl,rfl,trivial⟩,hM,H⟩
  replace hM:=M.e_f hM aH;refine W.skip ?_
  exact ⟨aC,_,upds_of _ _ ⟨rfl,rfl,rfl,rfl,rfl,trivial⟩,hM,H⟩
 rintro _ ch ⟨s,ρ,rfl,hM,H⟩
 unfold zaW at hM
 refine kg 3 ?_;obtain ⟨ci,bt,hM⟩:=M.e_bind hM;refine s_call cf20 [.agg #[I r0,ac]] rfl (zdV r0 r1 (rdo 5) (H.os 5) bt _ (H.gt 7)) ?_
 rintro vq cj ⟨aq,aI,aT,rfl,hvq,aa⟩
 subst vq;(try dsimp only at hM);replace H:=H.bk aa;clear aa;refine kg 22 ?_
 refine W.cond ((aI != s)||((aI != 0)&&(decide (0<(aq.length:Int))))) rfl (fun aJ=>?_) (fun aJ=>?_)
 ·replace hM:=M.e_t hM aJ;refine kg 4 ?_;refine W.ret ?_
  have ab:=M.e_pure hM
  exact ⟨_,resE_tmp rfl,⟨false,ab,rfl,(H.pk [])⟩⟩
 replace hM:=M.e_f hM aJ;refine W.skip ?_;refine W.seqJ (fun σ W=>∃ (ρ:Env),σ=upds ρ [(1,ag),(2,Pq ao),(5,Pq ap),(6,ah)]/\(zbk n_Marks n_Lines heights r0 r1 r3).Ends r/\St w W [cOwn (α:=Int) 3 aT aq,cOwn (α:=Line) 106 aF aE,cOwn (α:=Line) 106 aB aA,cOwn (α:=Line) 106 ay ax,cBlk ap [I r0,ac] 25,cOwn (α:=Int) 3 ah r3,cOwn (α:=Line) 34 ac r1,cBlk ao [I n_Marks,ae] 25] R) ?_ ?_
 ·skip
  refine kg 5 ?_
  refine W.cond (aI==0) rfl (fun al=>?_) (fun al=>?_)
  ·replace hM:=M.e_t hM al
   replace al:=dI al
   refine kg 3 ?_;obtain ⟨ck,bu,hM⟩:=M.e_bind hM;refine s_call cf15 [.agg #[I n_Marks,ae]] rfl (zac n_Marks n_Lines (am.app _) ai bu _ (H.gt 8)) ?_
   rintro vq cm ⟨aU,bv,bw,rfl,hvq,aa⟩
   subst vq;(try dsimp only at hM);replace H:=H.bk aa;clear aa;refine kg 1 ?_;obtain ⟨cn,bx,hM⟩:=M.e_bind hM;refine s_call cf19 [.agg #[I aU,bw],aT] rfl (zdc aU bv aq (rdo 0) (H.os 0) (rdo 1) (H.os 1) bx _ (H.gt 9)) ?_
   rintro vq co ⟨bz,bA,rfl,hvq,aa⟩
   subst vq;(try dsimp only at hM);replace H:=H.bk aa;clear aa;obtain ⟨aK,hM⟩:=M.e_grd hM
   replace aK:=M.imp_of aK
   simp only [Bool.and_eq_true,decide_eq_true_eq] at aK
   refine kg 26 ?_
   refine W.cond ((((bA != 0)||(bz != (-1)))||((aq.length:Int)==0))||((aq.getD 0 0) != 0)) rfl (fun aL=>?_) (fun aL=>?_)
   ·replace hM:=M.e_t hM aL;refine kg 4 ?_;refine W.ret ?_
    have ab:=M.e_pure hM
    exact ⟨_,resE_tmp rfl,⟨false,ab,rfl,(H.pk [])⟩⟩
   replace hM:=M.e_f hM aL;refine W.skip ?_
   exact ⟨_,upds_of _ _ ⟨rfl,rfl,rfl,rfl,trivial⟩,hM,(H.pk [1,2,3,4,5,6,7,8])⟩
  replace hM:=M.e_f hM al
  replace al:=dI al
  refine W.skip ?_
  exact ⟨_,upds_of _ _ ⟨rfl,rfl,rfl,rfl,trivial⟩,hM,H⟩
 rintro _ cp ⟨ρ,rfl,hM,H⟩
 unfold zbk at hM
 refine kg 4 ?_;obtain ⟨cq,bB,hM⟩:=M.e_bind hM;refine s_call cf21 [.agg #[I r0,ac],.agg #[I n_Marks,ae]] rfl (zaA r0 r1 n_Marks n_Lines (rdo 6) (H.os 6) (am.app _) ai bB _ (H.gt 8)) ?_
 rintro vq cr ⟨r6,rfl,hvq,aa⟩
 subst vq;(try dsimp only at hM);replace H:=H.bk aa;clear aa;refine kg 3 ?_;obtain ⟨r7,bC,hM⟩:=M.e_bind hM;refine t_gcall r6 (gy_t rfl) cf22 (B r7) (fun _=>[ah,ag]) (fun hg=>lst2 (gd_of hg (ah)) (gd_of hg (ag))) H (fun hg=>(zdT r3 heights (rdo 5) (H.os 5) (av.app _) ar (M.e_opt bC hg) _ (H.give (A:=[]) rfl)).mono fun v_ w_ ⟨y_,ab,aM,H_⟩=>by subst ab; exact ⟨aM,H.via H_⟩) ?_;intro ct H;refine kg 2 ?_;obtain ⟨r8,bD,hM⟩:=M.e_bind hM;refine t_gcall (r6&&r7) (gy_t rfl) cf11 (B r8) (fun _=>[]) (fun _=>rfl) H (fun hg=>(zau (M.e_opt bD hg) _ (H.give (A:=[]) rfl)).mono fun v_ w_ ⟨y_,ab,aM,H_⟩=>by subst ab; exact ⟨aM,H.via H_⟩) ?_;intro cu H;refine kg 3 ?_;refine W.ret ?_
 have ab:=M.e_pure hM
 exact ⟨_,resE_tmp rfl,⟨((r6&&r7)&&r8),ab,rfl,(H.pk [])⟩⟩

end Go.Proofs.YtfdgkdkfbaghpaaGreat
end
section
set_option maxRecDepth 100000
set_option maxHeartbeats 16000000
namespace Go.Proofs.YtfdgkdkfbaghpaaGreat
open Go Go.Nm
attribute [local irreducible] gd execOp SL SLD SLT WR
def zba (n_Marks:Int) (n_Lines:List Line) (m_:Mv):M (Int × (List Line) × Int) :=
  M.bind (zak n_Marks n_Lines) fun r2 =>
  bif r2 != 0 then (
  M.pure (0,([]),r2))
  else (
  M.grd (decide ((-9223372036854775808:Int)<=(n_Marks-1))&&decide ((n_Marks-1)<=(9223372036854775807:Int))) <|
  M.bind (zae m_.mark 0 (n_Marks-1)) fun r3 =>
  bif !r3 then (
  M.pure (0,([]),2))
  else (
  M.bind (zae m_.day 1 40000) fun r4 =>
  bif !r4 then (
  M.pure (0,([]),4))
  else (
  bif n_Marks==12 then (
  M.pure (0,([]),3))
  else (
  M.bind (zaK n_Marks n_Lines m_) fun (r0,r1) =>
  M.pure (r0,r1,0)))))
theorem zdg {R:List Chunk} {al:Cells} {ah:Value} (n_Marks:Int) (n_Lines:List Line) (m_:Mv) (am:Reads R al) (ao:Sl al ah n_Lines) {r:(Int × (List Line) × Int)} (hM:(zba n_Marks n_Lines m_).Ends r) (w:World) (H:St w w [] R):Ret Tryz.prog 10 #[.agg #[I n_Marks,ah],.agg #[I m_.mark,I m_.day]] w fun v w'=>∃ (y0:Int) (y1:List Line) (y2:Int) (u0:Value),(y0,y1,y2)=r/\v = .tuple #[.agg #[I y0,u0],I y2]/\St w w' [cOwn (α:=Line) 34 u0 y1] R:=by
 refine ret_of_W Tryz.func10 rfl rfl rfl ?_;refine kg 2 ?_;refine t_bx [I n_Marks,ah] H rfl ?_;intro aA aB H;refine t_bx [I m_.mark,I m_.day] H rfl ?_;intro aC aD H;refine t_alloc (cs:=[I 0,.slice none 0 0]) H Al25 rfl ?_;intro aE aF H;refine kg 5 ?_;obtain ⟨aG,ap,hM⟩:=M.e_bind hM;refine s_call cf8 [.agg #[I n_Marks,ah]] rfl (zaC n_Marks n_Lines (am.app _) ao ap _ (H.gt 3)) ?_
 rintro vq aH ⟨r2,rfl,hvq,aa⟩
 subst vq;(try dsimp only at hM);replace H:=H.bk aa;clear aa;refine kg 10 ?_
 refine W.cond (r2 != 0) rfl (fun ac=>?_) (fun ac=>?_)
 ·replace hM:=M.e_t hM ac
  replace ac:=dI ac
  refine kg 2 ?_;refine s_val (x_bld (ps:=[]) (zs:=[I 0,.slice none 0 0]) (L':=[I 0,.slice none 0 0]) rfl Tryz.underlying25 Al25 rfl (Bd25 Tryz.underlying25) (.nil)) ?_;refine kg 1 ?_;refine t_sw 0 0 [I 0,.slice none 0 0] (.agg #[I 0,.slice none 0 0]) H rfl rfl Sz25 rfl rfl rfl rfl ?_;intro aI H;refine kg 2 ?_;refine W.ret ?_
  have aq:=(H.bl 0)
  have ab:=M.e_pure hM
  replace H:=H.nilOwn (α:=Line) 34
  exact ⟨_,(resE_ofn (vs:=[.agg #[I 0,.slice none 0 0],I r2]) rfl rfl (.cell (v:=.agg #[I 0,.slice none 0 0]) rfl (run_loadVar_ag (ds:=[I 0,.slice none 0 0]) Ag25 Sz25 aq rfl rfl)<|.tmp (v:=I r2) rfl<|.nil)),⟨0,([]),r2,(.slice none 0 0),ab,rfl,(H.pk [0])⟩⟩
 replace hM:=M.e_f hM ac
 replace ac:=dI ac
 obtain ⟨aJ,hM⟩:=M.e_gd hM;refine kg 7 ?_;obtain ⟨aK,ar,hM⟩:=M.e_bind hM;refine s_call cf39 [I m_.mark,I 0,I (n_Marks-1)] rfl (zah m_.mark 0 (n_Marks-1) ar _ (H.gt 3)) ?_
 rintro vq aL ⟨r3,rfl,hvq,aa⟩
 subst vq;(try dsimp only at hM);replace H:=H.bk aa;clear aa;refine kg 3 ?_
 refine W.cond (!r3) rfl (fun ai=>?_) (fun ai=>?_)
 ·replace hM:=M.e_t hM ai;refine kg 2 ?_;refine s_val (x_bld (ps:=[]) (zs:=[I 0,.slice none 0 0]) (L':=[I 0,.slice none 0 0]) rfl Tryz.underlying25 Al25 rfl (Bd25 Tryz.underlying25) (.nil)) ?_;refine t_sw 0 0 [I 0,.slice none 0 0] (.agg #[I 0,.slice none 0 0]) H rfl rfl Sz25 rfl rfl rfl rfl ?_;intro aM H;refine kg 2 ?_;refine W.ret ?_
  have au:=(H.bl 0)
  have ab:=M.e_pure hM
  replace H:=H.nilOwn (α:=Line) 34
  exact ⟨_,(resE_ofn (vs:=[.agg #[I 0,.slice none 0 0],I 2]) rfl rfl (.cell (v:=.agg #[I 0,.slice none 0 0]) rfl (run_loadVar_ag (ds:=[I 0,.slice none 0 0]) Ag25 Sz25 au rfl rfl)<|.tmp (v:=I 2) rfl<|.nil)),⟨0,([]),2,(.slice none 0 0),ab,rfl,(H.pk [0])⟩⟩
 replace hM:=M.e_f hM ai;refine kg 4 ?_;obtain ⟨aN,av,hM⟩:=M.e_bind hM;refine s_call cf39 [I m_.day,I 1,I 40000] rfl (zah m_.day 1 40000 av _ (H.gt 3)) ?_
 rintro vq aO ⟨r4,rfl,hvq,aa⟩
 subst vq;(try dsimp only at hM);replace H:=H.bk aa;clear aa;refine kg 3 ?_
 refine W.cond (!r4) rfl (fun aj=>?_) (fun aj=>?_)
 ·replace hM:=M.e_t hM aj;refine kg 2 ?_;refine s_val (x_bld (ps:=[]) (zs:=[I 0,.slice none 0 0]) (L':=[I 0,.slice none 0 0]) rfl Tryz.underlying25 Al25 rfl (Bd25 Tryz.underlying25) (.nil)) ?_;refine t_sw 0 0 [I 0,.slice none 0 0] (.agg #[I 0,.slice none 0 0]) H rfl rfl Sz25 rfl rfl rfl rfl ?_;intro aP H;refine kg 2 ?_;refine W.ret ?_
  have aw:=(H.bl 0)
  have ab:=M.e_pure hM
  replace H:=H.nilOwn (α:=Line) 34
  exact ⟨_,(resE_ofn (vs:=[.agg #[I 0,.slice none 0 0],I 4]) rfl rfl (.cell (v:=.agg #[I 0,.slice none 0 0]) rfl (run_loadVar_ag (ds:=[I 0,.slice none 0 0]) Ag25 Sz25 aw rfl rfl)<|.tmp (v:=I 4) rfl<|.nil)),⟨0,([]),4,(.slice none 0 0),ab,rfl,(H.pk [0])⟩⟩
 replace hM:=M.e_f hM aj;refine kg 7 ?_
 refine W.cond (n_Marks==12) rfl (fun ae=>?_) (fun ae=>?_)
 ·replace hM:=M.e_t hM ae
  replace ae:=dI ae
  refine kg 2 ?_;refine s_val (x_bld (ps:=[]) (zs:=[I 0,.slice none 0 0]) (L':=[I 0,.slice none 0 0]) rfl Tryz.underlying25 Al25 rfl (Bd25 Tryz.underlying25) (.nil)) ?_;refine t_sw 0 0 [I 0,.slice none 0 0] (.agg #[I 0,.slice none 0 0]) H rfl rfl Sz25 rfl rfl rfl rfl ?_;intro aQ H;refine kg 2 ?_;refine W.ret ?_
  have ax:=(H.bl 0)
  have ab:=M.e_pure hM
  replace H:=H.nilOwn (α:=Line) 34
  exact ⟨_,(resE_ofn (vs:=[.agg #[I 0,.slice none 0 0],I 3]) rfl rfl (.cell (v:=.agg #[I 0,.slice none 0 0]) rfl (run_loadVar_ag (ds:=[I 0,.slice none 0 0]) Ag25 Sz25 ax rfl rfl)<|.tmp (v:=I 3) rfl<|.nil)),⟨0,([]),3,(.slice none 0 0),ab,rfl,(H.pk [0])⟩⟩
 replace hM:=M.e_f hM ae
 replace ae:=dI ae
 refine kg 5 ?_;obtain ⟨aR,ay,hM⟩:=M.e_bind hM;refine s_call cf43 [.agg #[I n_Marks,ah],.agg #[I m_.mark,I m_.day]] rfl (zdf n_Marks n_Lines m_ (am.app _) ao ay _ (H.gt 3)) ?_
 rintro vq aS ⟨r0,r1,ag,rfl,hvq,aa⟩
 subst vq;(try dsimp only at hM);replace H:=H.bk aa;clear aa;refine t_sw 1 0 [I r0,ag] (.agg #[I r0,ag]) H rfl rfl Sz25 rfl rfl rfl (by simp only [List.all_cons,List.all_nil,Bool.true_and,Bool.and_true,Sl.oc (H.os 0)]; try rfl) ?_;intro aT H;refine kg 2 ?_;refine W.ret ?_
 have az:=(H.bl 1)
 have ab:=M.e_pure hM
 exact ⟨_,(resE_ofn (vs:=[.agg #[I r0,ag],I 0]) rfl rfl (.cell (v:=.agg #[I r0,ag]) rfl (run_loadVar_ag (ds:=[I r0,ag]) Ag25 Sz25 az rfl rfl)<|.tmp (v:=I 0) rfl<|.nil)),⟨r0,r1,0,ag,ab,rfl,(H.pk [0])⟩⟩

def zal (n_Marks:Int) (m_:Mv):((List Line) × Nat)->M (((List Line) × Nat) ⊕ ((List Line) × (List Line))):=fun (l,i) =>
  bif decide ((i:Int)<(l.length:Int)) then (
  M.grd (decide ((i:Int)<(l.length:Int))) <|
  bif ((decide (m_.day<=((l.getD i default).day)))&&(((l.getD i default).src)==m_.mark)) then (
  M.grd (decide ((i:Int)<((l.set i ({ (l.getD i default) with src:=n_Marks })).length:Int))) <|
  bif ((decide (m_.day<=(((l.set i ({ (l.getD i default) with src:=n_Marks })).getD i default).day)))&&((((l.set i ({ (l.getD i default) with src:=n_Marks })).getD i default).dst)==m_.mark)) then (
  M.pure (.inl ((l.set i ({ (l.getD i default) with src:=n_Marks })).set i ({ ((l.set i ({ (l.getD i default) with src:=n_Marks })).getD i default) with dst:=n_Marks }),i+1)))
  else (
  M.pure (.inl (l.set i ({ (l.getD i default) with src:=n_Marks }),i+1))))
  else (
  M.grd (decide ((i:Int)<(l.length:Int))) <|
  bif ((decide (m_.day<=((l.getD i default).day)))&&(((l.getD i default).dst)==m_.mark)) then (
  M.pure (.inl (l.set i ({ (l.getD i default) with dst:=n_Marks }),i+1)))
  else (
  M.pure (.inl (l,i+1)))))
  else (
  M.pure (.inr (l,l)))
def zaV (n_Marks:Int) (n_Lines:List Line) (m_:Mv):M (Int × (List Line)) :=
  M.grd (decide ((-9223372036854775808:Int)<=(n_Marks+1))&&decide ((n_Marks+1)<=(9223372036854775807:Int))) <|
  M.grd (decide ((([]:List Line).length+n_Lines.length)*40<=140737488355328)) <|
  M.bind (M.iter (zal n_Marks m_) (n_Lines,0)) fun (l2,l3) =>
  M.pure ((n_Marks+1),l3)
theorem zcU {R:List Chunk} {a7:Cells} {ac:Value} (n_Marks:Int) (n_Lines:List Line) (m_:Mv) (aH:Reads R a7) (aI:Sl a7 ac n_Lines) {r:(Int × (List Line))} (hM:(zaV n_Marks n_Lines m_).Ends r) (w:World) (H:St w w [] R):Ret Tryz.prog 65 #[.agg #[I n_Marks,ac],.agg #[I m_.mark,I m_.day]] w fun v w'=>∃ (y0:Int) (y1:List Line) (u0:Value),(y0,y1)=r/\v = .agg #[I y0,u0]/\St w w' [cOwn (α:=Line) 106 u0 y1] R:=by
 refine ret_of_W Tryz.func65 rfl rfl rfl ?_;refine kg 2 ?_;refine t_bx [I n_Marks,ac] H rfl ?_;intro ag bD H;refine t_bx [I m_.mark,I m_.day] H rfl ?_;intro ah bE H;refine t_alloc (cs:=[I 0,.slice none 0 0]) H Al53 rfl ?_;intro ai bF H;refine kg 2 ?_;refine W.drawT (fun W=>St w W [cBlk ai [I 0,.slice none 0 0] 53,cBlk ah [I m_.mark,I m_.day] 79,cBlk ag [I n_Marks,ac] 53] R) (.q 0 (.q 1 (.q 2 (.q 4 (.q 5 (.l2 3 (.l2 6 (.l2 7 (.l 8 (.l 9 .nil)) 8 (.l 7 (.l 9 .nil))) 8 (.l 6 (.l 7 (.l 9 .nil)))) 8 (.l 3 (.l 6 (.l 7 (.l 9 .nil)))))))))) mixed (by decide +kernel) rfl ?_;intro bG ab;replace H:=H.ext ab;clear ab
 refine ⟨(H.pk [0,1,2]),?_⟩
 obtain ⟨bH,hM⟩:=M.e_gd hM;obtain ⟨bI,hM⟩:=M.e_gd hM;refine kg 5 ?_;refine t_l2 rfl rfl ?_ ?_
 ·skip
  refine t_bs0 (α:=Line) T51 H ?_;intro bJ bK H
  have bL:=Sl.cells (H.os 0)
  have bM:=Sl.oc (H.os 0)
  refine s_nil ⟨(H.pk [1,2,3]),?_⟩
  refine t_l2 rfl rfl ?_ ?_
  ·skip
   refine t_app (α:=Line) (k:=0) (l:=[]) (l2:=n_Lines) (l':=n_Lines) (vy:=ac) T51 rfl H rfl rfl rfl aI (aH.at H) (List.nil_append _) (by first | omega | (simp only [List.length_nil] at *; omega)) ?_;intro aj bN H;replace H:=H.nf
   have bO:=Sl.cells (H.os 0)
   have bP:=Sl.oc (H.os 0)
   refine s_nil ⟨(H.pk [1,2,3]),?_⟩
   refine t_l2 rfl rfl ?_ ?_
   ·skip
    refine s_val (x_bld (ps:=[(0,I (n_Marks+1)),(1,aj)]) (zs:=[I 0,.slice none 0 0]) (L':=[I (n_Marks+1),aj]) rfl Tryz.underlying53 Al53 rfl (Bd53 Tryz.underlying53) (.cons (cs:=[I (n_Marks+1)]) rfl rfl rfl rfl rfl<|.cons (cs:=[aj]) (Sl.cells (H.os 0)) rfl rfl rfl rfl<|.nil)) ?_
    refine s_nil ⟨(H.pk [1,2,3]),?_⟩
    refine t_l rfl ?_;refine t_alloc (cs:=[I 0,.slice none 0 0]) H Al53 rfl ?_;intro ae bQ H
    refine s_nil ⟨(H.pk [2,3,4]),?_⟩
    refine t_l rfl ?_;refine t_sw 0 0 [I (n_Marks+1),aj] (.agg #[I (n_Marks+1),aj]) H rfl rfl Sz53 rfl rfl rfl (by simp only [List.all_cons,List.all_nil,Bool.true_and,Bool.and_true,Sl.oc (H.os 1)]; try rfl) ?_;intro bR H
    refine s_nil ⟨(H.pk [2,3,4]),?_⟩
    refine kg 7 ?_;obtain ⟨bg,aJ,bh⟩:=M.e_bind hM
    obtain ⟨aK,aJ⟩:=M.e_iter aJ
    refine W.loop (fun m σ W=>∃ (l:List Line) (i:Nat) (aa:Value) (ρ:Env),σ=upds ρ [(2,Pq ag),(3,Pq ah),(4,Pq ai),(5,Pq ae),(6,I (i:Int))]/\M.iterN (zal n_Marks m_) m (l,i)=some bg/\St w W [cBlk ae [I (n_Marks+1),aa] 53,cOwn (α:=Line) 106 aa l,cBlk ai [I 0,.slice none 0 0] 53,cBlk ah [I m_.mark,I m_.day] 79,cBlk ag [I n_Marks,ac] 53] R) ?_ ?_
    ·exact ⟨_,n_Lines,0,aj,_,upds_of _ _ ⟨rfl,rfl,rfl,rfl,rfl,trivial⟩,aJ,H⟩
    rintro bS σ bT ⟨l,i,aa,ρ,rfl,a8,H⟩
    obtain ⟨az,aA,bU,hM,av⟩:=M.e_iterN a8
    simp only [zal] at hM
    clear a8
    have bV:=((H.os 1)).len_le
    refine kg 9 ?_
    refine W.cond (decide ((i:Int)<(l.length:Int))) rfl (fun al=>?_) (fun al=>?_)
    ·replace hM:=M.e_t hM al
     replace al:=dI al
     refine kg 5 ?_;refine W.draw (fun W=>St w W [cBlk ae [I (n_Marks+1),aa] 53,cOwn (α:=Line) 106 aa l,cBlk ai [I 0,.slice none 0 0] 53,cBlk ah [I m_.mark,I m_.day] 79,cBlk ag [I n_Marks,ac] 53] R) [(0,true),(1,true),(2,true),(3,true),(4,true),(5,true),(6,true),(7,true),(8,true),(9,true),(10,true),(11,true),(12,true),(13,true),(14,true),(15,true),(16,true),(17,true),(18,true),(19,true)] mixed (by decide +kernel) rfl ?_;intro bW ab;replace H:=H.ext ab;clear ab
     refine ⟨(H.pk [0,1,2,3,4]),?_⟩
     obtain ⟨bX,hM⟩:=M.e_gd hM;refine kg 21 ?_
     refine W.cond ((decide (m_.day<=((l.getD i default).day)))&&(((l.getD i default).src)==m_.mark)) rfl (fun aL=>?_) (fun aL=>?_)
     ·replace hM:=M.e_t hM aL;refine kg 8 ?_;refine t_fst (α:=Line) (k:=1) (i:=(i:Int)) (off:=0) (l:=l) (l':=l.set i ({ (l.getD i default) with src:=n_Marks })) (val:=I n_Marks) (L':=[cBlk ae [I (n_Marks+1),aa] 53,cOwn (α:=Line) 106 aa (l.set i ({ (l.getD i default) with src:=n_Marks })),cBlk ai [I 0,.slice none 0 0] 53,cBlk ah [I m_.mark,I m_.day] 79,cBlk ag [I n_Marks,ac] 53]) H rfl Sz3 (by omega) (by omega) (l.getD i default) ({ (l.getD i default) with src:=n_Marks }) (getD_some _ (by omega) _) rfl rfl [I n_Marks] rfl rfl rfl rfl rfl rfl rfl ?_;intro bY H
      have bZ:(l.set i ({ (l.getD i default) with src:=n_Marks })).length=(l).length:=List.length_set
      refine kg 2 ?_;refine W.draw (fun W=>St w W [cBlk ae [I (n_Marks+1),aa] 53,cOwn (α:=Line) 106 aa (l.set i ({ (l.getD i default) with src:=n_Marks })),cBlk ai [I 0,.slice none 0 0] 53,cBlk ah [I m_.mark,I m_.day] 79,cBlk ag [I n_Marks,ac] 53] R) [(0,true),(1,true),(2,true),(3,true),(4,true),(5,true),(6,true),(7,true),(8,true),(9,true),(10,true),(11,true),(12,true),(13,true),(14,true),(15,true),(16,true),(17,true),(18,true),(19,true)] mixed (by decide +kernel) rfl ?_;intro b0 ab;replace H:=H.ext ab;clear ab
      refine ⟨(H.pk [0,1,2,3,4]),?_⟩
      obtain ⟨b7,hM⟩:=M.e_gd hM;refine kg 21 ?_
      refine W.cond ((decide (m_.day<=(((l.set i ({ (l.getD i default) with src:=n_Marks })).getD i default).day)))&&((((l.set i ({ (l.getD i default) with src:=n_Marks })).getD i default).dst)==m_.mark)) rfl (fun aM=>?_) (fun aM=>?_)
      ·replace hM:=M.e_t hM aM;refine kg 8 ?_;refine t_fst (α:=Line) (k:=1) (i:=(i:Int)) (off:=1) (l:=l.set i ({ (l.getD i default) with src:=n_Marks })) (l':=(l.set i ({ (l.getD i default) with src:=n_Marks })).set i ({ ((l.set i ({ (l.getD i default) with src:=n_Marks })).getD i default) with dst:=n_Marks })) (val:=I n_Marks) (L':=[cBlk ae [I (n_Marks+1),aa] 53,cOwn (α:=Line) 106 aa ((l.set i ({ (l.getD i default) with src:=n_Marks })).set i ({ ((l.set i ({ (l.getD i default) with src:=n_Marks })).getD i default) with dst:=n_Marks })),cBlk ai [I 0,.slice none 0 0] 53,cBlk ah [I m_.mark,I m_.day] 79,cBlk ag [I n_Marks,ac] 53]) H rfl Sz3 (by omega) (by omega) ((l.set i ({ (l.getD i default) with src:=n_Marks })).getD i default) ({ ((l.set i ({ (l.getD i default) with src:=n_Marks })).getD i default) with dst:=n_Marks }) (getD_some _ (by omega) _) rfl rfl [I n_Marks] rfl rfl rfl rfl rfl rfl rfl ?_;intro b8 H
       have b9:((l.set i ({ (l.getD i default) with src:=n_Marks })).set i ({ ((l.set i ({ (l.getD i default) with src:=n_Marks })).getD i default) with dst:=n_Marks })).length=(l.set i ({ (l.getD i default) with src:=n_Marks })).length:=List.length_set
       refine kg 6 ?_
       exact ⟨az,aA,(l.set i ({ (l.getD i default) with src:=n_Marks })).set i ({ ((l.set i ({ (l.getD i default) with src:=n_Marks })).getD i default) with dst:=n_Marks }),i+1,aa,_,upds_of _ _ ⟨rfl,rfl,rfl,rfl,rfl,trivial⟩,M.e_inl hM av,H⟩
      replace hM:=M.e_f hM aM;refine kg 6 ?_
      exact ⟨az,aA,l.set i ({ (l.getD i default) with src:=n_Marks }),i+1,aa,_,upds_of _ _ ⟨rfl,rfl,rfl,rfl,rfl,trivial⟩,M.e_inl hM av,H⟩
     replace hM:=M.e_f hM aL;refine kg 2 ?_;refine W.draw (fun W=>St w W [cBlk ae [I (n_Marks+1),aa] 53,cOwn (α:=Line) 106 aa l,cBlk ai [I 0,.slice none 0 0] 53,cBlk ah [I m_.mark,I m_.day] 79,cBlk ag [I n_Marks,ac] 53] R) [(0,true),(1,true),(2,true),(3,true),(4,true),(5,true),(6,true),(7,true),(8,true),(9,true),(10,true),(11,true),(12,true),(13,true),(14,true),(15,true),(16,true),(17,true),(18,true),(19,true)] mixed (by decide +kernel) rfl ?_;intro ca ab;replace H:=H.ext ab;clear ab
     refine ⟨(H.pk [0,1,2,3,4]),?_⟩
     obtain ⟨cb,hM⟩:=M.e_gd hM;refine kg 21 ?_
     refine W.cond ((decide (m_.day<=((l.getD i default).day)))&&(((l.getD i default).dst)==m_.mark)) rfl (fun aN=>?_) (fun aN=>?_)
     ·replace hM:=M.e_t hM aN;refine kg 8 ?_;refine t_fst (α:=Line) (k:=1) (i:=(i:Int)) (off:=1) (l:=l) (l':=l.set i ({ (l.getD i default) with dst:=n_Marks })) (val:=I n_Marks) (L':=[cBlk ae [I (n_Marks+1),aa] 53,cOwn (α:=Line) 106 aa (l.set i ({ (l.getD i default) with dst:=n_Marks })),cBlk ai [I 0,.slice none 0 0] 53,cBlk ah [I m_.mark,I m_.day] 79,cBlk ag [I n_Marks,ac] 53]) H rfl Sz3 (by omega) (by omega) (l.getD i default) ({ (l.getD i default) with dst:=n_Marks }) (getD_some _ (by omega) _) rfl rfl [I n_Marks] rfl rfl rfl rfl rfl rfl rfl ?_;intro cd H
      have ce:(l.set i ({ (l.getD i default) with dst:=n_Marks })).length=(l).length:=List.length_set
      refine kg 6 ?_
      exact ⟨az,aA,l.set i ({ (l.getD i default) with dst:=n_Marks }),i+1,aa,_,upds_of _ _ ⟨rfl,rfl,rfl,rfl,rfl,trivial⟩,M.e_inl hM av,H⟩
     replace hM:=M.e_f hM aN;refine kg 6 ?_
     exact ⟨az,aA,l,i+1,aa,_,upds_of _ _ ⟨rfl,rfl,rfl,rfl,rfl,trivial⟩,M.e_inl hM av,H⟩
    replace hM:=M.e_f hM al
    replace al:=dI al
    refine W.exit ?_
    have bi:=M.e_inr hM av
    subst bi;replace hM:=bh;(try dsimp only at hM);refine kg 3 ?_;refine t_sw 2 0 [I (n_Marks+1),aa] (.agg #[I (n_Marks+1),aa]) H rfl rfl Sz53 rfl rfl rfl (by simp only [List.all_cons,List.all_nil,Bool.true_and,Bool.and_true,Sl.oc (H.os 1)]; try rfl) ?_;intro cf H;refine s_nil ?_;refine W.ret ?_
    have bj:=(H.bl 2)
    have am:=M.e_pure hM
    exact ⟨_,(resE_of1 (v:=.agg #[I (n_Marks+1),aa]) rfl (.cell (v:=.agg #[I (n_Marks+1),aa]) rfl (run_loadVar_ag (ds:=[I (n_Marks+1),aa]) Ag53 Sz53 bj rfl rfl)<|.nil)),⟨(n_Marks+1),l,aa,am,rfl,(H.pk [1])⟩⟩
   skip
   refine t_alloc (cs:=[I 0,.slice none 0 0]) H Al53 rfl ?_;intro ae cg H
   refine s_nil ⟨(H.pk [2,3,4]),?_⟩
   refine t_l rfl<|s_val (x_bld (ps:=[(0,I (n_Marks+1)),(1,aj)]) (zs:=[I 0,.slice none 0 0]) (L':=[I (n_Marks+1),aj]) rfl Tryz.underlying53 Al53 rfl (Bd53 Tryz.underlying53) (.cons (cs:=[I (n_Marks+1)]) rfl rfl rfl rfl rfl<|.cons (cs:=[aj]) (Sl.cells (H.os 1)) rfl rfl rfl rfl<|.nil)) ?_
   refine s_nil ⟨(H.pk [2,3,4]),?_⟩
   refine t_l rfl ?_;refine t_sw 0 0 [I (n_Marks+1),aj] (.agg #[I (n_Marks+1),aj]) H rfl rfl Sz53 rfl rfl rfl (by simp only [List.all_cons,List.all_nil,Bool.true_and,Bool.and_true,Sl.oc (H.os 1)]; try rfl) ?_;intro ch H
   refine s_nil ⟨(H.pk [2,3,4]),?_⟩
   refine kg 7 ?_;obtain ⟨bn,aO,bp⟩:=M.e_bind hM
   obtain ⟨aK,aO⟩:=M.e_iter aO
   refine W.loop (fun m σ W=>∃ (l:List Line) (i:Nat) (aa:Value) (ρ:Env),σ=upds ρ [(2,Pq ag),(3,Pq ah),(4,Pq ai),(5,Pq ae),(6,I (i:Int))]/\M.iterN (zal n_Marks m_) m (l,i)=some bn/\St w W [cBlk ae [I (n_Marks+1),aa] 53,cOwn (α:=Line) 106 aa l,cBlk ai [I 0,.slice none 0 0] 53,cBlk ah [I m_.mark,I m_.day] 79,cBlk ag [I n_Marks,ac] 53] R) ?_ ?_
   ·exact ⟨_,n_Lines,0,aj,_,upds_of _ _ ⟨rfl,rfl,rfl,rfl,rfl,trivial⟩,aO,H⟩
   rintro ci σ cj ⟨l,i,aa,ρ,rfl,ba,H⟩
   obtain ⟨aB,aC,ck,hM,aw⟩:=M.e_iterN ba
   simp only [zal] at hM
   clear ba
   have cm:=((H.os 1)).len_le
   refine kg 9 ?_
   refine W.cond (decide ((i:Int)<(l.length:Int))) rfl (fun ao=>?_) (fun ao=>?_)
   ·replace hM:=M.e_t hM ao
    replace ao:=dI ao
    refine kg 5 ?_;refine W.draw (fun W=>St w W [cBlk ae [I (n_Marks+1),aa] 53,cOwn (α:=Line) 106 aa l,cBlk ai [I 0,.slice none 0 0] 53,cBlk ah [I m_.mark,I m_.day] 79,cBlk ag [I n_Marks,ac] 53] R) [(0,true),(1,true),(2,true),(3,true),(4,true),(5,true),(6,true),(7,true),(8,true),(9,true),(10,true),(11,true),(12,true),(13,true),(14,true),(15,true),(16,true),(17,true),(18,true),(19,true)] mixed (by decide +kernel) rfl ?_;intro cn ab;replace H:=H.ext ab;clear ab
    refine ⟨(H.pk [0,1,2,3,4]),?_⟩
    obtain ⟨co,hM⟩:=M.e_gd hM;refine kg 21 ?_
    refine W.cond ((decide (m_.day<=((l.getD i default).day)))&&(((l.getD i default).src)==m_.mark)) rfl (fun aP=>?_) (fun aP=>?_)
    ·replace hM:=M.e_t hM aP;refine kg 8 ?_;refine t_fst (α:=Line) (k:=1) (i:=(i:Int)) (off:=0) (l:=l) (l':=l.set i ({ (l.getD i default) with src:=n_Marks })) (val:=I n_Marks) (L':=[cBlk ae [I (n_Marks+1),aa] 53,cOwn (α:=Line) 106 aa (l.set i ({ (l.getD i default) with src:=n_Marks })),cBlk ai [I 0,.slice none 0 0] 53,cBlk ah [I m_.mark,I m_.day] 79,cBlk ag [I n_Marks,ac] 53]) H rfl Sz3 (by omega) (by omega) (l.getD i default) ({ (l.getD i default) with src:=n_Marks }) (getD_some _ (by omega) _) rfl rfl [I n_Marks] rfl rfl rfl rfl rfl rfl rfl ?_;intro cp H
     have cq:(l.set i ({ (l.getD i default) with src:=n_Marks })).length=(l).length:=List.length_set
     refine kg 2 ?_;refine W.draw (fun W=>St w W [cBlk ae [I (n_Marks+1),aa] 53,cOwn (α:=Line) 106 aa (l.set i ({ (l.getD i default) with src:=n_Marks })),cBlk ai [I 0,.slice none 0 0] 53,cBlk ah [I m_.mark,I m_.day] 79,cBlk ag [I n_Marks,ac] 53] R) [(0,true),(1,true),(2,true),(3,true),(4,true),(5,true),(6,true),(7,true),(8,true),(9,true),(10,true),(11,true),(12,true),(13,true),(14,true),(15,true),(16,true),(17,true),(18,true),(19,true)] mixed (by decide +kernel) rfl ?_;intro cr ab;replace H:=H.ext ab;clear ab
     refine ⟨(H.pk [0,1,2,3,4]),?_⟩
     obtain ⟨ct,hM⟩:=M.e_gd hM;refine kg 21 ?_
     refine W.cond ((decide (m_.day<=(((l.set i ({ (l.getD i default) with src:=n_Marks })).getD i default).day)))&&((((l.set i ({ (l.getD i default) with src:=n_Marks })).getD i default).dst)==m_.mark)) rfl (fun aQ=>?_) (fun aQ=>?_)
     ·replace hM:=M.e_t hM aQ;refine kg 8 ?_;refine t_fst (α:=Line) (k:=1) (i:=(i:Int)) (off:=1) (l:=l.set i ({ (l.getD i default) with src:=n_Marks })) (l':=(l.set i ({ (l.getD i default) with src:=n_Marks })).set i ({ ((l.set i ({ (l.getD i default) with src:=n_Marks })).getD i default) with dst:=n_Marks })) (val:=I n_Marks) (L':=[cBlk ae [I (n_Marks+1),aa] 53,cOwn (α:=Line) 106 aa ((l.set i ({ (l.getD i default) with src:=n_Marks })).set i ({ ((l.set i ({ (l.getD i default) with src:=n_Marks })).getD i default) with dst:=n_Marks })),cBlk ai [I 0,.slice none 0 0] 53,cBlk ah [I m_.mark,I m_.day] 79,cBlk ag [I n_Marks,ac] 53]) H rfl Sz3 (by omega) (by omega) ((l.set i ({ (l.getD i default) with src:=n_Marks })).getD i default) ({ ((l.set i ({ (l.getD i default) with src:=n_Marks })).getD i default) with dst:=n_Marks }) (getD_some _ (by omega) _) rfl rfl [I n_Marks] rfl rfl rfl rfl rfl rfl rfl ?_;intro cu H
      have cv:((l.set i ({ (l.getD i default) with src:=n_Marks })).set i ({ ((l.set i ({ (l.getD i default) with src:=n_Marks })).getD i default) with dst:=n_Marks })).length=(l.set i ({ (l.getD i default) with src:=n_Marks })).length:=List.length_set
      refine kg 6 ?_
      exact ⟨aB,aC,(l.set i ({ (l.getD i default) with src:=n_Marks })).set i ({ ((l.set i ({ (l.getD i default) with src:=n_Marks })).getD i default) with dst:=n_Marks }),i+1,aa,_,upds_of _ _ ⟨rfl,rfl,rfl,rfl,rfl,trivial⟩,M.e_inl hM aw,H⟩
     replace hM:=M.e_f hM aQ;refine kg 6 ?_
     exact ⟨aB,aC,l.set i ({ (l.getD i default) with src:=n_Marks }),i+1,aa,_,upds_of _ _ ⟨rfl,rfl,rfl,rfl,rfl,trivial⟩,M.e_inl hM aw,H⟩
    replace hM:=M.e_f hM aP;refine kg 2 ?_;refine W.draw (fun W=>St w W [cBlk ae [I (n_Marks+1),aa] 53,cOwn (α:=Line) 106 aa l,cBlk ai [I 0,.slice none 0 0] 53,cBlk ah [I m_.mark,I m_.day] 79,cBlk ag [I n_Marks,ac] 53] R) [(0,true),(1,true),(2,true),(3,true),(4,true),(5,true),(6,true),(7,true),(8,true),(9,true),(10,true),(11,true),(12,true),(13,true),(14,true),(15,true),(16,true),(17,true),(18,true),(19,true)] mixed (by decide +kernel) rfl ?_;intro cw ab;replace H:=H.ext ab;clear ab
    refine ⟨(H.pk [0,1,2,3,4]),?_⟩
    obtain ⟨cx,hM⟩:=M.e_gd hM;refine kg 21 ?_
    refine W.cond ((decide (m_.day<=((l.getD i default).day)))&&(((l.getD i default).dst)==m_.mark)) rfl (fun aR=>?_) (fun aR=>?_)
    ·replace hM:=M.e_t hM aR;refine kg 8 ?_;refine t_fst (α:=Line) (k:=1) (i:=(i:Int)) (off:=1) (l:=l) (l':=l.set i ({ (l.getD i default) with dst:=n_Marks })) (val:=I n_Marks) (L':=[cBlk ae [I (n_Marks+1),aa] 53,cOwn (α:=Line) 106 aa (l.set i ({ (l.getD i default) with dst:=n_Marks })),cBlk ai [I 0,.slice none 0 0] 53,cBlk ah [I m_.mark,I m_.day] 79,cBlk ag [I n_Marks,ac] 53]) H rfl Sz3 (by omega) (by omega) (l.getD i default) ({ (l.getD i default) with dst:=n_Marks }) (getD_some _ (by omega) _) rfl rfl [I n_Marks] rfl rfl rfl rfl rfl rfl rfl ?_;intro cy H
     have cz:(l.set i ({ (l.getD i default) with dst:=n_Marks })).length=(l).length:=List.length_set
     refine kg 6 ?_
     exact ⟨aB,aC,l.set i ({ (l.getD i default) with dst:=n_Marks }),i+1,aa,_,upds_of _ _ ⟨rfl,rfl,rfl,rfl,rfl,trivial⟩,M.e_inl hM aw,H⟩
    replace hM:=M.e_f hM aR;refine kg 6 ?_
    exact ⟨aB,aC,l,i+1,aa,_,upds_of _ _ ⟨rfl,rfl,rfl,rfl,rfl,trivial⟩,M.e_inl hM aw,H⟩
   replace hM:=M.e_f hM ao
   replace ao:=dI ao
   refine W.exit ?_
   have br:=M.e_inr hM aw
   subst br;replace hM:=bp;(try dsimp only at hM);refine kg 3 ?_;refine t_sw 2 0 [I (n_Marks+1),aa] (.agg #[I (n_Marks+1),aa]) H rfl rfl Sz53 rfl rfl rfl (by simp only [List.all_cons,List.all_nil,Bool.true_and,Bool.and_true,Sl.oc (H.os 1)]; try rfl) ?_;intro cA H;refine s_nil ?_;refine W.ret ?_
   have bt:=(H.bl 2)
   have am:=M.e_pure hM
   exact ⟨_,(resE_of1 (v:=.agg #[I (n_Marks+1),aa]) rfl (.cell (v:=.agg #[I (n_Marks+1),aa]) rfl (run_loadVar_ag (ds:=[I (n_Marks+1),aa]) Ag53 Sz53 bt rfl rfl)<|.nil)),⟨(n_Marks+1),l,aa,am,rfl,(H.pk [1])⟩⟩
  skip
  refine t_alloc (cs:=[I 0,.slice none 0 0]) H Al53 rfl ?_;intro ae cB H
  refine s_nil ⟨(H.pk [2,3,4]),?_⟩
  refine t_l rfl ?_;refine t_app (α:=Line) (k:=1) (l:=[]) (l2:=n_Lines) (l':=n_Lines) (vy:=ac) T51 rfl H rfl rfl rfl aI (aH.at H) (List.nil_append _) (by first | omega | (simp only [List.length_nil] at *; omega)) ?_;intro ar cC H;replace H:=H.nf
  have cD:=Sl.cells (H.os 1)
  have cE:=Sl.oc (H.os 1)
  refine s_nil ⟨(H.pk [2,3,4]),?_⟩
  refine t_l rfl<|s_val (x_bld (ps:=[(0,I (n_Marks+1)),(1,ar)]) (zs:=[I 0,.slice none 0 0]) (L':=[I (n_Marks+1),ar]) rfl Tryz.underlying53 Al53 rfl (Bd53 Tryz.underlying53) (.cons (cs:=[I (n_Marks+1)]) rfl rfl rfl rfl rfl<|.cons (cs:=[ar]) (Sl.cells (H.os 1)) rfl rfl rfl rfl<|.nil)) ?_
  refine s_nil ⟨(H.pk [2,3,4]),?_⟩
  refine t_l rfl ?_;refine t_sw 0 0 [I (n_Marks+1),ar] (.agg #[I (n_Marks+1),ar]) H rfl rfl Sz53 rfl rfl rfl (by simp only [List.all_cons,List.all_nil,Bool.true_and,Bool.and_true,Sl.oc (H.os 1)]; try rfl) ?_;intro cF H
  refine s_nil ⟨(H.pk [2,3,4]),?_⟩
  refine kg 7 ?_;obtain ⟨bu,aS,bv⟩:=M.e_bind hM
  obtain ⟨aK,aS⟩:=M.e_iter aS
  refine W.loop (fun m σ W=>∃ (l:List Line) (i:Nat) (aa:Value) (ρ:Env),σ=upds ρ [(2,Pq ag),(3,Pq ah),(4,Pq ai),(5,Pq ae),(6,I (i:Int))]/\M.iterN (zal n_Marks m_) m (l,i)=some bu/\St w W [cBlk ae [I (n_Marks+1),aa] 53,cOwn (α:=Line) 106 aa l,cBlk ai [I 0,.slice none 0 0] 53,cBlk ah [I m_.mark,I m_.day] 79,cBlk ag [I n_Marks,ac] 53] R) ?_ ?_
  ·exact ⟨_,n_Lines,0,ar,_,upds_of _ _ ⟨rfl,rfl,rfl,rfl,rfl,trivial⟩,aS,H⟩
  rintro cG σ cH ⟨l,i,aa,ρ,rfl,bb,H⟩
  obtain ⟨aD,aE,cI,hM,ax⟩:=M.e_iterN bb
  simp only [zal] at hM
  clear bb
  have cJ:=((H.os 1)).len_le
  refine kg 9 ?_
  refine W.cond (decide ((i:Int)<(l.length:Int))) rfl (fun ap=>?_) (fun ap=>?_)
  ·replace hM:=M.e_t hM ap
   replace ap:=dI ap
   refine kg 5 ?_;refine W.draw (fun W=>St w W [cBlk ae [I (n_Marks+1),aa] 53,cOwn (α:=Line) 106 aa l,cBlk ai [I 0,.slice none 0 0] 53,cBlk ah [I m_.mark,I m_.day] 79,cBlk ag [I n_Marks,ac] 53] R) [(0,true),(1,true),(2,true),(3,true),(4,true),(5,true),(6,true),(7,true),(8,true),(9,true),(10,true),(11,true),(12,true),(13,true),(14,true),(15,true),(16,true),(17,true),(18,true),(19,true)] mixed (by decide +kernel) rfl ?_;intro cK ab;replace H:=H.ext ab;clear ab
   refine ⟨(H.pk [0,1,2,3,4]),?_⟩
   obtain ⟨cL,hM⟩:=M.e_gd hM;refine kg 21 ?_
   refine W.cond ((decide (m_.day<=((l.getD i default).day)))&&(((l.getD i default).src)==m_.mark)) rfl (fun aT=>?_) (fun aT=>?_)
   ·replace hM:=M.e_t hM aT;refine kg 8 ?_;refine t_fst (α:=Line) (k:=1) (i:=(i:Int)) (off:=0) (l:=l) (l':=l.set i ({ (l.getD i default) with src:=n_Marks })) (val:=I n_Marks) (L':=[cBlk ae [I (n_Marks+1),aa] 53,cOwn (α:=Line) 106 aa (l.set i ({ (l.getD i default) with src:=n_Marks })),cBlk ai [I 0,.slice none 0 0] 53,cBlk ah [I m_.mark,I m_.day] 79,cBlk ag [I n_Marks,ac] 53]) H rfl Sz3 (by omega) (by omega) (l.getD i default) ({ (l.getD i default) with src:=n_Marks }) (getD_some _ (by omega) _) rfl rfl [I n_Marks] rfl rfl rfl rfl rfl rfl rfl ?_;intro cM H
    have cN:(l.set i ({ (l.getD i default) with src:=n_Marks })).length=(l).length:=List.length_set
    refine kg 2 ?_;refine W.draw (fun W=>St w W [cBlk ae [I (n_Marks+1),aa] 53,cOwn (α:=Line) 106 aa (l.set i ({ (l.getD i default) with src:=n_Marks })),cBlk ai [I 0,.slice none 0 0] 53,cBlk ah [I m_.mark,I m_.day] 79,cBlk ag [I n_Marks,ac] 53] R) [(0,true),(1,true),(2,true),(3,true),(4,true),(5,true),(6,true),(7,true),(8,true),(9,true),(10,true),(11,true),(12,true),(13,true),(14,true),(15,true),(16,true),(17,true),(18,true),(19,true)] mixed (by decide +kernel) rfl ?_;intro cO ab;replace H:=H.ext ab;clear ab
    refine ⟨(H.pk [0,1,2,3,4]),?_⟩
    obtain ⟨cP,hM⟩:=M.e_gd hM;refine kg 21 ?_
    refine W.cond ((decide (m_.day<=(((l.set i ({ (l.getD i default) with src:=n_Marks })).getD i default).day)))&&((((l.set i ({ (l.getD i default) with src:=n_Marks })).getD i default).dst)==m_.mark)) rfl (fun aU=>?_) (fun aU=>?_)
    ·replace hM:=M.e_t hM aU;refine kg 8 ?_;refine t_fst (α:=Line) (k:=1) (i:=(i:Int)) (off:=1) (l:=l.set i ({ (l.getD i default) with src:=n_Marks })) (l':=(l.set i ({ (l.getD i default) with src:=n_Marks })).set i ({ ((l.set i ({ (l.getD i default) with src:=n_Marks })).getD i default) with dst:=n_Marks })) (val:=I n_Marks) (L':=[cBlk ae [I (n_Marks+1),aa] 53,cOwn (α:=Line) 106 aa ((l.set i ({ (l.getD i default) with src:=n_Marks })).set i ({ ((l.set i ({ (l.getD i default) with src:=n_Marks })).getD i default) with dst:=n_Marks })),cBlk ai [I 0,.slice none 0 0] 53,cBlk ah [I m_.mark,I m_.day] 79,cBlk ag [I n_Marks,ac] 53]) H rfl Sz3 (by omega) (by omega) ((l.set i ({ (l.getD i default) with src:=n_Marks })).getD i default) ({ ((l.set i ({ (l.getD i default) with src:=n_Marks })).getD i default) with dst:=n_Marks }) (getD_some _ (by omega) _) rfl rfl [I n_Marks] rfl rfl rfl rfl rfl rfl rfl ?_;intro cQ H
     have cR:((l.set i ({ (l.getD i default) with src:=n_Marks })).set i ({ ((l.set i ({ (l.getD i default) with src:=n_Marks })).getD i default) with dst:=n_Marks })).length=(l.set i ({ (l.getD i default) with src:=n_Marks })).length:=List.length_set
     refine kg 6 ?_
     exact ⟨aD,aE,(l.set i ({ (l.getD i default) with src:=n_Marks })).set i ({ ((l.set i ({ (l.getD i default) with src:=n_Marks })).getD i default) with dst:=n_Marks }),i+1,aa,_,upds_of _ _ ⟨rfl,rfl,rfl,rfl,rfl,trivial⟩,M.e_inl hM ax,H⟩
    replace hM:=M.e_f hM aU;refine kg 6 ?_
    exact ⟨aD,aE,l.set i ({ (l.getD i default) with src:=n_Marks }),i+1,aa,_,upds_of _ _ ⟨rfl,rfl,rfl,rfl,rfl,trivial⟩,M.e_inl hM ax,H⟩
   replace hM:=M.e_f hM aT;refine kg 2 ?_;refine W.draw (fun W=>St w W [cBlk ae [I (n_Marks+1),aa] 53,cOwn (α:=Line) 106 aa l,cBlk ai [I 0,.slice none 0 0] 53,cBlk ah [I m_.mark,I m_.day] 79,cBlk ag [I n_Marks,ac] 53] R) [(0,true),(1,true),(2,true),(3,true),(4,true),(5,true),(6,true),(7,true),(8,true),(9,true),(10,true),(11,true),(12,true),(13,true),(14,true),(15,true),(16,true),(17,true),(18,true),(19,true)] mixed (by decide +kernel) rfl ?_;intro cT ab;replace H:=H.ext ab;clear ab
   refine ⟨(H.pk [0,1,2,3,4]),?_⟩
   obtain ⟨cU,hM⟩:=M.e_gd hM;refine kg 21 ?_
   refine W.cond ((decide (m_.day<=((l.getD i default).day)))&&(((l.getD i default).dst)==m_.mark)) rfl (fun aV=>?_) (fun aV=>?_)
   ·replace hM:=M.e_t hM aV;refine kg 8 ?_;refine t_fst (α:=Line) (k:=1) (i:=(i:Int)) (off:=1) (l:=l) (l':=l.set i ({ (l.getD i default) with dst:=n_Marks })) (val:=I n_Marks) (L':=[cBlk ae [I (n_Marks+1),aa] 53,cOwn (α:=Line) 106 aa (l.set i ({ (l.getD i default) with dst:=n_Marks })),cBlk ai [I 0,.slice none 0 0] 53,cBlk ah [I m_.mark,I m_.day] 79,cBlk ag [I n_Marks,ac] 53]) H rfl Sz3 (by omega) (by omega) (l.getD i default) ({ (l.getD i default) with dst:=n_Marks }) (getD_some _ (by omega) _) rfl rfl [I n_Marks] rfl rfl rfl rfl rfl rfl rfl ?_;intro cV H
    have cW:(l.set i ({ (l.getD i default) with dst:=n_Marks })).length=(l).length:=List.length_set
    refine kg 6 ?_
    exact ⟨aD,aE,l.set i ({ (l.getD i default) with dst:=n_Marks }),i+1,aa,_,upds_of _ _ ⟨rfl,rfl,rfl,rfl,rfl,trivial⟩,M.e_inl hM ax,H⟩
   replace hM:=M.e_f hM aV;refine kg 6 ?_
   exact ⟨aD,aE,l,i+1,aa,_,upds_of _ _ ⟨rfl,rfl,rfl,rfl,rfl,trivial⟩,M.e_inl hM ax,H⟩
  replace hM:=M.e_f hM ap
  replace ap:=dI ap
  refine W.exit ?_
  have bw:=M.e_inr hM ax
  subst bw;replace hM:=bv;(try dsimp only at hM);refine kg 3 ?_;refine t_sw 2 0 [I (n_Marks+1),aa] (.agg #[I (n_Marks+1),aa]) H rfl rfl Sz53 rfl rfl rfl (by simp only [List.all_cons,List.all_nil,Bool.true_and,Bool.and_true,Sl.oc (H.os 1)]; try rfl) ?_;intro cX H;refine s_nil ?_;refine W.ret ?_
  have bx:=(H.bl 2)
  have am:=M.e_pure hM
  exact ⟨_,(resE_of1 (v:=.agg #[I (n_Marks+1),aa]) rfl (.cell (v:=.agg #[I (n_Marks+1),aa]) rfl (run_loadVar_ag (ds:=[I (n_Marks+1),aa]) Ag53 Sz53 bx rfl rfl)<|.nil)),⟨(n_Marks+1),l,aa,am,rfl,(H.pk [1])⟩⟩
 skip
 refine t_alloc (cs:=[I 0,.slice none 0 0]) H Al53 rfl ?_;intro ae cY H
 refine s_nil ⟨(H.pk [1,2,3]),?_⟩
 refine t_l rfl ?_;refine t_bs0 (α:=Line) T51 H ?_;intro cZ c5 H
 have c6:=Sl.cells (H.os 0)
 have c7:=Sl.oc (H.os 0)
 refine s_nil ⟨(H.pk [2,3,4]),?_⟩
 refine t_l rfl ?_;refine t_app (α:=Line) (k:=0) (l:=[]) (l2:=n_Lines) (l':=n_Lines) (vy:=ac) T51 rfl H rfl rfl rfl aI (aH.at H) (List.nil_append _) (by first | omega | (simp only [List.length_nil] at *; omega)) ?_;intro au c8 H;replace H:=H.nf
 have c9:=Sl.cells (H.os 0)
 have da:=Sl.oc (H.os 0)
 refine s_nil ⟨(H.pk [2,3,4]),?_⟩
 refine t_l rfl<|s_val (x_bld (ps:=[(0,I (n_Marks+1)),(1,au)]) (zs:=[I 0,.slice none 0 0]) (L':=[I (n_Marks+1),au]) rfl Tryz.underlying53 Al53 rfl (Bd53 Tryz.underlying53) (.cons (cs:=[I (n_Marks+1)]) rfl rfl rfl rfl rfl<|.cons (cs:=[au]) (Sl.cells (H.os 0)) rfl rfl rfl rfl<|.nil)) ?_
 refine s_nil ⟨(H.pk [2,3,4]),?_⟩
 refine t_l rfl ?_;refine t_sw 1 0 [I (n_Marks+1),au] (.agg #[I (n_Marks+1),au]) H rfl rfl Sz53 rfl rfl rfl (by simp only [List.all_cons,List.all_nil,Bool.true_and,Bool.and_true,Sl.oc (H.os 0)]; try rfl) ?_;intro db H
 refine s_nil ⟨(H.pk [2,3,4]),?_⟩
 refine kg 7 ?_;obtain ⟨bz,aW,bA⟩:=M.e_bind hM
 obtain ⟨aK,aW⟩:=M.e_iter aW
 refine W.loop (fun m σ W=>∃ (l:List Line) (i:Nat) (aa:Value) (ρ:Env),σ=upds ρ [(2,Pq ag),(3,Pq ah),(4,Pq ai),(5,Pq ae),(6,I (i:Int))]/\M.iterN (zal n_Marks m_) m (l,i)=some bz/\St w W [cOwn (α:=Line) 106 aa l,cBlk ae [I (n_Marks+1),aa] 53,cBlk ai [I 0,.slice none 0 0] 53,cBlk ah [I m_.mark,I m_.day] 79,cBlk ag [I n_Marks,ac] 53] R) ?_ ?_
 ·exact ⟨_,n_Lines,0,au,_,upds_of _ _ ⟨rfl,rfl,rfl,rfl,rfl,trivial⟩,aW,H⟩
 rintro dc σ dh ⟨l,i,aa,ρ,rfl,bc,H⟩
 obtain ⟨aF,aG,di,hM,ay⟩:=M.e_iterN bc
 simp only [zal] at hM
 clear bc
 have dj:=((H.os 0)).len_le
 refine kg 9 ?_
 refine W.cond (decide ((i:Int)<(l.length:Int))) rfl (fun aq=>?_) (fun aq=>?_)
 ·replace hM:=M.e_t hM aq
  replace aq:=dI aq
  refine kg 5 ?_;refine W.draw (fun W=>St w W [cOwn (α:=Line) 106 aa l,cBlk ae [I (n_Marks+1),aa] 53,cBlk ai [I 0,.slice none 0 0] 53,cBlk ah [I m_.mark,I m_.day] 79,cBlk ag [I n_Marks,ac] 53] R) [(0,true),(1,true),(2,true),(3,true),(4,true),(5,true),(6,true),(7,true),(8,true),(9,true),(10,true),(11,true),(12,true),(13,true),(14,true),(15,true),(16,true),(17,true),(18,true),(19,true)] mixed (by decide +kernel) rfl ?_;intro dk ab;replace H:=H.ext ab;clear ab
  refine ⟨(H.pk [0,1,2,3,4]),?_⟩
  obtain ⟨dl,hM⟩:=M.e_gd hM;refine kg 21 ?_
  refine W.cond ((decide (m_.day<=((l.getD i default).day)))&&(((l.getD i default).src)==m_.mark)) rfl (fun aX=>?_) (fun aX=>?_)
  ·replace hM:=M.e_t hM aX;refine kg 8 ?_;refine t_fst (α:=Line) (k:=0) (i:=(i:Int)) (off:=0) (l:=l) (l':=l.set i ({ (l.getD i default) with src:=n_Marks })) (val:=I n_Marks) (L':=[cOwn (α:=Line) 106 aa (l.set i ({ (l.getD i default) with src:=n_Marks })),cBlk ae [I (n_Marks+1),aa] 53,cBlk ai [I 0,.slice none 0 0] 53,cBlk ah [I m_.mark,I m_.day] 79,cBlk ag [I n_Marks,ac] 53]) H rfl Sz3 (by omega) (by omega) (l.getD i default) ({ (l.getD i default) with src:=n_Marks }) (getD_some _ (by omega) _) rfl rfl [I n_Marks] rfl rfl rfl rfl rfl rfl rfl ?_;intro dm H
   have dp:(l.set i ({ (l.getD i default) with src:=n_Marks })).length=(l).length:=List.length_set
   refine kg 2 ?_;refine W.draw (fun W=>St w W [cOwn (α:=Line) 106 aa (l.set i ({ (l.getD i default) with src:=n_Marks })),cBlk ae [I (n_Marks+1),aa] 53,cBlk ai [I 0,.slice none 0 0] 53,cBlk ah [I m_.mark,I m_.day] 79,cBlk ag [I n_Marks,ac] 53] R) [(0,true),(1,true),(2,true),(3,true),(4,true),(5,true),(6,true),(7,true),(8,true),(9,true),(10,true),(11,true),(12,true),(13,true),(14,true),(15,true),(16,true),(17,true),(18,true),(19,true)] mixed (by decide +kernel) rfl ?_;intro dt ab;replace H:=H.ext ab;clear ab
   refine ⟨(H.pk [0,1,2,3,4]),?_⟩
   obtain ⟨du,hM⟩:=M.e_gd hM;refine kg 21 ?_
   refine W.cond ((decide (m_.day<=(((l.set i ({ (l.getD i default) with src:=n_Marks })).getD i default).day)))&&((((l.set i ({ (l.getD i default) with src:=n_Marks })).getD i default).dst)==m_.mark)) rfl (fun aY=>?_) (fun aY=>?_)
   ·replace hM:=M.e_t hM aY;refine kg 8 ?_;refine t_fst (α:=Line) (k:=0) (i:=(i:Int)) (off:=1) (l:=l.set i ({ (l.getD i default) with src:=n_Marks })) (l':=(l.set i ({ (l.getD i default) with src:=n_Marks })).set i ({ ((l.set i ({ (l.getD i default) with src:=n_Marks })).getD i default) with dst:=n_Marks })) (val:=I n_Marks) (L':=[cOwn (α:=Line) 106 aa ((l.set i ({ (l.getD i default) with src:=n_Marks })).set i ({ ((l.set i ({ (l.getD i default) with src:=n_Marks })).getD i default) with dst:=n_Marks })),cBlk ae [I (n_Marks+1),aa] 53,cBlk ai [I 0,.slice none 0 0] 53,cBlk ah [I m_.mark,I m_.day] 79,cBlk ag [I n_Marks,ac] 53]) H rfl Sz3 (by omega) (by omega) ((l.set i ({ (l.getD i default) with src:=n_Marks })).getD i default) ({ ((l.set i ({ (l.getD i default) with src:=n_Marks })).getD i default) with dst:=n_Marks }) (getD_some _ (by omega) _) rfl rfl [I n_Marks] rfl rfl rfl rfl rfl rfl rfl ?_;intro dv H
    have dw:((l.set i ({ (l.getD i default) with src:=n_Marks })).set i ({ ((l.set i ({ (l.getD i default) with src:=n_Marks })).getD i default) with dst:=n_Marks })).length=(l.set i ({ (l.getD i default) with src:=n_Marks })).length:=List.length_set
    refine kg 6 ?_
    exact ⟨aF,aG,(l.set i ({ (l.getD i default) with src:=n_Marks })).set i ({ ((l.set i ({ (l.getD i default) with src:=n_Marks })).getD i default) with dst:=n_Marks }),i+1,aa,_,upds_of _ _ ⟨rfl,rfl,rfl,rfl,rfl,trivial⟩,M.e_inl hM ay,H⟩
   replace hM:=M.e_f hM aY;refine kg 6 ?_
   exact ⟨aF,aG,l.set i ({ (l.getD i default) with src:=n_Marks }),i+1,aa,_,upds_of _ _ ⟨rfl,rfl,rfl,rfl,rfl,trivial⟩,M.e_inl hM ay,H⟩
  replace hM:=M.e_f hM aX;refine kg 2 ?_;refine W.draw (fun W=>St w W [cOwn (α:=Line) 106 aa l,cBlk ae [I (n_Marks+1),aa] 53,cBlk ai [I 0,.slice none 0 0] 53,cBlk ah [I m_.mark,I m_.day] 79,cBlk ag [I n_Marks,ac] 53] R) [(0,true),(1,true),(2,true),(3,true),(4,true),(5,true),(6,true),(7,true),(8,true),(9,true),(10,true),(11,true),(12,true),(13,true),(14,true),(15,true),(16,true),(17,true),(18,true),(19,true)] mixed (by decide +kernel) rfl ?_;intro dx ab;replace H:=H.ext ab;clear ab
  refine ⟨(H.pk [0,1,2,3,4]),?_⟩
  obtain ⟨dy,hM⟩:=M.e_gd hM;refine kg 21 ?_
  refine W.cond ((decide (m_.day<=((l.getD i default).day)))&&(((l.getD i default).dst)==m_.mark)) rfl (fun aZ=>?_) (fun aZ=>?_)
  ·replace hM:=M.e_t hM aZ;refine kg 8 ?_;refine t_fst (α:=Line) (k:=0) (i:=(i:Int)) (off:=1) (l:=l) (l':=l.set i ({ (l.getD i default) with dst:=n_Marks })) (val:=I n_Marks) (L':=[cOwn (α:=Line) 106 aa (l.set i ({ (l.getD i default) with dst:=n_Marks })),cBlk ae [I (n_Marks+1),aa] 53,cBlk ai [I 0,.slice none 0 0] 53,cBlk ah [I m_.mark,I m_.day] 79,cBlk ag [I n_Marks,ac] 53]) H rfl Sz3 (by omega) (by omega) (l.getD i default) ({ (l.getD i default) with dst:=n_Marks }) (getD_some _ (by omega) _) rfl rfl [I n_Marks] rfl rfl rfl rfl rfl rfl rfl ?_;intro dz H
   have dA:(l.set i ({ (l.getD i default) with dst:=n_Marks })).length=(l).length:=List.length_set
   refine kg 6 ?_
   exact ⟨aF,aG,l.set i ({ (l.getD i default) with dst:=n_Marks }),i+1,aa,_,upds_of _ _ ⟨rfl,rfl,rfl,rfl,rfl,trivial⟩,M.e_inl hM ay,H⟩
  replace hM:=M.e_f hM aZ;refine kg 6 ?_
  exact ⟨aF,aG,l,i+1,aa,_,upds_of _ _ ⟨rfl,rfl,rfl,rfl,rfl,trivial⟩,M.e_inl hM ay,H⟩
 replace hM:=M.e_f hM aq
 replace aq:=dI aq
 refine W.exit ?_
 have bB:=M.e_inr hM ay
 subst bB;replace hM:=bA;(try dsimp only at hM);refine kg 3 ?_;refine t_sw 2 0 [I (n_Marks+1),aa] (.agg #[I (n_Marks+1),aa]) H rfl rfl Sz53 rfl rfl rfl (by simp only [List.all_cons,List.all_nil,Bool.true_and,Bool.and_true,Sl.oc (H.os 0)]; try rfl) ?_;intro dB H;refine s_nil ?_;refine W.ret ?_
 have bC:=(H.bl 2)
 have am:=M.e_pure hM
 exact ⟨_,(resE_of1 (v:=.agg #[I (n_Marks+1),aa]) rfl (.cell (v:=.agg #[I (n_Marks+1),aa]) rfl (run_loadVar_ag (ds:=[I (n_Marks+1),aa]) Ag53 Sz53 bC rfl rfl)<|.nil)),⟨(n_Marks+1),l,aa,am,rfl,(H.pk [0])⟩⟩

def zcu (n_Marks:Int) (n_Lines:List Line) (m_:Mv):M (Int × (List Line) × Int) :=
  M.bind (zan n_Marks n_Lines) fun r2 =>
  bif r2 != 0 then (
  M.pure (0,([]),r2))
  else (
  M.grd (decide ((-9223372036854775808:Int)<=(n_Marks-1))&&decide ((n_Marks-1)<=(9223372036854775807:Int))) <|
  M.bind (zaa m_.mark 0 (n_Marks-1)) fun r3 =>
  bif r3 then (
  M.pure (0,([]),2))
  else (
  M.bind (zaa m_.day 1 40000) fun r4 =>
  bif r4 then (
  M.pure (0,([]),4))
  else (
  bif decide (11<n_Marks) then (
  M.pure (0,([]),3))
  else (
  M.bind (zaV n_Marks n_Lines m_) fun (r0,r1) =>
  M.pure (r0,r1,0)))))
theorem zcY {R:List Chunk} {al:Cells} {ah:Value} (n_Marks:Int) (n_Lines:List Line) (m_:Mv) (am:Reads R al) (ao:Sl al ah n_Lines) {r:(Int × (List Line) × Int)} (hM:(zcu n_Marks n_Lines m_).Ends r) (w:World) (H:St w w [] R):Ret Tryz.prog 32 #[.agg #[I n_Marks,ah],.agg #[I m_.mark,I m_.day]] w fun v w'=>∃ (y0:Int) (y1:List Line) (y2:Int) (u0:Value),(y0,y1,y2)=r/\v = .tuple #[.agg #[I y0,u0],I y2]/\St w w' [cOwn (α:=Line) 106 u0 y1] R:=by
 refine ret_of_W Tryz.func32 rfl rfl rfl ?_;refine kg 2 ?_;refine t_bx [I n_Marks,ah] H rfl ?_;intro aA aB H;refine t_bx [I m_.mark,I m_.day] H rfl ?_;intro aC aD H;refine t_alloc (cs:=[I 0,.slice none 0 0]) H Al53 rfl ?_;intro aE aF H;refine kg 6 ?_;obtain ⟨aG,ap,hM⟩:=M.e_bind hM;refine s_call cf14 [.agg #[I n_Marks,ah]] rfl (zaJ n_Marks n_Lines (am.app _) ao ap _ (H.gt 3)) ?_
 rintro vq aH ⟨r2,rfl,hvq,aa⟩
 subst vq;(try dsimp only at hM);replace H:=H.bk aa;clear aa;refine kg 7 ?_
 refine W.cond (r2 != 0) rfl (fun ac=>?_) (fun ac=>?_)
 ·replace hM:=M.e_t hM ac
  replace ac:=dI ac
  refine kg 2 ?_;refine s_val (x_bld (ps:=[]) (zs:=[I 0,.slice none 0 0]) (L':=[I 0,.slice none 0 0]) rfl Tryz.underlying53 Al53 rfl (Bd53 Tryz.underlying53) (.nil)) ?_;refine kg 1 ?_;refine t_sw 0 0 [I 0,.slice none 0 0] (.agg #[I 0,.slice none 0 0]) H rfl rfl Sz53 rfl rfl rfl rfl ?_;intro aI H;refine kg 2 ?_;refine W.ret ?_
  have aq:=(H.bl 0)
  have ab:=M.e_pure hM
  replace H:=H.nilOwn (α:=Line) 106
  exact ⟨_,(resE_ofn (vs:=[.agg #[I 0,.slice none 0 0],I r2]) rfl rfl (.cell (v:=.agg #[I 0,.slice none 0 0]) rfl (run_loadVar_ag (ds:=[I 0,.slice none 0 0]) Ag53 Sz53 aq rfl rfl)<|.tmp (v:=I r2) rfl<|.nil)),⟨0,([]),r2,(.slice none 0 0),ab,rfl,(H.pk [0])⟩⟩
 replace hM:=M.e_f hM ac
 replace ac:=dI ac
 obtain ⟨aJ,hM⟩:=M.e_gd hM;refine kg 9 ?_;obtain ⟨aK,ar,hM⟩:=M.e_bind hM;refine s_call cf46 [I m_.mark,I 0,I (n_Marks-1)] rfl (zam m_.mark 0 (n_Marks-1) ar _ (H.gt 3)) ?_
 rintro vq aL ⟨r3,rfl,hvq,aa⟩
 subst vq;(try dsimp only at hM);replace H:=H.bk aa;clear aa;refine s_nil ?_
 refine W.cond r3 rfl (fun ai=>?_) (fun ai=>?_)
 ·replace hM:=M.e_t hM ai;refine kg 2 ?_;refine s_val (x_bld (ps:=[]) (zs:=[I 0,.slice none 0 0]) (L':=[I 0,.slice none 0 0]) rfl Tryz.underlying53 Al53 rfl (Bd53 Tryz.underlying53) (.nil)) ?_;refine t_sw 0 0 [I 0,.slice none 0 0] (.agg #[I 0,.slice none 0 0]) H rfl rfl Sz53 rfl rfl rfl rfl ?_;intro aM H;refine kg 2 ?_;refine W.ret ?_
  have au:=(H.bl 0)
  have ab:=M.e_pure hM
  replace H:=H.nilOwn (α:=Line) 106
  exact ⟨_,(resE_ofn (vs:=[.agg #[I 0,.slice none 0 0],I 2]) rfl rfl (.cell (v:=.agg #[I 0,.slice none 0 0]) rfl (run_loadVar_ag (ds:=[I 0,.slice none 0 0]) Ag53 Sz53 au rfl rfl)<|.tmp (v:=I 2) rfl<|.nil)),⟨0,([]),2,(.slice none 0 0),ab,rfl,(H.pk [0])⟩⟩
 replace hM:=M.e_f hM ai;refine kg 6 ?_;obtain ⟨aN,av,hM⟩:=M.e_bind hM;refine s_call cf46 [I m_.day,I 1,I 40000] rfl (zam m_.day 1 40000 av _ (H.gt 3)) ?_
 rintro vq aO ⟨r4,rfl,hvq,aa⟩
 subst vq;(try dsimp only at hM);replace H:=H.bk aa;clear aa;refine s_nil ?_
 refine W.cond r4 rfl (fun aj=>?_) (fun aj=>?_)
 ·replace hM:=M.e_t hM aj;refine kg 2 ?_;refine s_val (x_bld (ps:=[]) (zs:=[I 0,.slice none 0 0]) (L':=[I 0,.slice none 0 0]) rfl Tryz.underlying53 Al53 rfl (Bd53 Tryz.underlying53) (.nil)) ?_;refine t_sw 0 0 [I 0,.slice none 0 0] (.agg #[I 0,.slice none 0 0]) H rfl rfl Sz53 rfl rfl rfl rfl ?_;intro aP H;refine kg 2 ?_;refine W.ret ?_
  have aw:=(H.bl 0)
  have ab:=M.e_pure hM
  replace H:=H.nilOwn (α:=Line) 106
  exact ⟨_,(resE_ofn (vs:=[.agg #[I 0,.slice none 0 0],I 4]) rfl rfl (.cell (v:=.agg #[I 0,.slice none 0 0]) rfl (run_loadVar_ag (ds:=[I 0,.slice none 0 0]) Ag53 Sz53 aw rfl rfl)<|.tmp (v:=I 4) rfl<|.nil)),⟨0,([]),4,(.slice none 0 0),ab,rfl,(H.pk [0])⟩⟩
 replace hM:=M.e_f hM aj;refine kg 8 ?_
 refine W.cond (decide (11<n_Marks)) rfl (fun ae=>?_) (fun ae=>?_)
 ·replace hM:=M.e_t hM ae
  replace ae:=dI ae
  refine kg 2 ?_;refine s_val (x_bld (ps:=[]) (zs:=[I 0,.slice none 0 0]) (L':=[I 0,.slice none 0 0]) rfl Tryz.underlying53 Al53 rfl (Bd53 Tryz.underlying53) (.nil)) ?_;refine t_sw 0 0 [I 0,.slice none 0 0] (.agg #[I 0,.slice none 0 0]) H rfl rfl Sz53 rfl rfl rfl rfl ?_;intro aQ H;refine kg 2 ?_;refine W.ret ?_
  have ax:=(H.bl 0)
  have ab:=M.e_pure hM
  replace H:=H.nilOwn (α:=Line) 106
  exact ⟨_,(resE_ofn (vs:=[.agg #[I 0,.slice none 0 0],I 3]) rfl rfl (.cell (v:=.agg #[I 0,.slice none 0 0]) rfl (run_loadVar_ag (ds:=[I 0,.slice none 0 0]) Ag53 Sz53 ax rfl rfl)<|.tmp (v:=I 3) rfl<|.nil)),⟨0,([]),3,(.slice none 0 0),ab,rfl,(H.pk [0])⟩⟩
 replace hM:=M.e_f hM ae
 replace ae:=dI ae
 refine kg 5 ?_;obtain ⟨aR,ay,hM⟩:=M.e_bind hM;refine s_call cf65 [.agg #[I n_Marks,ah],.agg #[I m_.mark,I m_.day]] rfl (zcU n_Marks n_Lines m_ (am.app _) ao ay _ (H.gt 3)) ?_
 rintro vq aS ⟨r0,r1,ag,rfl,hvq,aa⟩
 subst vq;(try dsimp only at hM);replace H:=H.bk aa;clear aa;refine t_sw 1 0 [I r0,ag] (.agg #[I r0,ag]) H rfl rfl Sz53 rfl rfl rfl (by simp only [List.all_cons,List.all_nil,Bool.true_and,Bool.and_true,Sl.oc (H.os 0)]; try rfl) ?_;intro aT H;refine kg 2 ?_;refine W.ret ?_
 have az:=(H.bl 1)
 have ab:=M.e_pure hM
 exact ⟨_,(resE_ofn (vs:=[.agg #[I r0,ag],I 0]) rfl rfl (.cell (v:=.agg #[I r0,ag]) rfl (run_loadVar_ag (ds:=[I r0,ag]) Ag53 Sz53 az rfl rfl)<|.tmp (v:=I 0) rfl<|.nil)),⟨r0,r1,0,ag,ab,rfl,(H.pk [0])⟩⟩

def zcg (n_Lines:List Line):(Nat × (List Line))->M ((Nat × (List Line)) ⊕ ((List Line) × (List Line))):=fun (s,l) =>
  bif decide ((s:Int)<(n_Lines.length:Int)) then (
  M.grd (decide ((s:Int)<(n_Lines.length:Int))) <|
  M.grd (decide ((l.length+([(n_Lines.getD s default)]).length)*40<=140737488355328)) <|
  M.pure (.inl (s+1,l++([(n_Lines.getD s default)]))))
  else (
  M.pure (.inr (l,l)))
def zch (n_Marks:Int) (n_Lines:List Line):M (Int × (List Line)) :=
  M.bind (M.iter (zcg n_Lines) (0,[])) fun (l2,l3) =>
  M.pure (n_Marks,l3)
theorem zcV {R:List Chunk} {ah:Cells} {ac:Value} (n_Marks:Int) (n_Lines:List Line) (aA:Reads R ah) (ao:Sl ah ac n_Lines) {r:(Int × (List Line))} (hM:(zch n_Marks n_Lines).Ends r) (w:World) (H:St w w [] R):Ret Tryz.prog 33 #[.agg #[I n_Marks,ac]] w fun v w'=>∃ (y0:Int) (y1:List Line) (u0:Value),(y0,y1)=r/\v = .agg #[I y0,u0]/\St w w' [cOwn (α:=Line) 34 u0 y1] R:=by
 refine ret_of_W Tryz.func33 rfl rfl rfl ?_;refine kg 2 ?_;refine t_bx [I n_Marks,ac] H rfl ?_;intro ap aB H;refine t_alloc (cs:=[I 0,.slice none 0 0]) H Al25 rfl ?_;intro ai aC H;refine kg 5 ?_;refine s_val (x_bld (ps:=[(0,I n_Marks)]) (zs:=[I 0,.slice none 0 0]) (L':=[I n_Marks,.slice none 0 0]) rfl Tryz.underlying25 Al25 rfl (Bd25 Tryz.underlying25) (.cons (cs:=[I n_Marks]) rfl rfl rfl rfl rfl<|.nil)) ?_;refine t_alloc (cs:=[I 0,.slice none 0 0]) H Al25 rfl ?_;intro aj aD H;refine t_sw 0 0 [I n_Marks,.slice none 0 0] (.agg #[I n_Marks,.slice none 0 0]) H rfl rfl Sz25 rfl rfl rfl rfl ?_;intro aE H
 have aF:=(ao).len_le
 refine kg 10 ?_
 replace H:=H.nilOwn (α:=Line) 34
 obtain ⟨aq,ae,ar⟩:=M.e_bind hM
 obtain ⟨aG,ae⟩:=M.e_iter ae
 refine W.loop (fun m σ W=>∃ (s:Nat) (l:List Line) (aa:Value) (ρ:Env),σ=upds ρ [(2,Pq ai),(3,Pq aj),(10,ac),(11,I (n_Lines.length:Int)),(12,I (s:Int))]/\M.iterN (zcg n_Lines) m (s,l)=some aq/\St w W [cOwn (α:=Line) 34 aa l,cBlk aj [I n_Marks,aa] 25,cBlk ai [I 0,.slice none 0 0] 25,cBlk ap [I n_Marks,ac] 53] R) ?_ ?_
 ·exact ⟨_,0,[],(.slice none 0 0),_,upds_of _ _ ⟨rfl,rfl,rfl,rfl,rfl,trivial⟩,ae,H⟩
 rintro aH σ aI ⟨s,l,aa,ρ,rfl,al,H⟩
 obtain ⟨au,av,aJ,hM,am⟩:=M.e_iterN al
 simp only [zcg] at hM
 clear al;refine kg 5 ?_
 refine W.cond (decide ((s:Int)<(n_Lines.length:Int))) rfl (fun ab=>?_) (fun ab=>?_)
 ·replace hM:=M.e_t hM ab
  replace ab:=dI ab
  obtain ⟨aK,hM⟩:=M.e_gd hM;refine kg 7 ?_;refine t_alloc (cs:=[I 0,I 0,I 0,I 0,I 0]) H Al106 rfl ?_;intro aL aM H;refine t_sw 0 0 [I ((n_Lines.getD s default).src),I ((n_Lines.getD s default).dst),I ((n_Lines.getD s default).day),I ((n_Lines.getD s default).rise),I ((n_Lines.getD s default).err)] (.agg #[I ((n_Lines.getD s default).src),I ((n_Lines.getD s default).dst),I ((n_Lines.getD s default).day),I ((n_Lines.getD s default).rise),I ((n_Lines.getD s default).err)]) H rfl rfl Sz106 rfl rfl rfl rfl ?_;intro aN H;refine kg 5 ?_;refine t_bs (α:=Line) T23 [.agg #[I ((n_Lines.getD s default).src),I ((n_Lines.getD s default).dst),I ((n_Lines.getD s default).day),I ((n_Lines.getD s default).rise),I ((n_Lines.getD s default).err)]] [(n_Lines.getD s default)] H rfl (.cons rfl (Flat.rep_enc _ (n_Lines.getD s default))<|.nil) rfl rfl rfl ?_;intro aw aO H;obtain ⟨aP,hM⟩:=M.e_gd hM;refine t_app (α:=Line) (k:=2) (l:=l) (l2:=[(n_Lines.getD s default)]) (l':=l++([(n_Lines.getD s default)])) (vy:=aw) T23 rfl H rfl rfl rfl (H.os 0) (H.ol 0) (rfl) (by first | omega | (simp only [List.length_nil] at *; omega)) ?_;intro ag aQ H;replace H:=H.nf;refine kg 1 ?_;refine t_sw 3 1 [ag] ag H rfl rfl Sz23 (Sl.cells (H.os 2)) rfl rfl (by simp only [List.all_cons,List.all_nil,Bool.true_and,Bool.and_true,Sl.oc (H.os 2)]; try rfl) ?_;intro aR H;refine kg 5 ?_
  exact ⟨au,av,s+1,l++([(n_Lines.getD s default)]),ag,_,upds_of _ _ ⟨rfl,rfl,rfl,rfl,rfl,trivial⟩,M.e_inl hM am,(H.pk [2,3,4,5])⟩
 replace hM:=M.e_f hM ab
 replace ab:=dI ab
 refine W.exit ?_
 have ax:=M.e_inr hM am
 subst ax;replace hM:=ar;(try dsimp only at hM);refine kg 3 ?_;refine t_sw 2 0 [I n_Marks,aa] (.agg #[I n_Marks,aa]) H rfl rfl Sz25 rfl rfl rfl (by simp only [List.all_cons,List.all_nil,Bool.true_and,Bool.and_true,Sl.oc (H.os 0)]; try rfl) ?_;intro aS H;refine s_nil ?_;refine W.ret ?_
 have ay:=(H.bl 2)
 have az:=M.e_pure hM
 exact ⟨_,(resE_of1 (v:=.agg #[I n_Marks,aa]) rfl (.cell (v:=.agg #[I n_Marks,aa]) rfl (run_loadVar_ag (ds:=[I n_Marks,aa]) Ag25 Sz25 ay rfl rfl)<|.nil)),⟨n_Marks,l,aa,az,rfl,(H.pk [0])⟩⟩

end Go.Proofs.YtfdgkdkfbaghpaaGreat
end
section
set_option maxRecDepth 100000
set_option maxHeartbeats 16000000
namespace Go.Proofs.YtfdgkdkfbaghpaaGreat
open Go Go.Nm
attribute [local irreducible] gd execOp SL SLD SLT WR
def za9 (n_Marks:Int) (n_Lines:List Line) (mark:Nat):(Int × Int)->M ((Int × Int) ⊕ Int):=fun (best,i) =>
  bif decide (i<(n_Lines.length:Int)) then (
  bif decide (0<=i) then (
  M.grd (decide ((0:Int)<=i)&&decide (i<(n_Lines.length:Int))) <|
  M.grd (decide ((-9223372036854775808:Int)<=(((n_Lines.getD (Int.toNat i) default).day)+1))&&decide ((((n_Lines.getD (Int.toNat i) default).day)+1)<=(9223372036854775807:Int))) <|
  bif ((decide ((((n_Lines.getD (Int.toNat i) default).day)+1)<=40000))&&((best==0)||(decide ((((n_Lines.getD (Int.toNat i) default).day)+1)<best)))) then (
  M.bind (zaV n_Marks n_Lines (⟨(mark:Int),(((n_Lines.getD (Int.toNat i) default).day)+1:Int)⟩:Mv)) fun (r0,r1) =>
  M.bind (M.opt ((decide ((((n_Lines.getD (Int.toNat i) default).day)+1)<=40000))&&((best==0)||(decide ((((n_Lines.getD (Int.toNat i) default).day)+1)<best)))) (zaw r0 r1) false) fun r4 =>
  bif (((decide ((((n_Lines.getD (Int.toNat i) default).day)+1)<=40000))&&((best==0)||(decide ((((n_Lines.getD (Int.toNat i) default).day)+1)<best))))&&r4) then (
  M.grd (decide ((-9223372036854775808:Int)<=(i+1))&&decide ((i+1)<=(9223372036854775807:Int))) <|
  M.pure (.inl (((n_Lines.getD (Int.toNat i) default).day)+1,i+1)))
  else (
  M.grd (decide ((-9223372036854775808:Int)<=(i+1))&&decide ((i+1)<=(9223372036854775807:Int))) <|
  M.pure (.inl (best,i+1))))
  else (
  M.grd (decide ((-9223372036854775808:Int)<=(i+1))&&decide ((i+1)<=(9223372036854775807:Int))) <|
  M.pure (.inl (best,i+1))))
  else (
  bif ((decide ((1:Int)<=40000))&&((best==0)||(decide (1<best)))) then (
  M.bind (zaV n_Marks n_Lines (⟨(mark:Int),(1:Int)⟩:Mv)) fun (r0,r1) =>
  M.bind (M.opt ((decide ((1:Int)<=40000))&&((best==0)||(decide (1<best)))) (zaw r0 r1) false) fun r4 =>
  bif (((decide ((1:Int)<=40000))&&((best==0)||(decide (1<best))))&&r4) then (
  M.grd (decide ((-9223372036854775808:Int)<=(i+1))&&decide ((i+1)<=(9223372036854775807:Int))) <|
  M.pure (.inl (1,i+1)))
  else (
  M.grd (decide ((-9223372036854775808:Int)<=(i+1))&&decide ((i+1)<=(9223372036854775807:Int))) <|
  M.pure (.inl (best,i+1))))
  else (
  M.grd (decide ((-9223372036854775808:Int)<=(i+1))&&decide ((i+1)<=(9223372036854775807:Int))) <|
  M.pure (.inl (best,i+1)))))
  else (
  M.pure (.inr best))
def zcf (n_Marks:Int) (n_Lines:List Line):(Nat × (List Mv))->M ((Nat × (List Mv)) ⊕ ((List Mv) × (List Mv))):=fun (mark,l) =>
  bif decide ((mark:Int)<n_Marks) then (
  M.bind (M.iter (za9 n_Marks n_Lines mark) (0,-1)) fun best2 =>
  bif decide (0<best2) then (
  M.grd (decide ((l.length+([(⟨(mark:Int),(best2:Int)⟩:Mv)]).length)*16<=140737488355328)) <|
  M.grd (decide ((-9223372036854775808:Int)<=((mark:Int)+1))&&decide (((mark:Int)+1)<=(9223372036854775807:Int))) <|
  M.pure (.inl (mark+1,l++([(⟨(mark:Int),(best2:Int)⟩:Mv)]))))
  else (
  M.grd (decide ((-9223372036854775808:Int)<=((mark:Int)+1))&&decide (((mark:Int)+1)<=(9223372036854775807:Int))) <|
  M.pure (.inl (mark+1,l))))
  else (
  M.pure (.inr (l,l)))
def zaM (n_Marks:Int) (n_Lines:List Line):M ((List Mv) × Int) :=
  M.bind (zan n_Marks n_Lines) fun r2 =>
  bif r2 != 0 then (
  M.pure (([]),r2))
  else (
  M.bind (zaw n_Marks n_Lines) fun r3 =>
  bif r3 then (
  M.pure (([]),8))
  else (
  bif decide (11<n_Marks) then (
  M.pure (([]),3))
  else (
  M.bind (M.iter (zcf n_Marks n_Lines) (0,[])) fun (l2,l3) =>
  M.pure (l3,0))))
theorem zcr {R:List Chunk} {aF:Cells} {ab:Value} (n_Marks:Int) (n_Lines:List Line) (av:Reads R aF) (au:Sl aF ab n_Lines) {r:((List Mv) × Int)} (hM:(zaM n_Marks n_Lines).Ends r) (w:World) (H:St w w [] R):Ret Tryz.prog 35 #[.agg #[I n_Marks,ab]] w fun v w'=>∃ (y0:List Mv) (y1:Int) (u0:Value),(y0,y1)=r/\v = .tuple #[u0,I y1]/\St w w' [cOwn (α:=Mv) 79 u0 y0] R:=by
 refine ret_of_W Tryz.func35 rfl rfl rfl ?_;refine kg 2 ?_;refine t_bx [I n_Marks,ab] H rfl ?_;intro aw a8 H;refine kg 7 ?_;obtain ⟨ba,aM,hM⟩:=M.e_bind hM;refine s_call cf14 [.agg #[I n_Marks,ab]] rfl (zaJ n_Marks n_Lines (av.app _) au aM _ (H.gt 1)) ?_
 rintro vq bb ⟨r2,rfl,hvq,ac⟩
 subst vq;(try dsimp only at hM);replace H:=H.bk ac;clear ac;refine kg 7 ?_
 refine W.cond (r2 != 0) rfl (fun ag=>?_) (fun ag=>?_)
 ·replace hM:=M.e_t hM ag
  replace ag:=dI ag
  refine kg 6 ?_;refine W.ret ?_
  have ae:=M.e_pure hM
  replace H:=H.nilOwn (α:=Mv) 79
  exact ⟨_,resE_tmp2 rfl,⟨([]),r2,(.slice none 0 0),ae,rfl,(H.pk [0])⟩⟩
 replace hM:=M.e_f hM ag
 replace ag:=dI ag
 refine kg 5 ?_;obtain ⟨bc,aN,hM⟩:=M.e_bind hM;refine s_call cf49 [.agg #[I n_Marks,ab]] rfl (zbK n_Marks n_Lines (av.app _) au aN _ (H.gt 1)) ?_
 rintro vq bg ⟨r3,rfl,hvq,ac⟩
 subst vq;(try dsimp only at hM);replace H:=H.bk ac;clear ac;refine s_nil ?_
 refine W.cond r3 rfl (fun ax=>?_) (fun ax=>?_)
 ·replace hM:=M.e_t hM ax;refine kg 5 ?_;refine W.ret ?_
  have ae:=M.e_pure hM
  replace H:=H.nilOwn (α:=Mv) 79
  exact ⟨_,resE_tmp2 rfl,⟨([]),8,(.slice none 0 0),ae,rfl,(H.pk [0])⟩⟩
 replace hM:=M.e_f hM ax;refine kg 8 ?_
 refine W.cond (decide (11<n_Marks)) rfl (fun ah=>?_) (fun ah=>?_)
 ·replace hM:=M.e_t hM ah
  replace ah:=dI ah
  refine kg 5 ?_;refine W.ret ?_
  have ae:=M.e_pure hM
  replace H:=H.nilOwn (α:=Mv) 79
  exact ⟨_,resE_tmp2 rfl,⟨([]),3,(.slice none 0 0),ae,rfl,(H.pk [0])⟩⟩
 replace hM:=M.e_f hM ah
 replace ah:=dI ah
 refine kg 11 ?_
 replace H:=H.nilOwn (α:=Mv) 79
 obtain ⟨aO,ay,aP⟩:=M.e_bind hM
 obtain ⟨aQ,ay⟩:=M.e_iter ay
 refine W.loop (fun m σ W=>∃ (mark:Nat) (l:List Mv) (ai:Value) (ρ:Env),σ=upds ρ [(1,Pq aw),(5,ai),(6,I (mark:Int))]/\M.iterN (zcf n_Marks n_Lines) m (mark,l)=some aO/\St w W [cOwn (α:=Mv) 79 ai l,cBlk aw [I n_Marks,ab] 53] R) ?_ ?_
 ·exact ⟨_,0,[],(.slice none 0 0),_,upds_of _ _ ⟨rfl,rfl,rfl,trivial⟩,ay,H⟩
 rintro bh σ bi ⟨mark,l,ai,ρ,rfl,aG,H⟩
 obtain ⟨aH,aI,bj,hM,az⟩:=M.e_iterN aG
 simp only [zcf] at hM
 clear aG;refine kg 8 ?_
 refine W.cond (decide ((mark:Int)<n_Marks)) rfl (fun aj=>?_) (fun aj=>?_)
 ·replace hM:=M.e_t hM aj
  replace aj:=dI aj
  refine kg 13 ?_;obtain ⟨aR,aA,aS⟩:=M.e_bind hM
  obtain ⟨aQ,aA⟩:=M.e_iter aA
  refine W.loop (fun m σ W=>∃ (best:Int) (i:Int) (ρ:Env),σ=upds ρ [(1,Pq aw),(5,ai),(6,I (mark:Int)),(7,I best),(8,I i)]/\M.iterN (za9 n_Marks n_Lines mark) m (best,i)=some aR/\St w W [cOwn (α:=Mv) 79 ai l,cBlk aw [I n_Marks,ab] 53] R) ?_ ?_
  ·exact ⟨_,0,-1,_,upds_of _ _ ⟨rfl,rfl,rfl,rfl,rfl,trivial⟩,aA,H⟩
  rintro bn σ bp ⟨best,i,ρ,rfl,aJ,H⟩
  obtain ⟨aq,ar,br,hM,al⟩:=M.e_iterN aJ
  simp only [za9] at hM
  clear aJ
  have bt:=(au).len_le
  refine kg 9 ?_
  refine W.cond (decide (i<(n_Lines.length:Int))) rfl (fun am=>?_) (fun am=>?_)
  ·replace hM:=M.e_t hM am
   replace am:=dI am
   refine kg 13 ?_
   refine W.cond (decide (0<=i)) rfl (fun ao=>?_) (fun ao=>?_)
   ·replace hM:=M.e_t hM ao
    replace ao:=dI ao
    obtain ⟨bu,hM⟩:=M.e_gd hM;obtain ⟨bv,hM⟩:=M.e_gd hM;refine kg 27 ?_;refine g_val ((decide ((((n_Lines.getD (Int.toNat i) default).day)+1)<=40000))&&((best==0)||(decide ((((n_Lines.getD (Int.toNat i) default).day)+1)<best)))) (gy_t rfl) (fun hg=>x_bld (ps:=[(0,I (mark:Int)),(1,I (((n_Lines.getD (Int.toNat i) default).day)+1))]) (zs:=[I 0,I 0]) (L':=[I (mark:Int),I (((n_Lines.getD (Int.toNat i) default).day)+1)]) (by exact prs2 (gd_of hg (I (mark:Int))) (gd_of hg (I (((n_Lines.getD (Int.toNat i) default).day)+1)))) Tryz.underlying79 Al79 rfl (Bd79 Tryz.underlying79) (.cons (cs:=[I (mark:Int)]) rfl rfl rfl rfl rfl<|.cons (cs:=[I (((n_Lines.getD (Int.toNat i) default).day)+1)]) rfl rfl rfl rfl rfl<|.nil)) ?_
    refine g_splitV ((decide ((((n_Lines.getD (Int.toNat i) default).day)+1)<=40000))&&((best==0)||(decide ((((n_Lines.getD (Int.toNat i) default).day)+1)<best)))) (.agg #[I 0,.slice none 0 0]) (gy_t rfl) (fun aa=>?_) (fun aa=>?_)
    ·replace hM:=M.e_t hM aa;obtain ⟨bw,aT,hM⟩:=M.e_bind hM;refine s_call cf65 [.agg #[I n_Marks,ab],.agg #[I (mark:Int),I (((n_Lines.getD (Int.toNat i) default).day)+1)]] (lst2 (gd_of (c:=((decide ((((n_Lines.getD (Int.toNat i) default).day)+1)<=40000))&&((best==0)||(decide ((((n_Lines.getD (Int.toNat i) default).day)+1)<best))))) aa (.agg #[I n_Marks,ab])) (gd_of (c:=((decide ((((n_Lines.getD (Int.toNat i) default).day)+1)<=40000))&&((best==0)||(decide ((((n_Lines.getD (Int.toNat i) default).day)+1)<best))))) aa (.agg #[I (mark:Int),I (((n_Lines.getD (Int.toNat i) default).day)+1)]))) (zcU n_Marks n_Lines (⟨(mark:Int),(((n_Lines.getD (Int.toNat i) default).day)+1:Int)⟩:Mv) (av.app _) au aT _ (H.gt 2)) ?_
     rintro vq bx ⟨r0,r1,aB,rfl,hvq,ac⟩
     subst vq;(try dsimp only at hM);replace H:=H.bk ac;clear ac;obtain ⟨r4,aU,hM⟩:=M.e_bind hM;refine t_gcall ((decide ((((n_Lines.getD (Int.toNat i) default).day)+1)<=40000))&&((best==0)||(decide ((((n_Lines.getD (Int.toNat i) default).day)+1)<best)))) (gy_t rfl) cf49 (B r4) (fun _=>[.agg #[I r0,aB]]) (fun _=>rfl) H (fun hg=>(zbK r0 r1 (rdo 0) (H.os 0) (M.e_opt aU hg) _ (H.give (A:=[]) rfl)).mono fun v_ w_ ⟨y_,ae,aC,H_⟩=>by subst ae; exact ⟨aC,H.via H_⟩) ?_;intro bz H;refine kg 2 ?_
     refine W.cond (((decide ((((n_Lines.getD (Int.toNat i) default).day)+1)<=40000))&&((best==0)||(decide ((((n_Lines.getD (Int.toNat i) default).day)+1)<best))))&&r4) rfl (fun aD=>?_) (fun aD=>?_)
     ·replace hM:=M.e_t hM aD;obtain ⟨bA,hM⟩:=M.e_gd hM;refine kg 9 ?_
      exact ⟨aq,ar,((n_Lines.getD (Int.toNat i) default).day)+1,i+1,_,upds_of _ _ ⟨rfl,rfl,rfl,rfl,rfl,trivial⟩,M.e_inl hM al,(H.pk [1,2])⟩
     replace hM:=M.e_f hM aD;obtain ⟨bB,hM⟩:=M.e_gd hM;refine kg 6 ?_
     exact ⟨aq,ar,best,i+1,_,upds_of _ _ ⟨rfl,rfl,rfl,rfl,rfl,trivial⟩,M.e_inl hM al,(H.pk [1,2])⟩
    replace hM:=M.e_f hM aa;refine g_val (v:=B false) ((decide ((((n_Lines.getD (Int.toNat i) default).day)+1)<=40000))&&((best==0)||(decide ((((n_Lines.getD (Int.toNat i) default).day)+1)<best)))) (gy_t rfl) (fun hg=>Bool.noConfusion (aa.symm.trans hg))<|s_val (x_pand0 (b:=((decide ((((n_Lines.getD (Int.toNat i) default).day)+1)<=40000))&&((best==0)||(decide ((((n_Lines.getD (Int.toNat i) default).day)+1)<best))))) rfl (fun hb=>gd_of (c:=((decide ((((n_Lines.getD (Int.toNat i) default).day)+1)<=40000))&&((best==0)||(decide ((((n_Lines.getD (Int.toNat i) default).day)+1)<best))))) (by first | exact hb | (rw [hb]; rfl) | simp_all) (B false)) rfl)<|s_nil ?_
    refine W.cond false rfl (fun aK=>?_) (fun aK=>?_)
    ·skip
     exact absurd aK (by decide)
    skip
    obtain ⟨bC,hM⟩:=M.e_gd hM;refine kg 6 ?_
    exact ⟨aq,ar,best,i+1,_,upds_of _ _ ⟨rfl,rfl,rfl,rfl,rfl,trivial⟩,M.e_inl hM al,H⟩
   replace hM:=M.e_f hM ao
   replace ao:=dI ao
   refine kg 18 ?_;refine g_val ((decide ((1:Int)<=40000))&&((best==0)||(decide (1<best)))) (gy_t rfl) (fun hg=>x_bld (ps:=[(0,I (mark:Int)),(1,I 1)]) (zs:=[I 0,I 0]) (L':=[I (mark:Int),I 1]) (by exact prs2 (gd_of hg (I (mark:Int))) (gd_of hg (I 1))) Tryz.underlying79 Al79 rfl (Bd79 Tryz.underlying79) (.cons (cs:=[I (mark:Int)]) rfl rfl rfl rfl rfl<|.cons (cs:=[I 1]) rfl rfl rfl rfl rfl<|.nil)) ?_
   refine g_splitV ((decide ((1:Int)<=40000))&&((best==0)||(decide (1<best)))) (.agg #[I 0,.slice none 0 0]) (gy_t rfl) (fun aa=>?_) (fun aa=>?_)
   ·replace hM:=M.e_t hM aa;obtain ⟨bD,aV,hM⟩:=M.e_bind hM;refine s_call cf65 [.agg #[I n_Marks,ab],.agg #[I (mark:Int),I 1]] (lst2 (gd_of (c:=((decide ((1:Int)<=40000))&&((best==0)||(decide (1<best))))) aa (.agg #[I n_Marks,ab])) (gd_of (c:=((decide ((1:Int)<=40000))&&((best==0)||(decide (1<best))))) aa (.agg #[I (mark:Int),I 1]))) (zcU n_Marks n_Lines (⟨(mark:Int),(1:Int)⟩:Mv) (av.app _) au aV _ (H.gt 2)) ?_
    rintro vq bE ⟨r0,r1,aB,rfl,hvq,ac⟩
    subst vq;(try dsimp only at hM);replace H:=H.bk ac;clear ac;obtain ⟨r4,aW,hM⟩:=M.e_bind hM;refine t_gcall ((decide ((1:Int)<=40000))&&((best==0)||(decide (1<best)))) (gy_t rfl) cf49 (B r4) (fun _=>[.agg #[I r0,aB]]) (fun _=>rfl) H (fun hg=>(zbK r0 r1 (rdo 0) (H.os 0) (M.e_opt aW hg) _ (H.give (A:=[]) rfl)).mono fun v_ w_ ⟨y_,ae,aC,H_⟩=>by subst ae; exact ⟨aC,H.via H_⟩) ?_;intro bF H;refine kg 2 ?_
    refine W.cond (((decide ((1:Int)<=40000))&&((best==0)||(decide (1<best))))&&r4) rfl (fun aE=>?_) (fun aE=>?_)
    ·replace hM:=M.e_t hM aE;obtain ⟨bG,hM⟩:=M.e_gd hM;refine kg 9 ?_
     exact ⟨aq,ar,1,i+1,_,upds_of _ _ ⟨rfl,rfl,rfl,rfl,rfl,trivial⟩,M.e_inl hM al,(H.pk [1,2])⟩
    replace hM:=M.e_f hM aE;obtain ⟨bH,hM⟩:=M.e_gd hM;refine kg 6 ?_
    exact ⟨aq,ar,best,i+1,_,upds_of _ _ ⟨rfl,rfl,rfl,rfl,rfl,trivial⟩,M.e_inl hM al,(H.pk [1,2])⟩
   replace hM:=M.e_f hM aa;refine g_val (v:=B false) ((decide ((1:Int)<=40000))&&((best==0)||(decide (1<best)))) (gy_t rfl) (fun hg=>Bool.noConfusion (aa.symm.trans hg))<|s_val (x_pand0 (b:=((decide ((1:Int)<=40000))&&((best==0)||(decide (1<best))))) rfl (fun hb=>gd_of (c:=((decide ((1:Int)<=40000))&&((best==0)||(decide (1<best))))) (by first | exact hb | (rw [hb]; rfl) | simp_all) (B false)) rfl)<|s_nil ?_
   refine W.cond false rfl (fun aL=>?_) (fun aL=>?_)
   ·skip
    exact absurd aL (by decide)
   skip
   obtain ⟨bI,hM⟩:=M.e_gd hM;refine kg 6 ?_
   exact ⟨aq,ar,best,i+1,_,upds_of _ _ ⟨rfl,rfl,rfl,rfl,rfl,trivial⟩,M.e_inl hM al,H⟩
  replace hM:=M.e_f hM am
  replace am:=dI am
  refine W.exit ?_
  have aX:=M.e_inr hM al
  subst aX;replace hM:=aS;(try dsimp only at hM);refine kg 5 ?_
  refine W.cond (decide (0<best)) rfl (fun ap=>?_) (fun ap=>?_)
  ·replace hM:=M.e_t hM ap
   replace ap:=dI ap
   refine kg 4 ?_;refine s_val (x_bld (ps:=[(0,I (mark:Int)),(1,I best)]) (zs:=[I 0,I 0]) (L':=[I (mark:Int),I best]) rfl Tryz.underlying79 Al79 rfl (Bd79 Tryz.underlying79) (.cons (cs:=[I (mark:Int)]) rfl rfl rfl rfl rfl<|.cons (cs:=[I best]) rfl rfl rfl rfl rfl<|.nil)) ?_;refine t_bs (α:=Mv) T84 [.agg #[I (mark:Int),I best]] [(⟨(mark:Int),(best:Int)⟩:Mv)] H rfl (.cons rfl (Flat.rep_enc _ (⟨(mark:Int),(best:Int)⟩:Mv))<|.nil) rfl rfl rfl ?_;intro aY bJ H;obtain ⟨bK,hM⟩:=M.e_gd hM;refine t_app (α:=Mv) (k:=1) (l:=l) (l2:=[(⟨(mark:Int),(best:Int)⟩:Mv)]) (l':=l++([(⟨(mark:Int),(best:Int)⟩:Mv)])) (vy:=aY) T84 rfl H rfl rfl rfl (H.os 0) (H.ol 0) (rfl) (by first | omega | (simp only [List.length_nil] at *; omega)) ?_;intro aZ bL H;replace H:=H.nf;obtain ⟨bM,hM⟩:=M.e_gd hM;refine kg 7 ?_
   exact ⟨aH,aI,mark+1,l++([(⟨(mark:Int),(best:Int)⟩:Mv)]),aZ,_,upds_of _ _ ⟨rfl,rfl,rfl,trivial⟩,M.e_inl hM az,(H.pk [1,2])⟩
  replace hM:=M.e_f hM ap
  replace ap:=dI ap
  obtain ⟨bN,hM⟩:=M.e_gd hM;refine kg 6 ?_
  exact ⟨aH,aI,mark+1,l,ai,_,upds_of _ _ ⟨rfl,rfl,rfl,trivial⟩,M.e_inl hM az,H⟩
 replace hM:=M.e_f hM aj
 replace aj:=dI aj
 refine W.exit ?_
 have a7:=M.e_inr hM az
 subst a7;replace hM:=aP;(try dsimp only at hM);refine kg 6 ?_;refine W.ret ?_
 have ae:=M.e_pure hM
 exact ⟨_,resE_tmp2 rfl,⟨l,0,ai,ae,rfl,(H.pk [0])⟩⟩

def zbW (n_Marks:Int) (n_Lines:List Line):M (Int × Int) :=
  M.bind (zaM n_Marks n_Lines) fun (r0,r1) =>
  bif r1 != 0 then (
  M.pure (0,r1))
  else (
  bif (r0.length:Int)==0 then (
  M.pure (0,5))
  else (
  bif decide (1<(r0.length:Int)) then (
  M.pure (0,11))
  else (
  M.grd (decide (0<(r0.length:Int))) <|
  M.pure (((r0.getD 0 default).mark),0))))
theorem zc0 {R:List Chunk} {ah:Cells} {ag:Value} (n_Marks:Int) (n_Lines:List Line) (aj:Reads R ah) (al:Sl ah ag n_Lines) {r:(Int × Int)} (hM:(zbW n_Marks n_Lines).Ends r) (w:World) (H:St w w [] R):Ret Tryz.prog 37 #[.agg #[I n_Marks,ag]] w fun v w'=>∃ (y0:Int) (y1:Int),(y0,y1)=r/\v = .tuple #[I y0,I y1]/\St w w' [] R:=by
 refine ret_of_W Tryz.func37 rfl rfl rfl ?_;refine kg 2 ?_;refine t_bx [I n_Marks,ag] H rfl ?_;intro ao ap H;refine kg 6 ?_;obtain ⟨aq,am,hM⟩:=M.e_bind hM;refine s_call cf35 [.agg #[I n_Marks,ag]] rfl (zcr n_Marks n_Lines (aj.app _) al am _ (H.gt 1)) ?_
 rintro vq ar ⟨r0,r1,au,rfl,hvq,ai⟩
 subst vq;(try dsimp only at hM);replace H:=H.bk ai;clear ai;refine kg 12 ?_
 refine W.cond (r1 != 0) rfl (fun aa=>?_) (fun aa=>?_)
 ·replace hM:=M.e_t hM aa
  replace aa:=dI aa
  refine kg 6 ?_;refine W.ret ?_
  have ab:=M.e_pure hM
  exact ⟨_,resE_tmp2 rfl,⟨0,r1,ab,rfl,(H.pk [])⟩⟩
 replace hM:=M.e_f hM aa
 replace aa:=dI aa
 have av:=((H.os 0)).len_le
 refine kg 8 ?_
 refine W.cond ((r0.length:Int)==0) rfl (fun ac=>?_) (fun ac=>?_)
 ·replace hM:=M.e_t hM ac
  replace ac:=dI ac
  refine kg 5 ?_;refine W.ret ?_
  have ab:=M.e_pure hM
  exact ⟨_,resE_tmp2 rfl,⟨0,5,ab,rfl,(H.pk [])⟩⟩
 replace hM:=M.e_f hM ac
 replace ac:=dI ac
 have aw:=((H.os 0)).len_le
 refine kg 8 ?_
 refine W.cond (decide (1<(r0.length:Int))) rfl (fun ae=>?_) (fun ae=>?_)
 ·replace hM:=M.e_t hM ae
  replace ae:=dI ae
  refine kg 5 ?_;refine W.ret ?_
  have ab:=M.e_pure hM
  exact ⟨_,resE_tmp2 rfl,⟨0,11,ab,rfl,(H.pk [])⟩⟩
 replace hM:=M.e_f hM ae
 replace ae:=dI ae
 obtain ⟨ax,hM⟩:=M.e_gd hM;refine kg 10 ?_;refine W.ret ?_
 have ab:=M.e_pure hM
 exact ⟨_,resE_tmp2 rfl,⟨((r0.getD 0 default).mark),0,ab,rfl,(H.pk [])⟩⟩

def zap (aa ab:List Mv):Nat->M (Nat ⊕ (Unit ⊕ Unit)):=fun s =>
  bif decide ((s:Int)<(aa.length:Int)) then (
  M.grd (decide ((s:Int)<(aa.length:Int))) <|
  M.grd (decide ((s:Int)<(ab.length:Int))) <|
  bif !(decide ((aa.getD s default)=(ab.getD s default))) then (
  M.pure (.inr (.inl ())))
  else (
  M.pure (.inl (s+1))))
  else (
  M.pure (.inr (.inr ())))
def zaQ (n_Marks:Int) (n_Lines:List Line) (m_:Mv):M Bool :=
  bif decide (35<(n_Lines.length:Int)) then (
  M.bind (zax) fun r2 =>
  M.pure r2)
  else (
  M.bind (za2 n_Marks n_Lines) fun (r0,r1) =>
  M.bind (zba r0 r1 m_) fun (ai,aj,al) =>
  M.bind (zad n_Marks n_Lines) fun (am,ao) =>
  M.bind (zcu am ao m_) fun (ap,aq,ar) =>
  M.bind (zch ap aq) fun (au,av) =>
  M.bind (zaZ ai aj au av) fun r3 =>
  bif ((!r3)||(al != ar)) then (
  M.pure false)
  else (
  M.bind (zaz r0 r1) fun (ag,aw) =>
  M.bind (zad n_Marks n_Lines) fun (ax,ay) =>
  M.bind (zaM ax ay) fun (ah,az) =>
  bif (((ag.length:Int) != (ah.length:Int))||(aw != az)) then (
  M.pure false)
  else (
  M.bind (M.iter (zap ag ah) 0) fun x_=>match x_ with
  | (.inl (_:Unit))=>(
  M.pure false)
  | (.inr (_:Unit))=>(
  M.bind (zaU r0 r1) fun (aa,ab) =>
  M.bind (zad n_Marks n_Lines) fun (aA,aB) =>
  M.bind (zbW aA aB) fun (ac,ae) =>
  M.bind (M.opt ((aa==ac)&&(ab==ae)) (zaZ r0 r1 n_Marks n_Lines) false) fun r4 =>
  M.bind (M.opt (((aa==ac)&&(ab==ae))&&r4) (zax) false) fun r5 =>
  M.pure ((((aa==ac)&&(ab==ae))&&r4)&&r5)))))
theorem zcL {R:List Chunk} {bx:Cells} {ag:Value} (n_Marks:Int) (n_Lines:List Line) (m_:Mv) (ay:Reads R bx) (aq:Sl bx ag n_Lines) {r:Bool} (hM:(zaQ n_Marks n_Lines m_).Ends r) (w:World) (H:St w w [] R):Ret Tryz.prog 7 #[.agg #[I n_Marks,ag],.agg #[I m_.mark,I m_.day]] w fun v w'=>∃ (y0:Bool),y0=r/\v=B y0/\St w w' [] R:=by
 refine ret_of_W Tryz.func7 rfl rfl rfl ?_;refine kg 2 ?_;refine t_bx [I n_Marks,ag] H rfl ?_;intro ar cG H;refine t_bx [I m_.mark,I m_.day] H rfl ?_;intro aL cH H
 have cI:=(aq).len_le
 refine kg 10 ?_
 refine W.cond (decide (35<(n_Lines.length:Int))) rfl (fun aQ=>?_) (fun aQ=>?_)
 ·replace hM:=M.e_t hM aQ
  replace aQ:=dI aQ
  refine kg 2 ?_;obtain ⟨cJ,bG,hM⟩:=M.e_bind hM;refine s_call cf11 [] rfl (zau bG _ (H.gt 2)) ?_
  rintro vq cK ⟨r2,rfl,hvq,aa⟩
  subst vq;(try dsimp only at hM);replace H:=H.bk aa;clear aa;refine kg 2 ?_;refine W.ret ?_
  have ab:=M.e_pure hM
  exact ⟨_,resE_tmp rfl,⟨r2,ab,rfl,(H.pk [])⟩⟩
 replace hM:=M.e_f hM aQ
 replace aQ:=dI aQ
 refine kg 4 ?_;obtain ⟨cL,bH,hM⟩:=M.e_bind hM;refine s_call cf12 [.agg #[I n_Marks,ag]] rfl (zcX n_Marks n_Lines (ay.app _) aq bH _ (H.gt 2)) ?_
 rintro vq cM ⟨r0,r1,ac,rfl,hvq,aa⟩
 subst vq;(try dsimp only at hM);replace H:=H.bk aa;clear aa;refine t_alloc (cs:=[I 0,.slice none 0 0]) H Al25 rfl ?_;intro au cN H;refine t_sw 0 0 [I r0,ac] (.agg #[I r0,ac]) H rfl rfl Sz25 rfl rfl rfl (by simp only [List.all_cons,List.all_nil,Bool.true_and,Bool.and_true,Sl.oc (H.os 1)]; try rfl) ?_;intro cO H;refine kg 5 ?_;obtain ⟨cP,bI,hM⟩:=M.e_bind hM;refine s_call cf10 [.agg #[I r0,ac],.agg #[I m_.mark,I m_.day]] rfl (zdg r0 r1 m_ (rdo 1) (H.os 1) bI _ (H.gt 4)) ?_
 rintro vq cQ ⟨ao,av,a7,ai,rfl,hvq,aa⟩
 subst vq;(try dsimp only at hM);replace H:=H.bk aa;clear aa;refine kg 3 ?_;refine t_alloc (cs:=[I 0,.slice none 0 0]) H Al25 rfl ?_;intro aM cR H;refine t_sw 0 0 [I ao,ai] (.agg #[I ao,ai]) H rfl rfl Sz25 rfl rfl rfl (by simp only [List.all_cons,List.all_nil,Bool.true_and,Bool.and_true,Sl.oc (H.os 1)]; try rfl) ?_;intro cT H;refine kg 3 ?_;refine W.drawT (fun W=>St w W [cBlk aM [I ao,ai] 25,cOwn (α:=Line) 34 ai av,cBlk au [I r0,ac] 25,cOwn (α:=Line) 34 ac r1,cBlk aL [I m_.mark,I m_.day] 31,cBlk ar [I n_Marks,ag] 25] R) (.q 0 (.q 2 (.l2 1 (.l2 3 (.q 4 (.q 5 (.q 6 (.l 7 (.l 8 (.q 9 .nil)))))) 7 (.l 3 (.q 4 (.q 5 (.q 6 (.l 8 (.q 9 .nil))))))) 7 (.l 1 (.l 3 (.q 4 (.q 5 (.q 6 (.l 8 (.q 9 .nil)))))))))) mixed (by decide +kernel) rfl ?_;intro cU al;replace H:=H.ext al;clear al
 refine ⟨(H.pk [0,1,2,3,4,5]),?_⟩
 refine kg 2 ?_;refine t_l2 rfl rfl ?_ ?_
 ·skip
  obtain ⟨cV,bJ,hM⟩:=M.e_bind hM;refine s_call cf15 [.agg #[I n_Marks,ag]] rfl (zac n_Marks n_Lines (ay.app _) aq bJ _ (H.gt 6)) ?_
  rintro vq cW ⟨aR,aw,ax,rfl,hvq,aa⟩
  subst vq;(try dsimp only at hM);replace H:=H.bk aa;clear aa
  have cX:=Sl.cells (H.os 0)
  have cY:=Sl.oc (H.os 0)
  refine s_nil ⟨(H.pk [1,2,3,4,5,6]),?_⟩
  refine t_l2 rfl rfl ?_ ?_
  ·skip
   obtain ⟨cZ,bK,hM⟩:=M.e_bind hM;refine s_call cf32 [.agg #[I aR,ax],.agg #[I m_.mark,I m_.day]] rfl (zcY aR aw m_ (rdo 0) (H.os 0) bK _ (H.gt 7)) ?_
   rintro vq c5 ⟨aj,ap,aV,ae,rfl,hvq,aa⟩
   subst vq;(try dsimp only at hM);replace H:=H.bk aa;clear aa
   have c6:=Sl.cells (H.os 0)
   have c7:=Sl.oc (H.os 0)
   refine s_nil ⟨(H.pk [2,3,4,5,6,7]),?_⟩
   refine kg 3 ?_;refine t_l rfl ?_;refine t_alloc (cs:=[I 0,.slice none 0 0]) H Al53 rfl ?_;intro az c8 H
   refine s_nil ⟨(H.pk [3,4,5,6,7,8]),?_⟩
   refine t_l rfl ?_;refine t_sw 0 0 [I aj,ae] (.agg #[I aj,ae]) H rfl rfl Sz53 rfl rfl rfl (by simp only [List.all_cons,List.all_nil,Bool.true_and,Bool.and_true,Sl.oc (H.os 1)]; try rfl) ?_;intro c9 H
   refine s_nil ⟨(H.pk [3,4,5,6,7,8]),?_⟩
   refine kg 4 ?_;refine W.draw (fun W=>St w W [cBlk az [I aj,ae] 53,cOwn (α:=Line) 106 ae ap,cOwn (α:=Line) 106 ax aw,cBlk aM [I ao,ai] 25,cOwn (α:=Line) 34 ai av,cBlk au [I r0,ac] 25,cOwn (α:=Line) 34 ac r1,cBlk aL [I m_.mark,I m_.day] 31,cBlk ar [I n_Marks,ag] 25] R) [(0,true),(1,true),(2,false),(3,false),(4,true),(5,true),(6,true),(7,true),(8,true),(9,true)] mixed (by decide +kernel) rfl ?_;intro da al;replace H:=H.ext al;clear al
   refine ⟨(H.pk [0,1,2,3,4,5,6,7,8]),?_⟩
   refine kg 2 ?_;refine d_l rfl ?_;obtain ⟨db,bL,hM⟩:=M.e_bind hM;refine s_call cf33 [.agg #[I aj,ae]] rfl (zcV aj ap (rdo 1) (H.os 1) bL _ (H.gt 9)) ?_
   rintro vq dc ⟨aN,aA,aB,rfl,hvq,aa⟩
   subst vq;(try dsimp only at hM);replace H:=H.bk aa;clear aa
   have dh:=Sl.cells (H.os 0)
   have di:=Sl.oc (H.os 0)
   refine s_nil ⟨(H.pk [1,2,3,4,5,6,7,8,9]),?_⟩
   refine d_l rfl ?_;obtain ⟨dj,bM,hM⟩:=M.e_bind hM;refine s_call cf21 [.agg #[I ao,ai],.agg #[I aN,aB]] rfl (zaA ao av aN aA (rdo 5) (H.os 5) (rdo 0) (H.os 0) bM _ (H.gt 10)) ?_
   rintro vq dk ⟨r3,rfl,hvq,aa⟩
   subst vq;(try dsimp only at hM);replace H:=H.bk aa;clear aa
   refine s_nil ⟨(H.pk [1,2,3,4,5,6,7,8,9]),?_⟩
   refine kg 7 ?_
   refine W.cond ((!r3)||(a7 != aV)) rfl (fun a8=>?_) (fun a8=>?_)
   ·replace hM:=M.e_t hM a8;refine kg 4 ?_;refine W.ret ?_
    have ab:=M.e_pure hM
    exact ⟨_,resE_tmp rfl,⟨false,ab,rfl,(H.pk [])⟩⟩
   replace hM:=M.e_f hM a8;refine kg 4 ?_;obtain ⟨dl,bN,hM⟩:=M.e_bind hM;refine s_call cf34 [.agg #[I r0,ac]] rfl (zbz r0 r1 (rdo 7) (H.os 7) bN _ (H.gt 10)) ?_
   rintro vq dm ⟨ah,aW,aC,rfl,hvq,aa⟩
   subst vq;(try dsimp only at hM);replace H:=H.bk aa;clear aa;refine kg 9 ?_;obtain ⟨dp,bO,hM⟩:=M.e_bind hM;refine s_call cf15 [.agg #[I n_Marks,ag]] rfl (zac n_Marks n_Lines (ay.app _) aq bO _ (H.gt 11)) ?_
   rintro vq dt ⟨aO,aD,aE,rfl,hvq,aa⟩
   subst vq;(try dsimp only at hM);replace H:=H.bk aa;clear aa;obtain ⟨du,bP,hM⟩:=M.e_bind hM;refine s_call cf35 [.agg #[I aO,aE]] rfl (zcr aO aD (rdo 0) (H.os 0) bP _ (H.gt 12)) ?_
   rintro vq dv ⟨am,aX,aF,rfl,hvq,aa⟩
   subst vq;(try dsimp only at hM);replace H:=H.bk aa;clear aa
   have dw:=((H.os 2)).len_le
   have dx:=((H.os 0)).len_le
   refine kg 20 ?_
   refine W.cond (((ah.length:Int) != (am.length:Int))||(aW != aX)) rfl (fun ba=>?_) (fun ba=>?_)
   ·replace hM:=M.e_t hM ba;refine kg 4 ?_;refine W.ret ?_
    have ab:=M.e_pure hM
    exact ⟨_,resE_tmp rfl,⟨false,ab,rfl,(H.pk [])⟩⟩
   replace hM:=M.e_f hM ba
   have dy:=((H.os 2)).len_le
   refine kg 9 ?_;obtain ⟨bQ,bb,bz⟩:=M.e_bind hM
   obtain ⟨bA,bb⟩:=M.e_iter bb
   refine W.loop (fun m σ W=>∃ (s:Nat) (ρ:Env),σ=upds ρ [(2,Pq ar),(5,Pq au),(10,aC),(11,aF),(67,I (ah.length:Int)),(68,I (s:Int))]/\M.iterN (zap ah am) m s=some bQ/\St w W [cOwn (α:=Mv) 79 aF am,cOwn (α:=Line) 106 aE aD,cOwn (α:=Mv) 31 aC ah,cOwn (α:=Line) 34 aB aA,cBlk az [I aj,ae] 53,cOwn (α:=Line) 106 ae ap,cOwn (α:=Line) 106 ax aw,cBlk aM [I ao,ai] 25,cOwn (α:=Line) 34 ai av,cBlk au [I r0,ac] 25,cOwn (α:=Line) 34 ac r1,cBlk aL [I m_.mark,I m_.day] 31,cBlk ar [I n_Marks,ag] 25] R) ?_ ?_
   ·exact ⟨_,0,_,upds_of _ _ ⟨rfl,rfl,rfl,rfl,rfl,rfl,trivial⟩,bb,H⟩
   rintro dz σ dA ⟨s,ρ,rfl,bB,H⟩
   obtain ⟨bR,bS,dB,hM,bc⟩:=M.e_iterN bB
   simp only [zap] at hM
   clear bB;refine kg 5 ?_
   refine W.cond (decide ((s:Int)<(ah.length:Int))) rfl (fun aS=>?_) (fun aS=>?_)
   ·replace hM:=M.e_t hM aS
    replace aS:=dI aS
    refine kg 9 ?_;refine W.draw (fun W=>St w W [cOwn (α:=Mv) 79 aF am,cOwn (α:=Line) 106 aE aD,cOwn (α:=Mv) 31 aC ah,cOwn (α:=Line) 34 aB aA,cBlk az [I aj,ae] 53,cOwn (α:=Line) 106 ae ap,cOwn (α:=Line) 106 ax aw,cBlk aM [I ao,ai] 25,cOwn (α:=Line) 34 ai av,cBlk au [I r0,ac] 25,cOwn (α:=Line) 34 ac r1,cBlk aL [I m_.mark,I m_.day] 31,cBlk ar [I n_Marks,ag] 25] R) [(0,true),(1,true),(2,true),(3,true),(4,true),(5,true),(6,true),(7,true),(8,true)] mixed (by decide +kernel) rfl ?_;intro dC al;replace H:=H.ext al;clear al
    refine ⟨(H.pk [0,1,2,3,4,5,6,7,8,9,10,11,12]),?_⟩
    obtain ⟨dD,hM⟩:=M.e_gd hM;obtain ⟨dE,hM⟩:=M.e_gd hM;refine kg 8 ?_;refine d_q rfl (fun w' H=>x_neS (eqT79 (ah.getD s default) (am.getD s default) _) gdT79 rfl rfl) ?_;refine d_nil ?_
    refine W.cond (!(decide ((ah.getD s default)=(am.getD s default)))) rfl (fun bg=>?_) (fun bg=>?_)
    ·replace hM:=M.e_t hM bg;refine kg 4 ?_;refine W.ret ?_
     have bT:=M.e_inr hM bc
     subst bT;replace hM:=bz;(try dsimp only at hM)
     have ab:=M.e_pure hM
     exact ⟨_,resE_tmp rfl,⟨false,ab,rfl,(H.pk [])⟩⟩
    replace hM:=M.e_f hM bg;refine kg 5 ?_
    exact ⟨bR,bS,s+1,_,upds_of _ _ ⟨rfl,rfl,rfl,rfl,rfl,rfl,trivial⟩,M.e_inl hM bc,H⟩
   replace hM:=M.e_f hM aS
   replace aS:=dI aS
   refine W.exit ?_
   have bU:=M.e_inr hM bc
   subst bU;replace hM:=bz;(try dsimp only at hM);refine kg 3 ?_;obtain ⟨dF,bV,hM⟩:=M.e_bind hM;refine s_call cf36 [.agg #[I r0,ac]] rfl (zb1 r0 r1 (rdo 10) (H.os 10) bV _ (H.gt 13)) ?_
   rintro vq dG ⟨aG,aH,rfl,hvq,aa⟩
   subst vq;(try dsimp only at hM);replace H:=H.bk aa;clear aa;refine kg 9 ?_;obtain ⟨dH,bW,hM⟩:=M.e_bind hM;refine s_call cf15 [.agg #[I n_Marks,ag]] rfl (zac n_Marks n_Lines (ay.app _) aq bW _ (H.gt 13)) ?_
   rintro vq dJ ⟨aP,aY,aZ,rfl,hvq,aa⟩
   subst vq;(try dsimp only at hM);replace H:=H.bk aa;clear aa;obtain ⟨dK,bX,hM⟩:=M.e_bind hM;refine s_call cf37 [.agg #[I aP,aZ]] rfl (zc0 aP aY (rdo 0) (H.os 0) bX _ (H.gt 14)) ?_
   rintro vq dL ⟨aI,aJ,rfl,hvq,aa⟩
   subst vq;(try dsimp only at hM);replace H:=H.bk aa;clear aa;refine kg 19 ?_;obtain ⟨r4,bY,hM⟩:=M.e_bind hM;refine t_gcall ((aG==aI)&&(aH==aJ)) (gy_t rfl) cf21 (B r4) (fun _=>[.agg #[I r0,ac],.agg #[I n_Marks,ag]]) (fun hg=>lst2 (gd_of hg (.agg #[I r0,ac])) (gd_of hg (.agg #[I n_Marks,ag]))) H (fun hg=>(zaA r0 r1 n_Marks n_Lines (rdo 11) (H.os 11) (ay.app _) aq (M.e_opt bY hg) _ (H.give (A:=[]) rfl)).mono fun v_ w_ ⟨y_,ab,aK,H_⟩=>by subst ab; exact ⟨aK,H.via H_⟩) ?_;intro dM H;refine kg 2 ?_;obtain ⟨r5,bZ,hM⟩:=M.e_bind hM;refine t_gcall (((aG==aI)&&(aH==aJ))&&r4) (gy_t rfl) cf11 (B r5) (fun _=>[]) (fun _=>rfl) H (fun hg=>(zau (M.e_opt bZ hg) _ (H.give (A:=[]) rfl)).mono fun v_ w_ ⟨y_,ab,aK,H_⟩=>by subst ab; exact ⟨aK,H.via H_⟩) ?_;intro dN H;refine kg 3 ?_;refine W.ret ?_
   have ab:=M.e_pure hM
   exact ⟨_,resE_tmp rfl,⟨((((aG==aI)&&(aH==aJ))&&r4)&&r5),ab,rfl,(H.pk [])⟩⟩
  skip
  refine t_alloc (cs:=[I 0,.slice none 0 0]) H Al53 rfl ?_;intro az dO H
  refine s_nil ⟨(H.pk [2,3,4,5,6,7]),?_⟩
  refine t_l rfl ?_;obtain ⟨dP,b0,hM⟩:=M.e_bind hM;refine s_call cf32 [.agg #[I aR,ax],.agg #[I m_.mark,I m_.day]] rfl (zcY aR aw m_ (rdo 1) (H.os 1) b0 _ (H.gt 8)) ?_
  rintro vq dQ ⟨aj,ap,aV,ae,rfl,hvq,aa⟩
  subst vq;(try dsimp only at hM);replace H:=H.bk aa;clear aa
  have dR:=Sl.cells (H.os 0)
  have dS:=Sl.oc (H.os 0)
  refine s_nil ⟨(H.pk [3,4,5,6,7,8]),?_⟩
  refine kg 3 ?_;refine t_l rfl ?_;refine t_sw 1 0 [I aj,ae] (.agg #[I aj,ae]) H rfl rfl Sz53 rfl rfl rfl (by simp only [List.all_cons,List.all_nil,Bool.true_and,Bool.and_true,Sl.oc (H.os 0)]; try rfl) ?_;intro dT H
  refine s_nil ⟨(H.pk [3,4,5,6,7,8]),?_⟩
  refine kg 4 ?_;refine W.draw (fun W=>St w W [cOwn (α:=Line) 106 ae ap,cBlk az [I aj,ae] 53,cOwn (α:=Line) 106 ax aw,cBlk aM [I ao,ai] 25,cOwn (α:=Line) 34 ai av,cBlk au [I r0,ac] 25,cOwn (α:=Line) 34 ac r1,cBlk aL [I m_.mark,I m_.day] 31,cBlk ar [I n_Marks,ag] 25] R) [(0,true),(1,true),(2,false),(3,false),(4,true),(5,true),(6,true),(7,true),(8,true),(9,true)] mixed (by decide +kernel) rfl ?_;intro dU al;replace H:=H.ext al;clear al
  refine ⟨(H.pk [0,1,2,3,4,5,6,7,8]),?_⟩
  refine kg 2 ?_;refine d_l rfl ?_;obtain ⟨dV,b7,hM⟩:=M.e_bind hM;refine s_call cf33 [.agg #[I aj,ae]] rfl (zcV aj ap (rdo 0) (H.os 0) b7 _ (H.gt 9)) ?_
  rintro vq dW ⟨aN,aA,aB,rfl,hvq,aa⟩
  subst vq;(try dsimp only at hM);replace H:=H.bk aa;clear aa
  have dX:=Sl.cells (H.os 0)
  have dY:=Sl.oc (H.os 0)
  refine s_nil ⟨(H.pk [1,2,3,4,5,6,7,8,9]),?_⟩
  refine d_l rfl ?_;obtain ⟨dZ,b8,hM⟩:=M.e_bind hM;refine s_call cf21 [.agg #[I ao,ai],.agg #[I aN,aB]] rfl (zaA ao av aN aA (rdo 5) (H.os 5) (rdo 0) (H.os 0) b8 _ (H.gt 10)) ?_
  rintro vq d0 ⟨r3,rfl,hvq,aa⟩
  subst vq;(try dsimp only at hM);replace H:=H.bk aa;clear aa
  refine s_nil ⟨(H.pk [1,2,3,4,5,6,7,8,9]),?_⟩
  refine kg 7 ?_
  refine W.cond ((!r3)||(a7 != aV)) rfl (fun bh=>?_) (fun bh=>?_)
  ·replace hM:=M.e_t hM bh;refine kg 4 ?_;refine W.ret ?_
   have ab:=M.e_pure hM
   exact ⟨_,resE_tmp rfl,⟨false,ab,rfl,(H.pk [])⟩⟩
  replace hM:=M.e_f hM bh;refine kg 4 ?_;obtain ⟨d5,b9,hM⟩:=M.e_bind hM;refine s_call cf34 [.agg #[I r0,ac]] rfl (zbz r0 r1 (rdo 7) (H.os 7) b9 _ (H.gt 10)) ?_
  rintro vq d6 ⟨ah,aW,aC,rfl,hvq,aa⟩
  subst vq;(try dsimp only at hM);replace H:=H.bk aa;clear aa;refine kg 9 ?_;obtain ⟨d7,ca,hM⟩:=M.e_bind hM;refine s_call cf15 [.agg #[I n_Marks,ag]] rfl (zac n_Marks n_Lines (ay.app _) aq ca _ (H.gt 11)) ?_
  rintro vq d8 ⟨aO,aD,aE,rfl,hvq,aa⟩
  subst vq;(try dsimp only at hM);replace H:=H.bk aa;clear aa;obtain ⟨d9,cb,hM⟩:=M.e_bind hM;refine s_call cf35 [.agg #[I aO,aE]] rfl (zcr aO aD (rdo 0) (H.os 0) cb _ (H.gt 12)) ?_
  rintro vq ec ⟨am,aX,aF,rfl,hvq,aa⟩
  subst vq;(try dsimp only at hM);replace H:=H.bk aa;clear aa
  have ee:=((H.os 2)).len_le
  have eh:=((H.os 0)).len_le
  refine kg 20 ?_
  refine W.cond (((ah.length:Int) != (am.length:Int))||(aW != aX)) rfl (fun bi=>?_) (fun bi=>?_)
  ·replace hM:=M.e_t hM bi;refine kg 4 ?_;refine W.ret ?_
   have ab:=M.e_pure hM
   exact ⟨_,resE_tmp rfl,⟨false,ab,rfl,(H.pk [])⟩⟩
  replace hM:=M.e_f hM bi
  have ei:=((H.os 2)).len_le
  refine kg 9 ?_;obtain ⟨cd,bj,bC⟩:=M.e_bind hM
  obtain ⟨bA,bj⟩:=M.e_iter bj
  refine W.loop (fun m σ W=>∃ (s:Nat) (ρ:Env),σ=upds ρ [(2,Pq ar),(5,Pq au),(10,aC),(11,aF),(67,I (ah.length:Int)),(68,I (s:Int))]/\M.iterN (zap ah am) m s=some cd/\St w W [cOwn (α:=Mv) 79 aF am,cOwn (α:=Line) 106 aE aD,cOwn (α:=Mv) 31 aC ah,cOwn (α:=Line) 34 aB aA,cOwn (α:=Line) 106 ae ap,cBlk az [I aj,ae] 53,cOwn (α:=Line) 106 ax aw,cBlk aM [I ao,ai] 25,cOwn (α:=Line) 34 ai av,cBlk au [I r0,ac] 25,cOwn (α:=Line) 34 ac r1,cBlk aL [I m_.mark,I m_.day] 31,cBlk ar [I n_Marks,ag] 25] R) ?_ ?_
  ·exact ⟨_,0,_,upds_of _ _ ⟨rfl,rfl,rfl,rfl,rfl,rfl,trivial⟩,bj,H⟩
  rintro em σ eo ⟨s,ρ,rfl,bD,H⟩
  obtain ⟨ce,cf,eq,hM,bn⟩:=M.e_iterN bD
  simp only [zap] at hM
  clear bD;refine kg 5 ?_
  refine W.cond (decide ((s:Int)<(ah.length:Int))) rfl (fun aT=>?_) (fun aT=>?_)
  ·replace hM:=M.e_t hM aT
   replace aT:=dI aT
   refine kg 9 ?_;refine W.draw (fun W=>St w W [cOwn (α:=Mv) 79 aF am,cOwn (α:=Line) 106 aE aD,cOwn (α:=Mv) 31 aC ah,cOwn (α:=Line) 34 aB aA,cOwn (α:=Line) 106 ae ap,cBlk az [I aj,ae] 53,cOwn (α:=Line) 106 ax aw,cBlk aM [I ao,ai] 25,cOwn (α:=Line) 34 ai av,cBlk au [I r0,ac] 25,cOwn (α:=Line) 34 ac r1,cBlk aL [I m_.mark,I m_.day] 31,cBlk ar [I n_Marks,ag] 25] R) [(0,true),(1,true),(2,true),(3,true),(4,true),(5,true),(6,true),(7,true),(8,true)] mixed (by decide +kernel) rfl ?_;intro eu al;replace H:=H.ext al;clear al
   refine ⟨(H.pk [0,1,2,3,4,5,6,7,8,9,10,11,12]),?_⟩
   obtain ⟨ew,hM⟩:=M.e_gd hM;obtain ⟨ey,hM⟩:=M.e_gd hM;refine kg 8 ?_;refine d_q rfl (fun w' H=>x_neS (eqT79 (ah.getD s default) (am.getD s default) _) gdT79 rfl rfl) ?_;refine d_nil ?_
   refine W.cond (!(decide ((ah.getD s default)=(am.getD s default)))) rfl (fun bp=>?_) (fun bp=>?_)
   ·replace hM:=M.e_t hM bp;refine kg 4 ?_;refine W.ret ?_
    have cg:=M.e_inr hM bn
    subst cg;replace hM:=bC;(try dsimp only at hM)
    have ab:=M.e_pure hM
    exact ⟨_,resE_tmp rfl,⟨false,ab,rfl,(H.pk [])⟩⟩
   replace hM:=M.e_f hM bp;refine kg 5 ?_
   exact ⟨ce,cf,s+1,_,upds_of _ _ ⟨rfl,rfl,rfl,rfl,rfl,rfl,trivial⟩,M.e_inl hM bn,H⟩
  replace hM:=M.e_f hM aT
  replace aT:=dI aT
  refine W.exit ?_
  have ch:=M.e_inr hM bn
  subst ch;replace hM:=bC;(try dsimp only at hM);refine kg 3 ?_;obtain ⟨ez,ci,hM⟩:=M.e_bind hM;refine s_call cf36 [.agg #[I r0,ac]] rfl (zb1 r0 r1 (rdo 10) (H.os 10) ci _ (H.gt 13)) ?_
  rintro vq eA ⟨aG,aH,rfl,hvq,aa⟩
  subst vq;(try dsimp only at hM);replace H:=H.bk aa;clear aa;refine kg 9 ?_;obtain ⟨eB,cj,hM⟩:=M.e_bind hM;refine s_call cf15 [.agg #[I n_Marks,ag]] rfl (zac n_Marks n_Lines (ay.app _) aq cj _ (H.gt 13)) ?_
  rintro vq eC ⟨aP,aY,aZ,rfl,hvq,aa⟩
  subst vq;(try dsimp only at hM);replace H:=H.bk aa;clear aa;obtain ⟨eD,ck,hM⟩:=M.e_bind hM;refine s_call cf37 [.agg #[I aP,aZ]] rfl (zc0 aP aY (rdo 0) (H.os 0) ck _ (H.gt 14)) ?_
  rintro vq eE ⟨aI,aJ,rfl,hvq,aa⟩
  subst vq;(try dsimp only at hM);replace H:=H.bk aa;clear aa;refine kg 19 ?_;obtain ⟨r4,cm,hM⟩:=M.e_bind hM;refine t_gcall ((aG==aI)&&(aH==aJ)) (gy_t rfl) cf21 (B r4) (fun _=>[.agg #[I r0,ac],.agg #[I n_Marks,ag]]) (fun hg=>lst2 (gd_of hg (.agg #[I r0,ac])) (gd_of hg (.agg #[I n_Marks,ag]))) H (fun hg=>(zaA r0 r1 n_Marks n_Lines (rdo 11) (H.os 11) (ay.app _) aq (M.e_opt cm hg) _ (H.give (A:=[]) rfl)).mono fun v_ w_ ⟨y_,ab,aK,H_⟩=>by subst ab; exact ⟨aK,H.via H_⟩) ?_;intro eF H;refine kg 2 ?_;obtain ⟨r5,cn,hM⟩:=M.e_bind hM;refine t_gcall (((aG==aI)&&(aH==aJ))&&r4) (gy_t rfl) cf11 (B r5) (fun _=>[]) (fun _=>rfl) H (fun hg=>(zau (M.e_opt cn hg) _ (H.give (A:=[]) rfl)).mono fun v_ w_ ⟨y_,ab,aK,H_⟩=>by subst ab; exact ⟨aK,H.via H_⟩) ?_;intro eG H;refine kg 3 ?_;refine W.ret ?_
  have ab:=M.e_pure hM
  exact ⟨_,resE_tmp rfl,⟨((((aG==aI)&&(aH==aJ))&&r4)&&r5),ab,rfl,(H.pk [])⟩⟩
 skip
 refine t_alloc (cs:=[I 0,.slice none 0 0]) H Al53 rfl ?_;intro az eH H
 refine s_nil ⟨(H.pk [1,2,3,4,5,6]),?_⟩
 refine t_l rfl ?_;obtain ⟨eI,co,hM⟩:=M.e_bind hM;refine s_call cf15 [.agg #[I n_Marks,ag]] rfl (zac n_Marks n_Lines (ay.app _) aq co _ (H.gt 7)) ?_
 rintro vq eJ ⟨aR,aw,ax,rfl,hvq,aa⟩
 subst vq;(try dsimp only at hM);replace H:=H.bk aa;clear aa
 have eK:=Sl.cells (H.os 0)
 have eL:=Sl.oc (H.os 0)
 refine s_nil ⟨(H.pk [2,3,4,5,6,7]),?_⟩
 refine t_l rfl ?_;obtain ⟨eM,cp,hM⟩:=M.e_bind hM;refine s_call cf32 [.agg #[I aR,ax],.agg #[I m_.mark,I m_.day]] rfl (zcY aR aw m_ (rdo 0) (H.os 0) cp _ (H.gt 8)) ?_
 rintro vq eN ⟨aj,ap,aV,ae,rfl,hvq,aa⟩
 subst vq;(try dsimp only at hM);replace H:=H.bk aa;clear aa
 have eO:=Sl.cells (H.os 0)
 have eP:=Sl.oc (H.os 0)
 refine s_nil ⟨(H.pk [3,4,5,6,7,8]),?_⟩
 refine kg 3 ?_;refine t_l rfl ?_;refine t_sw 2 0 [I aj,ae] (.agg #[I aj,ae]) H rfl rfl Sz53 rfl rfl rfl (by simp only [List.all_cons,List.all_nil,Bool.true_and,Bool.and_true,Sl.oc (H.os 0)]; try rfl) ?_;intro eQ H
 refine s_nil ⟨(H.pk [3,4,5,6,7,8]),?_⟩
 refine kg 4 ?_;refine W.draw (fun W=>St w W [cOwn (α:=Line) 106 ae ap,cOwn (α:=Line) 106 ax aw,cBlk az [I aj,ae] 53,cBlk aM [I ao,ai] 25,cOwn (α:=Line) 34 ai av,cBlk au [I r0,ac] 25,cOwn (α:=Line) 34 ac r1,cBlk aL [I m_.mark,I m_.day] 31,cBlk ar [I n_Marks,ag] 25] R) [(0,true),(1,true),(2,false),(3,false),(4,true),(5,true),(6,true),(7,true),(8,true),(9,true)] mixed (by decide +kernel) rfl ?_;intro eR al;replace H:=H.ext al;clear al
 refine ⟨(H.pk [0,1,2,3,4,5,6,7,8]),?_⟩
 refine kg 2 ?_;refine d_l rfl ?_;obtain ⟨eS,cq,hM⟩:=M.e_bind hM;refine s_call cf33 [.agg #[I aj,ae]] rfl (zcV aj ap (rdo 0) (H.os 0) cq _ (H.gt 9)) ?_
 rintro vq eT ⟨aN,aA,aB,rfl,hvq,aa⟩
 subst vq;(try dsimp only at hM);replace H:=H.bk aa;clear aa
 have eU:=Sl.cells (H.os 0)
 have eV:=Sl.oc (H.os 0)
 refine s_nil ⟨(H.pk [1,2,3,4,5,6,7,8,9]),?_⟩
 refine d_l rfl ?_;obtain ⟨eW,cr,hM⟩:=M.e_bind hM;refine s_call cf21 [.agg #[I ao,ai],.agg #[I aN,aB]] rfl (zaA ao av aN aA (rdo 5) (H.os 5) (rdo 0) (H.os 0) cr _ (H.gt 10)) ?_
 rintro vq eX ⟨r3,rfl,hvq,aa⟩
 subst vq;(try dsimp only at hM);replace H:=H.bk aa;clear aa
 refine s_nil ⟨(H.pk [1,2,3,4,5,6,7,8,9]),?_⟩
 refine kg 7 ?_
 refine W.cond ((!r3)||(a7 != aV)) rfl (fun br=>?_) (fun br=>?_)
 ·replace hM:=M.e_t hM br;refine kg 4 ?_;refine W.ret ?_
  have ab:=M.e_pure hM
  exact ⟨_,resE_tmp rfl,⟨false,ab,rfl,(H.pk [])⟩⟩
 replace hM:=M.e_f hM br;refine kg 4 ?_;obtain ⟨eY,ct,hM⟩:=M.e_bind hM;refine s_call cf34 [.agg #[I r0,ac]] rfl (zbz r0 r1 (rdo 7) (H.os 7) ct _ (H.gt 10)) ?_
 rintro vq eZ ⟨ah,aW,aC,rfl,hvq,aa⟩
 subst vq;(try dsimp only at hM);replace H:=H.bk aa;clear aa;refine kg 9 ?_;obtain ⟨e7,cu,hM⟩:=M.e_bind hM;refine s_call cf15 [.agg #[I n_Marks,ag]] rfl (zac n_Marks n_Lines (ay.app _) aq cu _ (H.gt 11)) ?_
 rintro vq e8 ⟨aO,aD,aE,rfl,hvq,aa⟩
 subst vq;(try dsimp only at hM);replace H:=H.bk aa;clear aa;obtain ⟨e9,cv,hM⟩:=M.e_bind hM;refine s_call cf35 [.agg #[I aO,aE]] rfl (zcr aO aD (rdo 0) (H.os 0) cv _ (H.gt 12)) ?_
 rintro vq fa ⟨am,aX,aF,rfl,hvq,aa⟩
 subst vq;(try dsimp only at hM);replace H:=H.bk aa;clear aa
 have fb:=((H.os 2)).len_le
 have fd:=((H.os 0)).len_le
 refine kg 20 ?_
 refine W.cond (((ah.length:Int) != (am.length:Int))||(aW != aX)) rfl (fun bt=>?_) (fun bt=>?_)
 ·replace hM:=M.e_t hM bt;refine kg 4 ?_;refine W.ret ?_
  have ab:=M.e_pure hM
  exact ⟨_,resE_tmp rfl,⟨false,ab,rfl,(H.pk [])⟩⟩
 replace hM:=M.e_f hM bt
 have fe:=((H.os 2)).len_le
 refine kg 9 ?_;obtain ⟨cw,bu,bE⟩:=M.e_bind hM
 obtain ⟨bA,bu⟩:=M.e_iter bu
 refine W.loop (fun m σ W=>∃ (s:Nat) (ρ:Env),σ=upds ρ [(2,Pq ar),(5,Pq au),(10,aC),(11,aF),(67,I (ah.length:Int)),(68,I (s:Int))]/\M.iterN (zap ah am) m s=some cw/\St w W [cOwn (α:=Mv) 79 aF am,cOwn (α:=Line) 106 aE aD,cOwn (α:=Mv) 31 aC ah,cOwn (α:=Line) 34 aB aA,cOwn (α:=Line) 106 ae ap,cOwn (α:=Line) 106 ax aw,cBlk az [I aj,ae] 53,cBlk aM [I ao,ai] 25,cOwn (α:=Line) 34 ai av,cBlk au [I r0,ac] 25,cOwn (α:=Line) 34 ac r1,cBlk aL [I m_.mark,I m_.day] 31,cBlk ar [I n_Marks,ag] 25] R) ?_ ?_
 ·exact ⟨_,0,_,upds_of _ _ ⟨rfl,rfl,rfl,rfl,rfl,rfl,trivial⟩,bu,H⟩
 rintro ff σ fh ⟨s,ρ,rfl,bF,H⟩
 obtain ⟨cx,cy,fi,hM,bv⟩:=M.e_iterN bF
 simp only [zap] at hM
 clear bF;refine kg 5 ?_
 refine W.cond (decide ((s:Int)<(ah.length:Int))) rfl (fun aU=>?_) (fun aU=>?_)
 ·replace hM:=M.e_t hM aU
  replace aU:=dI aU
  refine kg 9 ?_;refine W.draw (fun W=>St w W [cOwn (α:=Mv) 79 aF am,cOwn (α:=Line) 106 aE aD,cOwn (α:=Mv) 31 aC ah,cOwn (α:=Line) 34 aB aA,cOwn (α:=Line) 106 ae ap,cOwn (α:=Line) 106 ax aw,cBlk az [I aj,ae] 53,cBlk aM [I ao,ai] 25,cOwn (α:=Line) 34 ai av,cBlk au [I r0,ac] 25,cOwn (α:=Line) 34 ac r1,cBlk aL [I m_.mark,I m_.day] 31,cBlk ar [I n_Marks,ag] 25] R) [(0,true),(1,true),(2,true),(3,true),(4,true),(5,true),(6,true),(7,true),(8,true)] mixed (by decide +kernel) rfl ?_;intro fj al;replace H:=H.ext al;clear al
  refine ⟨(H.pk [0,1,2,3,4,5,6,7,8,9,10,11,12]),?_⟩
  obtain ⟨fk,hM⟩:=M.e_gd hM;obtain ⟨fl,hM⟩:=M.e_gd hM;refine kg 8 ?_;refine d_q rfl (fun w' H=>x_neS (eqT79 (ah.getD s default) (am.getD s default) _) gdT79 rfl rfl) ?_;refine d_nil ?_
  refine W.cond (!(decide ((ah.getD s default)=(am.getD s default)))) rfl (fun bw=>?_) (fun bw=>?_)
  ·replace hM:=M.e_t hM bw;refine kg 4 ?_;refine W.ret ?_
   have cz:=M.e_inr hM bv
   subst cz;replace hM:=bE;(try dsimp only at hM)
   have ab:=M.e_pure hM
   exact ⟨_,resE_tmp rfl,⟨false,ab,rfl,(H.pk [])⟩⟩
  replace hM:=M.e_f hM bw;refine kg 5 ?_
  exact ⟨cx,cy,s+1,_,upds_of _ _ ⟨rfl,rfl,rfl,rfl,rfl,rfl,trivial⟩,M.e_inl hM bv,H⟩
 replace hM:=M.e_f hM aU
 replace aU:=dI aU
 refine W.exit ?_
 have cA:=M.e_inr hM bv
 subst cA;replace hM:=bE;(try dsimp only at hM);refine kg 3 ?_;obtain ⟨fm,cB,hM⟩:=M.e_bind hM;refine s_call cf36 [.agg #[I r0,ac]] rfl (zb1 r0 r1 (rdo 10) (H.os 10) cB _ (H.gt 13)) ?_
 rintro vq fo ⟨aG,aH,rfl,hvq,aa⟩
 subst vq;(try dsimp only at hM);replace H:=H.bk aa;clear aa;refine kg 9 ?_;obtain ⟨fp,cC,hM⟩:=M.e_bind hM;refine s_call cf15 [.agg #[I n_Marks,ag]] rfl (zac n_Marks n_Lines (ay.app _) aq cC _ (H.gt 13)) ?_
 rintro vq fq ⟨aP,aY,aZ,rfl,hvq,aa⟩
 subst vq;(try dsimp only at hM);replace H:=H.bk aa;clear aa;obtain ⟨fu,cD,hM⟩:=M.e_bind hM;refine s_call cf37 [.agg #[I aP,aZ]] rfl (zc0 aP aY (rdo 0) (H.os 0) cD _ (H.gt 14)) ?_
 rintro vq fv ⟨aI,aJ,rfl,hvq,aa⟩
 subst vq;(try dsimp only at hM);replace H:=H.bk aa;clear aa;refine kg 19 ?_;obtain ⟨r4,cE,hM⟩:=M.e_bind hM;refine t_gcall ((aG==aI)&&(aH==aJ)) (gy_t rfl) cf21 (B r4) (fun _=>[.agg #[I r0,ac],.agg #[I n_Marks,ag]]) (fun hg=>lst2 (gd_of hg (.agg #[I r0,ac])) (gd_of hg (.agg #[I n_Marks,ag]))) H (fun hg=>(zaA r0 r1 n_Marks n_Lines (rdo 11) (H.os 11) (ay.app _) aq (M.e_opt cE hg) _ (H.give (A:=[]) rfl)).mono fun v_ w_ ⟨y_,ab,aK,H_⟩=>by subst ab; exact ⟨aK,H.via H_⟩) ?_;intro fw H;refine kg 2 ?_;obtain ⟨r5,cF,hM⟩:=M.e_bind hM;refine t_gcall (((aG==aI)&&(aH==aJ))&&r4) (gy_t rfl) cf11 (B r5) (fun _=>[]) (fun _=>rfl) H (fun hg=>(zau (M.e_opt cF hg) _ (H.give (A:=[]) rfl)).mono fun v_ w_ ⟨y_,ab,aK,H_⟩=>by subst ab; exact ⟨aK,H.via H_⟩) ?_;intro fx H;refine kg 3 ?_;refine W.ret ?_
 have ab:=M.e_pure hM
 exact ⟨_,resE_tmp rfl,⟨((((aG==aI)&&(aH==aJ))&&r4)&&r5),ab,rfl,(H.pk [])⟩⟩

end Go.Proofs.YtfdgkdkfbaghpaaGreat
end
section
set_option maxRecDepth 100000
set_option maxHeartbeats 16000000
namespace Go.Proofs.YtfdgkdkfbaghpaaGreat
open Go Go.Nm
attribute [local irreducible] gd execOp SL SLD SLT WR
def zcO (l:List Leg):M (List Leg) :=
  M.grd (decide ((([]:List Leg).length+l.length)*16<=140737488355328)) <|
  M.pure l
theorem zdS {R:List Chunk} {ab:Cells} {aa:Value} (l:List Leg) (ac:Reads R ab) (ae:Sl ab aa l) {r:(List Leg)} (hM:(zcO l).Ends r) (w:World) (H:St w w [] R):Ret Tryz.prog 23 #[aa] w fun v w'=>∃ (y0:List Leg) (u0:Value),y0=r/\v=u0/\St w w' [cOwn (α:=Leg) 28 u0 y0] R:=by
 refine ret_of_W Tryz.func23 rfl rfl rfl ?_;refine kg 12 ?_
 replace H:=H.nilOwn (α:=Leg) 28
 obtain ⟨ai,hM⟩:=M.e_gd hM;refine t_app (α:=Leg) (k:=0) (l:=[]) (l2:=l) (l':=l) (vy:=aa) T29 rfl H rfl rfl rfl ae (ac.at H) (List.nil_append _) (by first | omega | (simp only [List.length_nil] at *; omega)) ?_;intro ag aj H;replace H:=H.nf;refine kg 2 ?_;refine W.ret ?_
 have ah:=M.e_pure hM
 exact ⟨_,resE_tmp rfl,⟨l,ag,ah,rfl,H⟩⟩

def zaF (n_Marks:Int) (n_Lines:List Line) (aa ab:Int):M (Int × Int × Int) :=
  M.bind (zan n_Marks n_Lines) fun r2 =>
  bif r2 != 0 then (
  M.pure (0,0,r2))
  else (
  M.grd (decide ((-9223372036854775808:Int)<=(n_Marks-1))&&decide ((n_Marks-1)<=(9223372036854775807:Int))) <|
  M.bind (zaa aa 0 (n_Marks-1)) fun r3 =>
  M.bind (M.opt (!r3) (zaa ab 0 (n_Marks-1)) false) fun r4 =>
  bif (r3||r4) then (
  M.pure (0,0,2))
  else (
  M.bind (zaw n_Marks n_Lines) fun r5 =>
  bif !r5 then (
  M.pure (0,0,7))
  else (
  M.bind (zbM n_Marks n_Lines) fun r6 =>
  M.grd (decide ((0:Int)<=aa)&&decide (aa<(r6.length:Int))) <|
  M.grd (decide ((0:Int)<=ab)&&decide (ab<((r6.getD (Int.toNat aa) ([])).length:Int))) <|
  bif ((r6.getD (Int.toNat aa) ([])).getD (Int.toNat ab) 0)==1000000000000 then (
  M.pure (0,0,5))
  else (
  M.grd (decide ((0:Int)<=ab)&&decide (ab<(r6.length:Int))) <|
  M.grd (decide ((0:Int)<=aa)&&decide (aa<((r6.getD (Int.toNat ab) ([])).length:Int))) <|
  M.grd (decide (-9223372036854775807<=((r6.getD (Int.toNat ab) ([])).getD (Int.toNat aa) 0))&&decide (((r6.getD (Int.toNat ab) ([])).getD (Int.toNat aa) 0)<=9223372036854775807)) <|
  M.pure ((-((r6.getD (Int.toNat ab) ([])).getD (Int.toNat aa) 0)),((r6.getD (Int.toNat aa) ([])).getD (Int.toNat ab) 0),0)))))
theorem zdL {R:List Chunk} {av:Cells} {ag:Value} (n_Marks:Int) (n_Lines:List Line) (aa:Int) (ab:Int) (ao:Reads R av) (ap:Sl av ag n_Lines) {r:(Int × Int × Int)} (hM:(zaF n_Marks n_Lines aa ab).Ends r) (w:World) (H:St w w [] R):Ret Tryz.prog 24 #[.agg #[I n_Marks,ag],I aa,I ab] w fun v w'=>∃ (y0:Int) (y1:Int) (y2:Int),(y0,y1,y2)=r/\v = .tuple #[.agg #[I y0,I y1],I y2]/\St w w' [] R:=by
 refine ret_of_W Tryz.func24 rfl rfl rfl ?_;refine kg 2 ?_;refine t_bx [I n_Marks,ag] H rfl ?_;intro aA aQ H;refine t_alloc (cs:=[I 0,I 0]) H Al42 rfl ?_;intro aR aS H;refine kg 6 ?_;obtain ⟨aT,aB,hM⟩:=M.e_bind hM;refine s_call cf14 [.agg #[I n_Marks,ag]] rfl (zaJ n_Marks n_Lines (ao.app _) ap aB _ (H.gt 2)) ?_
 rintro vq aU ⟨r2,rfl,hvq,ac⟩
 subst vq;(try dsimp only at hM);replace H:=H.bk ac;clear ac;refine kg 7 ?_
 refine W.cond (r2 != 0) rfl (fun ah=>?_) (fun ah=>?_)
 ·replace hM:=M.e_t hM ah
  replace ah:=dI ah
  refine kg 2 ?_;refine s_val (x_bld (ps:=[]) (zs:=[I 0,I 0]) (L':=[I 0,I 0]) rfl Tryz.underlying42 Al42 rfl (Bd42 Tryz.underlying42) (.nil)) ?_;refine kg 1 ?_;refine t_sw 0 0 [I 0,I 0] (.agg #[I 0,I 0]) H rfl rfl Sz42 rfl rfl rfl rfl ?_;intro aV H;refine kg 2 ?_;refine W.ret ?_
  have aC:=(H.bl 0)
  have ae:=M.e_pure hM
  exact ⟨_,(resE_ofn (vs:=[.agg #[I 0,I 0],I r2]) rfl rfl (.cell (v:=.agg #[I 0,I 0]) rfl (run_loadVar_ag (ds:=[I 0,I 0]) Ag42 Sz42 aC rfl rfl)<|.tmp (v:=I r2) rfl<|.nil)),⟨0,0,r2,ae,rfl,(H.pk [])⟩⟩
 replace hM:=M.e_f hM ah
 replace ah:=dI ah
 obtain ⟨aW,hM⟩:=M.e_gd hM;refine kg 8 ?_;obtain ⟨aX,aD,hM⟩:=M.e_bind hM;refine s_call cf46 [I aa,I 0,I (n_Marks-1)] rfl (zam aa 0 (n_Marks-1) aD _ (H.gt 2)) ?_
 rintro vq aY ⟨r3,rfl,hvq,ac⟩
 subst vq;(try dsimp only at hM);replace H:=H.bk ac;clear ac;refine kg 5 ?_;obtain ⟨r4,aE,hM⟩:=M.e_bind hM;refine t_gcall (!r3) (gy_f rfl) cf46 (B r4) (fun _=>[I ab,I 0,I (n_Marks-1)]) (fun hg=>lst3 (gd_of hg (I ab)) rfl (gd_of hg (I (n_Marks-1)))) H (fun hg=>(zam ab 0 (n_Marks-1) (M.e_opt aE hg) _ (H.give (A:=[]) rfl)).mono fun v_ w_ ⟨y_,ae,aF,H_⟩=>by subst ae; exact ⟨aF,H.via H_⟩) ?_;intro aZ H;refine kg 2 ?_
 refine W.cond (r3||r4) rfl (fun aq=>?_) (fun aq=>?_)
 ·replace hM:=M.e_t hM aq;refine kg 2 ?_;refine s_val (x_bld (ps:=[]) (zs:=[I 0,I 0]) (L':=[I 0,I 0]) rfl Tryz.underlying42 Al42 rfl (Bd42 Tryz.underlying42) (.nil)) ?_;refine t_sw 0 0 [I 0,I 0] (.agg #[I 0,I 0]) H rfl rfl Sz42 rfl rfl rfl rfl ?_;intro a7 H;refine kg 2 ?_;refine W.ret ?_
  have aG:=(H.bl 0)
  have ae:=M.e_pure hM
  exact ⟨_,(resE_ofn (vs:=[.agg #[I 0,I 0],I 2]) rfl rfl (.cell (v:=.agg #[I 0,I 0]) rfl (run_loadVar_ag (ds:=[I 0,I 0]) Ag42 Sz42 aG rfl rfl)<|.tmp (v:=I 2) rfl<|.nil)),⟨0,0,2,ae,rfl,(H.pk [])⟩⟩
 replace hM:=M.e_f hM aq;refine kg 5 ?_;obtain ⟨a8,aH,hM⟩:=M.e_bind hM;refine s_call cf49 [.agg #[I n_Marks,ag]] rfl (zbK n_Marks n_Lines (ao.app _) ap aH _ (H.gt 2)) ?_
 rintro vq ba ⟨r5,rfl,hvq,ac⟩
 subst vq;(try dsimp only at hM);replace H:=H.bk ac;clear ac;refine kg 2 ?_
 refine W.cond (!r5) rfl (fun ar=>?_) (fun ar=>?_)
 ·replace hM:=M.e_t hM ar;refine kg 2 ?_;refine s_val (x_bld (ps:=[]) (zs:=[I 0,I 0]) (L':=[I 0,I 0]) rfl Tryz.underlying42 Al42 rfl (Bd42 Tryz.underlying42) (.nil)) ?_;refine t_sw 0 0 [I 0,I 0] (.agg #[I 0,I 0]) H rfl rfl Sz42 rfl rfl rfl rfl ?_;intro bb H;refine kg 2 ?_;refine W.ret ?_
  have aI:=(H.bl 0)
  have ae:=M.e_pure hM
  exact ⟨_,(resE_ofn (vs:=[.agg #[I 0,I 0],I 7]) rfl rfl (.cell (v:=.agg #[I 0,I 0]) rfl (run_loadVar_ag (ds:=[I 0,I 0]) Ag42 Sz42 aI rfl rfl)<|.tmp (v:=I 7) rfl<|.nil)),⟨0,0,7,ae,rfl,(H.pk [])⟩⟩
 replace hM:=M.e_f hM ar;refine kg 4 ?_;obtain ⟨bc,aJ,hM⟩:=M.e_bind hM;refine s_call cf57 [.agg #[I n_Marks,ag]] rfl (zdl n_Marks n_Lines (ao.app _) ap aJ _ (H.gt 2)) ?_
 rintro vq bg ⟨r6,bh,aK,rfl,hvq,ac,au⟩
 subst vq;(try dsimp only at hM);replace H:=H.bk ac;clear ac;obtain ⟨bi,hM⟩:=M.e_gd hM;refine kg 8 ?_
 obtain ⟨aw,aL,aj⟩:=List_at au (i:=aa) (by omega) (by omega)
 replace aj:Sl _ aw (r6.getD (Int.toNat aa) ([])):=aj
 have bj:=aj.len_le
 refine s_val (x_ld (v:=aw) rfl (ld_sc Sc22 (At.mono (aL) (roLe _ (H.get (k:=0) rfl))))) ?_;obtain ⟨bn,hM⟩:=M.e_gd hM;refine kg 2 ?_;refine s_val (x_ld (v:=I ((r6.getD (Int.toNat aa) ([])).getD (Int.toNat ab) 0)) rfl (ld_sc Sc3 (At.mono (Int_at aj (i:=ab) (by omega) (by omega)) (roLe _ (H.get (k:=0) rfl))))) ?_;refine kg 2 ?_
 refine W.cond (((r6.getD (Int.toNat aa) ([])).getD (Int.toNat ab) 0)==1000000000000) rfl (fun ai=>?_) (fun ai=>?_)
 ·replace hM:=M.e_t hM ai
  replace ai:=dI ai
  refine kg 2 ?_;refine s_val (x_bld (ps:=[]) (zs:=[I 0,I 0]) (L':=[I 0,I 0]) rfl Tryz.underlying42 Al42 rfl (Bd42 Tryz.underlying42) (.nil)) ?_;refine t_sw 1 0 [I 0,I 0] (.agg #[I 0,I 0]) H rfl rfl Sz42 rfl rfl rfl rfl ?_;intro bp H;refine kg 2 ?_;refine W.ret ?_
  have aM:=(H.bl 1)
  have ae:=M.e_pure hM
  exact ⟨_,(resE_ofn (vs:=[.agg #[I 0,I 0],I 5]) rfl rfl (.cell (v:=.agg #[I 0,I 0]) rfl (run_loadVar_ag (ds:=[I 0,I 0]) Ag42 Sz42 aM rfl rfl)<|.tmp (v:=I 5) rfl<|.nil)),⟨0,0,5,ae,rfl,(H.pk [])⟩⟩
 replace hM:=M.e_f hM ai
 replace ai:=dI ai
 refine kg 2 ?_;refine W.draw (fun W=>St w W [cRo aK,cBlk aA [I n_Marks,ag] 53] R) [(0,true),(1,true),(2,true),(3,true),(4,true),(5,true),(6,true),(7,true),(8,true),(9,true),(10,true),(11,true),(12,true),(13,true),(14,true),(15,true),(16,false),(17,true)] mixed (by decide +kernel) rfl ?_;intro br ax;replace H:=H.ext ax;clear ax
 refine ⟨(H.pk [0,2]),?_⟩
 obtain ⟨bt,hM⟩:=M.e_gd hM;refine kg 3 ?_
 obtain ⟨ay,aN,al⟩:=List_at au (i:=ab) (by omega) (by omega)
 replace al:Sl _ ay (r6.getD (Int.toNat ab) ([])):=al
 have bu:=al.len_le
 refine d_q rfl (fun w' H=>x_ld (v:=ay) rfl (ld_sc Sc22 (At.mono (aN) (roLe _ (H.get (k:=0) rfl))))) ?_;obtain ⟨bv,hM⟩:=M.e_gd hM;refine kg 2 ?_;refine d_q rfl (fun w' H=>x_ld (v:=I ((r6.getD (Int.toNat ab) ([])).getD (Int.toNat aa) 0)) rfl (ld_sc Sc3 (At.mono (Int_at al (i:=aa) (by omega) (by omega)) (roLe _ (H.get (k:=0) rfl))))) ?_;obtain ⟨bw,hM⟩:=M.e_gd hM;refine d_q rfl (fun w' H=>x_neg (a:=(r6.getD (Int.toNat ab) ([])).getD (Int.toNat aa) 0) rfl (by omega)) ?_;refine kg 3 ?_
 obtain ⟨az,aO,am⟩:=List_at au (i:=aa) (by omega) (by omega)
 replace am:Sl _ az (r6.getD (Int.toNat aa) ([])):=am
 have bx:=am.len_le
 refine d_q rfl (fun w' H=>x_ld (v:=az) rfl (ld_sc Sc22 (At.mono (aO) (roLe _ (H.get (k:=0) rfl))))) ?_;refine kg 2 ?_;refine d_q rfl (fun w' H=>x_ld (v:=I ((r6.getD (Int.toNat aa) ([])).getD (Int.toNat ab) 0)) rfl (ld_sc Sc3 (At.mono (Int_at am (i:=ab) (by omega) (by omega)) (roLe _ (H.get (k:=0) rfl)))))<|d_q rfl (fun w' H=>x_bld (ps:=[(0,I (-((r6.getD (Int.toNat ab) ([])).getD (Int.toNat aa) 0))),(1,I ((r6.getD (Int.toNat aa) ([])).getD (Int.toNat ab) 0))]) (zs:=[I 0,I 0]) (L':=[I (-((r6.getD (Int.toNat ab) ([])).getD (Int.toNat aa) 0)),I ((r6.getD (Int.toNat aa) ([])).getD (Int.toNat ab) 0)]) rfl Tryz.underlying42 Al42 rfl (Bd42 Tryz.underlying42) (.cons (cs:=[I (-((r6.getD (Int.toNat ab) ([])).getD (Int.toNat aa) 0))]) rfl rfl rfl rfl rfl<|.cons (cs:=[I ((r6.getD (Int.toNat aa) ([])).getD (Int.toNat ab) 0)]) rfl rfl rfl rfl rfl<|.nil))<|d_l rfl ?_;refine t_sw 1 0 [I (-((r6.getD (Int.toNat ab) ([])).getD (Int.toNat aa) 0)),I ((r6.getD (Int.toNat aa) ([])).getD (Int.toNat ab) 0)] (.agg #[I (-((r6.getD (Int.toNat ab) ([])).getD (Int.toNat aa) 0)),I ((r6.getD (Int.toNat aa) ([])).getD (Int.toNat ab) 0)]) H rfl rfl Sz42 rfl rfl rfl rfl ?_;intro bz H
 refine s_nil ⟨(H.pk [0,2]),?_⟩
 refine kg 2 ?_;refine W.ret ?_
 have aP:=(H.bl 1)
 have ae:=M.e_pure hM
 exact ⟨_,(resE_ofn (vs:=[.agg #[I (-((r6.getD (Int.toNat ab) ([])).getD (Int.toNat aa) 0)),I ((r6.getD (Int.toNat aa) ([])).getD (Int.toNat ab) 0)],I 0]) rfl rfl (.cell (v:=.agg #[I (-((r6.getD (Int.toNat ab) ([])).getD (Int.toNat aa) 0)),I ((r6.getD (Int.toNat aa) ([])).getD (Int.toNat ab) 0)]) rfl (run_loadVar_ag (ds:=[I (-((r6.getD (Int.toNat ab) ([])).getD (Int.toNat aa) 0)),I ((r6.getD (Int.toNat aa) ([])).getD (Int.toNat ab) 0)]) Ag42 Sz42 aP rfl rfl)<|.tmp (v:=I 0) rfl<|.nil)),⟨(-((r6.getD (Int.toNat ab) ([])).getD (Int.toNat aa) 0)),((r6.getD (Int.toNat aa) ([])).getD (Int.toNat ab) 0),0,ae,rfl,(H.pk [])⟩⟩

def zbT (l:List Leg):(Nat × (List Leg))->M ((Nat × (List Leg)) ⊕ ((List Leg) × (List Leg))):=fun (s,l2) =>
  bif decide ((s:Int)<(l.length:Int)) then (
  M.grd (decide ((s:Int)<(l.length:Int))) <|
  M.grd (decide ((l2.length+([(l.getD s default)]).length)*16<=140737488355328)) <|
  M.pure (.inl (s+1,l2++([(l.getD s default)]))))
  else (
  M.pure (.inr (l2,l2)))
def zaT (l:List Leg):M (List Leg) :=
  M.bind (M.iter (zbT l) (0,[])) fun (l3,l4) =>
  M.pure l4
theorem zcS {R:List Chunk} {ag:Cells} {ac:Value} (l:List Leg) (aw:Reads R ag) (aj:Sl ag ac l) {r:(List Leg)} (hM:(zaT l).Ends r) (w:World) (H:St w w [] R):Ret Tryz.prog 27 #[ac] w fun v w'=>∃ (y0:List Leg) (u0:Value),y0=r/\v=u0/\St w w' [cOwn (α:=Leg) 120 u0 y0] R:=by
 refine ret_of_W Tryz.func27 rfl rfl rfl ?_
 have ax:=(aj).len_le
 refine kg 16 ?_
 replace H:=H.nilOwn (α:=Leg) 120
 obtain ⟨al,ae,am⟩:=M.e_bind hM
 obtain ⟨ay,ae⟩:=M.e_iter ae
 refine W.loop (fun m σ W=>∃ (s:Nat) (l2:List Leg) (ab:Value) (ρ:Env),σ=upds ρ [(3,ab),(6,ac),(7,I (l.length:Int)),(8,I (s:Int))]/\M.iterN (zbT l) m (s,l2)=some al/\St w W [cOwn (α:=Leg) 120 ab l2] R) ?_ ?_
 ·exact ⟨_,0,[],(.slice none 0 0),_,upds_of _ _ ⟨rfl,rfl,rfl,rfl,trivial⟩,ae,H⟩
 rintro az σ aA ⟨s,l2,ab,ρ,rfl,ah,H⟩
 obtain ⟨ao,ap,aB,hM,ai⟩:=M.e_iterN ah
 simp only [zbT] at hM
 clear ah;refine kg 5 ?_
 refine W.cond (decide ((s:Int)<(l.length:Int))) rfl (fun aa=>?_) (fun aa=>?_)
 ·replace hM:=M.e_t hM aa
  replace aa:=dI aa
  obtain ⟨aC,hM⟩:=M.e_gd hM;refine kg 7 ?_;refine t_alloc (cs:=[I 0,B false]) H Al28 rfl ?_;intro aD aE H;refine t_sw 0 0 [I ((l.getD s default).line),B ((l.getD s default).back)] (.agg #[I ((l.getD s default).line),B ((l.getD s default).back)]) H rfl rfl Sz28 rfl rfl rfl rfl ?_;intro aF H;refine kg 4 ?_;refine t_bs (α:=Leg) T70 [.agg #[I ((l.getD s default).line),B ((l.getD s default).back)]] [(l.getD s default)] H rfl (.cons rfl (Flat.rep_enc _ (l.getD s default))<|.nil) rfl rfl rfl ?_;intro aq aG H;obtain ⟨aH,hM⟩:=M.e_gd hM;refine t_app (α:=Leg) (k:=2) (l:=l2) (l2:=[(l.getD s default)]) (l':=l2++([(l.getD s default)])) (vy:=aq) T70 rfl H rfl rfl rfl (H.os 0) (H.ol 0) (rfl) (by first | omega | (simp only [List.length_nil] at *; omega)) ?_;intro ar aI H;replace H:=H.nf;refine kg 6 ?_
  exact ⟨ao,ap,s+1,l2++([(l.getD s default)]),ar,_,upds_of _ _ ⟨rfl,rfl,rfl,rfl,trivial⟩,M.e_inl hM ai,(H.pk [2])⟩
 replace hM:=M.e_f hM aa
 replace aa:=dI aa
 refine W.exit ?_
 have au:=M.e_inr hM ai
 subst au;replace hM:=am;(try dsimp only at hM);refine kg 5 ?_;refine W.ret ?_
 have av:=M.e_pure hM
 exact ⟨_,resE_tmp rfl,⟨l2,ab,av,rfl,H⟩⟩

def za6 (n_Lines:List Line) (walk:List Leg):Nat->M (Nat ⊕ (Unit ⊕ Unit)):=fun i =>
  bif decide ((i:Int)<(walk.length:Int)) then (
  M.grd (decide ((i:Int)<(walk.length:Int))) <|
  M.bind (zaa ((walk.getD i default).line) 0 ((n_Lines.length:Int)-1)) fun r3 =>
  bif r3 then (
  M.pure (.inr (.inl ())))
  else (
  M.pure (.inl (i+1))))
  else (
  M.pure (.inr (.inr ())))
def za4 (n_Lines:List Line) (walk:List Leg):(Int × Int × Int × Nat)->M ((Int × Int × Int × Nat) ⊕ (Unit ⊕ (Int × Int × Int))):=fun (first,last,sum,i2) =>
  bif decide ((i2:Int)<(walk.length:Int)) then (
  M.grd (decide ((i2:Int)<(walk.length:Int))) <|
  M.grd (decide ((0:Int)<=((walk.getD i2 default).line))&&decide (((walk.getD i2 default).line)<(n_Lines.length:Int))) <|
  bif (walk.getD i2 default).back then (
  M.grd (decide (-9223372036854775807<=((n_Lines.getD (Int.toNat ((walk.getD i2 default).line)) default).rise))&&decide (((n_Lines.getD (Int.toNat ((walk.getD i2 default).line)) default).rise)<=9223372036854775807)) <|
  bif (i2:Int)==0 then (
  M.grd (decide ((-9223372036854775808:Int)<=(sum+(-((n_Lines.getD (Int.toNat ((walk.getD i2 default).line)) default).rise))))&&decide ((sum+(-((n_Lines.getD (Int.toNat ((walk.getD i2 default).line)) default).rise)))<=(9223372036854775807:Int))) <|
  M.grd (decide ((-9223372036854775808:Int)<=((sum+(-((n_Lines.getD (Int.toNat ((walk.getD i2 default).line)) default).rise)))+((n_Lines.getD (Int.toNat ((walk.getD i2 default).line)) default).err)))&&decide (((sum+(-((n_Lines.getD (Int.toNat ((walk.getD i2 default).line)) default).rise)))+((n_Lines.getD (Int.toNat ((walk.getD i2 default).line)) default).err))<=(9223372036854775807:Int))) <|
  M.pure (.inl ((n_Lines.getD (Int.toNat ((walk.getD i2 default).line)) default).dst,(n_Lines.getD (Int.toNat ((walk.getD i2 default).line)) default).src,(sum+(-((n_Lines.getD (Int.toNat ((walk.getD i2 default).line)) default).rise)))+((n_Lines.getD (Int.toNat ((walk.getD i2 default).line)) default).err),i2+1)))
  else (
  bif ((n_Lines.getD (Int.toNat ((walk.getD i2 default).line)) default).dst) != last then (
  M.pure (.inr (.inl ())))
  else (
  M.grd (decide ((-9223372036854775808:Int)<=(sum+(-((n_Lines.getD (Int.toNat ((walk.getD i2 default).line)) default).rise))))&&decide ((sum+(-((n_Lines.getD (Int.toNat ((walk.getD i2 default).line)) default).rise)))<=(9223372036854775807:Int))) <|
  M.grd (decide ((-9223372036854775808:Int)<=((sum+(-((n_Lines.getD (Int.toNat ((walk.getD i2 default).line)) default).rise)))+((n_Lines.getD (Int.toNat ((walk.getD i2 default).line)) default).err)))&&decide (((sum+(-((n_Lines.getD (Int.toNat ((walk.getD i2 default).line)) default).rise)))+((n_Lines.getD (Int.toNat ((walk.getD i2 default).line)) default).err))<=(9223372036854775807:Int))) <|
  M.pure (.inl (first,(n_Lines.getD (Int.toNat ((walk.getD i2 default).line)) default).src,(sum+(-((n_Lines.getD (Int.toNat ((walk.getD i2 default).line)) default).rise)))+((n_Lines.getD (Int.toNat ((walk.getD i2 default).line)) default).err),i2+1)))))
  else (
  bif (i2:Int)==0 then (
  M.grd (decide ((-9223372036854775808:Int)<=(sum+((n_Lines.getD (Int.toNat ((walk.getD i2 default).line)) default).rise)))&&decide ((sum+((n_Lines.getD (Int.toNat ((walk.getD i2 default).line)) default).rise))<=(9223372036854775807:Int))) <|
  M.grd (decide ((-9223372036854775808:Int)<=((sum+((n_Lines.getD (Int.toNat ((walk.getD i2 default).line)) default).rise))+((n_Lines.getD (Int.toNat ((walk.getD i2 default).line)) default).err)))&&decide (((sum+((n_Lines.getD (Int.toNat ((walk.getD i2 default).line)) default).rise))+((n_Lines.getD (Int.toNat ((walk.getD i2 default).line)) default).err))<=(9223372036854775807:Int))) <|
  M.pure (.inl ((n_Lines.getD (Int.toNat ((walk.getD i2 default).line)) default).src,(n_Lines.getD (Int.toNat ((walk.getD i2 default).line)) default).dst,(sum+((n_Lines.getD (Int.toNat ((walk.getD i2 default).line)) default).rise))+((n_Lines.getD (Int.toNat ((walk.getD i2 default).line)) default).err),i2+1)))
  else (
  bif ((n_Lines.getD (Int.toNat ((walk.getD i2 default).line)) default).src) != last then (
  M.pure (.inr (.inl ())))
  else (
  M.grd (decide ((-9223372036854775808:Int)<=(sum+((n_Lines.getD (Int.toNat ((walk.getD i2 default).line)) default).rise)))&&decide ((sum+((n_Lines.getD (Int.toNat ((walk.getD i2 default).line)) default).rise))<=(9223372036854775807:Int))) <|
  M.grd (decide ((-9223372036854775808:Int)<=((sum+((n_Lines.getD (Int.toNat ((walk.getD i2 default).line)) default).rise))+((n_Lines.getD (Int.toNat ((walk.getD i2 default).line)) default).err)))&&decide (((sum+((n_Lines.getD (Int.toNat ((walk.getD i2 default).line)) default).rise))+((n_Lines.getD (Int.toNat ((walk.getD i2 default).line)) default).err))<=(9223372036854775807:Int))) <|
  M.pure (.inl (first,(n_Lines.getD (Int.toNat ((walk.getD i2 default).line)) default).dst,(sum+((n_Lines.getD (Int.toNat ((walk.getD i2 default).line)) default).rise))+((n_Lines.getD (Int.toNat ((walk.getD i2 default).line)) default).err),i2+1))))))
  else (
  M.pure (.inr (.inr (first,last,sum))))
def za7 (n_Marks:Int) (n_Lines:List Line) (walk:List Leg):M (Int × Int × Int × Int) :=
  M.bind (zan n_Marks n_Lines) fun r2 =>
  bif r2 != 0 then (
  M.pure (0,0,0,r2))
  else (
  bif ((decide ((walk.length:Int)<1))||(decide (60<(walk.length:Int)))) then (
  M.pure (0,0,0,3))
  else (
  M.bind (M.iter (za6 n_Lines walk) 0) fun x_=>match x_ with
  | (.inl (_:Unit))=>(
  M.pure (0,0,0,2))
  | (.inr (_:Unit))=>(
  M.bind (M.iter (za4 n_Lines walk) (0,0,0,0)) fun x_=>match x_ with
  | (.inl (_:Unit))=>(
  M.pure (0,0,0,9))
  | (.inr (first2,last2,sum2))=>(
  M.pure (first2,last2,sum2,0)))))
theorem zcZ {R:List Chunk} {aE:Cells} {ac:Value} {aF:Cells} {ar:Value} (n_Marks:Int) (n_Lines:List Line) (walk:List Leg) (aL:Reads R aE) (aG:Sl aE ac n_Lines) (aY:Reads R aF) (au:Sl aF ar walk) {r:(Int × Int × Int × Int)} (hM:(za7 n_Marks n_Lines walk).Ends r) (w:World) (H:St w w [] R):Ret Tryz.prog 26 #[.agg #[I n_Marks,ac],ar] w fun v w'=>∃ (y0:Int) (y1:Int) (y2:Int) (y3:Int),(y0,y1,y2,y3)=r/\v = .tuple #[I y0,I y1,I y2,I y3]/\St w w' [] R:=by
 refine ret_of_W Tryz.func26 rfl rfl rfl ?_;refine kg 2 ?_;refine t_bx [I n_Marks,ac] H rfl ?_;intro ae aZ H;refine kg 9 ?_;obtain ⟨a7,aM,hM⟩:=M.e_bind hM;refine s_call cf14 [.agg #[I n_Marks,ac]] rfl (zaJ n_Marks n_Lines (aL.app _) aG aM _ (H.gt 1)) ?_
 rintro vq a8 ⟨r2,rfl,hvq,aq⟩
 subst vq;(try dsimp only at hM);replace H:=H.bk aq;clear aq;refine kg 7 ?_
 refine W.cond (r2 != 0) rfl (fun ag=>?_) (fun ag=>?_)
 ·replace hM:=M.e_t hM ag
  replace ag:=dI ag
  refine kg 8 ?_;refine W.ret ?_
  have aa:=M.e_pure hM
  exact ⟨_,resE_tmp4 rfl,⟨0,0,0,r2,aa,rfl,(H.pk [])⟩⟩
 replace hM:=M.e_f hM ag
 replace ag:=dI ag
 have ba:=(au).len_le
 have bb:=(au).len_le
 refine kg 13 ?_
 refine W.cond ((decide ((walk.length:Int)<1))||(decide (60<(walk.length:Int)))) rfl (fun ax=>?_) (fun ax=>?_)
 ·replace hM:=M.e_t hM ax;refine kg 7 ?_;refine W.ret ?_
  have aa:=M.e_pure hM
  exact ⟨_,resE_tmp4 rfl,⟨0,0,0,3,aa,rfl,(H.pk [])⟩⟩
 replace hM:=M.e_f hM ax;refine kg 7 ?_;obtain ⟨aN,ay,aH⟩:=M.e_bind hM
 obtain ⟨aO,ay⟩:=M.e_iter ay
 refine W.loop (fun m σ W=>∃ (i:Nat) (ρ:Env),σ=upds ρ [(1,ar),(2,Pq ae),(9,I (i:Int))]/\M.iterN (za6 n_Lines walk) m i=some aN/\St w W [cBlk ae [I n_Marks,ac] 53] R) ?_ ?_
 ·exact ⟨_,0,_,upds_of _ _ ⟨rfl,rfl,rfl,trivial⟩,ay,H⟩
 rintro bc σ bg ⟨i,ρ,rfl,aI,H⟩
 obtain ⟨aP,aQ,bh,hM,az⟩:=M.e_iterN aI
 simp only [za6] at hM
 clear aI
 have bi:=(au).len_le
 refine kg 8 ?_
 refine W.cond (decide ((i:Int)<(walk.length:Int))) rfl (fun ah=>?_) (fun ah=>?_)
 ·replace hM:=M.e_t hM ah
  replace ah:=dI ah
  refine kg 4 ?_;refine W.draw (fun W=>St w W [cBlk ae [I n_Marks,ac] 53] R) [(0,true),(1,true),(2,true),(3,true),(4,true),(5,true),(6,true),(7,true),(8,true),(9,false)] mixed (by decide +kernel) rfl ?_;intro bj ab;replace H:=H.ext ab;clear ab
  refine ⟨(H.pk [0]),?_⟩
  obtain ⟨bn,hM⟩:=M.e_gd hM
  have bp:=(aG).len_le
  refine kg 9 ?_;refine d_l rfl ?_;obtain ⟨br,aR,hM⟩:=M.e_bind hM;refine s_call cf46 [I ((walk.getD i default).line),I 0,I ((n_Lines.length:Int)-1)] rfl (zam ((walk.getD i default).line) 0 ((n_Lines.length:Int)-1) aR _ (H.gt 1)) ?_
  rintro vq bt ⟨r3,rfl,hvq,aq⟩
  subst vq;(try dsimp only at hM);replace H:=H.bk aq;clear aq
  refine s_nil ⟨(H.pk [0]),?_⟩
  refine d_nil ?_
  refine W.cond r3 rfl (fun aA=>?_) (fun aA=>?_)
  ·replace hM:=M.e_t hM aA;refine kg 7 ?_;refine W.ret ?_
   have aS:=M.e_inr hM az
   subst aS;replace hM:=aH;(try dsimp only at hM)
   have aa:=M.e_pure hM
   exact ⟨_,resE_tmp4 rfl,⟨0,0,0,2,aa,rfl,(H.pk [])⟩⟩
  replace hM:=M.e_f hM aA;refine kg 6 ?_
  exact ⟨aP,aQ,i+1,_,upds_of _ _ ⟨rfl,rfl,rfl,trivial⟩,M.e_inl hM az,H⟩
 replace hM:=M.e_f hM ah
 replace ah:=dI ah
 refine W.exit ?_
 have aT:=M.e_inr hM az
 subst aT;replace hM:=aH;(try dsimp only at hM);refine kg 12 ?_;obtain ⟨aU,aB,aC⟩:=M.e_bind hM
 obtain ⟨aO,aB⟩:=M.e_iter aB
 refine W.loop (fun m σ W=>∃ (first:Int) (last:Int) (sum:Int) (i2:Nat) (ρ:Env),σ=upds ρ [(1,ar),(2,Pq ae),(10,I first),(11,I last),(12,I sum),(13,I (i2:Int))]/\M.iterN (za4 n_Lines walk) m (first,last,sum,i2)=some aU/\St w W [cBlk ae [I n_Marks,ac] 53] R) ?_ ?_
 ·exact ⟨_,0,0,0,0,_,upds_of _ _ ⟨rfl,rfl,rfl,rfl,rfl,rfl,trivial⟩,aB,H⟩
 rintro bu σ bv ⟨first,last,sum,i2,ρ,rfl,aJ,H⟩
 obtain ⟨av,aw,bw,hM,ai⟩:=M.e_iterN aJ
 simp only [za4] at hM
 clear aJ
 have bx:=(au).len_le
 refine kg 8 ?_
 refine W.cond (decide ((i2:Int)<(walk.length:Int))) rfl (fun aj=>?_) (fun aj=>?_)
 ·replace hM:=M.e_t hM aj
  replace aj:=dI aj
  refine kg 4 ?_;refine W.draw (fun W=>St w W [cBlk ae [I n_Marks,ac] 53] R) [(0,true),(1,true),(2,true),(3,true),(4,true),(5,true),(6,true),(7,true),(8,true),(9,false),(10,false)] mixed (by decide +kernel) rfl ?_;intro bz ab;replace H:=H.ext ab;clear ab
  refine ⟨(H.pk [0]),?_⟩
  obtain ⟨bA,hM⟩:=M.e_gd hM;obtain ⟨bB,hM⟩:=M.e_gd hM;refine kg 9 ?_;refine d_l rfl ?_;refine t_alloc (cs:=[I 0,I 0,I 0,I 0,I 0]) H Al106 rfl ?_;intro aK bC H
  refine s_nil ⟨(H.pk [1]),?_⟩
  refine d_l rfl ?_;refine t_sw 0 0 [I ((n_Lines.getD (Int.toNat ((walk.getD i2 default).line)) default).src),I ((n_Lines.getD (Int.toNat ((walk.getD i2 default).line)) default).dst),I ((n_Lines.getD (Int.toNat ((walk.getD i2 default).line)) default).day),I ((n_Lines.getD (Int.toNat ((walk.getD i2 default).line)) default).rise),I ((n_Lines.getD (Int.toNat ((walk.getD i2 default).line)) default).err)] (.agg #[I ((n_Lines.getD (Int.toNat ((walk.getD i2 default).line)) default).src),I ((n_Lines.getD (Int.toNat ((walk.getD i2 default).line)) default).dst),I ((n_Lines.getD (Int.toNat ((walk.getD i2 default).line)) default).day),I ((n_Lines.getD (Int.toNat ((walk.getD i2 default).line)) default).rise),I ((n_Lines.getD (Int.toNat ((walk.getD i2 default).line)) default).err)]) H rfl rfl Sz106 rfl rfl rfl rfl ?_;intro bD H
  refine s_nil ⟨(H.pk [1]),?_⟩
  refine kg 2 ?_;refine W.draw (fun W=>St w W [cBlk aK [I ((n_Lines.getD (Int.toNat ((walk.getD i2 default).line)) default).src),I ((n_Lines.getD (Int.toNat ((walk.getD i2 default).line)) default).dst),I ((n_Lines.getD (Int.toNat ((walk.getD i2 default).line)) default).day),I ((n_Lines.getD (Int.toNat ((walk.getD i2 default).line)) default).rise),I ((n_Lines.getD (Int.toNat ((walk.getD i2 default).line)) default).err)] 106,cBlk ae [I n_Marks,ac] 53] R) [(0,true),(1,true),(2,true),(3,true),(4,true),(5,true),(6,true),(7,true),(8,true)] mixed (by decide +kernel) rfl ?_;intro bE ab;replace H:=H.ext ab;clear ab
  refine ⟨(H.pk [0,1]),?_⟩
  refine kg 19 ?_
  refine W.cond ((walk.getD i2 default).back) rfl (fun aD=>?_) (fun aD=>?_)
  ·replace hM:=M.e_t hM aD;refine W.draw (fun W=>St w W [cBlk aK [I ((n_Lines.getD (Int.toNat ((walk.getD i2 default).line)) default).src),I ((n_Lines.getD (Int.toNat ((walk.getD i2 default).line)) default).dst),I ((n_Lines.getD (Int.toNat ((walk.getD i2 default).line)) default).day),I ((n_Lines.getD (Int.toNat ((walk.getD i2 default).line)) default).rise),I ((n_Lines.getD (Int.toNat ((walk.getD i2 default).line)) default).err)] 106,cBlk ae [I n_Marks,ac] 53] R) [(0,true),(1,true),(2,true),(3,true),(4,true),(5,true),(6,true),(7,true),(8,true),(9,true)] mixed (by decide +kernel) rfl ?_;intro bF ab;replace H:=H.ext ab;clear ab
   refine ⟨(H.pk [0,1]),?_⟩
   obtain ⟨bG,hM⟩:=M.e_gd hM;refine kg 6 ?_;refine d_q rfl (fun w' H=>x_neg (a:=(n_Lines.getD (Int.toNat ((walk.getD i2 default).line)) default).rise) rfl (by omega)) ?_;refine kg 10 ?_
   refine W.cond ((i2:Int)==0) rfl (fun al=>?_) (fun al=>?_)
   ·replace hM:=M.e_t hM al
    replace al:=dI al
    obtain ⟨bH,hM⟩:=M.e_gd hM;obtain ⟨bI,hM⟩:=M.e_gd hM;refine kg 23 ?_
    exact ⟨av,aw,(n_Lines.getD (Int.toNat ((walk.getD i2 default).line)) default).dst,(n_Lines.getD (Int.toNat ((walk.getD i2 default).line)) default).src,(sum+(-((n_Lines.getD (Int.toNat ((walk.getD i2 default).line)) default).rise)))+((n_Lines.getD (Int.toNat ((walk.getD i2 default).line)) default).err),i2+1,_,upds_of _ _ ⟨rfl,rfl,rfl,rfl,rfl,rfl,trivial⟩,M.e_inl hM ai,(H.pk [1])⟩
   replace hM:=M.e_f hM al
   replace al:=dI al
   refine kg 6 ?_
   refine W.cond (((n_Lines.getD (Int.toNat ((walk.getD i2 default).line)) default).dst) != last) rfl (fun am=>?_) (fun am=>?_)
   ·replace hM:=M.e_t hM am
    replace am:=dI am
    refine kg 7 ?_;refine W.ret ?_
    have aV:=M.e_inr hM ai
    subst aV;replace hM:=aC;(try dsimp only at hM)
    have aa:=M.e_pure hM
    exact ⟨_,resE_tmp4 rfl,⟨0,0,0,9,aa,rfl,(H.pk [])⟩⟩
   replace hM:=M.e_f hM am
   replace am:=dI am
   obtain ⟨bJ,hM⟩:=M.e_gd hM;obtain ⟨bK,hM⟩:=M.e_gd hM;refine kg 20 ?_
   exact ⟨av,aw,first,(n_Lines.getD (Int.toNat ((walk.getD i2 default).line)) default).src,(sum+(-((n_Lines.getD (Int.toNat ((walk.getD i2 default).line)) default).rise)))+((n_Lines.getD (Int.toNat ((walk.getD i2 default).line)) default).err),i2+1,_,upds_of _ _ ⟨rfl,rfl,rfl,rfl,rfl,rfl,trivial⟩,M.e_inl hM ai,(H.pk [1])⟩
  replace hM:=M.e_f hM aD;refine kg 7 ?_
  refine W.cond ((i2:Int)==0) rfl (fun ao=>?_) (fun ao=>?_)
  ·replace hM:=M.e_t hM ao
   replace ao:=dI ao
   obtain ⟨bL,hM⟩:=M.e_gd hM;obtain ⟨bM,hM⟩:=M.e_gd hM;refine kg 23 ?_
   exact ⟨av,aw,(n_Lines.getD (Int.toNat ((walk.getD i2 default).line)) default).src,(n_Lines.getD (Int.toNat ((walk.getD i2 default).line)) default).dst,(sum+((n_Lines.getD (Int.toNat ((walk.getD i2 default).line)) default).rise))+((n_Lines.getD (Int.toNat ((walk.getD i2 default).line)) default).err),i2+1,_,upds_of _ _ ⟨rfl,rfl,rfl,rfl,rfl,rfl,trivial⟩,M.e_inl hM ai,(H.pk [1])⟩
  replace hM:=M.e_f hM ao
  replace ao:=dI ao
  refine kg 6 ?_
  refine W.cond (((n_Lines.getD (Int.toNat ((walk.getD i2 default).line)) default).src) != last) rfl (fun ap=>?_) (fun ap=>?_)
  ·replace hM:=M.e_t hM ap
   replace ap:=dI ap
   refine kg 7 ?_;refine W.ret ?_
   have aW:=M.e_inr hM ai
   subst aW;replace hM:=aC;(try dsimp only at hM)
   have aa:=M.e_pure hM
   exact ⟨_,resE_tmp4 rfl,⟨0,0,0,9,aa,rfl,(H.pk [])⟩⟩
  replace hM:=M.e_f hM ap
  replace ap:=dI ap
  obtain ⟨bN,hM⟩:=M.e_gd hM;obtain ⟨bO,hM⟩:=M.e_gd hM;refine kg 20 ?_
  exact ⟨av,aw,first,(n_Lines.getD (Int.toNat ((walk.getD i2 default).line)) default).dst,(sum+((n_Lines.getD (Int.toNat ((walk.getD i2 default).line)) default).rise))+((n_Lines.getD (Int.toNat ((walk.getD i2 default).line)) default).err),i2+1,_,upds_of _ _ ⟨rfl,rfl,rfl,rfl,rfl,rfl,trivial⟩,M.e_inl hM ai,(H.pk [1])⟩
 replace hM:=M.e_f hM aj
 replace aj:=dI aj
 refine W.exit ?_
 have aX:=M.e_inr hM ai
 subst aX;replace hM:=aC;(try dsimp only at hM);refine kg 10 ?_;refine W.ret ?_
 have aa:=M.e_pure hM
 exact ⟨_,resE_tmp4 rfl,⟨first,last,sum,0,aa,rfl,(H.pk [])⟩⟩

def zbb (ah:(Int × Int × Int × (List Line) × (List Int) × (List Leg))->M (List Leg)):(Int × Int × Int × (List Line) × (List Int) × (List Leg))->M (List Leg):=fun (ab,aa,ae,ag,ai,ac) =>
  bif ab==aa then (
  M.pure ([]))
  else (
  M.grd (decide ((0:Int)<=aa)&&decide (aa<(13:Int))) <|
  M.grd (decide ((0:Int)<=ab)&&decide (ab<(13:Int))) <|
  M.bind (zaq ae ag (ac.getD ((Int.toNat aa)*13+(Int.toNat ab)) default)) fun r2 =>
  M.bind (ah (r2,aa,ae,ag,ai,ac)) fun r3 =>
  M.grd (decide ((r3.length+([(ac.getD ((Int.toNat aa)*13+(Int.toNat ab)) default)]).length)*16<=140737488355328)) <|
  M.pure (r3++([(ac.getD ((Int.toNat aa)*13+(Int.toNat ab)) default)])))
theorem zd0  : M.Mon zbb:=by
  intro n f g h a
  obtain ⟨aa,ab,ac,ae,ag,ah⟩:=a
  simp only [zbb]
  repeat' (first | exact M.le_same _ _ | exact h _ | refine M.le_grd ?_ | refine M.le_if ?_ ?_ | refine M.le_bind ?_ (fun x=>?_) | refine M.le_opt ?_ | refine M.le_iter (fun x=>?_) _ | refine zdP (M.le_yl (fun s_ a_=>?_)) _ _ _ _ | (rename_i x; cases x) | (rename_i x; obtain ⟨_,_⟩:=x))
def zbI (aa ab ac:Int) (ae:List Line) (ag:List Int) (ah:List Leg):M (List Leg):=M.fix zbb zd0 (aa,ab,ac,ae,ag,ah)
theorem zdF (n_:Nat):∀ {R:List Chunk} {av:Nat} {aw:Nat} {ai:Nat} {aC:Cells} {aD:Value} {ax:Nat} (ac:Int) (aa:Int) (ag:Int) (ah:List Line) (aj:List Int) (ab:List Leg) (ay:Has R (cBlk av [I aa] 3)) (am:Reads R aC) (ao:Sl aC aD ah) (ar:aj.length=169) (au:ab.length=169) (al:Has R (cBlk ai (List.flatten [[I ag,aD],encF (α:=Int) aj,encF (α:=Leg) ab]) 102)) (az:Has R (cBlk aw [Pq ai] 93)) (aA:Has R (cBlk ax [.func (.func 63) #[] #[Pq av,Pq aw,Pq ax]] 121)) {r:(List Leg)} (hM:(M.fixN zbb n_ (ac,aa,ag,ah,aj,ab)).Ends r) (w:World) (H:St w w [] R),Ret Tryz.prog 63 #[I ac,Pq av,Pq aw,Pq ax] w fun v w'=>∃ (y0:List Leg) (u0:Value),y0=r/\v=u0/\St w w' [cOwn (α:=Leg) 28 u0 y0] R:=by
  induction n_ with
  | zero=>intro R av aw ai aC aD ax ac aa ag ah aj ab ay am ao ar au al az aA r hM w H; exact (M.e_fail hM).elim
  | succ n_ ih =>
    intro R av aw ai aC aD ax ac aa ag ah aj ab ay am ao ar au al az aA r hM w H;refine ret_of_W Tryz.func63 rfl rfl rfl ?_;refine kg 11 ?_
    refine W.cond (ac==aa) rfl (fun ap=>?_) (fun ap=>?_)
    ·replace hM:=M.e_t hM ap
     replace ap:=dI ap
     refine kg 4 ?_;refine W.ret ?_
     have aq:=M.e_pure hM
     replace H:=H.nilOwn (α:=Leg) 28
     exact ⟨_,resE_tmp rfl,⟨([]),(.slice none 0 0),aq,rfl,H⟩⟩
    replace hM:=M.e_f hM ap
    replace ap:=dI ap
    refine kg 2 ?_;refine W.draw (fun W=>St w W [] R) [(0,true),(1,true),(2,true),(3,true),(4,true),(5,true),(6,true),(7,true),(8,false),(9,false)] mixed (by decide +kernel) rfl ?_;intro aR aB;replace H:=H.ext aB;clear aB
    refine ⟨(H.pk []),?_⟩
    obtain ⟨aS,hM⟩:=M.e_gd hM;refine kg 5 ?_;refine d_q rfl (fun w' H=>x_ix (v:=.pointer (some ⟨ai,171+Int.toNat aa*26,none⟩)) rfl rfl (run_indexS Tryz.underlying100 Sz99 (by omega) (by omega))) ?_;obtain ⟨aT,hM⟩:=M.e_gd hM;refine d_q rfl (fun w' H=>x_ix (v:=.pointer (some ⟨ai,(171+Int.toNat aa*26)+Int.toNat ac*2,none⟩)) rfl rfl (run_indexS Tryz.underlying99 Sz28 (by omega) (by omega)))<|d_q rfl (fun w' H=>x_ld (v:=.agg #[I ((ab.getD ((Int.toNat aa)*13+(Int.toNat ac)) default).line),B ((ab.getD ((Int.toNat aa)*13+(Int.toNat ac)) default).back)]) rfl (ldSA (α:=Leg) (k:=2) (off:=171) (i:=(Int.toNat aa)*13+(Int.toNat ac)) (sz:=2) default Ag28 Sz28 (al.blk H) rfl (sgo2 ar rfl) rfl (by have aU:=au; omega) (by omega) rfl))<|d_l rfl ?_;refine t_alloc (cs:=[I 0,B false]) H Al28 rfl ?_;intro aF aV H
    refine s_nil ⟨(H.pk []),?_⟩
    refine d_l rfl ?_;refine t_sw 0 0 [I ((ab.getD ((Int.toNat aa)*13+(Int.toNat ac)) default).line),B ((ab.getD ((Int.toNat aa)*13+(Int.toNat ac)) default).back)] (.agg #[I ((ab.getD ((Int.toNat aa)*13+(Int.toNat ac)) default).line),B ((ab.getD ((Int.toNat aa)*13+(Int.toNat ac)) default).back)]) H rfl rfl Sz28 rfl rfl rfl rfl ?_;intro aW H
    refine s_nil ⟨(H.pk []),?_⟩
    refine kg 2 ?_;refine W.drawT (fun W=>St w W [cBlk aF [I ((ab.getD ((Int.toNat aa)*13+(Int.toNat ac)) default).line),B ((ab.getD ((Int.toNat aa)*13+(Int.toNat ac)) default).back)] 28] R) (.q 0 (.q 1 (.q 2 (.q 5 (.l2 3 (.l2 4 (.l 6 (.l 7 (.q 8 .nil))) 6 (.l 4 (.l 7 (.q 8 .nil)))) 6 (.l 3 (.l 4 (.l 7 (.q 8 .nil))))))))) mixed (by decide +kernel) rfl ?_;intro aX aB;replace H:=H.ext aB;clear aB
    refine ⟨(H.pk [0]),?_⟩
    refine kg 4 ?_;refine t_l2 rfl rfl ?_ ?_
    ·skip
     obtain ⟨aY,aG,hM⟩:=M.e_bind hM;refine s_call cf60 [Pq ai,.agg #[I ((ab.getD ((Int.toNat aa)*13+(Int.toNat ac)) default).line),B ((ab.getD ((Int.toNat aa)*13+(Int.toNat ac)) default).back)]] rfl (zaH ag ah (ab.getD ((Int.toNat aa)*13+(Int.toNat ac)) default) (am.app _) ao (Fld.of (al.app _) rfl) aG _ (H.gt 1)) ?_
     rintro vq aZ ⟨r2,rfl,hvq,ae⟩
     subst vq;(try dsimp only at hM);replace H:=H.bk ae;clear ae
     refine s_nil ⟨(H.pk [0]),?_⟩
     refine t_l2 rfl rfl ?_ ?_
     ·skip
      obtain ⟨a7,aH,hM⟩:=M.e_bind hM;refine s_callv (f:=63) rfl cf63 [I r2] rfl (ih r2 aa ag ah aj ab (ay.app _) (am.app _) ao ar au (al.app _) (az.app _) (aA.app _) aH _ (H.gt 1)) ?_
      rintro vq a8 ⟨r3,aE,rfl,hvq,ae⟩
      subst vq;(try dsimp only at hM);replace H:=H.bk ae;clear ae
      have ba:=Sl.cells (H.os 0)
      have bb:=Sl.oc (H.os 0)
      refine s_nil ⟨(H.pk [1]),?_⟩
      refine t_l rfl ?_;refine t_bs (α:=Leg) T29 [.agg #[I ((ab.getD ((Int.toNat aa)*13+(Int.toNat ac)) default).line),B ((ab.getD ((Int.toNat aa)*13+(Int.toNat ac)) default).back)]] [(ab.getD ((Int.toNat aa)*13+(Int.toNat ac)) default)] H rfl (.cons rfl (Flat.rep_enc _ (ab.getD ((Int.toNat aa)*13+(Int.toNat ac)) default))<|.nil) rfl rfl rfl ?_;intro aI bc H
      have bg:=Sl.cells (H.os 0)
      have bh:=Sl.oc (H.os 0)
      refine s_nil ⟨(H.pk [2]),?_⟩
      refine t_l rfl ?_;obtain ⟨bi,hM⟩:=M.e_gd hM;refine t_app (α:=Leg) (k:=1) (l:=r3) (l2:=[(ab.getD ((Int.toNat aa)*13+(Int.toNat ac)) default)]) (l':=r3++([(ab.getD ((Int.toNat aa)*13+(Int.toNat ac)) default)])) (vy:=aI) T29 rfl H rfl rfl rfl (H.os 0) (H.ol 0) (rfl) (by first | omega | (simp only [List.length_nil] at *; omega)) ?_;intro aJ bj H;replace H:=H.nf
      have bn:=Sl.cells (H.os 1)
      have bp:=Sl.oc (H.os 1)
      refine s_nil ⟨(H.pk [2]),?_⟩
      refine kg 2 ?_;refine W.ret ?_
      have aq:=M.e_pure hM
      exact ⟨_,resE_tmp rfl,⟨(r3++([(ab.getD ((Int.toNat aa)*13+(Int.toNat ac)) default)])),aJ,aq,rfl,(H.pk [1])⟩⟩
     skip
     refine t_bs (α:=Leg) T29 [.agg #[I ((ab.getD ((Int.toNat aa)*13+(Int.toNat ac)) default).line),B ((ab.getD ((Int.toNat aa)*13+(Int.toNat ac)) default).back)]] [(ab.getD ((Int.toNat aa)*13+(Int.toNat ac)) default)] H rfl (.cons rfl (Flat.rep_enc _ (ab.getD ((Int.toNat aa)*13+(Int.toNat ac)) default))<|.nil) rfl rfl rfl ?_;intro aK br H
     have bt:=Sl.cells (H.os 0)
     have bu:=Sl.oc (H.os 0)
     refine s_nil ⟨(H.pk [1]),?_⟩
     refine t_l rfl ?_;obtain ⟨bv,aL,hM⟩:=M.e_bind hM;refine s_callv (f:=63) rfl cf63 [I r2] rfl (ih r2 aa ag ah aj ab (ay.app _) (am.app _) ao ar au (al.app _) (az.app _) (aA.app _) aL _ (H.gt 2)) ?_
     rintro vq bw ⟨r3,aE,rfl,hvq,ae⟩
     subst vq;(try dsimp only at hM);replace H:=H.bk ae;clear ae
     have bx:=Sl.cells (H.os 0)
     have bz:=Sl.oc (H.os 0)
     refine s_nil ⟨(H.pk [2]),?_⟩
     refine t_l rfl ?_;obtain ⟨bA,hM⟩:=M.e_gd hM;refine t_app (α:=Leg) (k:=0) (l:=r3) (l2:=[(ab.getD ((Int.toNat aa)*13+(Int.toNat ac)) default)]) (l':=r3++([(ab.getD ((Int.toNat aa)*13+(Int.toNat ac)) default)])) (vy:=aK) T29 rfl H rfl rfl rfl (H.os 1) (H.ol 1) (rfl) (by first | omega | (simp only [List.length_nil] at *; omega)) ?_;intro aM bB H;replace H:=H.nf
     have bC:=Sl.cells (H.os 0)
     have bD:=Sl.oc (H.os 0)
     refine s_nil ⟨(H.pk [2]),?_⟩
     refine kg 2 ?_;refine W.ret ?_
     have aq:=M.e_pure hM
     exact ⟨_,resE_tmp rfl,⟨(r3++([(ab.getD ((Int.toNat aa)*13+(Int.toNat ac)) default)])),aM,aq,rfl,(H.pk [0])⟩⟩
    skip
    refine t_bs (α:=Leg) T29 [.agg #[I ((ab.getD ((Int.toNat aa)*13+(Int.toNat ac)) default).line),B ((ab.getD ((Int.toNat aa)*13+(Int.toNat ac)) default).back)]] [(ab.getD ((Int.toNat aa)*13+(Int.toNat ac)) default)] H rfl (.cons rfl (Flat.rep_enc _ (ab.getD ((Int.toNat aa)*13+(Int.toNat ac)) default))<|.nil) rfl rfl rfl ?_;intro aN bE H
    have bF:=Sl.cells (H.os 0)
    have bG:=Sl.oc (H.os 0)
    refine s_nil ⟨(H.pk [1]),?_⟩
    refine t_l rfl ?_;obtain ⟨bH,aO,hM⟩:=M.e_bind hM;refine s_call cf60 [Pq ai,.agg #[I ((ab.getD ((Int.toNat aa)*13+(Int.toNat ac)) default).line),B ((ab.getD ((Int.toNat aa)*13+(Int.toNat ac)) default).back)]] rfl (zaH ag ah (ab.getD ((Int.toNat aa)*13+(Int.toNat ac)) default) (am.app _) ao (Fld.of (al.app _) rfl) aO _ (H.gt 2)) ?_
    rintro vq bI ⟨r2,rfl,hvq,ae⟩
    subst vq;(try dsimp only at hM);replace H:=H.bk ae;clear ae
    refine s_nil ⟨(H.pk [1]),?_⟩
    refine t_l rfl ?_;obtain ⟨bJ,aP,hM⟩:=M.e_bind hM;refine s_callv (f:=63) rfl cf63 [I r2] rfl (ih r2 aa ag ah aj ab (ay.app _) (am.app _) ao ar au (al.app _) (az.app _) (aA.app _) aP _ (H.gt 2)) ?_
    rintro vq bK ⟨r3,aE,rfl,hvq,ae⟩
    subst vq;(try dsimp only at hM);replace H:=H.bk ae;clear ae
    have bL:=Sl.cells (H.os 0)
    have bM:=Sl.oc (H.os 0)
    refine s_nil ⟨(H.pk [2]),?_⟩
    refine t_l rfl ?_;obtain ⟨bN,hM⟩:=M.e_gd hM;refine t_app (α:=Leg) (k:=0) (l:=r3) (l2:=[(ab.getD ((Int.toNat aa)*13+(Int.toNat ac)) default)]) (l':=r3++([(ab.getD ((Int.toNat aa)*13+(Int.toNat ac)) default)])) (vy:=aN) T29 rfl H rfl rfl rfl (H.os 1) (H.ol 1) (rfl) (by first | omega | (simp only [List.length_nil] at *; omega)) ?_;intro aQ bO H;replace H:=H.nf
    have bP:=Sl.cells (H.os 0)
    have bQ:=Sl.oc (H.os 0)
    refine s_nil ⟨(H.pk [2]),?_⟩
    refine kg 2 ?_;refine W.ret ?_
    have aq:=M.e_pure hM
    exact ⟨_,resE_tmp rfl,⟨(r3++([(ab.getD ((Int.toNat aa)*13+(Int.toNat ac)) default)])),aQ,aq,rfl,(H.pk [0])⟩⟩
theorem zdu {R:List Chunk} {ac:Nat} {ae:Nat} {am:Nat} {ao:Cells} {ap:Value} {ag:Nat} (ah:Int) (ai:Int) (aj:Int) (al:List Line) (aa:List Int) (ab:List Leg) (aq:Has R (cBlk ac [I ai] 3)) (ar:Reads R ao) (au:Sl ao ap al) (av:aa.length=169) (aw:ab.length=169) (ax:Has R (cBlk am (List.flatten [[I aj,ap],encF (α:=Int) aa,encF (α:=Leg) ab]) 102)) (ay:Has R (cBlk ae [Pq am] 93)) (az:Has R (cBlk ag [.func (.func 63) #[] #[Pq ac,Pq ae,Pq ag]] 121)) {r:(List Leg)} (hM:(zbI ah ai aj al aa ab).Ends r) (w:World) (H:St w w [] R):Ret Tryz.prog 63 #[I ah,Pq ac,Pq ae,Pq ag] w fun v w'=>∃ (y0:List Leg) (u0:Value),y0=r/\v=u0/\St w w' [cOwn (α:=Leg) 28 u0 y0] R:=by
  obtain ⟨n_,hM⟩:=M.e_fix hM
  exact zdF n_ ah ai aj al aa ab aq ar au av aw ax ay az hM w H

def zcQ (n_Marks:Int) (n_Lines:List Line) (aa ab:Int):M ((List Leg) × Int) :=
  M.bind (zaD n_Marks n_Lines aa ab false) fun x_=>match x_ with
  | (.inl r1)=>(
  bif r1 != 0 then (
  M.pure (([]),r1))
  else (
  M.fail))
  | (.inr (ae,ag,ah,ac))=>(
  bif ac != 0 then (
  M.pure (([]),ac))
  else (
  M.bind (zbI ab aa ae n_Lines ag ah) fun r2 =>
  M.pure (r2,0)))
theorem zdx {R:List Chunk} {ao:Cells} {am:Value} (n_Marks:Int) (n_Lines:List Line) (ah:Int) (ai:Int) (ap:Reads R ao) (aq:Sl ao am n_Lines) {r:((List Leg) × Int)} (hM:(zcQ n_Marks n_Lines ah ai).Ends r) (w:World) (H:St w w [] R):Ret Tryz.prog 28 #[.agg #[I n_Marks,am],I ah,I ai] w fun v w'=>∃ (y0:List Leg) (y1:Int) (u0:Value),(y0,y1)=r/\v = .tuple #[u0,I y1]/\St w w' [cOwn (α:=Leg) 28 u0 y0] R:=by
 refine ret_of_W Tryz.func28 rfl rfl rfl ?_;refine kg 2 ?_;refine t_bx [I n_Marks,am] H rfl ?_;intro aF aG H;refine t_b1 (I ah) H rfl rfl ?_;intro aj aH H;refine kg 8 ?_;obtain ⟨aI,av,hM⟩:=M.e_bind hM;refine s_call cf42 [.agg #[I n_Marks,am],I ah,I ai,B false] rfl (zdi n_Marks n_Lines ah ai false (ap.app _) aq av _ (H.gt 2)) ?_
 rintro vq aJ (⟨r1,aw,hvq,aa⟩ | ⟨ax,ay,az,ar,au,aA,hvq,aa,aB,aC⟩)
 ·subst aw;subst vq;(try dsimp only at hM);replace H:=H.bk aa;clear aa;refine kg 3 ?_;refine t_alloc (cs:=[.pointer none]) H Al93 rfl ?_;intro ab aK H;refine t_sw 0 0 [.pointer none] (.pointer none) H rfl rfl Sz93 rfl rfl rfl rfl ?_;intro aL H;refine kg 8 ?_
  refine W.cond (r1 != 0) rfl (fun ac=>?_) (fun ac=>?_)
  ·replace hM:=M.e_t hM ac
   replace ac:=dI ac
   refine kg 6 ?_;refine W.ret ?_
   have al:=M.e_pure hM
   replace H:=H.nilOwn (α:=Leg) 28
   exact ⟨_,resE_tmp2 rfl,⟨([]),r1,(.slice none 0 0),al,rfl,(H.pk [0])⟩⟩
  replace hM:=M.e_f hM ac
  replace ac:=dI ac
  refine kg 3 ?_;refine t_alloc (cs:=[.nilFunc]) H Al121 rfl ?_;intro ae aM H;refine kg 3 ?_;refine s_val (x_mf (fs:=[]) (cs:=[Pq aj,Pq ab,Pq ae]) rfl rfl) ?_;refine t_sw 0 0 [.func (.func 63) #[] #[Pq aj,Pq ab,Pq ae]] (.func (.func 63) #[] #[Pq aj,Pq ab,Pq ae]) H rfl rfl Sz121 rfl rfl rfl rfl ?_;intro aN H;refine kg 5 ?_
  exact (M.e_fail hM).elim
 subst aA;subst vq;(try dsimp only at hM);replace H:=H.bk aa;clear aa;refine kg 3 ?_;refine t_alloc (cs:=[.pointer none]) H Al93 rfl ?_;intro ab aO H;refine t_sw 0 0 [Pq au] (Pq au) H rfl rfl Sz93 rfl rfl rfl rfl ?_;intro aP H;refine kg 8 ?_
 refine W.cond (ar != 0) rfl (fun ag=>?_) (fun ag=>?_)
 ·replace hM:=M.e_t hM ag
  replace ag:=dI ag
  refine kg 6 ?_;refine W.ret ?_
  have al:=M.e_pure hM
  replace H:=H.nilOwn (α:=Leg) 28
  exact ⟨_,resE_tmp2 rfl,⟨([]),ar,(.slice none 0 0),al,rfl,(H.pk [0])⟩⟩
 replace hM:=M.e_f hM ag
 replace ag:=dI ag
 refine kg 3 ?_;refine t_alloc (cs:=[.nilFunc]) H Al121 rfl ?_;intro ae aQ H;refine kg 3 ?_;refine s_val (x_mf (fs:=[]) (cs:=[Pq aj,Pq ab,Pq ae]) rfl rfl) ?_;refine t_sw 0 0 [.func (.func 63) #[] #[Pq aj,Pq ab,Pq ae]] (.func (.func 63) #[] #[Pq aj,Pq ab,Pq ae]) H rfl rfl Sz121 rfl rfl rfl rfl ?_;intro aR H;refine kg 5 ?_;obtain ⟨aS,aD,hM⟩:=M.e_bind hM;refine s_callv (f:=63) rfl cf63 [I ai] rfl (zdu ai ah ax n_Lines ay az (Has.here (k:=3) rfl) (ap.app _) aq aB aC (Has.here (k:=2) rfl) (Has.here (k:=1) rfl) (Has.here (k:=0) rfl) aD _ (H.gt 5)) ?_
 rintro vq aT ⟨r2,aE,rfl,hvq,aa⟩
 subst vq;(try dsimp only at hM);replace H:=H.bk aa;clear aa;refine kg 3 ?_;refine W.ret ?_
 have al:=M.e_pure hM
 exact ⟨_,resE_tmp2 rfl,⟨r2,0,aE,al,rfl,(H.pk [0])⟩⟩

def zb4 (n_Lines:List Line) (l:List Leg) (aa:Bool):(Nat × (List Int))->M ((Nat × (List Int)) ⊕ ((List Int) ⊕ ((List Int) × (List Int)))):=fun (s,l2) =>
  bif decide ((s:Int)<(l.length:Int)) then (
  M.grd (decide ((s:Int)<(l.length:Int))) <|
  bif ((decide (((l.getD s default).line)<0))||(decide ((n_Lines.length:Int)<=((l.getD s default).line)))) then (
  M.pure (.inr (.inl l2)))
  else (
  M.grd (decide ((0:Int)<=((l.getD s default).line))&&decide (((l.getD s default).line)<(n_Lines.length:Int))) <|
  bif (l.getD s default).back then (
  M.grd (decide ((l2.length+([((n_Lines.getD (Int.toNat ((l.getD s default).line)) default).dst:Int)]).length)*8<=140737488355328)) <|
  bif (((s:Int)==((l.length:Int)-1))&&aa) then (
  M.grd (decide (((l2++([((n_Lines.getD (Int.toNat ((l.getD s default).line)) default).dst:Int)])).length+([((n_Lines.getD (Int.toNat ((l.getD s default).line)) default).src:Int)]).length)*8<=140737488355328)) <|
  M.pure (.inl (s+1,(l2++([((n_Lines.getD (Int.toNat ((l.getD s default).line)) default).dst:Int)]))++([((n_Lines.getD (Int.toNat ((l.getD s default).line)) default).src:Int)]))))
  else (
  M.pure (.inl (s+1,l2++([((n_Lines.getD (Int.toNat ((l.getD s default).line)) default).dst:Int)])))))
  else (
  M.grd (decide ((l2.length+([((n_Lines.getD (Int.toNat ((l.getD s default).line)) default).src:Int)]).length)*8<=140737488355328)) <|
  bif (((s:Int)==((l.length:Int)-1))&&aa) then (
  M.grd (decide (((l2++([((n_Lines.getD (Int.toNat ((l.getD s default).line)) default).src:Int)])).length+([((n_Lines.getD (Int.toNat ((l.getD s default).line)) default).dst:Int)]).length)*8<=140737488355328)) <|
  M.pure (.inl (s+1,(l2++([((n_Lines.getD (Int.toNat ((l.getD s default).line)) default).src:Int)]))++([((n_Lines.getD (Int.toNat ((l.getD s default).line)) default).dst:Int)]))))
  else (
  M.pure (.inl (s+1,l2++([((n_Lines.getD (Int.toNat ((l.getD s default).line)) default).src:Int)])))))))
  else (
  M.pure (.inr (.inr (l2,l2))))
def zck (l5:List Int) (s3:Nat):Nat->M (Nat ⊕ (Unit ⊕ Unit)):=fun s2 =>
  bif decide ((s2:Int)<(s3:Int)) then (
  M.grd (decide ((s3:Int)<(l5.length:Int))) <|
  M.grd (decide ((s2:Int)<(l5.length:Int))) <|
  bif (l5.getD s3 0)==(l5.getD s2 0) then (
  M.pure (.inr (.inl ())))
  else (
  M.pure (.inl (s2+1))))
  else (
  M.pure (.inr (.inr ())))
def zcc (l5:List Int):Nat->M (Nat ⊕ (Unit ⊕ Unit)):=fun s3 =>
  bif decide ((s3:Int)<(l5.length:Int)) then (
  M.bind (M.iter (zck l5 s3) 0) fun x_=>match x_ with
  | (.inl (_:Unit))=>(
  M.pure (.inr (.inl ())))
  | (.inr (_:Unit))=>(
  M.pure (.inl (s3+1))))
  else (
  M.pure (.inr (.inr ())))
def zbi (n_Marks:Int) (n_Lines:List Line) (l:List Leg) (aa:Bool):M Bool :=
  M.bind (M.iter (zb4 n_Lines l aa) (0,[])) fun x_=>match x_ with
  | (.inl l3)=>(
  M.pure true)
  | (.inr (l4,l5))=>(
  M.bind (M.iter (zcc l5) 0) fun x_=>match x_ with
  | (.inl (_:Unit))=>(
  M.pure true)
  | (.inr (_:Unit))=>(
  M.pure false))
theorem zdk {R:List Chunk} {aE:Cells} {ab:Value} {aF:Cells} {ap:Value} (n_Marks:Int) (n_Lines:List Line) (l:List Leg) (ai:Bool) (bp:Reads R aE) (aN:Sl aE ab n_Lines) (br:Reads R aF) (au:Sl aF ap l) {r:Bool} (hM:(zbi n_Marks n_Lines l ai).Ends r) (w:World) (H:St w w [] R):Ret Tryz.prog 29 #[.agg #[I n_Marks,ab],ap,B ai] w fun v w'=>∃ (y0:Bool),y0=r/\v=B y0/\St w w' [] R:=by
 refine ret_of_W Tryz.func29 rfl rfl rfl ?_;refine kg 2 ?_;refine t_bx [I n_Marks,ab] H rfl ?_;intro aj bt H
 have bu:=(au).len_le
 refine kg 14 ?_
 replace H:=H.nilOwn (α:=Int) 3
 obtain ⟨aO,av,aG⟩:=M.e_bind hM
 obtain ⟨aH,av⟩:=M.e_iter av
 refine W.loop (fun m σ W=>∃ (s:Nat) (l2:List Int) (aa:Value) (ρ:Env),σ=upds ρ [(1,ap),(2,B ai),(3,Pq aj),(7,aa),(14,ap),(15,I (l.length:Int)),(16,I (s:Int))]/\M.iterN (zb4 n_Lines l ai) m (s,l2)=some aO/\St w W [cOwn (α:=Int) 3 aa l2,cBlk aj [I n_Marks,ab] 25] R) ?_ ?_
 ·exact ⟨_,0,[],(.slice none 0 0),_,upds_of _ _ ⟨rfl,rfl,rfl,rfl,rfl,rfl,rfl,trivial⟩,av,H⟩
 rintro bv σ bw ⟨s,l2,aa,ρ,rfl,aI,H⟩
 obtain ⟨aq,ar,bx,hM,al⟩:=M.e_iterN aI
 simp only [zb4] at hM
 clear aI;refine kg 5 ?_
 refine W.cond (decide ((s:Int)<(l.length:Int))) rfl (fun ac=>?_) (fun ac=>?_)
 ·replace hM:=M.e_t hM ac
  replace ac:=dI ac
  obtain ⟨bz,hM⟩:=M.e_gd hM;refine kg 8 ?_;refine t_alloc (cs:=[I 0,B false]) H Al28 rfl ?_;intro aP bA H;refine kg 1 ?_;refine t_sw 0 0 [I ((l.getD s default).line),B ((l.getD s default).back)] (.agg #[I ((l.getD s default).line),B ((l.getD s default).back)]) H rfl rfl Sz28 rfl rfl rfl rfl ?_;intro bB H
  have bC:=(aN).len_le
  refine kg 16 ?_
  refine W.cond ((decide (((l.getD s default).line)<0))||(decide ((n_Lines.length:Int)<=((l.getD s default).line)))) rfl (fun aw=>?_) (fun aw=>?_)
  ·replace hM:=M.e_t hM aw;refine kg 4 ?_;refine W.ret ?_
   have aQ:=M.e_inr hM al
   subst aQ;replace hM:=aG;(try dsimp only at hM)
   have am:=M.e_pure hM
   exact ⟨_,resE_tmp rfl,⟨true,am,rfl,(H.pk [])⟩⟩
  replace hM:=M.e_f hM aw;refine kg 2 ?_;refine W.draw (fun W=>St w W [cBlk aP [I ((l.getD s default).line),B ((l.getD s default).back)] 28,cOwn (α:=Int) 3 aa l2,cBlk aj [I n_Marks,ab] 25] R) [(0,true),(1,true),(2,true),(3,true),(4,true),(5,true),(6,true),(7,true),(8,true),(9,true),(10,true),(11,true),(12,true),(13,true),(14,true),(15,true)] mixed (by decide +kernel) rfl ?_;intro bD ao;replace H:=H.ext ao;clear ao
  refine ⟨(H.pk [0,1,2]),?_⟩
  obtain ⟨bE,hM⟩:=M.e_gd hM;refine kg 23 ?_
  refine W.cond ((l.getD s default).back) rfl (fun ax=>?_) (fun ax=>?_)
  ·replace hM:=M.e_t hM ax;refine kg 10 ?_;refine t_bs (α:=Int) T22 [I ((n_Lines.getD (Int.toNat ((l.getD s default).line)) default).dst)] [((n_Lines.getD (Int.toNat ((l.getD s default).line)) default).dst:Int)] H rfl (.cons rfl (Flat.rep_enc _ ((n_Lines.getD (Int.toNat ((l.getD s default).line)) default).dst:Int))<|.nil) rfl rfl rfl ?_;intro aR bF H;obtain ⟨bG,hM⟩:=M.e_gd hM;refine t_app (α:=Int) (k:=2) (l:=l2) (l2:=[((n_Lines.getD (Int.toNat ((l.getD s default).line)) default).dst:Int)]) (l':=l2++([((n_Lines.getD (Int.toNat ((l.getD s default).line)) default).dst:Int)])) (vy:=aR) T22 rfl H rfl rfl rfl (H.os 0) (H.ol 0) (rfl) (by first | omega | (simp only [List.length_nil] at *; omega)) ?_;intro aS bH H;replace H:=H.nf
   have bI:=(au).len_le
   refine kg 13 ?_
   refine W.cond (((s:Int)==((l.length:Int)-1))&&ai) rfl (fun ay=>?_) (fun ay=>?_)
   ·replace hM:=M.e_t hM ay;refine kg 3 ?_;refine t_bs (α:=Int) T22 [I ((n_Lines.getD (Int.toNat ((l.getD s default).line)) default).src)] [((n_Lines.getD (Int.toNat ((l.getD s default).line)) default).src:Int)] H rfl (.cons rfl (Flat.rep_enc _ ((n_Lines.getD (Int.toNat ((l.getD s default).line)) default).src:Int))<|.nil) rfl rfl rfl ?_;intro aT bJ H;obtain ⟨bK,hM⟩:=M.e_gd hM;refine t_app (α:=Int) (k:=3) (l:=l2++([((n_Lines.getD (Int.toNat ((l.getD s default).line)) default).dst:Int)])) (l2:=[((n_Lines.getD (Int.toNat ((l.getD s default).line)) default).src:Int)]) (l':=(l2++([((n_Lines.getD (Int.toNat ((l.getD s default).line)) default).dst:Int)]))++([((n_Lines.getD (Int.toNat ((l.getD s default).line)) default).src:Int)])) (vy:=aT) T22 rfl H rfl rfl rfl (H.os 0) (H.ol 0) (rfl) (by first | omega | (simp only [List.length_nil] at *; omega)) ?_;intro aU bL H;replace H:=H.nf;refine kg 6 ?_
    exact ⟨aq,ar,s+1,(l2++([((n_Lines.getD (Int.toNat ((l.getD s default).line)) default).dst:Int)]))++([((n_Lines.getD (Int.toNat ((l.getD s default).line)) default).src:Int)]),aU,_,upds_of _ _ ⟨rfl,rfl,rfl,rfl,rfl,rfl,rfl,trivial⟩,M.e_inl hM al,(H.pk [3,4])⟩
   replace hM:=M.e_f hM ay;refine kg 5 ?_
   exact ⟨aq,ar,s+1,l2++([((n_Lines.getD (Int.toNat ((l.getD s default).line)) default).dst:Int)]),aS,_,upds_of _ _ ⟨rfl,rfl,rfl,rfl,rfl,rfl,rfl,trivial⟩,M.e_inl hM al,(H.pk [2,3])⟩
  replace hM:=M.e_f hM ax;refine kg 5 ?_;refine t_bs (α:=Int) T22 [I ((n_Lines.getD (Int.toNat ((l.getD s default).line)) default).src)] [((n_Lines.getD (Int.toNat ((l.getD s default).line)) default).src:Int)] H rfl (.cons rfl (Flat.rep_enc _ ((n_Lines.getD (Int.toNat ((l.getD s default).line)) default).src:Int))<|.nil) rfl rfl rfl ?_;intro aV bM H;obtain ⟨bN,hM⟩:=M.e_gd hM;refine t_app (α:=Int) (k:=2) (l:=l2) (l2:=[((n_Lines.getD (Int.toNat ((l.getD s default).line)) default).src:Int)]) (l':=l2++([((n_Lines.getD (Int.toNat ((l.getD s default).line)) default).src:Int)])) (vy:=aV) T22 rfl H rfl rfl rfl (H.os 0) (H.ol 0) (rfl) (by first | omega | (simp only [List.length_nil] at *; omega)) ?_;intro aW bO H;replace H:=H.nf
  have bP:=(au).len_le
  refine kg 13 ?_
  refine W.cond (((s:Int)==((l.length:Int)-1))&&ai) rfl (fun az=>?_) (fun az=>?_)
  ·replace hM:=M.e_t hM az;refine kg 3 ?_;refine t_bs (α:=Int) T22 [I ((n_Lines.getD (Int.toNat ((l.getD s default).line)) default).dst)] [((n_Lines.getD (Int.toNat ((l.getD s default).line)) default).dst:Int)] H rfl (.cons rfl (Flat.rep_enc _ ((n_Lines.getD (Int.toNat ((l.getD s default).line)) default).dst:Int))<|.nil) rfl rfl rfl ?_;intro aX bQ H;obtain ⟨bR,hM⟩:=M.e_gd hM;refine t_app (α:=Int) (k:=3) (l:=l2++([((n_Lines.getD (Int.toNat ((l.getD s default).line)) default).src:Int)])) (l2:=[((n_Lines.getD (Int.toNat ((l.getD s default).line)) default).dst:Int)]) (l':=(l2++([((n_Lines.getD (Int.toNat ((l.getD s default).line)) default).src:Int)]))++([((n_Lines.getD (Int.toNat ((l.getD s default).line)) default).dst:Int)])) (vy:=aX) T22 rfl H rfl rfl rfl (H.os 0) (H.ol 0) (rfl) (by first | omega | (simp only [List.length_nil] at *; omega)) ?_;intro aY bS H;replace H:=H.nf;refine kg 6 ?_
   exact ⟨aq,ar,s+1,(l2++([((n_Lines.getD (Int.toNat ((l.getD s default).line)) default).src:Int)]))++([((n_Lines.getD (Int.toNat ((l.getD s default).line)) default).dst:Int)]),aY,_,upds_of _ _ ⟨rfl,rfl,rfl,rfl,rfl,rfl,rfl,trivial⟩,M.e_inl hM al,(H.pk [3,4])⟩
  replace hM:=M.e_f hM az;refine kg 5 ?_
  exact ⟨aq,ar,s+1,l2++([((n_Lines.getD (Int.toNat ((l.getD s default).line)) default).src:Int)]),aW,_,upds_of _ _ ⟨rfl,rfl,rfl,rfl,rfl,rfl,rfl,trivial⟩,M.e_inl hM al,(H.pk [2,3])⟩
 replace hM:=M.e_f hM ac
 replace ac:=dI ac
 refine W.exit ?_
 have aZ:=M.e_inr hM al
 subst aZ;replace hM:=aG;(try dsimp only at hM)
 have bT:=((H.os 0)).len_le
 refine kg 8 ?_;obtain ⟨a7,aA,aJ⟩:=M.e_bind hM
 obtain ⟨aH,aA⟩:=M.e_iter aA
 refine W.loop (fun m σ W=>∃ (s3:Nat) (ρ:Env),σ=upds ρ [(7,aa),(68,I (l2.length:Int)),(69,I (s3:Int))]/\M.iterN (zcc l2) m s3=some a7/\St w W [cOwn (α:=Int) 3 aa l2,cBlk aj [I n_Marks,ab] 25] R) ?_ ?_
 ·exact ⟨_,0,_,upds_of _ _ ⟨rfl,rfl,rfl,trivial⟩,aA,H⟩
 rintro bU σ bV ⟨s3,ρ,rfl,aK,H⟩
 obtain ⟨a8,ba,bW,hM,aB⟩:=M.e_iterN aK
 simp only [zcc] at hM
 clear aK;refine kg 5 ?_
 refine W.cond (decide ((s3:Int)<(l2.length:Int))) rfl (fun ae=>?_) (fun ae=>?_)
 ·replace hM:=M.e_t hM ae
  replace ae:=dI ae
  refine kg 14 ?_;obtain ⟨bb,aC,aL⟩:=M.e_bind hM
  obtain ⟨aH,aC⟩:=M.e_iter aC
  refine W.loop (fun m σ W=>∃ (s2:Nat) (ρ:Env),σ=upds ρ [(7,aa),(12,I (s3:Int)),(68,I (l2.length:Int)),(69,I (s3:Int)),(72,I (s3:Int)),(73,I (s2:Int))]/\M.iterN (zck l2 s3) m s2=some bb/\St w W [cOwn (α:=Int) 3 aa l2,cBlk aj [I n_Marks,ab] 25] R) ?_ ?_
  ·exact ⟨_,0,_,upds_of _ _ ⟨rfl,rfl,rfl,rfl,rfl,rfl,trivial⟩,aC,H⟩
  rintro bX σ bY ⟨s2,ρ,rfl,aM,H⟩
  obtain ⟨bc,bg,bZ,hM,aD⟩:=M.e_iterN aM
  simp only [zck] at hM
  clear aM;refine kg 5 ?_
  refine W.cond (decide ((s2:Int)<(s3:Int))) rfl (fun ag=>?_) (fun ag=>?_)
  ·replace hM:=M.e_t hM ag
   replace ag:=dI ag
   refine kg 9 ?_;refine W.draw (fun W=>St w W [cOwn (α:=Int) 3 aa l2,cBlk aj [I n_Marks,ab] 25] R) [(0,true),(1,true),(2,true),(3,true),(4,true),(5,true),(6,true),(7,true),(8,true)] mixed (by decide +kernel) rfl ?_;intro b0 ao;replace H:=H.ext ao;clear ao
   refine ⟨(H.pk [0,1]),?_⟩
   obtain ⟨b7,hM⟩:=M.e_gd hM;obtain ⟨b8,hM⟩:=M.e_gd hM;refine kg 10 ?_
   refine W.cond ((l2.getD s3 0)==(l2.getD s2 0)) rfl (fun ah=>?_) (fun ah=>?_)
   ·replace hM:=M.e_t hM ah
    replace ah:=dI ah
    refine kg 4 ?_;refine W.ret ?_
    have bh:=M.e_inr hM aD
    subst bh;replace hM:=aL;(try dsimp only at hM)
    have bi:=M.e_inr hM aB
    subst bi;replace hM:=aJ;(try dsimp only at hM)
    have am:=M.e_pure hM
    exact ⟨_,resE_tmp rfl,⟨true,am,rfl,(H.pk [])⟩⟩
   replace hM:=M.e_f hM ah
   replace ah:=dI ah
   refine kg 5 ?_
   exact ⟨bc,bg,s2+1,_,upds_of _ _ ⟨rfl,rfl,rfl,rfl,rfl,rfl,trivial⟩,M.e_inl hM aD,H⟩
  replace hM:=M.e_f hM ag
  replace ag:=dI ag
  refine W.exit ?_
  have bj:=M.e_inr hM aD
  subst bj;replace hM:=aL;(try dsimp only at hM);refine kg 4 ?_
  exact ⟨a8,ba,s3+1,_,upds_of _ _ ⟨rfl,rfl,rfl,trivial⟩,M.e_inl hM aB,H⟩
 replace hM:=M.e_f hM ae
 replace ae:=dI ae
 refine W.exit ?_
 have bn:=M.e_inr hM aB
 subst bn;replace hM:=aJ;(try dsimp only at hM);refine kg 4 ?_;refine W.ret ?_
 have am:=M.e_pure hM
 exact ⟨_,resE_tmp rfl,⟨false,am,rfl,(H.pk [])⟩⟩

def zcj  : ((List Leg) × Nat × Int)->M (((List Leg) × Nat × Int) ⊕ (List Leg)):=fun (l,i,j) =>
  bif decide ((i:Int)<j) then (
  M.grd (decide ((0:Int)<=j)&&decide (j<(l.length:Int))) <|
  M.grd (decide ((i:Int)<(l.length:Int))) <|
  M.grd (decide ((0:Int)<=j)&&decide (j<((l.set i (l.getD (Int.toNat j) default)).length:Int))) <|
  M.grd (decide ((-9223372036854775808:Int)<=((i:Int)+1))&&decide (((i:Int)+1)<=(9223372036854775807:Int))) <|
  M.grd (decide ((-9223372036854775808:Int)<=(j-1))&&decide ((j-1)<=(9223372036854775807:Int))) <|
  M.pure (.inl ((l.set i (l.getD (Int.toNat j) default)).set (Int.toNat j) (l.getD i default),i+1,j-1)))
  else (
  M.pure (.inr l))
def zb0 (s:List Leg):M (List Leg) :=
  M.bind (M.iter (zcj) (s,0,(s.length:Int)-1)) fun l2 =>
  M.pure l2
theorem zdX {R:List Chunk} {aa:Value} (s:List Leg)  {r:(List Leg)} (hM:(zb0 s).Ends r) (w:World) (H:St w w [cOwn (α:=Leg) 28 aa s] R):Ret Tryz.prog 77 #[aa] w fun v w'=>∃ (y0:List Leg),y0=r/\v = .tuple #[]/\St w w' [cOwn (α:=Leg) 28 aa y0] R:=by
 refine ret_of_W Tryz.func77 rfl rfl rfl ?_
 have aq:=((H.os 0)).len_le
 refine kg 9 ?_;obtain ⟨al,ah,am⟩:=M.e_bind hM
 obtain ⟨ar,ah⟩:=M.e_iter ah
 refine W.loop (fun m σ W=>∃ (l:List Leg) (i:Nat) (j:Int) (ρ:Env),σ=upds ρ [(0,aa),(2,I (i:Int)),(3,I j)]/\M.iterN (zcj) m (l,i,j)=some al/\St w W [cOwn (α:=Leg) 28 aa l] R) ?_ ?_
 ·exact ⟨_,s,0,(s.length:Int)-1,_,upds_of _ _ ⟨rfl,rfl,rfl,trivial⟩,ah,H⟩
 rintro au σ av ⟨l,i,j,ρ,rfl,ai,H⟩
 obtain ⟨ae,ag,aw,hM,ab⟩:=M.e_iterN ai
 simp only [zcj] at hM
 clear ai;refine kg 7 ?_
 refine W.cond (decide ((i:Int)<j)) rfl (fun ac=>?_) (fun ac=>?_)
 ·replace hM:=M.e_t hM ac
  replace ac:=dI ac
  refine kg 3 ?_;refine W.drawT (fun W=>St w W [] R) (.q 0 (.q 1 (.q 2 (.q 3 (.q 4 (.q 5 (.q 8 (.q 9 (.l2 6 (.l2 7 (.l 10 (.l 11 (.l 12 (.l 13 (.l 14 (.l 15 .nil)))))) 10 (.l2 7 (.l 11 (.l 12 (.l 13 (.l 14 (.l 15 .nil))))) 11 (.l 7 (.l 12 (.l 13 (.l 14 (.l 15 .nil))))))) 10 (.l2 6 (.l2 7 (.l 11 (.l 12 (.l 13 (.l 14 (.l 15 .nil))))) 11 (.l 7 (.l 12 (.l 13 (.l 14 (.l 15 .nil)))))) 11 (.l 6 (.l 7 (.l 12 (.l 13 (.l 14 (.l 15 .nil)))))))))))))))) mixed (by decide +kernel) rfl ?_;intro ax aj;replace H:=H.ext aj;clear aj
  refine ⟨(H.pk []),?_⟩
  obtain ⟨ay,hM⟩:=M.e_gd hM;obtain ⟨az,hM⟩:=M.e_gd hM;obtain ⟨aA,hM⟩:=M.e_gd hM;refine kg 8 ?_;refine t_l2 rfl rfl ?_ ?_
  ·skip
   refine kg 1 ?_
   have aB:=Sl.cells (H.os 0)
   have aC:=Sl.oc (H.os 0)
   refine s_nil ⟨(H.pk []),?_⟩
   refine t_l2 rfl rfl ?_ ?_
   ·skip
    refine kg 1 ?_
    refine s_nil ⟨(H.pk []),?_⟩
    refine t_l rfl ?_;refine kg 1 ?_
    refine s_nil ⟨(H.pk []),?_⟩
    refine t_l rfl ?_;refine kg 1 ?_
    refine s_nil ⟨(H.pk []),?_⟩
    refine t_l rfl ?_;refine kg 1 ?_
    refine s_nil ⟨(H.pk []),?_⟩
    refine t_l rfl ?_;refine t_ost (k:=0) (i:=(i:Int)) (l:=l) (l':=l.set i (l.getD (Int.toNat j) default)) (val:=.agg #[I ((l.getD (Int.toNat j) default).line),B ((l.getD (Int.toNat j) default).back)]) (L':=[cOwn (α:=Leg) 28 aa (l.set i (l.getD (Int.toNat j) default))]) H rfl Sz28 (by omega) (by omega) (l.getD (Int.toNat j) default) rfl rfl rfl rfl rfl ?_;intro aD H
    refine s_nil ⟨(H.pk []),?_⟩
    refine t_l rfl ?_;refine kg 1 ?_
    refine s_nil ⟨(H.pk []),?_⟩
    refine t_l rfl ?_;refine t_ost (k:=0) (i:=j) (l:=l.set i (l.getD (Int.toNat j) default)) (l':=(l.set i (l.getD (Int.toNat j) default)).set (Int.toNat j) (l.getD i default)) (val:=.agg #[I ((l.getD i default).line),B ((l.getD i default).back)]) (L':=[cOwn (α:=Leg) 28 aa ((l.set i (l.getD (Int.toNat j) default)).set (Int.toNat j) (l.getD i default))]) H rfl Sz28 (by omega) (by omega) (l.getD i default) rfl rfl rfl rfl rfl ?_;intro aE H
    refine s_nil ⟨(H.pk []),?_⟩
    obtain ⟨aF,hM⟩:=M.e_gd hM;obtain ⟨aG,hM⟩:=M.e_gd hM;refine kg 9 ?_
    exact ⟨ae,ag,(l.set i (l.getD (Int.toNat j) default)).set (Int.toNat j) (l.getD i default),i+1,j-1,_,upds_of _ _ ⟨rfl,rfl,rfl,trivial⟩,M.e_inl hM ab,H⟩
   skip
   refine kg 1 ?_
   refine s_nil ⟨(H.pk []),?_⟩
   refine t_l2 rfl rfl ?_ ?_
   ·skip
    refine kg 1 ?_
    refine s_nil ⟨(H.pk []),?_⟩
    refine t_l rfl ?_;refine kg 1 ?_
    refine s_nil ⟨(H.pk []),?_⟩
    refine t_l rfl ?_;refine kg 1 ?_
    refine s_nil ⟨(H.pk []),?_⟩
    refine t_l rfl ?_;refine t_ost (k:=0) (i:=(i:Int)) (l:=l) (l':=l.set i (l.getD (Int.toNat j) default)) (val:=.agg #[I ((l.getD (Int.toNat j) default).line),B ((l.getD (Int.toNat j) default).back)]) (L':=[cOwn (α:=Leg) 28 aa (l.set i (l.getD (Int.toNat j) default))]) H rfl Sz28 (by omega) (by omega) (l.getD (Int.toNat j) default) rfl rfl rfl rfl rfl ?_;intro aH H
    refine s_nil ⟨(H.pk []),?_⟩
    refine t_l rfl ?_;refine kg 1 ?_
    refine s_nil ⟨(H.pk []),?_⟩
    refine t_l rfl ?_;refine t_ost (k:=0) (i:=j) (l:=l.set i (l.getD (Int.toNat j) default)) (l':=(l.set i (l.getD (Int.toNat j) default)).set (Int.toNat j) (l.getD i default)) (val:=.agg #[I ((l.getD i default).line),B ((l.getD i default).back)]) (L':=[cOwn (α:=Leg) 28 aa ((l.set i (l.getD (Int.toNat j) default)).set (Int.toNat j) (l.getD i default))]) H rfl Sz28 (by omega) (by omega) (l.getD i default) rfl rfl rfl rfl rfl ?_;intro aI H
    refine s_nil ⟨(H.pk []),?_⟩
    obtain ⟨aJ,hM⟩:=M.e_gd hM;obtain ⟨aK,hM⟩:=M.e_gd hM;refine kg 9 ?_
    exact ⟨ae,ag,(l.set i (l.getD (Int.toNat j) default)).set (Int.toNat j) (l.getD i default),i+1,j-1,_,upds_of _ _ ⟨rfl,rfl,rfl,trivial⟩,M.e_inl hM ab,H⟩
   skip
   refine kg 1 ?_
   refine s_nil ⟨(H.pk []),?_⟩
   refine t_l rfl ?_;refine kg 1 ?_
   refine s_nil ⟨(H.pk []),?_⟩
   refine t_l rfl ?_;refine kg 1 ?_
   refine s_nil ⟨(H.pk []),?_⟩
   refine t_l rfl ?_;refine t_ost (k:=0) (i:=(i:Int)) (l:=l) (l':=l.set i (l.getD (Int.toNat j) default)) (val:=.agg #[I ((l.getD (Int.toNat j) default).line),B ((l.getD (Int.toNat j) default).back)]) (L':=[cOwn (α:=Leg) 28 aa (l.set i (l.getD (Int.toNat j) default))]) H rfl Sz28 (by omega) (by omega) (l.getD (Int.toNat j) default) rfl rfl rfl rfl rfl ?_;intro aL H
   refine s_nil ⟨(H.pk []),?_⟩
   refine t_l rfl ?_;refine kg 1 ?_
   refine s_nil ⟨(H.pk []),?_⟩
   refine t_l rfl ?_;refine t_ost (k:=0) (i:=j) (l:=l.set i (l.getD (Int.toNat j) default)) (l':=(l.set i (l.getD (Int.toNat j) default)).set (Int.toNat j) (l.getD i default)) (val:=.agg #[I ((l.getD i default).line),B ((l.getD i default).back)]) (L':=[cOwn (α:=Leg) 28 aa ((l.set i (l.getD (Int.toNat j) default)).set (Int.toNat j) (l.getD i default))]) H rfl Sz28 (by omega) (by omega) (l.getD i default) rfl rfl rfl rfl rfl ?_;intro aM H
   refine s_nil ⟨(H.pk []),?_⟩
   obtain ⟨aN,hM⟩:=M.e_gd hM;obtain ⟨aO,hM⟩:=M.e_gd hM;refine kg 9 ?_
   exact ⟨ae,ag,(l.set i (l.getD (Int.toNat j) default)).set (Int.toNat j) (l.getD i default),i+1,j-1,_,upds_of _ _ ⟨rfl,rfl,rfl,trivial⟩,M.e_inl hM ab,H⟩
  skip
  refine kg 1 ?_
  have aP:=Sl.cells (H.os 0)
  have aQ:=Sl.oc (H.os 0)
  refine s_nil ⟨(H.pk []),?_⟩
  refine t_l2 rfl rfl ?_ ?_
  ·skip
   refine kg 1 ?_
   refine s_nil ⟨(H.pk []),?_⟩
   refine t_l2 rfl rfl ?_ ?_
   ·skip
    refine kg 1 ?_
    refine s_nil ⟨(H.pk []),?_⟩
    refine t_l rfl ?_;refine kg 1 ?_
    refine s_nil ⟨(H.pk []),?_⟩
    refine t_l rfl ?_;refine kg 1 ?_
    refine s_nil ⟨(H.pk []),?_⟩
    refine t_l rfl ?_;refine t_ost (k:=0) (i:=(i:Int)) (l:=l) (l':=l.set i (l.getD (Int.toNat j) default)) (val:=.agg #[I ((l.getD (Int.toNat j) default).line),B ((l.getD (Int.toNat j) default).back)]) (L':=[cOwn (α:=Leg) 28 aa (l.set i (l.getD (Int.toNat j) default))]) H rfl Sz28 (by omega) (by omega) (l.getD (Int.toNat j) default) rfl rfl rfl rfl rfl ?_;intro aR H
    refine s_nil ⟨(H.pk []),?_⟩
    refine t_l rfl ?_;refine kg 1 ?_
    refine s_nil ⟨(H.pk []),?_⟩
    refine t_l rfl ?_;refine t_ost (k:=0) (i:=j) (l:=l.set i (l.getD (Int.toNat j) default)) (l':=(l.set i (l.getD (Int.toNat j) default)).set (Int.toNat j) (l.getD i default)) (val:=.agg #[I ((l.getD i default).line),B ((l.getD i default).back)]) (L':=[cOwn (α:=Leg) 28 aa ((l.set i (l.getD (Int.toNat j) default)).set (Int.toNat j) (l.getD i default))]) H rfl Sz28 (by omega) (by omega) (l.getD i default) rfl rfl rfl rfl rfl ?_;intro aS H
    refine s_nil ⟨(H.pk []),?_⟩
    obtain ⟨aT,hM⟩:=M.e_gd hM;obtain ⟨aU,hM⟩:=M.e_gd hM;refine kg 9 ?_
    exact ⟨ae,ag,(l.set i (l.getD (Int.toNat j) default)).set (Int.toNat j) (l.getD i default),i+1,j-1,_,upds_of _ _ ⟨rfl,rfl,rfl,trivial⟩,M.e_inl hM ab,H⟩
   skip
   refine kg 1 ?_
   refine s_nil ⟨(H.pk []),?_⟩
   refine t_l rfl ?_;refine kg 1 ?_
   refine s_nil ⟨(H.pk []),?_⟩
   refine t_l rfl ?_;refine kg 1 ?_
   refine s_nil ⟨(H.pk []),?_⟩
   refine t_l rfl ?_;refine t_ost (k:=0) (i:=(i:Int)) (l:=l) (l':=l.set i (l.getD (Int.toNat j) default)) (val:=.agg #[I ((l.getD (Int.toNat j) default).line),B ((l.getD (Int.toNat j) default).back)]) (L':=[cOwn (α:=Leg) 28 aa (l.set i (l.getD (Int.toNat j) default))]) H rfl Sz28 (by omega) (by omega) (l.getD (Int.toNat j) default) rfl rfl rfl rfl rfl ?_;intro aV H
   refine s_nil ⟨(H.pk []),?_⟩
   refine t_l rfl ?_;refine kg 1 ?_
   refine s_nil ⟨(H.pk []),?_⟩
   refine t_l rfl ?_;refine t_ost (k:=0) (i:=j) (l:=l.set i (l.getD (Int.toNat j) default)) (l':=(l.set i (l.getD (Int.toNat j) default)).set (Int.toNat j) (l.getD i default)) (val:=.agg #[I ((l.getD i default).line),B ((l.getD i default).back)]) (L':=[cOwn (α:=Leg) 28 aa ((l.set i (l.getD (Int.toNat j) default)).set (Int.toNat j) (l.getD i default))]) H rfl Sz28 (by omega) (by omega) (l.getD i default) rfl rfl rfl rfl rfl ?_;intro aW H
   refine s_nil ⟨(H.pk []),?_⟩
   obtain ⟨aX,hM⟩:=M.e_gd hM;obtain ⟨aY,hM⟩:=M.e_gd hM;refine kg 9 ?_
   exact ⟨ae,ag,(l.set i (l.getD (Int.toNat j) default)).set (Int.toNat j) (l.getD i default),i+1,j-1,_,upds_of _ _ ⟨rfl,rfl,rfl,trivial⟩,M.e_inl hM ab,H⟩
  skip
  refine kg 1 ?_
  refine s_nil ⟨(H.pk []),?_⟩
  refine t_l rfl ?_;refine kg 1 ?_
  refine s_nil ⟨(H.pk []),?_⟩
  refine t_l rfl ?_;refine kg 1 ?_
  refine s_nil ⟨(H.pk []),?_⟩
  refine t_l rfl ?_;refine kg 1 ?_
  refine s_nil ⟨(H.pk []),?_⟩
  refine t_l rfl ?_;refine t_ost (k:=0) (i:=(i:Int)) (l:=l) (l':=l.set i (l.getD (Int.toNat j) default)) (val:=.agg #[I ((l.getD (Int.toNat j) default).line),B ((l.getD (Int.toNat j) default).back)]) (L':=[cOwn (α:=Leg) 28 aa (l.set i (l.getD (Int.toNat j) default))]) H rfl Sz28 (by omega) (by omega) (l.getD (Int.toNat j) default) rfl rfl rfl rfl rfl ?_;intro aZ H
  refine s_nil ⟨(H.pk []),?_⟩
  refine t_l rfl ?_;refine kg 1 ?_
  refine s_nil ⟨(H.pk []),?_⟩
  refine t_l rfl ?_;refine t_ost (k:=0) (i:=j) (l:=l.set i (l.getD (Int.toNat j) default)) (l':=(l.set i (l.getD (Int.toNat j) default)).set (Int.toNat j) (l.getD i default)) (val:=.agg #[I ((l.getD i default).line),B ((l.getD i default).back)]) (L':=[cOwn (α:=Leg) 28 aa ((l.set i (l.getD (Int.toNat j) default)).set (Int.toNat j) (l.getD i default))]) H rfl Sz28 (by omega) (by omega) (l.getD i default) rfl rfl rfl rfl rfl ?_;intro a7 H
  refine s_nil ⟨(H.pk []),?_⟩
  obtain ⟨a8,hM⟩:=M.e_gd hM;obtain ⟨ba,hM⟩:=M.e_gd hM;refine kg 9 ?_
  exact ⟨ae,ag,(l.set i (l.getD (Int.toNat j) default)).set (Int.toNat j) (l.getD i default),i+1,j-1,_,upds_of _ _ ⟨rfl,rfl,rfl,trivial⟩,M.e_inl hM ab,H⟩
 replace hM:=M.e_f hM ac
 replace ac:=dI ac
 refine W.exit ?_
 have ao:=M.e_inr hM ab
 subst ao;replace hM:=am;(try dsimp only at hM)
 have ap:=M.e_pure hM
 exact ⟨_,resE_tmp0 rfl,⟨l,ap,rfl,H⟩⟩

end Go.Proofs.YtfdgkdkfbaghpaaGreat
end
