/- Part 6 of the texts on which the proof rests. Conditions: none. -/
import Derived.KernelRfl
import Derived.Test.YtlemgioaakecpaaGreatZO5
set_option linter.unusedVariables false
set_option linter.unusedSimpArgs false
set_option linter.unusedSectionVars false
section
set_option maxRecDepth 100000
set_option maxHeartbeats 16000000
namespace Go.Proofs.YtlemgioaakecpaaGreat
open Go Go.Nm
def zaH (s_Marks:List Mrk) (set:Nat):(Nat × (List Int))->M ((Nat × (List Int)) ⊕ ((List Int) × (List Int))):=fun (i,l) =>
  bif decide ((i:Int)<(s_Marks.length:Int)) then (
  M.grd (decide (0<=(i:Int))&&decide ((i:Int)<=(62:Int))) <|
  M.grd (decide ((0:Int)<=((set:Int) / 2 ^ i))&&decide ((0:Int)<2)) <|
  bif (((set:Int) / 2 ^ i) % 2)==1 then (
  M.grd (decide ((l.length+([(i:Int)]).length)*8<=140737488355328)) <|
  M.pure (.inl (i+1,l++([(i:Int)]))))
  else (
  M.pure (.inl (i+1,l))))
  else (
  M.pure (.inr (l,l)))
def zbe (s_Sections:List Sect) (s_Marks:List Mrk) (s_Reaches:List Rch):(Int × Nat)->M ((Int × Nat) ⊕ Int):=fun (best,set) =>
  M.grd (decide (0<=(s_Marks.length:Int))&&decide ((s_Marks.length:Int)<=(62:Int))&&decide ((-9223372036854775808:Int)<=(1*2 ^ (s_Marks.length)))&&decide ((1*2 ^ (s_Marks.length))<=(9223372036854775807:Int))) <|
  bif decide ((set:Int)<(1*2 ^ (s_Marks.length))) then (
  M.bind (M.iter (zaH s_Marks set) (0,[])) fun (l2,l3) =>
  M.bind (M.opt (decide (best<(l3.length:Int))) (zbr s_Sections s_Marks s_Reaches l3) false) fun r3 =>
  bif ((decide (best<(l3.length:Int)))&&r3) then (
  M.grd (decide ((-9223372036854775808:Int)<=((set:Int)+1))&&decide (((set:Int)+1)<=(9223372036854775807:Int))) <|
  M.pure (.inl ((l3.length:Int),set+1)))
  else (
  M.grd (decide ((-9223372036854775808:Int)<=((set:Int)+1))&&decide (((set:Int)+1)<=(9223372036854775807:Int))) <|
  M.pure (.inl (best,set+1))))
  else (
  M.pure (.inr best))
def zcb (s_Sections:List Sect) (s_Marks:List Mrk) (s_Reaches:List Rch):M (Int × Int) :=
  M.bind (zal s_Sections s_Marks s_Reaches) fun r2 =>
  bif r2 != 0 then (
  M.pure (0,r2))
  else (
  M.bind (M.iter (zbe s_Sections s_Marks s_Reaches) (0,0)) fun best2 =>
  M.pure (best2,0))
theorem zdL {R:List Chunk} {ay:Cells} {ab:Value} {az:Cells} {aa:Value} {aA:Cells} {ac:Value} (s_Sections:List Sect) (s_Marks:List Mrk) (s_Reaches:List Rch) (aB:Reads R ay) (aC:Sl ay ab s_Sections) (aD:Reads R az) (ai:Sl az aa s_Marks) (aE:Reads R aA) (aF:Sl aA ac s_Reaches) {r:(Int × Int)} (hM:(zcb s_Sections s_Marks s_Reaches).Ends r) (w:World) (H:St w w [] R):Ret Tryz.prog 32 #[.agg #[ab,aa,ac]] w fun v w'=>∃ (y0:Int) (y1:Int),(y0,y1)=r/\v = .tuple #[I y0,I y1]/\St w w' [] R:=by
 refine ret_of_W Tryz.func32 rfl rfl rfl ?_
 refine W.seq ?_
 refine W.region rfl ?_
 refine t_box (v:=.agg #[ab,aa,ac]) (cs:=[ab,aa,ac]) H rfl rfl ?_
 intro ae bf H
 refine zA (I 0) rfl ?_
 refine zA (I 0) rfl ?_
 refine s_nil ?_
 refine W.seq ?_
 refine W.seq ?_
 refine W.region rfl ?_
 refine s_val (x_ld (p:=Pq ae) (v:=.agg #[ab,aa,ac]) rfl (ldb_ag (ds:=[ab,aa,ac]) Ag81 Sz81 (H.bl 0) rfl rfl)) ?_
 obtain ⟨bh,aO,hM⟩:=M.e_bind hM
 refine s_call cf27 [.agg #[ab,aa,ac]] rfl (zbg s_Sections s_Marks s_Reaches (aB.app _) aC (aD.app _) ai (aE.app _) aF aO _ (H.gt 1)) ?_
 rintro vq bi ⟨r2,aP,hvq,aG⟩
 subst aP
 subst vq
 try dsimp only at hM
 replace H:=H.bk aG
 clear aG
 refine zA (I r2) rfl ?_
 refine s_nil ?_
 refine W.seq ?_
 refine W.region rfl ?_
 refine zM (I r2) rfl ?_
 refine zC r2 0 (r2 != 0) rfl rfl rfl ?_
 refine s_nil ?_
 refine W.cond (r2 != 0) rfl (fun aj=>?_) (fun aj=>?_)
 ·replace hM:=M.e_t hM aj
  simp only [qy1,qy2,qy3,qy4,qy5,qy6,ne_eq,qy7] at aj
  refine W.seq ?_
  refine W.region rfl ?_
  refine zM (I r2) rfl ?_
  refine zA (I 0) rfl ?_
  refine zA (I r2) rfl ?_
  refine s_nil ?_
  refine W.ret ?_
  have ak:=M.e_pure hM
  exact ⟨_,resE_tmp2 rfl,⟨0,r2,ak,rfl,(H.pk [])⟩⟩
 replace hM:=M.e_f hM aj
 simp only [qy1,qy2,qy3,qy4,qy5,qy6,ne_eq,qy7] at aj
 refine W.skip ?_
 refine W.seq ?_
 refine W.region rfl ?_
 refine zA (I 0) rfl ?_
 refine s_nil ?_
 refine W.seq ?_
 refine W.seq ?_
 refine W.region rfl ?_
 refine zA (I 0) rfl ?_
 refine s_nil ?_
 refine W.block ?_
 obtain ⟨aQ,aq,aR⟩:=M.e_bind hM
 obtain ⟨aS,aq⟩:=M.e_iter aq
 refine W.loop (fun m σ W=>∃ (best:Int) (set:Nat) (ρ:Env),σ=upds ρ [(1,Pq ae),(5,I best),(6,I (set:Int))]/\M.iterN (zbe s_Sections s_Marks s_Reaches) m (best,set)=some aQ/\St w W [cBlk ae [ab,aa,ac] 81] R) ?_ ?_
 ·exact ⟨_,0,0,_,upds_of _ _ ⟨rfl,rfl,rfl,trivial⟩,aq,H⟩
 rintro bj σ bm ⟨best,set,ρ,rfl,aH,H⟩
 obtain ⟨aI,aJ,bn,hM,au⟩:=M.e_iterN aH
 simp only [zbe] at hM
 clear aH
 refine W.seq ?_
 refine W.seq ?_
 refine W.region rfl ?_
 refine zM (I (set:Int)) rfl ?_
 refine s_val (x_fa (a:=Pq ae) (v:=Oq ae 1) rfl (fa_blk (o:=0) Fd81_1 Sz78)) ?_
 refine s_val (x_ld (p:=Oq ae 1) (v:=aa) rfl (ldb_sc Sc78 (H.bl 0) rfl)) ?_
 have bo:=(ai).len_le
 refine s_val (x_lenS T78.und rfl ai) ?_
 obtain ⟨aT,hM⟩:=M.e_grd hM
 simp only [Bool.and_eq_true,decide_eq_true_eq] at aT
 refine s_val (x_shl (a:=1) (b:=(s_Marks.length:Int)) (n:=(s_Marks.length)) rfl rfl (by omega)) ?_
 refine zC (set:Int) (1*2 ^ (s_Marks.length)) (decide ((set:Int)<(1*2 ^ (s_Marks.length)))) rfl rfl rfl ?_
 refine s_nil ?_
 refine W.cond (decide ((set:Int)<(1*2 ^ (s_Marks.length)))) rfl (fun am=>?_) (fun am=>?_)
 ·replace hM:=M.e_t hM am
  simp only [qy1,qy2,qy3,qy4,qy5,qy6,ne_eq,qy7] at am
  refine W.skip ?_
  refine W.seq ?_
  refine W.block ?_
  refine W.seq ?_
  refine W.region rfl ?_
  refine zA (.slice none 0 0) rfl ?_
  refine s_nil ?_
  refine W.seq ?_
  refine W.seq ?_
  refine W.region rfl ?_
  refine zA (I 0) rfl ?_
  refine s_nil ?_
  refine W.block ?_
  replace H:=H.nilOwn (α:=Int) 3
  obtain ⟨aU,av,aV⟩:=M.e_bind hM
  obtain ⟨aS,av⟩:=M.e_iter av
  refine W.loop (fun m σ W=>∃ (i:Nat) (l:List Int) (ag:Value) (ρ:Env),σ=upds ρ [(1,Pq ae),(5,I best),(6,I (set:Int)),(7,ag),(8,I (i:Int))]/\M.iterN (zaH s_Marks set) m (i,l)=some aU/\St w W [cOwn (α:=Int) 3 ag l,cBlk ae [ab,aa,ac] 81] R) ?_ ?_
  ·exact ⟨_,0,[],(.slice none 0 0),_,upds_of _ _ ⟨rfl,rfl,rfl,rfl,rfl,trivial⟩,av,H⟩
  rintro bp σ bq ⟨i,l,ag,ρ,rfl,aK,H⟩
  obtain ⟨aL,aM,br,hM,aw⟩:=M.e_iterN aK
  simp only [zaH] at hM
  clear aK
  refine W.seq ?_
  refine W.seq ?_
  refine W.region rfl ?_
  refine zM (I (i:Int)) rfl ?_
  refine s_val (x_fa (a:=Pq ae) (v:=Oq ae 1) rfl (fa_blk (o:=0) Fd81_1 Sz78)) ?_
  refine s_val (x_ld (p:=Oq ae 1) (v:=aa) rfl (ldb_sc Sc78 (H.bl 1) rfl)) ?_
  have bt:=(ai).len_le
  refine s_val (x_lenS T78.und rfl ai) ?_
  refine zC (i:Int) (s_Marks.length:Int) (decide ((i:Int)<(s_Marks.length:Int))) rfl rfl rfl ?_
  refine s_nil ?_
  refine W.cond (decide ((i:Int)<(s_Marks.length:Int))) rfl (fun ao=>?_) (fun ao=>?_)
  ·replace hM:=M.e_t hM ao
   simp only [qy1,qy2,qy3,qy4,qy5,qy6,ne_eq,qy7] at ao
   refine W.skip ?_
   refine W.seq ?_
   refine W.block ?_
   refine W.seq ?_
   refine W.region rfl ?_
   refine zM (I (set:Int)) rfl ?_
   refine zM (I (i:Int)) rfl ?_
   obtain ⟨aW,hM⟩:=M.e_grd hM
   simp only [Bool.and_eq_true,decide_eq_true_eq] at aW
   refine s_val (x_shr (a:=(set:Int)) (b:=(i:Int)) (n:=i) rfl rfl (by omega)) ?_
   obtain ⟨aX,hM⟩:=M.e_grd hM
   simp only [Bool.and_eq_true,decide_eq_true_eq] at aX
   refine s_val (x_rem' (a:=(set:Int) / 2 ^ i) (b:=2) rfl rfl (by omega)) ?_
   refine zC (((set:Int) / 2 ^ i) % 2) 1 ((((set:Int) / 2 ^ i) % 2)==1) rfl rfl rfl ?_
   refine s_nil ?_
   refine W.cond ((((set:Int) / 2 ^ i) % 2)==1) rfl (fun ap=>?_) (fun ap=>?_)
   ·replace hM:=M.e_t hM ap
    simp only [qy1,qy2,qy3,qy4,qy5,qy6,ne_eq,qy7] at ap
    refine W.region rfl ?_
    refine zM ag rfl ?_
    refine zM (I (i:Int)) rfl ?_
    refine t_bs (α:=Int) T28 [I (i:Int)] [(i:Int)] H rfl (.cons rfl (Flat.rep_enc _ (i:Int))<|.nil) rfl rfl rfl ?_
    intro aY bu H
    obtain ⟨aZ,hM⟩:=M.e_grd hM
    simp only [Bool.and_eq_true,decide_eq_true_eq] at aZ
    refine t_app (α:=Int) (k:=1) (l:=l) (l2:=[(i:Int)]) (l':=l++([(i:Int)])) (vy:=aY) T28 rfl H rfl rfl rfl (H.os 0) (H.ol 0) (rfl) (by first | omega | (simp only [List.length_nil] at *; omega)) ?_
    intro aN bv H
    replace H:=H.nf
    refine zA aN rfl ?_
    refine s_nil ?_
    refine W.region rfl ?_
    refine zM (I (i:Int)) rfl ?_
    refine zR (i:Int) 1 ((i:Int)+1) rfl rfl rfl (by omega) ?_
    refine zA (I ((i:Int)+1)) rfl ?_
    refine s_nil ?_
    exact ⟨aL,aM,i+1,l++([(i:Int)]),aN,_,upds_of _ _ ⟨rfl,rfl,rfl,rfl,rfl,trivial⟩,M.e_inl hM aw,(H.pk [1,2])⟩
   replace hM:=M.e_f hM ap
   simp only [qy1,qy2,qy3,qy4,qy5,qy6,ne_eq,qy7] at ap
   refine W.skip ?_
   refine W.region rfl ?_
   refine zM (I (i:Int)) rfl ?_
   refine zR (i:Int) 1 ((i:Int)+1) rfl rfl rfl (by omega) ?_
   refine zA (I ((i:Int)+1)) rfl ?_
   refine s_nil ?_
   exact ⟨aL,aM,i+1,l,ag,_,upds_of _ _ ⟨rfl,rfl,rfl,rfl,rfl,trivial⟩,M.e_inl hM aw,H⟩
  replace hM:=M.e_f hM ao
  simp only [qy1,qy2,qy3,qy4,qy5,qy6,ne_eq,qy7] at ao
  refine W.exit ?_
  have a6:=M.e_inr hM aw
  subst a6
  replace hM:=aV
  try dsimp only at hM
  refine W.seq ?_
  refine W.region rfl ?_
  refine zM ag rfl ?_
  have bw:=((H.os 0)).len_le
  refine s_val (x_lenS T28.und rfl (H.os 0)) ?_
  refine zM (I best) rfl ?_
  refine zC (l.length:Int) best (decide (best<(l.length:Int))) rfl rfl rfl ?_
  refine zM (B (decide (best<(l.length:Int)))) rfl ?_
  refine g_val (decide (best<(l.length:Int))) (gy_t rfl) (fun hg=>x_ld (p:=Pq ae) (v:=.agg #[ab,aa,ac]) rfl (ldb_ag (ds:=[ab,aa,ac]) Ag81 Sz81 (H.bl 1) rfl rfl)) ?_
  refine g_val (decide (best<(l.length:Int))) (gy_t rfl) (fun hg=>x_mv (v:=ag) rfl) ?_
  obtain ⟨r3,a7,hM⟩:=M.e_bind hM
  refine t_gcall (decide (best<(l.length:Int))) (gy_t rfl) cf34 (B r3) (fun _=>[.agg #[ab,aa,ac],ag]) (fun hg=>lst2 (gd_of (c:=decide (best<(l.length:Int))) hg (.agg #[ab,aa,ac])) (gd_of (c:=decide (best<(l.length:Int))) hg (ag))) H (fun hg=>(zdc s_Sections s_Marks s_Reaches l (aB.app _) aC (aD.app _) ai (aE.app _) aF (rdo 0) (H.os 0) (M.e_opt a7 hg) _ (H.give (A:=[]) rfl)).mono fun v_ w_ ⟨y_,ak,a8,H_⟩=>by subst ak; exact ⟨a8,H.via H_⟩) ?_
  intro bx H
  refine s_val (x_pand (b:=decide (best<(l.length:Int))) (r:=r3) rfl (fun hb=>gd_of (c:=decide (best<(l.length:Int))) (by first | exact hb | (rw [hb]; rfl) | simp_all) (B r3)) rfl) ?_
  refine s_nil ?_
  refine W.cond ((decide (best<(l.length:Int)))&&r3) rfl (fun ax=>?_) (fun ax=>?_)
  ·replace hM:=M.e_t hM ax
   refine W.region rfl ?_
   refine zM ag rfl ?_
   have bz:=((H.os 0)).len_le
   refine s_val (x_lenS T28.und rfl (H.os 0)) ?_
   refine zA (I (l.length:Int)) rfl ?_
   refine s_nil ?_
   refine W.region rfl ?_
   refine zM (I (set:Int)) rfl ?_
   obtain ⟨ba,hM⟩:=M.e_grd hM
   simp only [Bool.and_eq_true,decide_eq_true_eq] at ba
   refine zR (set:Int) 1 ((set:Int)+1) rfl rfl rfl (by omega) ?_
   refine zA (I ((set:Int)+1)) rfl ?_
   refine s_nil ?_
   exact ⟨aI,aJ,(l.length:Int),set+1,_,upds_of _ _ ⟨rfl,rfl,rfl,trivial⟩,M.e_inl hM au,(H.pk [1])⟩
  replace hM:=M.e_f hM ax
  refine W.skip ?_
  refine W.region rfl ?_
  refine zM (I (set:Int)) rfl ?_
  obtain ⟨bb,hM⟩:=M.e_grd hM
  simp only [Bool.and_eq_true,decide_eq_true_eq] at bb
  refine zR (set:Int) 1 ((set:Int)+1) rfl rfl rfl (by omega) ?_
  refine zA (I ((set:Int)+1)) rfl ?_
  refine s_nil ?_
  exact ⟨aI,aJ,best,set+1,_,upds_of _ _ ⟨rfl,rfl,rfl,trivial⟩,M.e_inl hM au,(H.pk [1])⟩
 replace hM:=M.e_f hM am
 simp only [qy1,qy2,qy3,qy4,qy5,qy6,ne_eq,qy7] at am
 refine W.exit ?_
 have bc:=M.e_inr hM au
 subst bc
 replace hM:=aR
 try dsimp only at hM
 refine W.seq ?_
 refine W.region rfl ?_
 refine zM (I best) rfl ?_
 refine zA (I best) rfl ?_
 refine zA (I 0) rfl ?_
 refine s_nil ?_
 refine W.ret ?_
 have ak:=M.e_pure hM
 exact ⟨_,resE_tmp2 rfl,⟨best,0,ak,rfl,(H.pk [])⟩⟩

def zaQ (s_Sections:List Sect) (s_Marks:List Mrk) (s_Reaches:List Rch):M ((List (List Int)) × Int) :=
  M.bind (zad s_Sections s_Marks s_Reaches) fun x_=>match x_ with
  | (.inl r1)=>(
  bif r1 != 0 then (
  M.pure (([]),r1))
  else (
  M.fail))
  | (.inr aa)=>(
  bif aa != 0 then (
  M.fail)
  else (
  M.bind (zan s_Sections s_Marks s_Reaches) fun r2 =>
  M.pure (r2,0)))
theorem zdG {R:List Chunk} {ao:Cells} {ac:Value} {ap:Cells} {ae:Value} {aq:Cells} {ag:Value} (s_Sections:List Sect) (s_Marks:List Mrk) (s_Reaches:List Rch) (au:Reads R ao) (av:Sl ao ac s_Sections) (aw:Reads R ap) (ax:Sl ap ae s_Marks) (ay:Reads R aq) (az:Sl aq ag s_Reaches) {r:((List (List Int)) × Int)} (hM:(zaQ s_Sections s_Marks s_Reaches).Ends r) (w:World) (H:St w w [] R):Ret Tryz.prog 11 #[.agg #[ac,ae,ag]] w fun v w'=>∃ (y0:List (List Int)) (y1:Int) (u0:Value) (rr1:List (Raw 0)) (aA:Base),(y0,y1)=r/\v = .tuple #[u0,I y1]/\St w w' [cOwn (α:=Raw 0) 28 u0 rr1,cRo aA] R/\RepR (α:=List Int) aA.cells rr1 y0:=by
 refine ret_of_W Tryz.func11 rfl rfl rfl ?_
 refine W.seq ?_
 refine W.region rfl ?_
 refine t_box (v:=.agg #[ac,ae,ag]) (cs:=[ac,ae,ag]) H rfl rfl ?_
 intro aD aN H
 refine zA (.slice none 0 0) rfl ?_
 refine zA (I 0) rfl ?_
 refine s_nil ?_
 refine W.seq ?_
 refine W.region rfl ?_
 refine s_val (x_ld (p:=Pq aD) (v:=.agg #[ac,ae,ag]) rfl (ldb_ag (ds:=[ac,ae,ag]) Ag27 Sz27 (H.bl 0) rfl rfl)) ?_
 obtain ⟨aO,aE,hM⟩:=M.e_bind hM
 refine s_call cf49 [.agg #[ac,ae,ag]] rfl (zap s_Sections s_Marks s_Reaches (au.app _) av (aw.app _) ax (ay.app _) az aE _ (H.gt 1)) ?_
 rintro vq aP (⟨r1,aF,hvq,ab⟩ | ⟨aa,ai,aQ,aG,hvq,ab⟩)
 ·subst aF
  subst vq
  try dsimp only at hM
  replace H:=H.bk ab
  clear ab
  refine zM (.tuple #[.pointer none,I r1]) rfl ?_
  refine zX [.pointer none,I r1] (.pointer none) rfl rfl ?_
  refine zX [.pointer none,I r1] (I r1) rfl rfl ?_
  refine zA (.pointer none) rfl ?_
  refine zA (I r1) rfl ?_
  refine s_nil ?_
  refine W.seq ?_
  refine W.seq ?_
  refine W.region rfl ?_
  refine zM (I r1) rfl ?_
  refine zC r1 0 (r1 != 0) rfl rfl rfl ?_
  refine s_nil ?_
  refine W.cond (r1 != 0) rfl (fun aj=>?_) (fun aj=>?_)
  ·replace hM:=M.e_t hM aj
   simp only [qy1,qy2,qy3,qy4,qy5,qy6,ne_eq,qy7] at aj
   refine W.seq ?_
   refine W.region rfl ?_
   refine zM (I r1) rfl ?_
   refine zA (.slice none 0 0) rfl ?_
   refine zA (I r1) rfl ?_
   refine s_nil ?_
   refine W.ret ?_
   have am:=M.e_pure hM
   obtain ⟨aB,H⟩:=H.emptyE
   replace H:=H.nilOwn (α:=Raw 0) 28
   have aH:RepR (α:=List Int) (n:=0) aB.cells [] []:=.nil
   exact ⟨_,resE_tmp2 rfl,⟨([]),r1,(.slice none 0 0),[],aB,am,rfl,(H.pk [0,1]),aH⟩⟩
  replace hM:=M.e_f hM aj
  exact (M.e_fail hM).elim
 subst aG
 subst vq
 try dsimp only at hM
 replace H:=H.bk ab
 clear ab
 refine zM (.tuple #[Pq ai,I aa]) rfl ?_
 refine zX [Pq ai,I aa] (Pq ai) rfl rfl ?_
 refine zX [Pq ai,I aa] (I aa) rfl rfl ?_
 refine zA (Pq ai) rfl ?_
 refine zA (I aa) rfl ?_
 refine s_nil ?_
 refine W.seq ?_
 refine W.seq ?_
 refine W.region rfl ?_
 refine zM (I aa) rfl ?_
 refine zC aa 0 (aa != 0) rfl rfl rfl ?_
 refine s_nil ?_
 refine W.cond (aa != 0) rfl (fun ak=>?_) (fun ak=>?_)
 ·replace hM:=M.e_t hM ak
  exact (M.e_fail hM).elim
 replace hM:=M.e_f hM ak
 simp only [qy1,qy2,qy3,qy4,qy5,qy6,ne_eq,qy7] at ak
 refine W.skip ?_
 refine W.seq ?_
 refine W.region rfl ?_
 refine zM (Pq ai) rfl ?_
 obtain ⟨aR,aI,hM⟩:=M.e_bind hM
 refine s_call cf50 [Pq ai] rfl (zcW s_Sections s_Marks s_Reaches (au.app _) av (aw.app _) ax (ay.app _) az (Has.here (k:=0) rfl) aI _ (H.gt 3)) ?_
 rintro vq aS ⟨r2,aC,aJ,aK,aL,hvq,ab,aM⟩
 subst aL
 subst vq
 try dsimp only at hM
 replace H:=H.bk ab
 clear ab
 refine zA aC rfl ?_
 refine zA (I 0) rfl ?_
 refine s_nil ?_
 replace H:=H.pk [0,1]
 refine W.ret ?_
 have am:=M.e_pure hM
 exact ⟨_,resE_tmp2 rfl,⟨r2,0,aC,aJ,aK,am,rfl,H,aM⟩⟩

def zaX (s_Marks:List Mrk) (rows:List (List Int)) (i:Nat):Nat->M (Nat ⊕ (Unit ⊕ Unit)):=fun k =>
  bif decide ((k:Int)<((rows.getD i ([])).length:Int)) then (
  M.grd (decide ((k:Int)<((rows.getD i ([])).length:Int))) <|
  M.bind (zae ((rows.getD i ([])).getD k 0) 0 ((s_Marks.length:Int)-1)) fun r3 =>
  bif r3 then (
  M.pure (.inr (.inl ())))
  else (
  M.pure (.inl (k+1))))
  else (
  M.pure (.inr (.inr ())))
def za7 (s_Marks:List Mrk) (rows:List (List Int)):Nat->M (Nat ⊕ (Unit ⊕ Unit)):=fun i =>
  bif decide ((i:Int)<(rows.length:Int)) then (
  M.grd (decide ((i:Int)<(rows.length:Int))) <|
  bif ((rows.getD i ([])).length:Int)==0 then (
  M.pure (.inr (.inl ())))
  else (
  M.bind (M.iter (zaX s_Marks rows i) 0) fun x_=>match x_ with
  | (.inl (_:Unit))=>(
  M.pure (.inr (.inl ())))
  | (.inr (_:Unit))=>(
  M.pure (.inl (i+1)))))
  else (
  M.pure (.inr (.inr ())))
def zbm (rows:List (List Int)) (m2:Nat) (i2:Nat):(Bool × Nat)->M ((Bool × Nat) ⊕ Bool):=fun (met,k2) =>
  M.grd (decide ((i2:Int)<(rows.length:Int))) <|
  bif decide ((k2:Int)<((rows.getD i2 ([])).length:Int)) then (
  M.grd ((!(!met)||(decide ((k2:Int)<((rows.getD i2 ([])).length:Int))))) <|
  M.pure (.inl ((met||(((rows.getD i2 ([])).getD k2 0)==(m2:Int))),k2+1)))
  else (
  M.pure (.inr met))
def zbI (rows:List (List Int)) (m2:Nat):(Bool × Nat)->M ((Bool × Nat) ⊕ Bool):=fun (met3,i2) =>
  bif decide ((i2:Int)<(rows.length:Int)) then (
  M.bind (M.iter (zbm rows m2 i2) (met3,0)) fun met2 =>
  M.pure (.inl (met2,i2+1)))
  else (
  M.pure (.inr met3))
def zbD (s_Marks:List Mrk) (rows:List (List Int)):Nat->M (Nat ⊕ (Unit ⊕ Unit)):=fun m2 =>
  bif decide ((m2:Int)<(s_Marks.length:Int)) then (
  M.bind (M.iter (zbI rows m2) (false,0)) fun met4 =>
  bif !met4 then (
  M.pure (.inr (.inl ())))
  else (
  M.pure (.inl (m2+1))))
  else (
  M.pure (.inr (.inr ())))
def zbx (s_Marks:List Mrk) (rows:List (List Int)) (i3:Nat) (k3:Nat):Nat->M (Nat ⊕ (Unit ⊕ Unit)):=fun j =>
  bif decide ((j:Int)<(k3:Int)) then (
  M.grd (decide ((k3:Int)<((rows.getD i3 ([])).length:Int))) <|
  M.grd (decide ((0:Int)<=((rows.getD i3 ([])).getD k3 0))&&decide (((rows.getD i3 ([])).getD k3 0)<(s_Marks.length:Int))) <|
  M.grd (decide ((j:Int)<((rows.getD i3 ([])).length:Int))) <|
  M.grd (decide ((0:Int)<=((rows.getD i3 ([])).getD j 0))&&decide (((rows.getD i3 ([])).getD j 0)<(s_Marks.length:Int))) <|
  M.bind (zaU (s_Marks.getD (Int.toNat ((rows.getD i3 ([])).getD k3 0)) default) (s_Marks.getD (Int.toNat ((rows.getD i3 ([])).getD j 0)) default)) fun r4 =>
  bif !r4 then (
  M.pure (.inr (.inl ())))
  else (
  M.pure (.inl (j+1))))
  else (
  M.pure (.inr (.inr ())))
def zbf (s_Marks:List Mrk) (rows:List (List Int)) (i3:Nat):Nat->M (Nat ⊕ (Unit ⊕ Unit)):=fun k3 =>
  M.grd (decide ((i3:Int)<(rows.length:Int))) <|
  bif decide ((k3:Int)<((rows.getD i3 ([])).length:Int)) then (
  M.bind (M.iter (zbx s_Marks rows i3 k3) 0) fun x_=>match x_ with
  | (.inl (_:Unit))=>(
  M.pure (.inr (.inl ())))
  | (.inr (_:Unit))=>(
  M.pure (.inl (k3+1))))
  else (
  M.pure (.inr (.inr ())))
def zbJ (s_Marks:List Mrk) (rows:List (List Int)):Nat->M (Nat ⊕ (Unit ⊕ Unit)):=fun i3 =>
  bif decide ((i3:Int)<(rows.length:Int)) then (
  M.bind (M.iter (zbf s_Marks rows i3) 0) fun x_=>match x_ with
  | (.inl (_:Unit))=>(
  M.pure (.inr (.inl ())))
  | (.inr (_:Unit))=>(
  M.pure (.inl (i3+1))))
  else (
  M.pure (.inr (.inr ())))
def zbG (s_Sections:List Sect) (s_Marks:List Mrk) (s_Reaches:List Rch) (many:Int) (rows:List (List Int)):M (Bool × Int) :=
  M.bind (zal s_Sections s_Marks s_Reaches) fun r2 =>
  bif r2 != 0 then (
  M.pure (false,r2))
  else (
  bif decide (16<(rows.length:Int)) then (
  M.pure (false,3))
  else (
  M.bind (M.iter (za7 s_Marks rows) 0) fun x_=>match x_ with
  | (.inl (_:Unit))=>(
  M.pure (false,2))
  | (.inr (_:Unit))=>(
  bif decide (many<(rows.length:Int)) then (
  M.pure (false,0))
  else (
  M.bind (M.iter (zbD s_Marks rows) 0) fun x_=>match x_ with
  | (.inl (_:Unit))=>(
  M.pure (false,0))
  | (.inr (_:Unit))=>(
  M.bind (M.iter (zbJ s_Marks rows) 0) fun x_=>match x_ with
  | (.inl (_:Unit))=>(
  M.pure (false,0))
  | (.inr (_:Unit))=>(
  M.pure (true,0)))))))
theorem zdg {R:List Chunk} {bp:Cells} {ai:Value} {bq:Cells} {ac:Value} {br:Cells} {aj:Value} {bt:Cells} {aa:Value} (s_Sections:List Sect) (s_Marks:List Mrk) (s_Reaches:List Rch) (many:Int) (rows:List (List Int)) (bO:Reads R bp) (bP:Sl bp ai s_Sections) (aV:Reads R bq) (ap:Sl bq ac s_Marks) (bQ:Reads R br) (bR:Sl br aj s_Reaches) (ao:Reads R bt) (ae:Sl bt aa rows) {r:(Bool × Int)} (hM:(zbG s_Sections s_Marks s_Reaches many rows).Ends r) (w:World) (H:St w w [] R):Ret Tryz.prog 33 #[.agg #[ai,ac,aj],I many,aa] w fun v w'=>∃ (y0:Bool) (y1:Int),(y0,y1)=r/\v = .tuple #[B y0,I y1]/\St w w' [] R:=by
 refine ret_of_W Tryz.func33 rfl rfl rfl ?_
 refine W.seq ?_
 refine W.region rfl ?_
 refine t_box (v:=.agg #[ai,ac,aj]) (cs:=[ai,ac,aj]) H rfl rfl ?_
 intro ab da H
 refine zA (B false) rfl ?_
 refine zA (I 0) rfl ?_
 refine s_nil ?_
 refine W.seq ?_
 refine W.seq ?_
 refine W.region rfl ?_
 refine s_val (x_ld (p:=Pq ab) (v:=.agg #[ai,ac,aj]) rfl (ldb_ag (ds:=[ai,ac,aj]) Ag81 Sz81 (H.bl 0) rfl rfl)) ?_
 obtain ⟨db,bS,hM⟩:=M.e_bind hM
 refine s_call cf27 [.agg #[ai,ac,aj]] rfl (zbg s_Sections s_Marks s_Reaches (bO.app _) bP (aV.app _) ap (bQ.app _) bR bS _ (H.gt 1)) ?_
 rintro vq dc ⟨r2,bT,hvq,aq⟩
 subst bT
 subst vq
 try dsimp only at hM
 replace H:=H.bk aq
 clear aq
 refine zA (I r2) rfl ?_
 refine s_nil ?_
 refine W.seq ?_
 refine W.region rfl ?_
 refine zM (I r2) rfl ?_
 refine zC r2 0 (r2 != 0) rfl rfl rfl ?_
 refine s_nil ?_
 refine W.cond (r2 != 0) rfl (fun ax=>?_) (fun ax=>?_)
 ·replace hM:=M.e_t hM ax
  simp only [qy1,qy2,qy3,qy4,qy5,qy6,ne_eq,qy7] at ax
  refine W.seq ?_
  refine W.region rfl ?_
  refine zM (I r2) rfl ?_
  refine zA (B false) rfl ?_
  refine zA (I r2) rfl ?_
  refine s_nil ?_
  refine W.ret ?_
  have ak:=M.e_pure hM
  exact ⟨_,resE_tmp2 rfl,⟨false,r2,ak,rfl,(H.pk [])⟩⟩
 replace hM:=M.e_f hM ax
 simp only [qy1,qy2,qy3,qy4,qy5,qy6,ne_eq,qy7] at ax
 refine W.skip ?_
 refine W.seq ?_
 refine W.seq ?_
 refine W.region rfl ?_
 refine zM aa rfl ?_
 have dd:=(ae).len_le
 refine s_val (x_lenS T38.und rfl ae) ?_
 refine zC (rows.length:Int) 16 (decide (16<(rows.length:Int))) rfl rfl rfl ?_
 refine s_nil ?_
 refine W.cond (decide (16<(rows.length:Int))) rfl (fun ay=>?_) (fun ay=>?_)
 ·replace hM:=M.e_t hM ay
  simp only [qy1,qy2,qy3,qy4,qy5,qy6,ne_eq,qy7] at ay
  refine W.seq ?_
  refine W.region rfl ?_
  refine zA (B false) rfl ?_
  refine zA (I 3) rfl ?_
  refine s_nil ?_
  refine W.ret ?_
  have ak:=M.e_pure hM
  exact ⟨_,resE_tmp2 rfl,⟨false,3,ak,rfl,(H.pk [])⟩⟩
 replace hM:=M.e_f hM ay
 simp only [qy1,qy2,qy3,qy4,qy5,qy6,ne_eq,qy7] at ay
 refine W.skip ?_
 refine W.seq ?_
 refine W.seq ?_
 refine W.region rfl ?_
 refine zA (I 0) rfl ?_
 refine s_nil ?_
 refine W.block ?_
 obtain ⟨bU,aW,aX⟩:=M.e_bind hM
 obtain ⟨au,aW⟩:=M.e_iter aW
 refine W.loop (fun m σ W=>∃ (i:Nat) (ρ:Env),σ=upds ρ [(1,I many),(2,aa),(3,Pq ab),(9,I (i:Int))]/\M.iterN (za7 s_Marks rows) m i=some bU/\St w W [cBlk ab [ai,ac,aj] 81] R) ?_ ?_
 ·exact ⟨_,0,_,upds_of _ _ ⟨rfl,rfl,rfl,rfl,trivial⟩,aW,H⟩
 rintro de σ dg ⟨i,ρ,rfl,bu,H⟩
 obtain ⟨bV,bW,dh,hM,aT⟩:=M.e_iterN bu
 simp only [za7] at hM
 clear bu
 refine W.seq ?_
 refine W.seq ?_
 refine W.region rfl ?_
 refine zM (I (i:Int)) rfl ?_
 refine zM aa rfl ?_
 have di:=(ae).len_le
 refine s_val (x_lenS T38.und rfl ae) ?_
 refine zC (i:Int) (rows.length:Int) (decide ((i:Int)<(rows.length:Int))) rfl rfl rfl ?_
 refine s_nil ?_
 refine W.cond (decide ((i:Int)<(rows.length:Int))) rfl (fun az=>?_) (fun az=>?_)
 ·replace hM:=M.e_t hM az
  simp only [qy1,qy2,qy3,qy4,qy5,qy6,ne_eq,qy7] at az
  refine W.skip ?_
  refine W.seq ?_
  refine W.block ?_
  refine W.seq ?_
  refine W.seq ?_
  refine W.region rfl ?_
  refine zM aa rfl ?_
  refine zM (I (i:Int)) rfl ?_
  obtain ⟨bX,hM⟩:=M.e_grd hM
  simp only [Bool.and_eq_true,decide_eq_true_eq] at bX
  refine s_val (x_ix (a:=aa) (b:=I (i:Int)) (v:=vat aa 1 (Int.toNat (i:Int))) rfl rfl (Sl.ix (α:=List Int) T38.und T38.size ae (by omega) (by omega))) ?_
  obtain ⟨bv,bY,aA⟩:=List_at ae (i:=(i:Int)) (by omega) (by omega)
  replace aA:Sl _ bv (rows.getD i ([])):=aA
  have dj:=aA.len_le
  refine s_val (x_ld (p:=vat aa 1 (Int.toNat (i:Int))) (v:=bv) rfl (ld_sc Sc28 (At.mono (bY) (ao.at H)))) ?_
  have dk:=(aA).len_le
  refine s_val (x_lenS T28.und rfl aA) ?_
  refine zC ((rows.getD i ([])).length:Int) 0 (((rows.getD i ([])).length:Int)==0) rfl rfl rfl ?_
  refine s_nil ?_
  refine W.cond (((rows.getD i ([])).length:Int)==0) rfl (fun aB=>?_) (fun aB=>?_)
  ·replace hM:=M.e_t hM aB
   simp only [qy1,qy2,qy3,qy4,qy5,qy6,ne_eq,qy7] at aB
   refine W.seq ?_
   refine W.region rfl ?_
   refine zA (B false) rfl ?_
   refine zA (I 2) rfl ?_
   refine s_nil ?_
   refine W.ret ?_
   have bZ:=M.e_inr hM aT
   subst bZ
   replace hM:=aX
   try dsimp only at hM
   have ak:=M.e_pure hM
   exact ⟨_,resE_tmp2 rfl,⟨false,2,ak,rfl,(H.pk [])⟩⟩
  replace hM:=M.e_f hM aB
  simp only [qy1,qy2,qy3,qy4,qy5,qy6,ne_eq,qy7] at aB
  refine W.skip ?_
  refine W.seq ?_
  refine W.region rfl ?_
  refine zA (I 0) rfl ?_
  refine s_nil ?_
  refine W.block ?_
  obtain ⟨b4,aY,bw⟩:=M.e_bind hM
  obtain ⟨au,aY⟩:=M.e_iter aY
  refine W.loop (fun m σ W=>∃ (k:Nat) (ρ:Env),σ=upds ρ [(1,I many),(2,aa),(3,Pq ab),(9,I (i:Int)),(10,I (k:Int))]/\M.iterN (zaX s_Marks rows i) m k=some b4/\St w W [cBlk ab [ai,ac,aj] 81] R) ?_ ?_
  ·exact ⟨_,0,_,upds_of _ _ ⟨rfl,rfl,rfl,rfl,rfl,trivial⟩,aY,H⟩
  rintro dm σ dp ⟨k,ρ,rfl,bx,H⟩
  obtain ⟨b5,b6,dq,hM,aZ⟩:=M.e_iterN bx
  simp only [zaX] at hM
  clear bx
  refine W.seq ?_
  refine W.seq ?_
  refine W.region rfl ?_
  refine zM (I (k:Int)) rfl ?_
  refine zM aa rfl ?_
  refine zM (I (i:Int)) rfl ?_
  refine s_val (x_ix (a:=aa) (b:=I (i:Int)) (v:=vat aa 1 (Int.toNat (i:Int))) rfl rfl (Sl.ix (α:=List Int) T38.und T38.size ae (by omega) (by omega))) ?_
  obtain ⟨bz,b7,aC⟩:=List_at ae (i:=(i:Int)) (by omega) (by omega)
  replace aC:Sl _ bz (rows.getD i ([])):=aC
  have dr:=aC.len_le
  refine s_val (x_ld (p:=vat aa 1 (Int.toNat (i:Int))) (v:=bz) rfl (ld_sc Sc28 (At.mono (b7) (ao.at H)))) ?_
  have dt:=(aC).len_le
  refine s_val (x_lenS T28.und rfl aC) ?_
  refine zC (k:Int) ((rows.getD i ([])).length:Int) (decide ((k:Int)<((rows.getD i ([])).length:Int))) rfl rfl rfl ?_
  refine s_nil ?_
  refine W.cond (decide ((k:Int)<((rows.getD i ([])).length:Int))) rfl (fun aD=>?_) (fun aD=>?_)
  ·replace hM:=M.e_t hM aD
   simp only [qy1,qy2,qy3,qy4,qy5,qy6,ne_eq,qy7] at aD
   refine W.skip ?_
   refine W.seq ?_
   refine W.block ?_
   refine W.seq ?_
   refine W.draw (fun W=>St w W [cBlk ab [ai,ac,aj] 81] R) [(0,true),(1,true),(2,true),(3,true),(4,true),(5,true),(6,true),(7,true),(8,true),(9,true),(10,true),(11,false)] mixed (by decide +kernel) rfl ?_
   intro dv ag
   replace H:=H.ext ag
   clear ag
   refine ⟨(H.pk [0]),?_⟩
   refine d_q rfl (fun w' H=>x_mv (v:=aa) rfl) ?_
   refine d_q rfl (fun w' H=>x_mv (v:=I (i:Int)) rfl) ?_
   refine d_q rfl (fun w' H=>x_ix (a:=aa) (b:=I (i:Int)) (v:=vat aa 1 (Int.toNat (i:Int))) rfl rfl (Sl.ix (α:=List Int) T38.und T38.size ae (by omega) (by omega))) ?_
   obtain ⟨aE,b8,aF⟩:=List_at ae (i:=(i:Int)) (by omega) (by omega)
   replace aF:Sl _ aE (rows.getD i ([])):=aF
   have dw:=aF.len_le
   refine d_q rfl (fun w' H=>x_ld (p:=vat aa 1 (Int.toNat (i:Int))) (v:=aE) rfl (ld_sc Sc28 (At.mono (b8) (ao.at H)))) ?_
   refine d_q rfl (fun w' H=>x_mv (v:=I (k:Int)) rfl) ?_
   obtain ⟨b9,hM⟩:=M.e_grd hM
   simp only [Bool.and_eq_true,decide_eq_true_eq] at b9
   refine d_q rfl (fun w' H=>x_ix (a:=aE) (b:=I (k:Int)) (v:=vat aE 1 (Int.toNat (k:Int))) rfl rfl (Sl.ix (α:=Int) T28.und T28.size aF (by omega) (by omega))) ?_
   refine d_q rfl (fun w' H=>x_ld (p:=vat aE 1 (Int.toNat (k:Int))) (v:=I ((rows.getD i ([])).getD k 0)) rfl (ld_sc Sc3 (At.mono (Int_at aF (i:=(k:Int)) (by omega) (by omega)) (ao.at H)))) ?_
   refine d_q rfl (fun w' H=>x_fa (a:=Pq ab) (v:=Oq ab 1) rfl (fa_blk (o:=0) Fd81_1 Sz78)) ?_
   refine d_q rfl (fun w' H=>x_ld (p:=Oq ab 1) (v:=ac) rfl (ldb_sc Sc78 (H.bl 0) rfl)) ?_
   have dx:=(ap).len_le
   refine d_q rfl (fun w' H=>x_lenS T78.und rfl ap) ?_
   refine d_q rfl (fun w' H=>x_ari (a:=(s_Marks.length:Int)) (b:=1) (r:=(s_Marks.length:Int)-1) rfl rfl rfl (by omega)) ?_
   refine d_l rfl ?_
   obtain ⟨dy,cb,hM⟩:=M.e_bind hM
   refine s_call cf82 [I ((rows.getD i ([])).getD k 0),I 0,I ((s_Marks.length:Int)-1)] rfl (zaf ((rows.getD i ([])).getD k 0) 0 ((s_Marks.length:Int)-1) cb _ (H.gt 1)) ?_
   rintro vq dz ⟨r3,cc,hvq,aq⟩
   subst cc
   subst vq
   try dsimp only at hM
   replace H:=H.bk aq
   clear aq
   refine s_nil ⟨(H.pk [0]),?_⟩
   refine d_nil ?_
   refine W.cond r3 rfl (fun a6=>?_) (fun a6=>?_)
   ·replace hM:=M.e_t hM a6
    refine W.seq ?_
    refine W.region rfl ?_
    refine zA (B false) rfl ?_
    refine zA (I 2) rfl ?_
    refine s_nil ?_
    refine W.ret ?_
    have cd:=M.e_inr hM aZ
    subst cd
    replace hM:=bw
    try dsimp only at hM
    have ce:=M.e_inr hM aT
    subst ce
    replace hM:=aX
    try dsimp only at hM
    have ak:=M.e_pure hM
    exact ⟨_,resE_tmp2 rfl,⟨false,2,ak,rfl,(H.pk [])⟩⟩
   replace hM:=M.e_f hM a6
   refine W.skip ?_
   refine W.region rfl ?_
   refine zM (I (k:Int)) rfl ?_
   refine zR (k:Int) 1 ((k:Int)+1) rfl rfl rfl (by omega) ?_
   refine zA (I ((k:Int)+1)) rfl ?_
   refine s_nil ?_
   exact ⟨b5,b6,k+1,_,upds_of _ _ ⟨rfl,rfl,rfl,rfl,rfl,trivial⟩,M.e_inl hM aZ,H⟩
  replace hM:=M.e_f hM aD
  simp only [qy1,qy2,qy3,qy4,qy5,qy6,ne_eq,qy7] at aD
  refine W.exit ?_
  have cf:=M.e_inr hM aZ
  subst cf
  replace hM:=bw
  try dsimp only at hM
  refine W.region rfl ?_
  refine zM (I (i:Int)) rfl ?_
  refine zR (i:Int) 1 ((i:Int)+1) rfl rfl rfl (by omega) ?_
  refine zA (I ((i:Int)+1)) rfl ?_
  refine s_nil ?_
  exact ⟨bV,bW,i+1,_,upds_of _ _ ⟨rfl,rfl,rfl,rfl,trivial⟩,M.e_inl hM aT,H⟩
 replace hM:=M.e_f hM az
 simp only [qy1,qy2,qy3,qy4,qy5,qy6,ne_eq,qy7] at az
 refine W.exit ?_
 have cg:=M.e_inr hM aT
 subst cg
 replace hM:=aX
 try dsimp only at hM
 refine W.seq ?_
 refine W.seq ?_
 refine W.region rfl ?_
 refine zM aa rfl ?_
 have dA:=(ae).len_le
 refine s_val (x_lenS T38.und rfl ae) ?_
 refine zM (I many) rfl ?_
 refine zC (rows.length:Int) many (decide (many<(rows.length:Int))) rfl rfl rfl ?_
 refine s_nil ?_
 refine W.cond (decide (many<(rows.length:Int))) rfl (fun aG=>?_) (fun aG=>?_)
 ·replace hM:=M.e_t hM aG
  simp only [qy1,qy2,qy3,qy4,qy5,qy6,ne_eq,qy7] at aG
  refine W.seq ?_
  refine W.region rfl ?_
  refine zA (B false) rfl ?_
  refine zA (I 0) rfl ?_
  refine s_nil ?_
  refine W.ret ?_
  have ak:=M.e_pure hM
  exact ⟨_,resE_tmp2 rfl,⟨false,0,ak,rfl,(H.pk [])⟩⟩
 replace hM:=M.e_f hM aG
 simp only [qy1,qy2,qy3,qy4,qy5,qy6,ne_eq,qy7] at aG
 refine W.skip ?_
 refine W.seq ?_
 refine W.seq ?_
 refine W.region rfl ?_
 refine zA (I 0) rfl ?_
 refine s_nil ?_
 refine W.block ?_
 obtain ⟨cj,a7,bA⟩:=M.e_bind hM
 obtain ⟨au,a7⟩:=M.e_iter a7
 refine W.loop (fun m σ W=>∃ (m2:Nat) (ρ:Env),σ=upds ρ [(2,aa),(3,Pq ab),(11,I (m2:Int))]/\M.iterN (zbD s_Marks rows) m m2=some cj/\St w W [cBlk ab [ai,ac,aj] 81] R) ?_ ?_
 ·exact ⟨_,0,_,upds_of _ _ ⟨rfl,rfl,rfl,trivial⟩,a7,H⟩
 rintro dB σ dC ⟨m2,ρ,rfl,bB,H⟩
 obtain ⟨ck,co,dD,hM,a8⟩:=M.e_iterN bB
 simp only [zbD] at hM
 clear bB
 refine W.seq ?_
 refine W.seq ?_
 refine W.region rfl ?_
 refine zM (I (m2:Int)) rfl ?_
 refine s_val (x_fa (a:=Pq ab) (v:=Oq ab 1) rfl (fa_blk (o:=0) Fd81_1 Sz78)) ?_
 refine s_val (x_ld (p:=Oq ab 1) (v:=ac) rfl (ldb_sc Sc78 (H.bl 0) rfl)) ?_
 have dE:=(ap).len_le
 refine s_val (x_lenS T78.und rfl ap) ?_
 refine zC (m2:Int) (s_Marks.length:Int) (decide ((m2:Int)<(s_Marks.length:Int))) rfl rfl rfl ?_
 refine s_nil ?_
 refine W.cond (decide ((m2:Int)<(s_Marks.length:Int))) rfl (fun aH=>?_) (fun aH=>?_)
 ·replace hM:=M.e_t hM aH
  simp only [qy1,qy2,qy3,qy4,qy5,qy6,ne_eq,qy7] at aH
  refine W.skip ?_
  refine W.seq ?_
  refine W.block ?_
  refine W.seq ?_
  refine W.region rfl ?_
  refine zA (B false) rfl ?_
  refine s_nil ?_
  refine W.seq ?_
  refine W.seq ?_
  refine W.region rfl ?_
  refine zA (I 0) rfl ?_
  refine s_nil ?_
  refine W.block ?_
  obtain ⟨cp,ba,cq⟩:=M.e_bind hM
  obtain ⟨au,ba⟩:=M.e_iter ba
  refine W.loop (fun m σ W=>∃ (met3:Bool) (i2:Nat) (ρ:Env),σ=upds ρ [(2,aa),(3,Pq ab),(11,I (m2:Int)),(12,B met3),(13,I (i2:Int))]/\M.iterN (zbI rows m2) m (met3,i2)=some cp/\St w W [cBlk ab [ai,ac,aj] 81] R) ?_ ?_
  ·exact ⟨_,false,0,_,upds_of _ _ ⟨rfl,rfl,rfl,rfl,rfl,trivial⟩,ba,H⟩
  rintro dF σ dG ⟨met3,i2,ρ,rfl,bC,H⟩
  obtain ⟨cr,ct,dH,hM,bD⟩:=M.e_iterN bC
  simp only [zbI] at hM
  clear bC
  refine W.seq ?_
  refine W.seq ?_
  refine W.region rfl ?_
  refine zM (I (i2:Int)) rfl ?_
  refine zM aa rfl ?_
  have dI:=(ae).len_le
  refine s_val (x_lenS T38.und rfl ae) ?_
  refine zC (i2:Int) (rows.length:Int) (decide ((i2:Int)<(rows.length:Int))) rfl rfl rfl ?_
  refine s_nil ?_
  refine W.cond (decide ((i2:Int)<(rows.length:Int))) rfl (fun aI=>?_) (fun aI=>?_)
  ·replace hM:=M.e_t hM aI
   simp only [qy1,qy2,qy3,qy4,qy5,qy6,ne_eq,qy7] at aI
   refine W.skip ?_
   refine W.seq ?_
   refine W.block ?_
   refine W.seq ?_
   refine W.region rfl ?_
   refine zA (I 0) rfl ?_
   refine s_nil ?_
   refine W.block ?_
   obtain ⟨cu,bb,cw⟩:=M.e_bind hM
   obtain ⟨au,bb⟩:=M.e_iter bb
   refine W.loop (fun m σ W=>∃ (met:Bool) (k2:Nat) (ρ:Env),σ=upds ρ [(2,aa),(3,Pq ab),(11,I (m2:Int)),(12,B met),(13,I (i2:Int)),(14,I (k2:Int))]/\M.iterN (zbm rows m2 i2) m (met,k2)=some cu/\St w W [cBlk ab [ai,ac,aj] 81] R) ?_ ?_
   ·exact ⟨_,met3,0,_,upds_of _ _ ⟨rfl,rfl,rfl,rfl,rfl,rfl,trivial⟩,bb,H⟩
   rintro dJ σ dK ⟨met,k2,ρ,rfl,bE,H⟩
   obtain ⟨cx,cy,dL,hM,bF⟩:=M.e_iterN bE
   simp only [zbm] at hM
   clear bE
   refine W.seq ?_
   refine W.seq ?_
   refine W.region rfl ?_
   refine zM (I (k2:Int)) rfl ?_
   refine zM aa rfl ?_
   refine zM (I (i2:Int)) rfl ?_
   obtain ⟨cz,hM⟩:=M.e_grd hM
   simp only [Bool.and_eq_true,decide_eq_true_eq] at cz
   refine s_val (x_ix (a:=aa) (b:=I (i2:Int)) (v:=vat aa 1 (Int.toNat (i2:Int))) rfl rfl (Sl.ix (α:=List Int) T38.und T38.size ae (by omega) (by omega))) ?_
   obtain ⟨bG,cA,aJ⟩:=List_at ae (i:=(i2:Int)) (by omega) (by omega)
   replace aJ:Sl _ bG (rows.getD i2 ([])):=aJ
   have dM:=aJ.len_le
   refine s_val (x_ld (p:=vat aa 1 (Int.toNat (i2:Int))) (v:=bG) rfl (ld_sc Sc28 (At.mono (cA) (ao.at H)))) ?_
   have dN:=(aJ).len_le
   refine s_val (x_lenS T28.und rfl aJ) ?_
   refine zC (k2:Int) ((rows.getD i2 ([])).length:Int) (decide ((k2:Int)<((rows.getD i2 ([])).length:Int))) rfl rfl rfl ?_
   refine s_nil ?_
   refine W.cond (decide ((k2:Int)<((rows.getD i2 ([])).length:Int))) rfl (fun aK=>?_) (fun aK=>?_)
   ·replace hM:=M.e_t hM aK
    simp only [qy1,qy2,qy3,qy4,qy5,qy6,ne_eq,qy7] at aK
    refine W.skip ?_
    refine W.seq ?_
    refine W.block ?_
    refine W.region rfl ?_
    refine zM (B met) rfl ?_
    refine zM (B met) rfl ?_
    refine g_val (!met) (gy_f rfl) (fun hg=>x_mv (v:=aa) rfl) ?_
    refine g_val (!met) (gy_f rfl) (fun hg=>x_mv (v:=I (i2:Int)) rfl) ?_
    refine g_val (!met) (gy_f rfl) (fun hg=>x_ix (a:=aa) (b:=I (i2:Int)) (v:=vat aa 1 (Int.toNat (i2:Int))) (gd_of (c:=!met) hg (aa)) (gd_of (c:=!met) hg (I (i2:Int))) (Sl.ix (α:=List Int) T38.und T38.size ae (by first | omega | (have ag:=hg; simp at ag; omega)) (by first | omega | (have ag:=hg; simp at ag; omega)))) ?_
    obtain ⟨av,cB,aU⟩:=gd_ex (c:=!met) fun hg=>List_at ae (i:=(i2:Int)) (by first | omega | (have ag:=hg; simp at ag; omega)) (by first | omega | (have ag:=hg; simp at ag; omega))
    replace aU:(!met)=true->Sl _ av (rows.getD i2 ([])):=aU
    refine g_val (!met) (gy_f rfl) (fun hg=>x_ld (p:=vat aa 1 (Int.toNat (i2:Int))) (v:=av) (gd_of (c:=!met) hg (vat aa 1 (Int.toNat (i2:Int)))) (ld_sc Sc28 (At.mono (cB hg) (ao.at H)))) ?_
    refine g_val (!met) (gy_f rfl) (fun hg=>x_mv (v:=I (k2:Int)) rfl) ?_
    obtain ⟨aw,hM⟩:=M.e_grd hM
    replace aw:=M.imp_of aw
    simp only [Bool.and_eq_true,decide_eq_true_eq] at aw
    refine g_val (!met) (gy_f rfl) (fun hg=>x_ix (a:=av) (b:=I (k2:Int)) (v:=vat av 1 (Int.toNat (k2:Int))) (gd_of (c:=!met) hg (av)) (gd_of (c:=!met) hg (I (k2:Int))) (Sl.ix (α:=Int) T28.und T28.size (aU hg) (by have am:=aw.resolve_left (by rw [hg]; decide); first | exact am | exact am.1 | exact am.2 | omega | (have ag:=hg; simp at ag; omega)) (by have am:=aw.resolve_left (by rw [hg]; decide); first | exact am | exact am.1 | exact am.2 | omega | (have ag:=hg; simp at ag; omega)))) ?_
    refine g_val (!met) (gy_f rfl) (fun hg=>x_ld (p:=vat av 1 (Int.toNat (k2:Int))) (v:=I ((rows.getD i2 ([])).getD k2 0)) (gd_of (c:=!met) hg (vat av 1 (Int.toNat (k2:Int)))) (ld_sc Sc3 (At.mono (Int_at (aU hg) (i:=(k2:Int)) (by have am:=aw.resolve_left (by rw [hg]; decide); first | exact am | exact am.1 | exact am.2 | omega | (have ag:=hg; simp at ag; omega)) (by have am:=aw.resolve_left (by rw [hg]; decide); first | exact am | exact am.1 | exact am.2 | omega | (have ag:=hg; simp at ag; omega))) (ao.at H)))) ?_
    refine g_val (!met) (gy_f rfl) (fun hg=>x_mv (v:=I (m2:Int)) rfl) ?_
    refine g_val (!met) (gy_f rfl) (fun hg=>x_cmp (kd:=.i64) (a:=(rows.getD i2 ([])).getD k2 0) (b:=(m2:Int)) (r:=((rows.getD i2 ([])).getD k2 0)==(m2:Int)) (gd_of (c:=!met) hg (I ((rows.getD i2 ([])).getD k2 0))) (gd_of (c:=!met) hg (I (m2:Int))) rfl) ?_
    refine s_val (x_por (b:=met) (r:=((rows.getD i2 ([])).getD k2 0)==(m2:Int)) rfl rfl (fun hb=>gd_of (c:=!met) (by first | exact hb | (rw [hb]; rfl) | simp_all) (B (((rows.getD i2 ([])).getD k2 0)==(m2:Int))))) ?_
    refine zA (B (met||(((rows.getD i2 ([])).getD k2 0)==(m2:Int)))) rfl ?_
    refine s_nil ?_
    refine W.region rfl ?_
    refine zM (I (k2:Int)) rfl ?_
    refine zR (k2:Int) 1 ((k2:Int)+1) rfl rfl rfl (by omega) ?_
    refine zA (I ((k2:Int)+1)) rfl ?_
    refine s_nil ?_
    exact ⟨cx,cy,(met||(((rows.getD i2 ([])).getD k2 0)==(m2:Int))),k2+1,_,upds_of _ _ ⟨rfl,rfl,rfl,rfl,rfl,rfl,trivial⟩,M.e_inl hM bF,H⟩
   replace hM:=M.e_f hM aK
   simp only [qy1,qy2,qy3,qy4,qy5,qy6,ne_eq,qy7] at aK
   refine W.exit ?_
   have cC:=M.e_inr hM bF
   subst cC
   replace hM:=cw
   try dsimp only at hM
   refine W.region rfl ?_
   refine zM (I (i2:Int)) rfl ?_
   refine zR (i2:Int) 1 ((i2:Int)+1) rfl rfl rfl (by omega) ?_
   refine zA (I ((i2:Int)+1)) rfl ?_
   refine s_nil ?_
   exact ⟨cr,ct,met,i2+1,_,upds_of _ _ ⟨rfl,rfl,rfl,rfl,rfl,trivial⟩,M.e_inl hM bD,H⟩
  replace hM:=M.e_f hM aI
  simp only [qy1,qy2,qy3,qy4,qy5,qy6,ne_eq,qy7] at aI
  refine W.exit ?_
  have cD:=M.e_inr hM bD
  subst cD
  replace hM:=cq
  try dsimp only at hM
  refine W.seq ?_
  refine W.region rfl ?_
  refine zM (B met3) rfl ?_
  refine s_val (x_not (b:=met3) rfl) ?_
  refine s_nil ?_
  refine W.cond (!met3) rfl (fun bc=>?_) (fun bc=>?_)
  ·replace hM:=M.e_t hM bc
   refine W.seq ?_
   refine W.region rfl ?_
   refine zA (B false) rfl ?_
   refine zA (I 0) rfl ?_
   refine s_nil ?_
   refine W.ret ?_
   have cE:=M.e_inr hM a8
   subst cE
   replace hM:=bA
   try dsimp only at hM
   have ak:=M.e_pure hM
   exact ⟨_,resE_tmp2 rfl,⟨false,0,ak,rfl,(H.pk [])⟩⟩
  replace hM:=M.e_f hM bc
  refine W.skip ?_
  refine W.region rfl ?_
  refine zM (I (m2:Int)) rfl ?_
  refine zR (m2:Int) 1 ((m2:Int)+1) rfl rfl rfl (by omega) ?_
  refine zA (I ((m2:Int)+1)) rfl ?_
  refine s_nil ?_
  exact ⟨ck,co,m2+1,_,upds_of _ _ ⟨rfl,rfl,rfl,trivial⟩,M.e_inl hM a8,H⟩
 replace hM:=M.e_f hM aH
 simp only [qy1,qy2,qy3,qy4,qy5,qy6,ne_eq,qy7] at aH
 refine W.exit ?_
 have cF:=M.e_inr hM a8
 subst cF
 replace hM:=bA
 try dsimp only at hM
 refine W.seq ?_
 refine W.seq ?_
 refine W.region rfl ?_
 refine zA (I 0) rfl ?_
 refine s_nil ?_
 refine W.block ?_
 obtain ⟨cG,bf,bH⟩:=M.e_bind hM
 obtain ⟨au,bf⟩:=M.e_iter bf
 refine W.loop (fun m σ W=>∃ (i3:Nat) (ρ:Env),σ=upds ρ [(2,aa),(3,Pq ab),(15,I (i3:Int))]/\M.iterN (zbJ s_Marks rows) m i3=some cG/\St w W [cBlk ab [ai,ac,aj] 81] R) ?_ ?_
 ·exact ⟨_,0,_,upds_of _ _ ⟨rfl,rfl,rfl,trivial⟩,bf,H⟩
 rintro dO σ dP ⟨i3,ρ,rfl,bI,H⟩
 obtain ⟨cH,cI,dQ,hM,bh⟩:=M.e_iterN bI
 simp only [zbJ] at hM
 clear bI
 refine W.seq ?_
 refine W.seq ?_
 refine W.region rfl ?_
 refine zM (I (i3:Int)) rfl ?_
 refine zM aa rfl ?_
 have dR:=(ae).len_le
 refine s_val (x_lenS T38.und rfl ae) ?_
 refine zC (i3:Int) (rows.length:Int) (decide ((i3:Int)<(rows.length:Int))) rfl rfl rfl ?_
 refine s_nil ?_
 refine W.cond (decide ((i3:Int)<(rows.length:Int))) rfl (fun aL=>?_) (fun aL=>?_)
 ·replace hM:=M.e_t hM aL
  simp only [qy1,qy2,qy3,qy4,qy5,qy6,ne_eq,qy7] at aL
  refine W.skip ?_
  refine W.seq ?_
  refine W.block ?_
  refine W.seq ?_
  refine W.region rfl ?_
  refine zA (I 0) rfl ?_
  refine s_nil ?_
  refine W.block ?_
  obtain ⟨cJ,bi,bJ⟩:=M.e_bind hM
  obtain ⟨au,bi⟩:=M.e_iter bi
  refine W.loop (fun m σ W=>∃ (k3:Nat) (ρ:Env),σ=upds ρ [(2,aa),(3,Pq ab),(15,I (i3:Int)),(16,I (k3:Int))]/\M.iterN (zbf s_Marks rows i3) m k3=some cJ/\St w W [cBlk ab [ai,ac,aj] 81] R) ?_ ?_
  ·exact ⟨_,0,_,upds_of _ _ ⟨rfl,rfl,rfl,rfl,trivial⟩,bi,H⟩
  rintro dS σ dT ⟨k3,ρ,rfl,bK,H⟩
  obtain ⟨cK,cL,dU,hM,bj⟩:=M.e_iterN bK
  simp only [zbf] at hM
  clear bK
  refine W.seq ?_
  refine W.seq ?_
  refine W.region rfl ?_
  refine zM (I (k3:Int)) rfl ?_
  refine zM aa rfl ?_
  refine zM (I (i3:Int)) rfl ?_
  obtain ⟨cM,hM⟩:=M.e_grd hM
  simp only [Bool.and_eq_true,decide_eq_true_eq] at cM
  refine s_val (x_ix (a:=aa) (b:=I (i3:Int)) (v:=vat aa 1 (Int.toNat (i3:Int))) rfl rfl (Sl.ix (α:=List Int) T38.und T38.size ae (by omega) (by omega))) ?_
  obtain ⟨bL,cN,aM⟩:=List_at ae (i:=(i3:Int)) (by omega) (by omega)
  replace aM:Sl _ bL (rows.getD i3 ([])):=aM
  have dV:=aM.len_le
  refine s_val (x_ld (p:=vat aa 1 (Int.toNat (i3:Int))) (v:=bL) rfl (ld_sc Sc28 (At.mono (cN) (ao.at H)))) ?_
  have dW:=(aM).len_le
  refine s_val (x_lenS T28.und rfl aM) ?_
  refine zC (k3:Int) ((rows.getD i3 ([])).length:Int) (decide ((k3:Int)<((rows.getD i3 ([])).length:Int))) rfl rfl rfl ?_
  refine s_nil ?_
  refine W.cond (decide ((k3:Int)<((rows.getD i3 ([])).length:Int))) rfl (fun aN=>?_) (fun aN=>?_)
  ·replace hM:=M.e_t hM aN
   simp only [qy1,qy2,qy3,qy4,qy5,qy6,ne_eq,qy7] at aN
   refine W.skip ?_
   refine W.seq ?_
   refine W.block ?_
   refine W.seq ?_
   refine W.region rfl ?_
   refine zA (I 0) rfl ?_
   refine s_nil ?_
   refine W.block ?_
   obtain ⟨cO,bm,bM⟩:=M.e_bind hM
   obtain ⟨au,bm⟩:=M.e_iter bm
   refine W.loop (fun m σ W=>∃ (j:Nat) (ρ:Env),σ=upds ρ [(2,aa),(3,Pq ab),(15,I (i3:Int)),(16,I (k3:Int)),(17,I (j:Int))]/\M.iterN (zbx s_Marks rows i3 k3) m j=some cO/\St w W [cBlk ab [ai,ac,aj] 81] R) ?_ ?_
   ·exact ⟨_,0,_,upds_of _ _ ⟨rfl,rfl,rfl,rfl,rfl,trivial⟩,bm,H⟩
   rintro dX σ dY ⟨j,ρ,rfl,bN,H⟩
   obtain ⟨cP,cQ,dZ,hM,bn⟩:=M.e_iterN bN
   simp only [zbx] at hM
   clear bN
   refine W.seq ?_
   refine W.seq ?_
   refine W.region rfl ?_
   refine zM (I (j:Int)) rfl ?_
   refine zM (I (k3:Int)) rfl ?_
   refine zC (j:Int) (k3:Int) (decide ((j:Int)<(k3:Int))) rfl rfl rfl ?_
   refine s_nil ?_
   refine W.cond (decide ((j:Int)<(k3:Int))) rfl (fun aO=>?_) (fun aO=>?_)
   ·replace hM:=M.e_t hM aO
    simp only [qy1,qy2,qy3,qy4,qy5,qy6,ne_eq,qy7] at aO
    refine W.skip ?_
    refine W.seq ?_
    refine W.block ?_
    refine W.seq ?_
    refine W.draw (fun W=>St w W [cBlk ab [ai,ac,aj] 81] R) [(0,true),(1,true),(2,true),(3,true),(4,true),(5,true),(6,true),(7,true),(8,true),(9,true),(10,true),(11,true),(12,true),(13,true),(14,true),(15,true),(16,true),(17,true),(18,true),(19,true),(20,true),(21,true),(22,false),(23,true)] mixed (by decide +kernel) rfl ?_
    intro d7 ag
    replace H:=H.ext ag
    clear ag
    refine ⟨(H.pk [0]),?_⟩
    refine d_q rfl (fun w' H=>x_fa (a:=Pq ab) (v:=Oq ab 1) rfl (fa_blk (o:=0) Fd81_1 Sz78)) ?_
    refine d_q rfl (fun w' H=>x_ld (p:=Oq ab 1) (v:=ac) rfl (ldb_sc Sc78 (H.bl 0) rfl)) ?_
    refine d_q rfl (fun w' H=>x_mv (v:=aa) rfl) ?_
    refine d_q rfl (fun w' H=>x_mv (v:=I (i3:Int)) rfl) ?_
    refine d_q rfl (fun w' H=>x_ix (a:=aa) (b:=I (i3:Int)) (v:=vat aa 1 (Int.toNat (i3:Int))) rfl rfl (Sl.ix (α:=List Int) T38.und T38.size ae (by omega) (by omega))) ?_
    obtain ⟨aP,cR,aQ⟩:=List_at ae (i:=(i3:Int)) (by omega) (by omega)
    replace aQ:Sl _ aP (rows.getD i3 ([])):=aQ
    have d8:=aQ.len_le
    refine d_q rfl (fun w' H=>x_ld (p:=vat aa 1 (Int.toNat (i3:Int))) (v:=aP) rfl (ld_sc Sc28 (At.mono (cR) (ao.at H)))) ?_
    refine d_q rfl (fun w' H=>x_mv (v:=I (k3:Int)) rfl) ?_
    obtain ⟨cS,hM⟩:=M.e_grd hM
    simp only [Bool.and_eq_true,decide_eq_true_eq] at cS
    refine d_q rfl (fun w' H=>x_ix (a:=aP) (b:=I (k3:Int)) (v:=vat aP 1 (Int.toNat (k3:Int))) rfl rfl (Sl.ix (α:=Int) T28.und T28.size aQ (by omega) (by omega))) ?_
    refine d_q rfl (fun w' H=>x_ld (p:=vat aP 1 (Int.toNat (k3:Int))) (v:=I ((rows.getD i3 ([])).getD k3 0)) rfl (ld_sc Sc3 (At.mono (Int_at aQ (i:=(k3:Int)) (by omega) (by omega)) (ao.at H)))) ?_
    obtain ⟨cT,hM⟩:=M.e_grd hM
    simp only [Bool.and_eq_true,decide_eq_true_eq] at cT
    refine d_q rfl (fun w' H=>x_ix (a:=ac) (b:=I ((rows.getD i3 ([])).getD k3 0)) (v:=vat ac 3 (Int.toNat ((rows.getD i3 ([])).getD k3 0))) rfl rfl (Sl.ix (α:=Mrk) T78.und T78.size ap (by omega) (by omega))) ?_
    refine d_q rfl (fun w' H=>x_ld (p:=vat ac 3 (Int.toNat ((rows.getD i3 ([])).getD k3 0))) (v:=.agg #[I ((s_Marks.getD (Int.toNat ((rows.getD i3 ([])).getD k3 0)) default).place),I ((s_Marks.getD (Int.toNat ((rows.getD i3 ([])).getD k3 0)) default).lo),I ((s_Marks.getD (Int.toNat ((rows.getD i3 ([])).getD k3 0)) default).hi)]) rfl (ld_ag Ag150 Sz150 (At.mono (Mrk_atA ap (i:=(rows.getD i3 ([])).getD k3 0) (by omega) (by omega)) (aV.at H)))) ?_
    refine d_q rfl (fun w' H=>x_fa (a:=Pq ab) (v:=Oq ab 1) rfl (fa_blk (o:=0) Fd81_1 Sz78)) ?_
    refine d_q rfl (fun w' H=>x_ld (p:=Oq ab 1) (v:=ac) rfl (ldb_sc Sc78 (H.bl 0) rfl)) ?_
    refine d_q rfl (fun w' H=>x_mv (v:=aa) rfl) ?_
    refine d_q rfl (fun w' H=>x_mv (v:=I (i3:Int)) rfl) ?_
    refine d_q rfl (fun w' H=>x_ix (a:=aa) (b:=I (i3:Int)) (v:=vat aa 1 (Int.toNat (i3:Int))) rfl rfl (Sl.ix (α:=List Int) T38.und T38.size ae (by omega) (by omega))) ?_
    obtain ⟨aR,cU,aS⟩:=List_at ae (i:=(i3:Int)) (by omega) (by omega)
    replace aS:Sl _ aR (rows.getD i3 ([])):=aS
    have d9:=aS.len_le
    refine d_q rfl (fun w' H=>x_ld (p:=vat aa 1 (Int.toNat (i3:Int))) (v:=aR) rfl (ld_sc Sc28 (At.mono (cU) (ao.at H)))) ?_
    refine d_q rfl (fun w' H=>x_mv (v:=I (j:Int)) rfl) ?_
    obtain ⟨cV,hM⟩:=M.e_grd hM
    simp only [Bool.and_eq_true,decide_eq_true_eq] at cV
    refine d_q rfl (fun w' H=>x_ix (a:=aR) (b:=I (j:Int)) (v:=vat aR 1 (Int.toNat (j:Int))) rfl rfl (Sl.ix (α:=Int) T28.und T28.size aS (by omega) (by omega))) ?_
    refine d_q rfl (fun w' H=>x_ld (p:=vat aR 1 (Int.toNat (j:Int))) (v:=I ((rows.getD i3 ([])).getD j 0)) rfl (ld_sc Sc3 (At.mono (Int_at aS (i:=(j:Int)) (by omega) (by omega)) (ao.at H)))) ?_
    obtain ⟨cW,hM⟩:=M.e_grd hM
    simp only [Bool.and_eq_true,decide_eq_true_eq] at cW
    refine d_q rfl (fun w' H=>x_ix (a:=ac) (b:=I ((rows.getD i3 ([])).getD j 0)) (v:=vat ac 3 (Int.toNat ((rows.getD i3 ([])).getD j 0))) rfl rfl (Sl.ix (α:=Mrk) T78.und T78.size ap (by omega) (by omega))) ?_
    refine d_q rfl (fun w' H=>x_ld (p:=vat ac 3 (Int.toNat ((rows.getD i3 ([])).getD j 0))) (v:=.agg #[I ((s_Marks.getD (Int.toNat ((rows.getD i3 ([])).getD j 0)) default).place),I ((s_Marks.getD (Int.toNat ((rows.getD i3 ([])).getD j 0)) default).lo),I ((s_Marks.getD (Int.toNat ((rows.getD i3 ([])).getD j 0)) default).hi)]) rfl (ld_ag Ag150 Sz150 (At.mono (Mrk_atA ap (i:=(rows.getD i3 ([])).getD j 0) (by omega) (by omega)) (aV.at H)))) ?_
    refine d_l rfl ?_
    obtain ⟨ed,cX,hM⟩:=M.e_bind hM
    refine s_call cf85 [.agg #[I ((s_Marks.getD (Int.toNat ((rows.getD i3 ([])).getD k3 0)) default).place),I ((s_Marks.getD (Int.toNat ((rows.getD i3 ([])).getD k3 0)) default).lo),I ((s_Marks.getD (Int.toNat ((rows.getD i3 ([])).getD k3 0)) default).hi)],.agg #[I ((s_Marks.getD (Int.toNat ((rows.getD i3 ([])).getD j 0)) default).place),I ((s_Marks.getD (Int.toNat ((rows.getD i3 ([])).getD j 0)) default).lo),I ((s_Marks.getD (Int.toNat ((rows.getD i3 ([])).getD j 0)) default).hi)]] rfl (zcD (s_Marks.getD (Int.toNat ((rows.getD i3 ([])).getD k3 0)) default) (s_Marks.getD (Int.toNat ((rows.getD i3 ([])).getD j 0)) default) cX _ (H.gt 1)) ?_
    rintro vq ef ⟨r4,cY,hvq,aq⟩
    subst cY
    subst vq
    try dsimp only at hM
    replace H:=H.bk aq
    clear aq
    refine s_nil ⟨(H.pk [0]),?_⟩
    refine d_q rfl (fun w' H=>x_not (b:=r4) rfl) ?_
    refine d_nil ?_
    refine W.cond (!r4) rfl (fun bo=>?_) (fun bo=>?_)
    ·replace hM:=M.e_t hM bo
     refine W.seq ?_
     refine W.region rfl ?_
     refine zA (B false) rfl ?_
     refine zA (I 0) rfl ?_
     refine s_nil ?_
     refine W.ret ?_
     have cZ:=M.e_inr hM bn
     subst cZ
     replace hM:=bM
     try dsimp only at hM
     have c5:=M.e_inr hM bj
     subst c5
     replace hM:=bJ
     try dsimp only at hM
     have c6:=M.e_inr hM bh
     subst c6
     replace hM:=bH
     try dsimp only at hM
     have ak:=M.e_pure hM
     exact ⟨_,resE_tmp2 rfl,⟨false,0,ak,rfl,(H.pk [])⟩⟩
    replace hM:=M.e_f hM bo
    refine W.skip ?_
    refine W.region rfl ?_
    refine zM (I (j:Int)) rfl ?_
    refine zR (j:Int) 1 ((j:Int)+1) rfl rfl rfl (by omega) ?_
    refine zA (I ((j:Int)+1)) rfl ?_
    refine s_nil ?_
    exact ⟨cP,cQ,j+1,_,upds_of _ _ ⟨rfl,rfl,rfl,rfl,rfl,trivial⟩,M.e_inl hM bn,H⟩
   replace hM:=M.e_f hM aO
   simp only [qy1,qy2,qy3,qy4,qy5,qy6,ne_eq,qy7] at aO
   refine W.exit ?_
   have c7:=M.e_inr hM bn
   subst c7
   replace hM:=bM
   try dsimp only at hM
   refine W.region rfl ?_
   refine zM (I (k3:Int)) rfl ?_
   refine zR (k3:Int) 1 ((k3:Int)+1) rfl rfl rfl (by omega) ?_
   refine zA (I ((k3:Int)+1)) rfl ?_
   refine s_nil ?_
   exact ⟨cK,cL,k3+1,_,upds_of _ _ ⟨rfl,rfl,rfl,rfl,trivial⟩,M.e_inl hM bj,H⟩
  replace hM:=M.e_f hM aN
  simp only [qy1,qy2,qy3,qy4,qy5,qy6,ne_eq,qy7] at aN
  refine W.exit ?_
  have c8:=M.e_inr hM bj
  subst c8
  replace hM:=bJ
  try dsimp only at hM
  refine W.region rfl ?_
  refine zM (I (i3:Int)) rfl ?_
  refine zR (i3:Int) 1 ((i3:Int)+1) rfl rfl rfl (by omega) ?_
  refine zA (I ((i3:Int)+1)) rfl ?_
  refine s_nil ?_
  exact ⟨cH,cI,i3+1,_,upds_of _ _ ⟨rfl,rfl,rfl,trivial⟩,M.e_inl hM bh,H⟩
 replace hM:=M.e_f hM aL
 simp only [qy1,qy2,qy3,qy4,qy5,qy6,ne_eq,qy7] at aL
 refine W.exit ?_
 have c9:=M.e_inr hM bh
 subst c9
 replace hM:=bH
 try dsimp only at hM
 refine W.seq ?_
 refine W.region rfl ?_
 refine zA (B true) rfl ?_
 refine zA (I 0) rfl ?_
 refine s_nil ?_
 refine W.ret ?_
 have ak:=M.e_pure hM
 exact ⟨_,resE_tmp2 rfl,⟨true,0,ak,rfl,(H.pk [])⟩⟩

def zaV (a:List Mrk) (b:List Mrk):Nat->M (Nat ⊕ (Unit ⊕ Unit)):=fun i =>
  bif decide ((i:Int)<(a.length:Int)) then (
  M.grd (decide ((i:Int)<(a.length:Int))) <|
  M.grd (decide ((i:Int)<(b.length:Int))) <|
  bif !(decide ((a.getD i default)=(b.getD i default))) then (
  M.pure (.inr (.inl ())))
  else (
  M.pure (.inl (i+1))))
  else (
  M.pure (.inr (.inr ())))
def zbT (a:List Mrk) (b:List Mrk):M Bool :=
  bif (a.length:Int) != (b.length:Int) then (
  M.pure false)
  else (
  M.bind (M.iter (zaV a b) 0) fun x_=>match x_ with
  | (.inl (_:Unit))=>(
  M.pure false)
  | (.inr (_:Unit))=>(
  M.pure true))
theorem zd2 {R:List Chunk} {ap:Cells} {aa:Value} {aq:Cells} {ab:Value} (a:List Mrk) (b:List Mrk) (ax:Reads R ap) (ac:Sl ap aa a) (ay:Reads R aq) (aj:Sl aq ab b) {r:Bool} (hM:(zbT a b).Ends r) (w:World) (H:St w w [] R):Ret Tryz.prog 86 #[aa,ab] w fun v w'=>∃ (y0:Bool),y0=r/\v=B y0/\St w w' [] R:=by
 refine ret_of_W Tryz.func86 rfl rfl rfl ?_
 refine W.seq ?_
 refine W.region rfl ?_
 refine zA (B false) rfl ?_
 refine s_nil ?_
 refine W.seq ?_
 refine W.seq ?_
 refine W.region rfl ?_
 refine zM aa rfl ?_
 have aG:=(ac).len_le
 refine s_val (x_lenS T24.und rfl ac) ?_
 refine zM ab rfl ?_
 have aH:=(aj).len_le
 refine s_val (x_lenS T24.und rfl aj) ?_
 refine zC (a.length:Int) (b.length:Int) ((a.length:Int) != (b.length:Int)) rfl rfl rfl ?_
 refine s_nil ?_
 refine W.cond ((a.length:Int) != (b.length:Int)) rfl (fun ae=>?_) (fun ae=>?_)
 ·replace hM:=M.e_t hM ae
  simp only [qy1,qy2,qy3,qy4,qy5,qy6,ne_eq,qy7] at ae
  refine W.seq ?_
  refine W.region rfl ?_
  refine zA (B false) rfl ?_
  refine s_nil ?_
  refine W.ret ?_
  have ag:=M.e_pure hM
  exact ⟨_,resE_tmp rfl,⟨false,ag,rfl,H⟩⟩
 replace hM:=M.e_f hM ae
 simp only [qy1,qy2,qy3,qy4,qy5,qy6,ne_eq,qy7] at ae
 refine W.skip ?_
 refine W.seq ?_
 refine W.seq ?_
 refine W.region rfl ?_
 refine zA (I 0) rfl ?_
 refine s_nil ?_
 refine W.block ?_
 obtain ⟨az,ak,au⟩:=M.e_bind hM
 obtain ⟨aI,ak⟩:=M.e_iter ak
 refine W.loop (fun m σ W=>∃ (i:Nat) (ρ:Env),σ=upds ρ [(0,aa),(1,ab),(5,I (i:Int))]/\M.iterN (zaV a b) m i=some az/\St w W [] R) ?_ ?_
 ·exact ⟨_,0,_,upds_of _ _ ⟨rfl,rfl,rfl,trivial⟩,ak,H⟩
 rintro aJ σ aK ⟨i,ρ,rfl,av,H⟩
 obtain ⟨aA,aB,aL,hM,am⟩:=M.e_iterN av
 simp only [zaV] at hM
 clear av
 refine W.seq ?_
 refine W.seq ?_
 refine W.region rfl ?_
 refine zM (I (i:Int)) rfl ?_
 refine zM aa rfl ?_
 have aM:=(ac).len_le
 refine s_val (x_lenS T24.und rfl ac) ?_
 refine zC (i:Int) (a.length:Int) (decide ((i:Int)<(a.length:Int))) rfl rfl rfl ?_
 refine s_nil ?_
 refine W.cond (decide ((i:Int)<(a.length:Int))) rfl (fun ai=>?_) (fun ai=>?_)
 ·replace hM:=M.e_t hM ai
  simp only [qy1,qy2,qy3,qy4,qy5,qy6,ne_eq,qy7] at ai
  refine W.skip ?_
  refine W.seq ?_
  refine W.block ?_
  refine W.seq ?_
  refine W.draw (fun W=>St w W [] R) [(0,true),(1,true),(2,true),(3,true),(4,true),(5,true),(6,true),(7,true),(8,true)] mixed (by decide +kernel) rfl ?_
  intro aN aw
  replace H:=H.ext aw
  clear aw
  refine ⟨(H.pk []),?_⟩
  refine d_q rfl (fun w' H=>x_mv (v:=aa) rfl) ?_
  refine d_q rfl (fun w' H=>x_mv (v:=I (i:Int)) rfl) ?_
  obtain ⟨aC,hM⟩:=M.e_grd hM
  simp only [Bool.and_eq_true,decide_eq_true_eq] at aC
  refine d_q rfl (fun w' H=>x_ix (a:=aa) (b:=I (i:Int)) (v:=vat aa 3 (Int.toNat (i:Int))) rfl rfl (Sl.ix (α:=Mrk) T24.und T24.size ac (by omega) (by omega))) ?_
  refine d_q rfl (fun w' H=>x_ld (p:=vat aa 3 (Int.toNat (i:Int))) (v:=.agg #[I ((a.getD i default).place),I ((a.getD i default).lo),I ((a.getD i default).hi)]) rfl (ld_ag Ag70 Sz70 (At.mono (Mrk_atA ac (i:=(i:Int)) (by omega) (by omega)) (ax.at H)))) ?_
  refine d_q rfl (fun w' H=>x_mv (v:=ab) rfl) ?_
  refine d_q rfl (fun w' H=>x_mv (v:=I (i:Int)) rfl) ?_
  obtain ⟨aD,hM⟩:=M.e_grd hM
  simp only [Bool.and_eq_true,decide_eq_true_eq] at aD
  refine d_q rfl (fun w' H=>x_ix (a:=ab) (b:=I (i:Int)) (v:=vat ab 3 (Int.toNat (i:Int))) rfl rfl (Sl.ix (α:=Mrk) T24.und T24.size aj (by omega) (by omega))) ?_
  refine d_q rfl (fun w' H=>x_ld (p:=vat ab 3 (Int.toNat (i:Int))) (v:=.agg #[I ((b.getD i default).place),I ((b.getD i default).lo),I ((b.getD i default).hi)]) rfl (ld_ag Ag70 Sz70 (At.mono (Mrk_atA aj (i:=(i:Int)) (by omega) (by omega)) (ay.at H)))) ?_
  refine d_q rfl (fun w' H=>x_neS (eqT70 (a.getD i default) (b.getD i default) _) gdT70 rfl rfl) ?_
  refine d_nil ?_
  refine W.cond (!(decide ((a.getD i default)=(b.getD i default)))) rfl (fun ao=>?_) (fun ao=>?_)
  ·replace hM:=M.e_t hM ao
   refine W.seq ?_
   refine W.region rfl ?_
   refine zA (B false) rfl ?_
   refine s_nil ?_
   refine W.ret ?_
   have aE:=M.e_inr hM am
   subst aE
   replace hM:=au
   try dsimp only at hM
   have ag:=M.e_pure hM
   exact ⟨_,resE_tmp rfl,⟨false,ag,rfl,H⟩⟩
  replace hM:=M.e_f hM ao
  refine W.skip ?_
  refine W.region rfl ?_
  refine zM (I (i:Int)) rfl ?_
  refine zR (i:Int) 1 ((i:Int)+1) rfl rfl rfl (by omega) ?_
  refine zA (I ((i:Int)+1)) rfl ?_
  refine s_nil ?_
  exact ⟨aA,aB,i+1,_,upds_of _ _ ⟨rfl,rfl,rfl,trivial⟩,M.e_inl hM am,H⟩
 replace hM:=M.e_f hM ai
 simp only [qy1,qy2,qy3,qy4,qy5,qy6,ne_eq,qy7] at ai
 refine W.exit ?_
 have aF:=M.e_inr hM am
 subst aF
 replace hM:=au
 try dsimp only at hM
 refine W.seq ?_
 refine W.region rfl ?_
 refine zA (B true) rfl ?_
 refine s_nil ?_
 refine W.ret ?_
 have ag:=M.e_pure hM
 exact ⟨_,resE_tmp rfl,⟨true,ag,rfl,H⟩⟩

def za3 (a:List Rch) (b:List Rch):Nat->M (Nat ⊕ (Unit ⊕ Unit)):=fun i =>
  bif decide ((i:Int)<(a.length:Int)) then (
  M.grd (decide ((i:Int)<(a.length:Int))) <|
  M.grd (decide ((i:Int)<(b.length:Int))) <|
  bif !(decide ((a.getD i default)=(b.getD i default))) then (
  M.pure (.inr (.inl ())))
  else (
  M.pure (.inl (i+1))))
  else (
  M.pure (.inr (.inr ())))
def zbR (a:List Rch) (b:List Rch):M Bool :=
  bif (a.length:Int) != (b.length:Int) then (
  M.pure false)
  else (
  M.bind (M.iter (za3 a b) 0) fun x_=>match x_ with
  | (.inl (_:Unit))=>(
  M.pure false)
  | (.inr (_:Unit))=>(
  M.pure true))
theorem zdu {R:List Chunk} {ap:Cells} {aa:Value} {aq:Cells} {ab:Value} (a:List Rch) (b:List Rch) (ax:Reads R ap) (ac:Sl ap aa a) (ay:Reads R aq) (aj:Sl aq ab b) {r:Bool} (hM:(zbR a b).Ends r) (w:World) (H:St w w [] R):Ret Tryz.prog 87 #[aa,ab] w fun v w'=>∃ (y0:Bool),y0=r/\v=B y0/\St w w' [] R:=by
 refine ret_of_W Tryz.func87 rfl rfl rfl ?_
 refine W.seq ?_
 refine W.region rfl ?_
 refine zA (B false) rfl ?_
 refine s_nil ?_
 refine W.seq ?_
 refine W.seq ?_
 refine W.region rfl ?_
 refine zM aa rfl ?_
 have aG:=(ac).len_le
 refine s_val (x_lenS T25.und rfl ac) ?_
 refine zM ab rfl ?_
 have aH:=(aj).len_le
 refine s_val (x_lenS T25.und rfl aj) ?_
 refine zC (a.length:Int) (b.length:Int) ((a.length:Int) != (b.length:Int)) rfl rfl rfl ?_
 refine s_nil ?_
 refine W.cond ((a.length:Int) != (b.length:Int)) rfl (fun ae=>?_) (fun ae=>?_)
 ·replace hM:=M.e_t hM ae
  simp only [qy1,qy2,qy3,qy4,qy5,qy6,ne_eq,qy7] at ae
  refine W.seq ?_
  refine W.region rfl ?_
  refine zA (B false) rfl ?_
  refine s_nil ?_
  refine W.ret ?_
  have ag:=M.e_pure hM
  exact ⟨_,resE_tmp rfl,⟨false,ag,rfl,H⟩⟩
 replace hM:=M.e_f hM ae
 simp only [qy1,qy2,qy3,qy4,qy5,qy6,ne_eq,qy7] at ae
 refine W.skip ?_
 refine W.seq ?_
 refine W.seq ?_
 refine W.region rfl ?_
 refine zA (I 0) rfl ?_
 refine s_nil ?_
 refine W.block ?_
 obtain ⟨az,ak,au⟩:=M.e_bind hM
 obtain ⟨aI,ak⟩:=M.e_iter ak
 refine W.loop (fun m σ W=>∃ (i:Nat) (ρ:Env),σ=upds ρ [(0,aa),(1,ab),(5,I (i:Int))]/\M.iterN (za3 a b) m i=some az/\St w W [] R) ?_ ?_
 ·exact ⟨_,0,_,upds_of _ _ ⟨rfl,rfl,rfl,trivial⟩,ak,H⟩
 rintro aJ σ aK ⟨i,ρ,rfl,av,H⟩
 obtain ⟨aA,aB,aL,hM,am⟩:=M.e_iterN av
 simp only [za3] at hM
 clear av
 refine W.seq ?_
 refine W.seq ?_
 refine W.region rfl ?_
 refine zM (I (i:Int)) rfl ?_
 refine zM aa rfl ?_
 have aM:=(ac).len_le
 refine s_val (x_lenS T25.und rfl ac) ?_
 refine zC (i:Int) (a.length:Int) (decide ((i:Int)<(a.length:Int))) rfl rfl rfl ?_
 refine s_nil ?_
 refine W.cond (decide ((i:Int)<(a.length:Int))) rfl (fun ai=>?_) (fun ai=>?_)
 ·replace hM:=M.e_t hM ai
  simp only [qy1,qy2,qy3,qy4,qy5,qy6,ne_eq,qy7] at ai
  refine W.skip ?_
  refine W.seq ?_
  refine W.block ?_
  refine W.seq ?_
  refine W.draw (fun W=>St w W [] R) [(0,true),(1,true),(2,true),(3,true),(4,true),(5,true),(6,true),(7,true),(8,true)] mixed (by decide +kernel) rfl ?_
  intro aN aw
  replace H:=H.ext aw
  clear aw
  refine ⟨(H.pk []),?_⟩
  refine d_q rfl (fun w' H=>x_mv (v:=aa) rfl) ?_
  refine d_q rfl (fun w' H=>x_mv (v:=I (i:Int)) rfl) ?_
  obtain ⟨aC,hM⟩:=M.e_grd hM
  simp only [Bool.and_eq_true,decide_eq_true_eq] at aC
  refine d_q rfl (fun w' H=>x_ix (a:=aa) (b:=I (i:Int)) (v:=vat aa 5 (Int.toNat (i:Int))) rfl rfl (Sl.ix (α:=Rch) T25.und T25.size ac (by omega) (by omega))) ?_
  refine d_q rfl (fun w' H=>x_ld (p:=vat aa 5 (Int.toNat (i:Int))) (v:=.agg #[I ((a.getD i default).up),I ((a.getD i default).down),I ((a.getD i default).lo),I ((a.getD i default).hi),B ((a.getD i default).narrow)]) rfl (ld_ag Ag58 Sz58 (At.mono (Rch_atA ac (i:=(i:Int)) (by omega) (by omega)) (ax.at H)))) ?_
  refine d_q rfl (fun w' H=>x_mv (v:=ab) rfl) ?_
  refine d_q rfl (fun w' H=>x_mv (v:=I (i:Int)) rfl) ?_
  obtain ⟨aD,hM⟩:=M.e_grd hM
  simp only [Bool.and_eq_true,decide_eq_true_eq] at aD
  refine d_q rfl (fun w' H=>x_ix (a:=ab) (b:=I (i:Int)) (v:=vat ab 5 (Int.toNat (i:Int))) rfl rfl (Sl.ix (α:=Rch) T25.und T25.size aj (by omega) (by omega))) ?_
  refine d_q rfl (fun w' H=>x_ld (p:=vat ab 5 (Int.toNat (i:Int))) (v:=.agg #[I ((b.getD i default).up),I ((b.getD i default).down),I ((b.getD i default).lo),I ((b.getD i default).hi),B ((b.getD i default).narrow)]) rfl (ld_ag Ag58 Sz58 (At.mono (Rch_atA aj (i:=(i:Int)) (by omega) (by omega)) (ay.at H)))) ?_
  refine d_q rfl (fun w' H=>x_neS (eqT58 (a.getD i default) (b.getD i default) _) gdT58 rfl rfl) ?_
  refine d_nil ?_
  refine W.cond (!(decide ((a.getD i default)=(b.getD i default)))) rfl (fun ao=>?_) (fun ao=>?_)
  ·replace hM:=M.e_t hM ao
   refine W.seq ?_
   refine W.region rfl ?_
   refine zA (B false) rfl ?_
   refine s_nil ?_
   refine W.ret ?_
   have aE:=M.e_inr hM am
   subst aE
   replace hM:=au
   try dsimp only at hM
   have ag:=M.e_pure hM
   exact ⟨_,resE_tmp rfl,⟨false,ag,rfl,H⟩⟩
  replace hM:=M.e_f hM ao
  refine W.skip ?_
  refine W.region rfl ?_
  refine zM (I (i:Int)) rfl ?_
  refine zR (i:Int) 1 ((i:Int)+1) rfl rfl rfl (by omega) ?_
  refine zA (I ((i:Int)+1)) rfl ?_
  refine s_nil ?_
  exact ⟨aA,aB,i+1,_,upds_of _ _ ⟨rfl,rfl,rfl,trivial⟩,M.e_inl hM am,H⟩
 replace hM:=M.e_f hM ai
 simp only [qy1,qy2,qy3,qy4,qy5,qy6,ne_eq,qy7] at ai
 refine W.exit ?_
 have aF:=M.e_inr hM am
 subst aF
 replace hM:=au
 try dsimp only at hM
 refine W.seq ?_
 refine W.region rfl ?_
 refine zA (B true) rfl ?_
 refine s_nil ?_
 refine W.ret ?_
 have ag:=M.e_pure hM
 exact ⟨_,resE_tmp rfl,⟨true,ag,rfl,H⟩⟩

def zbk (a:List FRow) (b:List FRow):Nat->M (Nat ⊕ (Unit ⊕ Unit)):=fun i =>
  bif decide ((i:Int)<(a.length:Int)) then (
  M.grd (decide ((i:Int)<(a.length:Int))) <|
  M.grd (decide ((i:Int)<(b.length:Int))) <|
  bif !(decide ((a.getD i default)=(b.getD i default))) then (
  M.pure (.inr (.inl ())))
  else (
  M.pure (.inl (i+1))))
  else (
  M.pure (.inr (.inr ())))
def zci (a:List FRow) (b:List FRow):M Bool :=
  bif (a.length:Int) != (b.length:Int) then (
  M.pure false)
  else (
  M.bind (M.iter (zbk a b) 0) fun x_=>match x_ with
  | (.inl (_:Unit))=>(
  M.pure false)
  | (.inr (_:Unit))=>(
  M.pure true))
theorem zeb {R:List Chunk} {ap:Cells} {aa:Value} {aq:Cells} {ab:Value} (a:List FRow) (b:List FRow) (ax:Reads R ap) (ac:Sl ap aa a) (ay:Reads R aq) (aj:Sl aq ab b) {r:Bool} (hM:(zci a b).Ends r) (w:World) (H:St w w [] R):Ret Tryz.prog 88 #[aa,ab] w fun v w'=>∃ (y0:Bool),y0=r/\v=B y0/\St w w' [] R:=by
 refine ret_of_W Tryz.func88 rfl rfl rfl ?_
 refine W.seq ?_
 refine W.region rfl ?_
 refine zA (B false) rfl ?_
 refine s_nil ?_
 refine W.seq ?_
 refine W.seq ?_
 refine W.region rfl ?_
 refine zM aa rfl ?_
 have aG:=(ac).len_le
 refine s_val (x_lenS T66.und rfl ac) ?_
 refine zM ab rfl ?_
 have aH:=(aj).len_le
 refine s_val (x_lenS T66.und rfl aj) ?_
 refine zC (a.length:Int) (b.length:Int) ((a.length:Int) != (b.length:Int)) rfl rfl rfl ?_
 refine s_nil ?_
 refine W.cond ((a.length:Int) != (b.length:Int)) rfl (fun ae=>?_) (fun ae=>?_)
 ·replace hM:=M.e_t hM ae
  simp only [qy1,qy2,qy3,qy4,qy5,qy6,ne_eq,qy7] at ae
  refine W.seq ?_
  refine W.region rfl ?_
  refine zA (B false) rfl ?_
  refine s_nil ?_
  refine W.ret ?_
  have ag:=M.e_pure hM
  exact ⟨_,resE_tmp rfl,⟨false,ag,rfl,H⟩⟩
 replace hM:=M.e_f hM ae
 simp only [qy1,qy2,qy3,qy4,qy5,qy6,ne_eq,qy7] at ae
 refine W.skip ?_
 refine W.seq ?_
 refine W.seq ?_
 refine W.region rfl ?_
 refine zA (I 0) rfl ?_
 refine s_nil ?_
 refine W.block ?_
 obtain ⟨az,ak,au⟩:=M.e_bind hM
 obtain ⟨aI,ak⟩:=M.e_iter ak
 refine W.loop (fun m σ W=>∃ (i:Nat) (ρ:Env),σ=upds ρ [(0,aa),(1,ab),(5,I (i:Int))]/\M.iterN (zbk a b) m i=some az/\St w W [] R) ?_ ?_
 ·exact ⟨_,0,_,upds_of _ _ ⟨rfl,rfl,rfl,trivial⟩,ak,H⟩
 rintro aJ σ aK ⟨i,ρ,rfl,av,H⟩
 obtain ⟨aA,aB,aL,hM,am⟩:=M.e_iterN av
 simp only [zbk] at hM
 clear av
 refine W.seq ?_
 refine W.seq ?_
 refine W.region rfl ?_
 refine zM (I (i:Int)) rfl ?_
 refine zM aa rfl ?_
 have aM:=(ac).len_le
 refine s_val (x_lenS T66.und rfl ac) ?_
 refine zC (i:Int) (a.length:Int) (decide ((i:Int)<(a.length:Int))) rfl rfl rfl ?_
 refine s_nil ?_
 refine W.cond (decide ((i:Int)<(a.length:Int))) rfl (fun ai=>?_) (fun ai=>?_)
 ·replace hM:=M.e_t hM ai
  simp only [qy1,qy2,qy3,qy4,qy5,qy6,ne_eq,qy7] at ai
  refine W.skip ?_
  refine W.seq ?_
  refine W.block ?_
  refine W.seq ?_
  refine W.draw (fun W=>St w W [] R) [(0,true),(1,true),(2,true),(3,true),(4,true),(5,true),(6,true),(7,true),(8,true)] mixed (by decide +kernel) rfl ?_
  intro aN aw
  replace H:=H.ext aw
  clear aw
  refine ⟨(H.pk []),?_⟩
  refine d_q rfl (fun w' H=>x_mv (v:=aa) rfl) ?_
  refine d_q rfl (fun w' H=>x_mv (v:=I (i:Int)) rfl) ?_
  obtain ⟨aC,hM⟩:=M.e_grd hM
  simp only [Bool.and_eq_true,decide_eq_true_eq] at aC
  refine d_q rfl (fun w' H=>x_ix (a:=aa) (b:=I (i:Int)) (v:=vat aa 2 (Int.toNat (i:Int))) rfl rfl (Sl.ix (α:=FRow) T66.und T66.size ac (by omega) (by omega))) ?_
  refine d_q rfl (fun w' H=>x_ld (p:=vat aa 2 (Int.toNat (i:Int))) (v:=.agg #[I ((a.getD i default).stage),I ((a.getD i default).carry)]) rfl (ld_ag Ag109 Sz109 (At.mono (FRow_atA ac (i:=(i:Int)) (by omega) (by omega)) (ax.at H)))) ?_
  refine d_q rfl (fun w' H=>x_mv (v:=ab) rfl) ?_
  refine d_q rfl (fun w' H=>x_mv (v:=I (i:Int)) rfl) ?_
  obtain ⟨aD,hM⟩:=M.e_grd hM
  simp only [Bool.and_eq_true,decide_eq_true_eq] at aD
  refine d_q rfl (fun w' H=>x_ix (a:=ab) (b:=I (i:Int)) (v:=vat ab 2 (Int.toNat (i:Int))) rfl rfl (Sl.ix (α:=FRow) T66.und T66.size aj (by omega) (by omega))) ?_
  refine d_q rfl (fun w' H=>x_ld (p:=vat ab 2 (Int.toNat (i:Int))) (v:=.agg #[I ((b.getD i default).stage),I ((b.getD i default).carry)]) rfl (ld_ag Ag109 Sz109 (At.mono (FRow_atA aj (i:=(i:Int)) (by omega) (by omega)) (ay.at H)))) ?_
  refine d_q rfl (fun w' H=>x_neS (eqT109 (a.getD i default) (b.getD i default) _) gdT109 rfl rfl) ?_
  refine d_nil ?_
  refine W.cond (!(decide ((a.getD i default)=(b.getD i default)))) rfl (fun ao=>?_) (fun ao=>?_)
  ·replace hM:=M.e_t hM ao
   refine W.seq ?_
   refine W.region rfl ?_
   refine zA (B false) rfl ?_
   refine s_nil ?_
   refine W.ret ?_
   have aE:=M.e_inr hM am
   subst aE
   replace hM:=au
   try dsimp only at hM
   have ag:=M.e_pure hM
   exact ⟨_,resE_tmp rfl,⟨false,ag,rfl,H⟩⟩
  replace hM:=M.e_f hM ao
  refine W.skip ?_
  refine W.region rfl ?_
  refine zM (I (i:Int)) rfl ?_
  refine zR (i:Int) 1 ((i:Int)+1) rfl rfl rfl (by omega) ?_
  refine zA (I ((i:Int)+1)) rfl ?_
  refine s_nil ?_
  exact ⟨aA,aB,i+1,_,upds_of _ _ ⟨rfl,rfl,rfl,trivial⟩,M.e_inl hM am,H⟩
 replace hM:=M.e_f hM ai
 simp only [qy1,qy2,qy3,qy4,qy5,qy6,ne_eq,qy7] at ai
 refine W.exit ?_
 have aF:=M.e_inr hM am
 subst aF
 replace hM:=au
 try dsimp only at hM
 refine W.seq ?_
 refine W.region rfl ?_
 refine zA (B true) rfl ?_
 refine s_nil ?_
 refine W.ret ?_
 have ag:=M.e_pure hM
 exact ⟨_,resE_tmp rfl,⟨true,ag,rfl,H⟩⟩

def zbc (aa:List Sect) (ab:List Sect):Nat->M (Nat ⊕ (Unit ⊕ Unit)):=fun i =>
  bif decide ((i:Int)<(aa.length:Int)) then (
  M.grd (decide ((i:Int)<(aa.length:Int))) <|
  M.grd (decide ((i:Int)<(ab.length:Int))) <|
  M.bind (M.opt (!(((aa.getD i default).place) != ((ab.getD i default).place))) (zci ((aa.getD i default).rows) ((ab.getD i default).rows)) false) fun r4 =>
  bif ((((aa.getD i default).place) != ((ab.getD i default).place))||(!r4)) then (
  M.pure (.inr (.inl ())))
  else (
  M.pure (.inl (i+1))))
  else (
  M.pure (.inr (.inr ())))
def zb1 (aa:List Sect) (ac:List Mrk) (ae:List Rch) (ab:List Sect) (ag:List Mrk) (ai:List Rch):M Bool :=
  M.bind (M.opt (!((aa.length:Int) != (ab.length:Int))) (zbT ac ag) false) fun r2 =>
  M.bind (M.opt (!(((aa.length:Int) != (ab.length:Int))||(!r2))) (zbR ae ai) false) fun r3 =>
  bif ((((aa.length:Int) != (ab.length:Int))||(!r2))||(!r3)) then (
  M.pure false)
  else (
  M.bind (M.iter (zbc aa ab) 0) fun x_=>match x_ with
  | (.inl (_:Unit))=>(
  M.pure false)
  | (.inr (_:Unit))=>(
  M.pure true))
theorem zd5 {R:List Chunk} {aM:Cells} {ag:Value} {aN:Cells} {ao:Value} {aO:Cells} {ap:Value} {aP:Cells} {ai:Value} {aQ:Cells} {aq:Value} {aR:Cells} {au:Value} (aa:List Sect) (aA:List Mrk) (aB:List Rch) (ab:List Sect) (aC:List Mrk) (aD:List Rch) (aE:Reads R aM) (am:Sl aM ag aa) (aU:Reads R aN) (aV:Sl aN ao aA) (aW:Reads R aO) (aX:Sl aO ap aB) (aF:Reads R aP) (av:Sl aP ai ab) (aY:Reads R aQ) (aZ:Sl aQ aq aC) (a6:Reads R aR) (a7:Sl aR au aD) {r:Bool} (hM:(zb1 aa aA aB ab aC aD).Ends r) (w:World) (H:St w w [] R):Ret Tryz.prog 35 #[.agg #[ag,ao,ap],.agg #[ai,aq,au]] w fun v w'=>∃ (y0:Bool),y0=r/\v=B y0/\St w w' [] R:=by
 refine ret_of_W Tryz.func35 rfl rfl rfl ?_
 refine W.seq ?_
 refine W.region rfl ?_
 refine t_box (v:=.agg #[ag,ao,ap]) (cs:=[ag,ao,ap]) H rfl rfl ?_
 intro ae bq H
 refine t_box (v:=.agg #[ai,aq,au]) (cs:=[ai,aq,au]) H rfl rfl ?_
 intro aj br H
 refine zA (B false) rfl ?_
 refine s_nil ?_
 refine W.seq ?_
 refine W.seq ?_
 refine W.region rfl ?_
 refine s_val (x_fa (a:=Pq ae) (v:=Pq ae) rfl (fa_blk (o:=0) Fd27_0 Sz23)) ?_
 refine s_val (x_ld (p:=Pq ae) (v:=ag) rfl (ldb_sc Sc23 (H.bl 1) rfl)) ?_
 have bt:=(am).len_le
 refine s_val (x_lenS T23.und rfl am) ?_
 refine s_val (x_fa (a:=Pq aj) (v:=Pq aj) rfl (fa_blk (o:=0) Fd27_0 Sz23)) ?_
 refine s_val (x_ld (p:=Pq aj) (v:=ai) rfl (ldb_sc Sc23 (H.bl 0) rfl)) ?_
 have bu:=(av).len_le
 refine s_val (x_lenS T23.und rfl av) ?_
 refine zC (aa.length:Int) (ab.length:Int) ((aa.length:Int) != (ab.length:Int)) rfl rfl rfl ?_
 refine zM (B ((aa.length:Int) != (ab.length:Int))) rfl ?_
 refine g_val (!((aa.length:Int) != (ab.length:Int))) (gy_f rfl) (fun hg=>x_fa (a:=Pq ae) (v:=Oq ae 1) rfl (fa_blk (o:=0) Fd27_1 Sz24)) ?_
 refine g_val (!((aa.length:Int) != (ab.length:Int))) (gy_f rfl) (fun hg=>x_ld (p:=Oq ae 1) (v:=ao) (gd_of (c:=!((aa.length:Int) != (ab.length:Int))) hg (Oq ae 1)) (ldb_sc Sc24 (H.bl 1) rfl)) ?_
 refine g_val (!((aa.length:Int) != (ab.length:Int))) (gy_f rfl) (fun hg=>x_fa (a:=Pq aj) (v:=Oq aj 1) rfl (fa_blk (o:=0) Fd27_1 Sz24)) ?_
 refine g_val (!((aa.length:Int) != (ab.length:Int))) (gy_f rfl) (fun hg=>x_ld (p:=Oq aj 1) (v:=aq) (gd_of (c:=!((aa.length:Int) != (ab.length:Int))) hg (Oq aj 1)) (ldb_sc Sc24 (H.bl 0) rfl)) ?_
 obtain ⟨r2,a8,hM⟩:=M.e_bind hM
 refine t_gcall (!((aa.length:Int) != (ab.length:Int))) (gy_f rfl) cf86 (B r2) (fun _=>[ao,aq]) (fun hg=>lst2 (gd_of (c:=!((aa.length:Int) != (ab.length:Int))) hg (ao)) (gd_of (c:=!((aa.length:Int) != (ab.length:Int))) hg (aq))) H (fun hg=>(zd2 aA aC (aU.app _) aV (aY.app _) aZ (M.e_opt a8 hg) _ (H.give (A:=[]) rfl)).mono fun v_ w_ ⟨y_,ak,aw,H_⟩=>by subst ak; exact ⟨aw,H.via H_⟩) ?_
 intro bv H
 refine g_val (!((aa.length:Int) != (ab.length:Int))) (gy_f rfl) (fun hg=>x_not (b:=r2) (gd_of (c:=!((aa.length:Int) != (ab.length:Int))) hg (B r2))) ?_
 refine s_val (x_por (b:=(aa.length:Int) != (ab.length:Int)) (r:=!r2) rfl rfl (fun hb=>gd_of (c:=!((aa.length:Int) != (ab.length:Int))) (by first | exact hb | (rw [hb]; rfl) | simp_all) (B (!r2)))) ?_
 refine zM (B (((aa.length:Int) != (ab.length:Int))||(!r2))) rfl ?_
 refine g_val (!(((aa.length:Int) != (ab.length:Int))||(!r2))) (gy_f rfl) (fun hg=>x_fa (a:=Pq ae) (v:=Oq ae 2) rfl (fa_blk (o:=0) Fd27_2 Sz25)) ?_
 refine g_val (!(((aa.length:Int) != (ab.length:Int))||(!r2))) (gy_f rfl) (fun hg=>x_ld (p:=Oq ae 2) (v:=ap) (gd_of (c:=!(((aa.length:Int) != (ab.length:Int))||(!r2))) hg (Oq ae 2)) (ldb_sc Sc25 (H.bl 1) rfl)) ?_
 refine g_val (!(((aa.length:Int) != (ab.length:Int))||(!r2))) (gy_f rfl) (fun hg=>x_fa (a:=Pq aj) (v:=Oq aj 2) rfl (fa_blk (o:=0) Fd27_2 Sz25)) ?_
 refine g_val (!(((aa.length:Int) != (ab.length:Int))||(!r2))) (gy_f rfl) (fun hg=>x_ld (p:=Oq aj 2) (v:=au) (gd_of (c:=!(((aa.length:Int) != (ab.length:Int))||(!r2))) hg (Oq aj 2)) (ldb_sc Sc25 (H.bl 0) rfl)) ?_
 obtain ⟨r3,ba,hM⟩:=M.e_bind hM
 refine t_gcall (!(((aa.length:Int) != (ab.length:Int))||(!r2))) (gy_f rfl) cf87 (B r3) (fun _=>[ap,au]) (fun hg=>lst2 (gd_of (c:=!(((aa.length:Int) != (ab.length:Int))||(!r2))) hg (ap)) (gd_of (c:=!(((aa.length:Int) != (ab.length:Int))||(!r2))) hg (au))) H (fun hg=>(zdu aB aD (aW.app _) aX (a6.app _) a7 (M.e_opt ba hg) _ (H.give (A:=[]) rfl)).mono fun v_ w_ ⟨y_,ak,aw,H_⟩=>by subst ak; exact ⟨aw,H.via H_⟩) ?_
 intro bw H
 refine g_val (!(((aa.length:Int) != (ab.length:Int))||(!r2))) (gy_f rfl) (fun hg=>x_not (b:=r3) (gd_of (c:=!(((aa.length:Int) != (ab.length:Int))||(!r2))) hg (B r3))) ?_
 refine s_val (x_por (b:=(((aa.length:Int) != (ab.length:Int))||(!r2))) (r:=!r3) rfl rfl (fun hb=>gd_of (c:=!(((aa.length:Int) != (ab.length:Int))||(!r2))) (by first | exact hb | (rw [hb]; rfl) | simp_all) (B (!r3)))) ?_
 refine s_nil ?_
 refine W.cond ((((aa.length:Int) != (ab.length:Int))||(!r2))||(!r3)) rfl (fun aG=>?_) (fun aG=>?_)
 ·replace hM:=M.e_t hM aG
  refine W.seq ?_
  refine W.region rfl ?_
  refine zA (B false) rfl ?_
  refine s_nil ?_
  replace H:=H.pk []
  refine W.ret ?_
  have ak:=M.e_pure hM
  exact ⟨_,resE_tmp rfl,⟨false,ak,rfl,H⟩⟩
 replace hM:=M.e_f hM aG
 refine W.skip ?_
 refine W.seq ?_
 refine W.seq ?_
 refine W.region rfl ?_
 refine zA (I 0) rfl ?_
 refine s_nil ?_
 refine W.block ?_
 obtain ⟨bb,aH,aS⟩:=M.e_bind hM
 obtain ⟨bx,aH⟩:=M.e_iter aH
 refine W.loop (fun m σ W=>∃ (i:Nat) (ρ:Env),σ=upds ρ [(2,Pq ae),(3,Pq aj),(5,I (i:Int))]/\M.iterN (zbc aa ab) m i=some bb/\St w W [cBlk aj [ai,aq,au] 27,cBlk ae [ag,ao,ap] 27] R) ?_ ?_
 ·exact ⟨_,0,_,upds_of _ _ ⟨rfl,rfl,rfl,trivial⟩,aH,H⟩
 rintro bz σ bA ⟨i,ρ,rfl,aT,H⟩
 obtain ⟨bc,bf,bB,hM,aI⟩:=M.e_iterN aT
 simp only [zbc] at hM
 clear aT
 refine W.seq ?_
 refine W.seq ?_
 refine W.region rfl ?_
 refine zM (I (i:Int)) rfl ?_
 refine s_val (x_fa (a:=Pq ae) (v:=Pq ae) rfl (fa_blk (o:=0) Fd27_0 Sz23)) ?_
 refine s_val (x_ld (p:=Pq ae) (v:=ag) rfl (ldb_sc Sc23 (H.bl 1) rfl)) ?_
 have bC:=(am).len_le
 refine s_val (x_lenS T23.und rfl am) ?_
 refine zC (i:Int) (aa.length:Int) (decide ((i:Int)<(aa.length:Int))) rfl rfl rfl ?_
 refine s_nil ?_
 refine W.cond (decide ((i:Int)<(aa.length:Int))) rfl (fun ax=>?_) (fun ax=>?_)
 ·replace hM:=M.e_t hM ax
  simp only [qy1,qy2,qy3,qy4,qy5,qy6,ne_eq,qy7] at ax
  refine W.skip ?_
  refine W.seq ?_
  refine W.block ?_
  refine W.seq ?_
  refine W.draw (fun W=>St w W [cBlk aj [ai,aq,au] 27,cBlk ae [ag,ao,ap] 27] R) [(0,true),(1,true),(2,true),(3,true),(4,true),(5,true),(6,true),(7,true),(8,true),(9,true),(10,true),(11,true),(12,true),(13,true),(14,true),(15,true),(16,true),(17,true),(18,true),(19,true),(20,true),(21,true),(22,true),(23,true),(24,true),(25,true),(26,false),(27,true),(28,true)] mixed (by decide +kernel) rfl ?_
  intro bD ac
  replace H:=H.ext ac
  clear ac
  refine ⟨(H.pk [0,1]),?_⟩
  refine d_q rfl (fun w' H=>x_fa (a:=Pq ae) (v:=Pq ae) rfl (fa_blk (o:=0) Fd27_0 Sz23)) ?_
  refine d_q rfl (fun w' H=>x_ld (p:=Pq ae) (v:=ag) rfl (ldb_sc Sc23 (H.bl 1) rfl)) ?_
  refine d_q rfl (fun w' H=>x_mv (v:=I (i:Int)) rfl) ?_
  obtain ⟨bh,hM⟩:=M.e_grd hM
  simp only [Bool.and_eq_true,decide_eq_true_eq] at bh
  refine d_q rfl (fun w' H=>x_ix (a:=ag) (b:=I (i:Int)) (v:=vat ag 2 (Int.toNat (i:Int))) rfl rfl (Sl.ix (α:=Sect) T23.und T23.size am (by omega) (by omega))) ?_
  refine d_q rfl (fun w' H=>x_fa (a:=vat ag 2 (Int.toNat (i:Int))) (v:=fat (vat ag 2 (Int.toNat (i:Int))) 0) rfl (fa_pl Fd68_0 Sz3 (Sl.pl (i:=(i:Int)) am (by omega) (by omega)))) ?_
  refine d_q rfl (fun w' H=>x_ld (p:=fat (vat ag 2 (Int.toNat (i:Int))) 0) (v:=I ((aa.getD i default).place)) rfl (ld_sc Sc3 (At.mono (Sect_at0 am (i:=(i:Int)) (by omega) (by omega)) (aE.at H)))) ?_
  refine d_q rfl (fun w' H=>x_fa (a:=Pq aj) (v:=Pq aj) rfl (fa_blk (o:=0) Fd27_0 Sz23)) ?_
  refine d_q rfl (fun w' H=>x_ld (p:=Pq aj) (v:=ai) rfl (ldb_sc Sc23 (H.bl 0) rfl)) ?_
  refine d_q rfl (fun w' H=>x_mv (v:=I (i:Int)) rfl) ?_
  obtain ⟨bi,hM⟩:=M.e_grd hM
  simp only [Bool.and_eq_true,decide_eq_true_eq] at bi
  refine d_q rfl (fun w' H=>x_ix (a:=ai) (b:=I (i:Int)) (v:=vat ai 2 (Int.toNat (i:Int))) rfl rfl (Sl.ix (α:=Sect) T23.und T23.size av (by omega) (by omega))) ?_
  refine d_q rfl (fun w' H=>x_fa (a:=vat ai 2 (Int.toNat (i:Int))) (v:=fat (vat ai 2 (Int.toNat (i:Int))) 0) rfl (fa_pl Fd68_0 Sz3 (Sl.pl (i:=(i:Int)) av (by omega) (by omega)))) ?_
  refine d_q rfl (fun w' H=>x_ld (p:=fat (vat ai 2 (Int.toNat (i:Int))) 0) (v:=I ((ab.getD i default).place)) rfl (ld_sc Sc3 (At.mono (Sect_at0 av (i:=(i:Int)) (by omega) (by omega)) (aF.at H)))) ?_
  refine d_q rfl (fun w' H=>x_cmp (kd:=.i64) (a:=(aa.getD i default).place) (b:=(ab.getD i default).place) (r:=((aa.getD i default).place) != ((ab.getD i default).place)) rfl rfl rfl) ?_
  refine d_q rfl (fun w' H=>x_mv (v:=B (((aa.getD i default).place) != ((ab.getD i default).place))) rfl) ?_
  refine d_qg (!(((aa.getD i default).place) != ((ab.getD i default).place))) rfl (gy_f rfl) (fun hg=>(fun w' H=>x_fa (a:=Pq ae) (v:=Pq ae) rfl (fa_blk (o:=0) Fd27_0 Sz23))) ?_
  refine d_qg (!(((aa.getD i default).place) != ((ab.getD i default).place))) rfl (gy_f rfl) (fun hg=>(fun w' H=>x_ld (p:=Pq ae) (v:=ag) (gd_of (c:=!(((aa.getD i default).place) != ((ab.getD i default).place))) hg (Pq ae)) (ldb_sc Sc23 (H.bl 1) rfl))) ?_
  refine d_qg (!(((aa.getD i default).place) != ((ab.getD i default).place))) rfl (gy_f rfl) (fun hg=>(fun w' H=>x_mv (v:=I (i:Int)) rfl)) ?_
  refine d_qg (!(((aa.getD i default).place) != ((ab.getD i default).place))) rfl (gy_f rfl) (fun hg=>(fun w' H=>x_ix (a:=ag) (b:=I (i:Int)) (v:=vat ag 2 (Int.toNat (i:Int))) (gd_of (c:=!(((aa.getD i default).place) != ((ab.getD i default).place))) hg (ag)) (gd_of (c:=!(((aa.getD i default).place) != ((ab.getD i default).place))) hg (I (i:Int))) (Sl.ix (α:=Sect) T23.und T23.size am (by first | omega | (have ac:=hg; simp at ac; omega)) (by first | omega | (have ac:=hg; simp at ac; omega))))) ?_
  refine d_qg (!(((aa.getD i default).place) != ((ab.getD i default).place))) rfl (gy_f rfl) (fun hg=>(fun w' H=>x_fa (a:=vat ag 2 (Int.toNat (i:Int))) (v:=fat (vat ag 2 (Int.toNat (i:Int))) 1) (gd_of (c:=!(((aa.getD i default).place) != ((ab.getD i default).place))) hg (vat ag 2 (Int.toNat (i:Int)))) (fa_pl Fd68_1 Sz66 (Sl.pl (i:=(i:Int)) am (by first | omega | (have ac:=hg; simp at ac; omega)) (by first | omega | (have ac:=hg; simp at ac; omega)))))) ?_
  obtain ⟨ay,bj,aJ⟩:=gd_ex (c:=!(((aa.getD i default).place) != ((ab.getD i default).place))) fun hg=>Sect_at1 am (i:=(i:Int)) (by first | omega | (have ac:=hg; simp at ac; omega)) (by first | omega | (have ac:=hg; simp at ac; omega))
  replace aJ:(!(((aa.getD i default).place) != ((ab.getD i default).place)))=true->Sl _ ay (aa.getD i default).rows:=aJ
  refine d_qg (!(((aa.getD i default).place) != ((ab.getD i default).place))) rfl (gy_f rfl) (fun hg=>(fun w' H=>x_ld (p:=fat (vat ag 2 (Int.toNat (i:Int))) 1) (v:=ay) (gd_of (c:=!(((aa.getD i default).place) != ((ab.getD i default).place))) hg (fat (vat ag 2 (Int.toNat (i:Int))) 1)) (ld_sc Sc66 (At.mono (bj hg) (aE.at H))))) ?_
  refine d_qg (!(((aa.getD i default).place) != ((ab.getD i default).place))) rfl (gy_f rfl) (fun hg=>(fun w' H=>x_fa (a:=Pq aj) (v:=Pq aj) rfl (fa_blk (o:=0) Fd27_0 Sz23))) ?_
  refine d_qg (!(((aa.getD i default).place) != ((ab.getD i default).place))) rfl (gy_f rfl) (fun hg=>(fun w' H=>x_ld (p:=Pq aj) (v:=ai) (gd_of (c:=!(((aa.getD i default).place) != ((ab.getD i default).place))) hg (Pq aj)) (ldb_sc Sc23 (H.bl 0) rfl))) ?_
  refine d_qg (!(((aa.getD i default).place) != ((ab.getD i default).place))) rfl (gy_f rfl) (fun hg=>(fun w' H=>x_mv (v:=I (i:Int)) rfl)) ?_
  refine d_qg (!(((aa.getD i default).place) != ((ab.getD i default).place))) rfl (gy_f rfl) (fun hg=>(fun w' H=>x_ix (a:=ai) (b:=I (i:Int)) (v:=vat ai 2 (Int.toNat (i:Int))) (gd_of (c:=!(((aa.getD i default).place) != ((ab.getD i default).place))) hg (ai)) (gd_of (c:=!(((aa.getD i default).place) != ((ab.getD i default).place))) hg (I (i:Int))) (Sl.ix (α:=Sect) T23.und T23.size av (by first | omega | (have ac:=hg; simp at ac; omega)) (by first | omega | (have ac:=hg; simp at ac; omega))))) ?_
  refine d_qg (!(((aa.getD i default).place) != ((ab.getD i default).place))) rfl (gy_f rfl) (fun hg=>(fun w' H=>x_fa (a:=vat ai 2 (Int.toNat (i:Int))) (v:=fat (vat ai 2 (Int.toNat (i:Int))) 1) (gd_of (c:=!(((aa.getD i default).place) != ((ab.getD i default).place))) hg (vat ai 2 (Int.toNat (i:Int)))) (fa_pl Fd68_1 Sz66 (Sl.pl (i:=(i:Int)) av (by first | omega | (have ac:=hg; simp at ac; omega)) (by first | omega | (have ac:=hg; simp at ac; omega)))))) ?_
  obtain ⟨az,bm,aK⟩:=gd_ex (c:=!(((aa.getD i default).place) != ((ab.getD i default).place))) fun hg=>Sect_at1 av (i:=(i:Int)) (by first | omega | (have ac:=hg; simp at ac; omega)) (by first | omega | (have ac:=hg; simp at ac; omega))
  replace aK:(!(((aa.getD i default).place) != ((ab.getD i default).place)))=true->Sl _ az (ab.getD i default).rows:=aK
  refine d_qg (!(((aa.getD i default).place) != ((ab.getD i default).place))) rfl (gy_f rfl) (fun hg=>(fun w' H=>x_ld (p:=fat (vat ai 2 (Int.toNat (i:Int))) 1) (v:=az) (gd_of (c:=!(((aa.getD i default).place) != ((ab.getD i default).place))) hg (fat (vat ai 2 (Int.toNat (i:Int))) 1)) (ld_sc Sc66 (At.mono (bm hg) (aF.at H))))) ?_
  refine d_l rfl ?_
  obtain ⟨r4,bn,hM⟩:=M.e_bind hM
  refine t_gcall (!(((aa.getD i default).place) != ((ab.getD i default).place))) (gy_f rfl) cf88 (B r4) (fun _=>[ay,az]) (fun hg=>lst2 (gd_of (c:=!(((aa.getD i default).place) != ((ab.getD i default).place))) hg (ay)) (gd_of (c:=!(((aa.getD i default).place) != ((ab.getD i default).place))) hg (az))) H (fun hg=>(zeb ((aa.getD i default).rows) ((ab.getD i default).rows) (aE.app _) (aJ hg) (aF.app _) (aK hg) (M.e_opt bn hg) _ (H.give (A:=[]) rfl)).mono fun v_ w_ ⟨y_,ak,aw,H_⟩=>by subst ak; exact ⟨aw,H.via H_⟩) ?_
  intro bE H
  refine s_nil ⟨(H.pk [0,1]),?_⟩
  refine d_qg (!(((aa.getD i default).place) != ((ab.getD i default).place))) rfl (gy_f rfl) (fun hg=>(fun w' H=>x_not (b:=r4) (gd_of (c:=!(((aa.getD i default).place) != ((ab.getD i default).place))) hg (B r4)))) ?_
  refine d_q rfl (fun w' H=>x_por (b:=((aa.getD i default).place) != ((ab.getD i default).place)) (r:=!r4) rfl rfl (fun hb=>gd_of (c:=!(((aa.getD i default).place) != ((ab.getD i default).place))) (by first | exact hb | (rw [hb]; rfl) | simp_all) (B (!r4)))) ?_
  refine d_nil ?_
  refine W.cond ((((aa.getD i default).place) != ((ab.getD i default).place))||(!r4)) rfl (fun aL=>?_) (fun aL=>?_)
  ·replace hM:=M.e_t hM aL
   refine W.seq ?_
   refine W.region rfl ?_
   refine zA (B false) rfl ?_
   refine s_nil ?_
   refine W.ret ?_
   have bo:=M.e_inr hM aI
   subst bo
   replace hM:=aS
   try dsimp only at hM
   have ak:=M.e_pure hM
   exact ⟨_,resE_tmp rfl,⟨false,ak,rfl,(H.pk [])⟩⟩
  replace hM:=M.e_f hM aL
  refine W.skip ?_
  refine W.region rfl ?_
  refine zM (I (i:Int)) rfl ?_
  refine zR (i:Int) 1 ((i:Int)+1) rfl rfl rfl (by omega) ?_
  refine zA (I ((i:Int)+1)) rfl ?_
  refine s_nil ?_
  exact ⟨bc,bf,i+1,_,upds_of _ _ ⟨rfl,rfl,rfl,trivial⟩,M.e_inl hM aI,H⟩
 replace hM:=M.e_f hM ax
 simp only [qy1,qy2,qy3,qy4,qy5,qy6,ne_eq,qy7] at ax
 refine W.exit ?_
 have bp:=M.e_inr hM aI
 subst bp
 replace hM:=aS
 try dsimp only at hM
 replace H:=H.pk []
 refine W.seq ?_
 refine W.region rfl ?_
 refine zA (B true) rfl ?_
 refine s_nil ?_
 refine W.ret ?_
 have ak:=M.e_pure hM
 exact ⟨_,resE_tmp rfl,⟨true,ak,rfl,H⟩⟩

def zbB (a:List Int) (b:List Int):Nat->M (Nat ⊕ (Unit ⊕ Unit)):=fun i =>
  bif decide ((i:Int)<(a.length:Int)) then (
  M.grd (decide ((i:Int)<(a.length:Int))) <|
  M.grd (decide ((i:Int)<(b.length:Int))) <|
  bif (a.getD i 0) != (b.getD i 0) then (
  M.pure (.inr (.inl ())))
  else (
  M.pure (.inl (i+1))))
  else (
  M.pure (.inr (.inr ())))
def zcm (a:List Int) (b:List Int):M Bool :=
  bif (a.length:Int) != (b.length:Int) then (
  M.pure false)
  else (
  M.bind (M.iter (zbB a b) 0) fun x_=>match x_ with
  | (.inl (_:Unit))=>(
  M.pure false)
  | (.inr (_:Unit))=>(
  M.pure true))
theorem zdR {R:List Chunk} {ap:Cells} {aa:Value} {aq:Cells} {ab:Value} (a:List Int) (b:List Int) (ax:Reads R ap) (ac:Sl ap aa a) (ay:Reads R aq) (ak:Sl aq ab b) {r:Bool} (hM:(zcm a b).Ends r) (w:World) (H:St w w [] R):Ret Tryz.prog 45 #[aa,ab] w fun v w'=>∃ (y0:Bool),y0=r/\v=B y0/\St w w' [] R:=by
 refine ret_of_W Tryz.func45 rfl rfl rfl ?_
 refine W.seq ?_
 refine W.region rfl ?_
 refine zA (B false) rfl ?_
 refine s_nil ?_
 refine W.seq ?_
 refine W.seq ?_
 refine W.region rfl ?_
 refine zM aa rfl ?_
 have aG:=(ac).len_le
 refine s_val (x_lenS T28.und rfl ac) ?_
 refine zM ab rfl ?_
 have aH:=(ak).len_le
 refine s_val (x_lenS T28.und rfl ak) ?_
 refine zC (a.length:Int) (b.length:Int) ((a.length:Int) != (b.length:Int)) rfl rfl rfl ?_
 refine s_nil ?_
 refine W.cond ((a.length:Int) != (b.length:Int)) rfl (fun ae=>?_) (fun ae=>?_)
 ·replace hM:=M.e_t hM ae
  simp only [qy1,qy2,qy3,qy4,qy5,qy6,ne_eq,qy7] at ae
  refine W.seq ?_
  refine W.region rfl ?_
  refine zA (B false) rfl ?_
  refine s_nil ?_
  refine W.ret ?_
  have ag:=M.e_pure hM
  exact ⟨_,resE_tmp rfl,⟨false,ag,rfl,H⟩⟩
 replace hM:=M.e_f hM ae
 simp only [qy1,qy2,qy3,qy4,qy5,qy6,ne_eq,qy7] at ae
 refine W.skip ?_
 refine W.seq ?_
 refine W.seq ?_
 refine W.region rfl ?_
 refine zA (I 0) rfl ?_
 refine s_nil ?_
 refine W.block ?_
 obtain ⟨az,am,au⟩:=M.e_bind hM
 obtain ⟨aI,am⟩:=M.e_iter am
 refine W.loop (fun m σ W=>∃ (i:Nat) (ρ:Env),σ=upds ρ [(0,aa),(1,ab),(5,I (i:Int))]/\M.iterN (zbB a b) m i=some az/\St w W [] R) ?_ ?_
 ·exact ⟨_,0,_,upds_of _ _ ⟨rfl,rfl,rfl,trivial⟩,am,H⟩
 rintro aJ σ aK ⟨i,ρ,rfl,av,H⟩
 obtain ⟨aA,aB,aL,hM,ao⟩:=M.e_iterN av
 simp only [zbB] at hM
 clear av
 refine W.seq ?_
 refine W.seq ?_
 refine W.region rfl ?_
 refine zM (I (i:Int)) rfl ?_
 refine zM aa rfl ?_
 have aM:=(ac).len_le
 refine s_val (x_lenS T28.und rfl ac) ?_
 refine zC (i:Int) (a.length:Int) (decide ((i:Int)<(a.length:Int))) rfl rfl rfl ?_
 refine s_nil ?_
 refine W.cond (decide ((i:Int)<(a.length:Int))) rfl (fun ai=>?_) (fun ai=>?_)
 ·replace hM:=M.e_t hM ai
  simp only [qy1,qy2,qy3,qy4,qy5,qy6,ne_eq,qy7] at ai
  refine W.skip ?_
  refine W.seq ?_
  refine W.block ?_
  refine W.seq ?_
  refine W.draw (fun W=>St w W [] R) [(0,true),(1,true),(2,true),(3,true),(4,true),(5,true),(6,true),(7,true),(8,true)] mixed (by decide +kernel) rfl ?_
  intro aN aw
  replace H:=H.ext aw
  clear aw
  refine ⟨(H.pk []),?_⟩
  refine d_q rfl (fun w' H=>x_mv (v:=aa) rfl) ?_
  refine d_q rfl (fun w' H=>x_mv (v:=I (i:Int)) rfl) ?_
  obtain ⟨aC,hM⟩:=M.e_grd hM
  simp only [Bool.and_eq_true,decide_eq_true_eq] at aC
  refine d_q rfl (fun w' H=>x_ix (a:=aa) (b:=I (i:Int)) (v:=vat aa 1 (Int.toNat (i:Int))) rfl rfl (Sl.ix (α:=Int) T28.und T28.size ac (by omega) (by omega))) ?_
  refine d_q rfl (fun w' H=>x_ld (p:=vat aa 1 (Int.toNat (i:Int))) (v:=I (a.getD i 0)) rfl (ld_sc Sc3 (At.mono (Int_at ac (i:=(i:Int)) (by omega) (by omega)) (ax.at H)))) ?_
  refine d_q rfl (fun w' H=>x_mv (v:=ab) rfl) ?_
  refine d_q rfl (fun w' H=>x_mv (v:=I (i:Int)) rfl) ?_
  obtain ⟨aD,hM⟩:=M.e_grd hM
  simp only [Bool.and_eq_true,decide_eq_true_eq] at aD
  refine d_q rfl (fun w' H=>x_ix (a:=ab) (b:=I (i:Int)) (v:=vat ab 1 (Int.toNat (i:Int))) rfl rfl (Sl.ix (α:=Int) T28.und T28.size ak (by omega) (by omega))) ?_
  refine d_q rfl (fun w' H=>x_ld (p:=vat ab 1 (Int.toNat (i:Int))) (v:=I (b.getD i 0)) rfl (ld_sc Sc3 (At.mono (Int_at ak (i:=(i:Int)) (by omega) (by omega)) (ay.at H)))) ?_
  refine d_q rfl (fun w' H=>x_cmp (kd:=.i64) (a:=a.getD i 0) (b:=b.getD i 0) (r:=(a.getD i 0) != (b.getD i 0)) rfl rfl rfl) ?_
  refine d_nil ?_
  refine W.cond ((a.getD i 0) != (b.getD i 0)) rfl (fun aj=>?_) (fun aj=>?_)
  ·replace hM:=M.e_t hM aj
   simp only [qy1,qy2,qy3,qy4,qy5,qy6,ne_eq,qy7] at aj
   refine W.seq ?_
   refine W.region rfl ?_
   refine zA (B false) rfl ?_
   refine s_nil ?_
   refine W.ret ?_
   have aE:=M.e_inr hM ao
   subst aE
   replace hM:=au
   try dsimp only at hM
   have ag:=M.e_pure hM
   exact ⟨_,resE_tmp rfl,⟨false,ag,rfl,H⟩⟩
  replace hM:=M.e_f hM aj
  simp only [qy1,qy2,qy3,qy4,qy5,qy6,ne_eq,qy7] at aj
  refine W.skip ?_
  refine W.region rfl ?_
  refine zM (I (i:Int)) rfl ?_
  refine zR (i:Int) 1 ((i:Int)+1) rfl rfl rfl (by omega) ?_
  refine zA (I ((i:Int)+1)) rfl ?_
  refine s_nil ?_
  exact ⟨aA,aB,i+1,_,upds_of _ _ ⟨rfl,rfl,rfl,trivial⟩,M.e_inl hM ao,H⟩
 replace hM:=M.e_f hM ai
 simp only [qy1,qy2,qy3,qy4,qy5,qy6,ne_eq,qy7] at ai
 refine W.exit ?_
 have aF:=M.e_inr hM ao
 subst aF
 replace hM:=au
 try dsimp only at hM
 refine W.seq ?_
 refine W.region rfl ?_
 refine zA (B true) rfl ?_
 refine s_nil ?_
 refine W.ret ?_
 have ag:=M.e_pure hM
 exact ⟨_,resE_tmp rfl,⟨true,ag,rfl,H⟩⟩

def zbt (a:List (List Int)) (b:List (List Int)):Nat->M (Nat ⊕ (Unit ⊕ Unit)):=fun i =>
  bif decide ((i:Int)<(a.length:Int)) then (
  M.grd (decide ((i:Int)<(a.length:Int))) <|
  M.grd (decide ((i:Int)<(b.length:Int))) <|
  M.bind (zcm (a.getD i ([])) (b.getD i ([]))) fun r2 =>
  bif !r2 then (
  M.pure (.inr (.inl ())))
  else (
  M.pure (.inl (i+1))))
  else (
  M.pure (.inr (.inr ())))
def zbY (a:List (List Int)) (b:List (List Int)):M Bool :=
  bif (a.length:Int) != (b.length:Int) then (
  M.pure false)
  else (
  M.bind (M.iter (zbt a b) 0) fun x_=>match x_ with
  | (.inl (_:Unit))=>(
  M.pure false)
  | (.inr (_:Unit))=>(
  M.pure true))
theorem zei {R:List Chunk} {aw:Cells} {aa:Value} {ax:Cells} {ab:Value} (a:List (List Int)) (b:List (List Int)) (ay:Reads R aw) (ac:Sl aw aa a) (az:Reads R ax) (aj:Sl ax ab b) {r:Bool} (hM:(zbY a b).Ends r) (w:World) (H:St w w [] R):Ret Tryz.prog 36 #[aa,ab] w fun v w'=>∃ (y0:Bool),y0=r/\v=B y0/\St w w' [] R:=by
 refine ret_of_W Tryz.func36 rfl rfl rfl ?_
 refine W.seq ?_
 refine W.region rfl ?_
 refine zA (B false) rfl ?_
 refine s_nil ?_
 refine W.seq ?_
 refine W.seq ?_
 refine W.region rfl ?_
 refine zM aa rfl ?_
 have aP:=(ac).len_le
 refine s_val (x_lenS T38.und rfl ac) ?_
 refine zM ab rfl ?_
 have aQ:=(aj).len_le
 refine s_val (x_lenS T38.und rfl aj) ?_
 refine zC (a.length:Int) (b.length:Int) ((a.length:Int) != (b.length:Int)) rfl rfl rfl ?_
 refine s_nil ?_
 refine W.cond ((a.length:Int) != (b.length:Int)) rfl (fun ae=>?_) (fun ae=>?_)
 ·replace hM:=M.e_t hM ae
  simp only [qy1,qy2,qy3,qy4,qy5,qy6,ne_eq,qy7] at ae
  refine W.seq ?_
  refine W.region rfl ?_
  refine zA (B false) rfl ?_
  refine s_nil ?_
  refine W.ret ?_
  have ag:=M.e_pure hM
  exact ⟨_,resE_tmp rfl,⟨false,ag,rfl,H⟩⟩
 replace hM:=M.e_f hM ae
 simp only [qy1,qy2,qy3,qy4,qy5,qy6,ne_eq,qy7] at ae
 refine W.skip ?_
 refine W.seq ?_
 refine W.seq ?_
 refine W.region rfl ?_
 refine zA (I 0) rfl ?_
 refine s_nil ?_
 refine W.block ?_
 obtain ⟨aE,ao,aA⟩:=M.e_bind hM
 obtain ⟨aR,ao⟩:=M.e_iter ao
 refine W.loop (fun m σ W=>∃ (i:Nat) (ρ:Env),σ=upds ρ [(0,aa),(1,ab),(5,I (i:Int))]/\M.iterN (zbt a b) m i=some aE/\St w W [] R) ?_ ?_
 ·exact ⟨_,0,_,upds_of _ _ ⟨rfl,rfl,rfl,trivial⟩,ao,H⟩
 rintro aS σ aT ⟨i,ρ,rfl,aB,H⟩
 obtain ⟨aF,aG,aU,hM,ap⟩:=M.e_iterN aB
 simp only [zbt] at hM
 clear aB
 refine W.seq ?_
 refine W.seq ?_
 refine W.region rfl ?_
 refine zM (I (i:Int)) rfl ?_
 refine zM aa rfl ?_
 have aV:=(ac).len_le
 refine s_val (x_lenS T38.und rfl ac) ?_
 refine zC (i:Int) (a.length:Int) (decide ((i:Int)<(a.length:Int))) rfl rfl rfl ?_
 refine s_nil ?_
 refine W.cond (decide ((i:Int)<(a.length:Int))) rfl (fun ai=>?_) (fun ai=>?_)
 ·replace hM:=M.e_t hM ai
  simp only [qy1,qy2,qy3,qy4,qy5,qy6,ne_eq,qy7] at ai
  refine W.skip ?_
  refine W.seq ?_
  refine W.block ?_
  refine W.seq ?_
  refine W.draw (fun W=>St w W [] R) [(0,true),(1,true),(2,true),(3,true),(4,true),(5,true),(6,true),(7,true),(8,false),(9,true)] mixed (by decide +kernel) rfl ?_
  intro aW aC
  replace H:=H.ext aC
  clear aC
  refine ⟨(H.pk []),?_⟩
  refine d_q rfl (fun w' H=>x_mv (v:=aa) rfl) ?_
  refine d_q rfl (fun w' H=>x_mv (v:=I (i:Int)) rfl) ?_
  obtain ⟨aH,hM⟩:=M.e_grd hM
  simp only [Bool.and_eq_true,decide_eq_true_eq] at aH
  refine d_q rfl (fun w' H=>x_ix (a:=aa) (b:=I (i:Int)) (v:=vat aa 1 (Int.toNat (i:Int))) rfl rfl (Sl.ix (α:=List Int) T38.und T38.size ac (by omega) (by omega))) ?_
  obtain ⟨aq,aI,ak⟩:=List_at ac (i:=(i:Int)) (by omega) (by omega)
  replace ak:Sl _ aq (a.getD i ([])):=ak
  have aX:=ak.len_le
  refine d_q rfl (fun w' H=>x_ld (p:=vat aa 1 (Int.toNat (i:Int))) (v:=aq) rfl (ld_sc Sc28 (At.mono (aI) (ay.at H)))) ?_
  refine d_q rfl (fun w' H=>x_mv (v:=ab) rfl) ?_
  refine d_q rfl (fun w' H=>x_mv (v:=I (i:Int)) rfl) ?_
  obtain ⟨aJ,hM⟩:=M.e_grd hM
  simp only [Bool.and_eq_true,decide_eq_true_eq] at aJ
  refine d_q rfl (fun w' H=>x_ix (a:=ab) (b:=I (i:Int)) (v:=vat ab 1 (Int.toNat (i:Int))) rfl rfl (Sl.ix (α:=List Int) T38.und T38.size aj (by omega) (by omega))) ?_
  obtain ⟨au,aK,am⟩:=List_at aj (i:=(i:Int)) (by omega) (by omega)
  replace am:Sl _ au (b.getD i ([])):=am
  have aY:=am.len_le
  refine d_q rfl (fun w' H=>x_ld (p:=vat ab 1 (Int.toNat (i:Int))) (v:=au) rfl (ld_sc Sc28 (At.mono (aK) (az.at H)))) ?_
  refine d_l rfl ?_
  obtain ⟨aZ,aL,hM⟩:=M.e_bind hM
  refine s_call cf45 [aq,au] rfl (zdR (a.getD i ([])) (b.getD i ([])) (ay.app _) ak (az.app _) am aL _ (H.gt 0)) ?_
  rintro vq a6 ⟨r2,aM,hvq,aD⟩
  subst aM
  subst vq
  try dsimp only at hM
  replace H:=H.bk aD
  clear aD
  refine s_nil ⟨(H.pk []),?_⟩
  refine d_q rfl (fun w' H=>x_not (b:=r2) rfl) ?_
  refine d_nil ?_
  refine W.cond (!r2) rfl (fun av=>?_) (fun av=>?_)
  ·replace hM:=M.e_t hM av
   refine W.seq ?_
   refine W.region rfl ?_
   refine zA (B false) rfl ?_
   refine s_nil ?_
   refine W.ret ?_
   have aN:=M.e_inr hM ap
   subst aN
   replace hM:=aA
   try dsimp only at hM
   have ag:=M.e_pure hM
   exact ⟨_,resE_tmp rfl,⟨false,ag,rfl,H⟩⟩
  replace hM:=M.e_f hM av
  refine W.skip ?_
  refine W.region rfl ?_
  refine zM (I (i:Int)) rfl ?_
  refine zR (i:Int) 1 ((i:Int)+1) rfl rfl rfl (by omega) ?_
  refine zA (I ((i:Int)+1)) rfl ?_
  refine s_nil ?_
  exact ⟨aF,aG,i+1,_,upds_of _ _ ⟨rfl,rfl,rfl,trivial⟩,M.e_inl hM ap,H⟩
 replace hM:=M.e_f hM ai
 simp only [qy1,qy2,qy3,qy4,qy5,qy6,ne_eq,qy7] at ai
 refine W.exit ?_
 have aO:=M.e_inr hM ap
 subst aO
 replace hM:=aA
 try dsimp only at hM
 refine W.seq ?_
 refine W.region rfl ?_
 refine zA (B true) rfl ?_
 refine s_nil ?_
 refine W.ret ?_
 have ag:=M.e_pure hM
 exact ⟨_,resE_tmp rfl,⟨true,ag,rfl,H⟩⟩

end Go.Proofs.YtlemgioaakecpaaGreat
end
section
set_option maxRecDepth 100000
set_option maxHeartbeats 16000000
namespace Go.Proofs.YtlemgioaakecpaaGreat
open Go Go.Nm
def zaA (rows:List (List Int)):Nat->M (Nat ⊕ (Bool ⊕ Unit)):=fun i =>
  bif decide ((i:Int)<(rows.length:Int)) then (
  M.grd (decide ((i:Int)<(rows.length:Int))) <|
  bif decide (18<((rows.getD i ([])).length:Int)) then (
  M.bind (zbE) fun r4 =>
  M.pure (.inr (.inl r4)))
  else (
  M.pure (.inl (i+1))))
  else (
  M.pure (.inr (.inr ())))
def zaY (s_Marks:List Mrk) (aa:List Int):Nat->M (Nat ⊕ (Unit ⊕ Unit)):=fun i2 =>
  bif decide ((i2:Int)<(aa.length:Int)) then (
  M.grd (decide ((i2:Int)<(aa.length:Int))) <|
  M.grd ((!((!((decide ((aa.getD i2 0)<0))||(decide ((s_Marks.length:Int)<=(aa.getD i2 0)))))&&(decide (0<(i2:Int))))||(decide ((-9223372036854775808:Int)<=((i2:Int)-1))&&decide (((i2:Int)-1)<=(9223372036854775807:Int))))) <|
  M.grd ((!((!((decide ((aa.getD i2 0)<0))||(decide ((s_Marks.length:Int)<=(aa.getD i2 0)))))&&(decide (0<(i2:Int))))||(decide ((0:Int)<=((i2:Int)-1))&&decide (((i2:Int)-1)<(aa.length:Int))))) <|
  bif (((decide ((aa.getD i2 0)<0))||(decide ((s_Marks.length:Int)<=(aa.getD i2 0))))||((decide (0<(i2:Int)))&&(decide ((aa.getD i2 0)<=(aa.getD (Int.toNat ((i2:Int)-1)) 0))))) then (
  M.pure (.inr (.inl ())))
  else (
  M.pure (.inl (i2+1))))
  else (
  M.pure (.inr (.inr ())))
def zaF (s_Sections:List Sect) (s_Marks:List Mrk) (s_Reaches:List Rch) (many:Int) (rows:List (List Int)) (r0:List Sect) (r1:List Mrk) (ag:List Rch) (r5:List (List Int)) (aj:List Sect) (ak:List Mrk) (am:List Rch) (ap:List Int):M Bool :=
  M.bind (zb5 r0 r1 ag many r5) fun (aa,ab) =>
  M.bind (zbG aj ak am many rows) fun (ac,ae) =>
  M.bind (M.opt ((ab==ae)&&(aa==ac)) (zb1 r0 r1 ag s_Sections s_Marks s_Reaches) false) fun r9 =>
  M.bind (M.opt (((ab==ae)&&(aa==ac))&&r9) (zbY r5 rows) false) fun ai =>
  M.bind (M.opt ((((ab==ae)&&(aa==ac))&&r9)&&ai) (zbE) false) fun ao =>
  M.pure (((((ab==ae)&&(aa==ac))&&r9)&&ai)&&ao)
def zcF (s_Sections:List Sect) (s_Marks:List Mrk) (s_Reaches:List Rch) (aj:Int) (stage:Int) (a:Int) (b:Int) (many:Int) (rows:List (List Int)):M Bool :=
  M.bind (zb9 s_Sections s_Marks s_Reaches) fun r2 =>
  bif (r2||(decide (18<(rows.length:Int)))) then (
  M.bind (zbE) fun r3 =>
  M.pure r3)
  else (
  M.bind (M.iter (zaA rows) 0) fun x_=>match x_ with
  | (.inl s2)=>(
  M.pure s2)
  | (.inr (_:Unit))=>(
  M.bind (zb7 s_Sections s_Marks s_Reaches) fun (r0,r1,ae) =>
  M.bind (zcc rows) fun r5 =>
  M.bind (zcd s_Sections s_Marks s_Reaches) fun (aa,ab,ac) =>
  M.bind (zat r0 r1 ae) fun r6 =>
  M.bind (zal aa ab ac) fun r7 =>
  bif r6 != r7 then (
  M.pure false)
  else (
  M.bind (zb4 r0 r1 ae aj stage) fun (au,av) =>
  M.bind (zbS aa ab ac aj stage) fun (aw,ax) =>
  bif ((av != ax)||(au != aw)) then (
  M.pure false)
  else (
  M.bind (za1 r0 r1 ae a b) fun (ay,az) =>
  M.bind (zbW aa ab ac a b) fun (aA,aB) =>
  bif ((az != aB)||(ay != aA)) then (
  M.pure false)
  else (
  M.bind (zaq r0 r1 ae) fun (ag,ak) =>
  M.bind (zcb aa ab ac) fun (ai,am) =>
  M.bind (zaQ r0 r1 ae) fun (ao,aC) =>
  bif ((((ak != am)||(aC != am))||((ag.length:Int) != ai))||((ao.length:Int) != ai)) then (
  M.pure false)
  else (
  bif ak==0 then (
  M.bind (M.iter (zaY s_Marks ag) 0) fun x_=>match x_ with
  | (.inl (_:Unit))=>(
  M.pure false)
  | (.inr (_:Unit))=>(
  M.bind (zbG aa ab ac ai ao) fun (ap,aq) =>
  M.bind (M.opt (!((aq != 0)||(!ap))) (zbr aa ab ac ag) false) fun r8 =>
  bif (((aq != 0)||(!ap))||(!r8)) then (
  M.pure false)
  else (
  zaF s_Sections s_Marks s_Reaches many rows r0 r1 ae r5 aa ab ac ag)))
  else (
  zaF s_Sections s_Marks s_Reaches many rows r0 r1 ae r5 aa ab ac ag)))))))
theorem zed {R:List Chunk} {bR:Cells} {aD:Value} {bS:Cells} {aC:Value} {bT:Cells} {aE:Value} {bU:Cells} {aG:Value} (s_Sections:List Sect) (s_Marks:List Mrk) (s_Reaches:List Rch) (aZ:Int) (stage:Int) (a:Int) (b:Int) (many:Int) (rows:List (List Int)) (bu:Reads R bR) (bv:Sl bR aD s_Sections) (bw:Reads R bS) (bj:Sl bS aC s_Marks) (bx:Reads R bT) (bz:Sl bT aE s_Reaches) (bA:Reads R bU) (a6:Sl bU aG rows) {r:Bool} (hM:(zcF s_Sections s_Marks s_Reaches aZ stage a b many rows).Ends r) (w:World) (H:St w w [] R):Ret Tryz.prog 6 #[.agg #[aD,aC,aE],I aZ,I stage,I a,I b,I many,aG] w fun v w'=>∃ (y0:Bool),y0=r/\v=B y0/\St w w' [] R:=by
 refine ret_of_W Tryz.func6 rfl rfl rfl ?_
 refine W.seq ?_
 refine W.region rfl ?_
 refine t_box (v:=.agg #[aD,aC,aE]) (cs:=[aD,aC,aE]) H rfl rfl ?_
 intro aM dd H
 refine zA (B false) rfl ?_
 refine s_nil ?_
 refine W.seq ?_
 refine W.seq ?_
 refine W.region rfl ?_
 refine s_val (x_ld (p:=Pq aM) (v:=.agg #[aD,aC,aE]) rfl (ldb_ag (ds:=[aD,aC,aE]) Ag27 Sz27 (H.bl 0) rfl rfl)) ?_
 obtain ⟨de,b8,hM⟩:=M.e_bind hM
 refine s_call cf24 [.agg #[aD,aC,aE]] rfl (zd8 s_Sections s_Marks s_Reaches (bu.app _) bv (bw.app _) bj (bx.app _) bz b8 _ (H.gt 1)) ?_
 rintro vq dg ⟨r2,b9,hvq,ac⟩
 subst b9
 subst vq
 try dsimp only at hM
 replace H:=H.bk ac
 clear ac
 refine zM (B r2) rfl ?_
 refine g_val (!r2) (gy_f rfl) (fun hg=>x_mv (v:=aG) rfl) ?_
 have dh:=(a6).len_le
 refine g_val (!r2) (gy_f rfl) (fun hg=>x_lenS T38.und (gd_of (c:=!r2) hg (aG)) a6) ?_
 refine g_val (!r2) (gy_f rfl) (fun hg=>x_cmp (kd:=.i64) (a:=(rows.length:Int)) (b:=18) (r:=decide (18<(rows.length:Int))) (gd_of (c:=!r2) hg (I (rows.length:Int))) rfl rfl) ?_
 refine s_val (x_por (b:=r2) (r:=decide (18<(rows.length:Int))) rfl rfl (fun hb=>gd_of (c:=!r2) (by first | exact hb | (rw [hb]; rfl) | simp_all) (B (decide (18<(rows.length:Int)))))) ?_
 refine s_nil ?_
 refine W.cond (r2||(decide (18<(rows.length:Int)))) rfl (fun bH=>?_) (fun bH=>?_)
 ·replace hM:=M.e_t hM bH
  refine W.seq ?_
  refine W.region rfl ?_
  obtain ⟨di,cb,hM⟩:=M.e_bind hM
  refine s_call cf16 [] rfl (zcC cb _ (H.gt 1)) ?_
  rintro vq dj ⟨r3,cc,hvq,ac⟩
  subst cc
  subst vq
  try dsimp only at hM
  replace H:=H.bk ac
  clear ac
  refine zA (B r3) rfl ?_
  refine s_nil ?_
  refine W.ret ?_
  have aA:=M.e_pure hM
  exact ⟨_,resE_tmp rfl,⟨r3,aA,rfl,(H.pk [])⟩⟩
 replace hM:=M.e_f hM bH
 refine W.skip ?_
 refine W.seq ?_
 refine W.seq ?_
 refine W.region rfl ?_
 refine zA (I 0) rfl ?_
 refine s_nil ?_
 refine W.block ?_
 obtain ⟨cd,bI,bV⟩:=M.e_bind hM
 obtain ⟨ce,bI⟩:=M.e_iter bI
 refine W.loop (fun m σ W=>∃ (i:Nat) (ρ:Env),σ=upds ρ [(1,I aZ),(2,I stage),(3,I a),(4,I b),(5,I many),(6,aG),(7,Pq aM),(15,I (i:Int))]/\M.iterN (zaA rows) m i=some cd/\St w W [cBlk aM [aD,aC,aE] 27] R) ?_ ?_
 ·exact ⟨_,0,_,upds_of _ _ ⟨rfl,rfl,rfl,rfl,rfl,rfl,rfl,rfl,trivial⟩,bI,H⟩
 rintro dk σ dm ⟨i,ρ,rfl,bW,H⟩
 obtain ⟨cf,cg,dp,hM,bJ⟩:=M.e_iterN bW
 simp only [zaA] at hM
 clear bW
 refine W.seq ?_
 refine W.seq ?_
 refine W.region rfl ?_
 refine zM (I (i:Int)) rfl ?_
 refine zM aG rfl ?_
 have dq:=(a6).len_le
 refine s_val (x_lenS T38.und rfl a6) ?_
 refine zC (i:Int) (rows.length:Int) (decide ((i:Int)<(rows.length:Int))) rfl rfl rfl ?_
 refine s_nil ?_
 refine W.cond (decide ((i:Int)<(rows.length:Int))) rfl (fun bm=>?_) (fun bm=>?_)
 ·replace hM:=M.e_t hM bm
  simp only [qy1,qy2,qy3,qy4,qy5,qy6,ne_eq,qy7] at bm
  refine W.skip ?_
  refine W.seq ?_
  refine W.block ?_
  refine W.seq ?_
  refine W.region rfl ?_
  refine zM aG rfl ?_
  refine zM (I (i:Int)) rfl ?_
  obtain ⟨cj,hM⟩:=M.e_grd hM
  simp only [Bool.and_eq_true,decide_eq_true_eq] at cj
  refine s_val (x_ix (a:=aG) (b:=I (i:Int)) (v:=vat aG 1 (Int.toNat (i:Int))) rfl rfl (Sl.ix (α:=List Int) T38.und T38.size a6 (by omega) (by omega))) ?_
  obtain ⟨bX,ck,bn⟩:=List_at a6 (i:=(i:Int)) (by omega) (by omega)
  replace bn:Sl _ bX (rows.getD i ([])):=bn
  have dr:=bn.len_le
  refine s_val (x_ld (p:=vat aG 1 (Int.toNat (i:Int))) (v:=bX) rfl (ld_sc Sc28 (At.mono (ck) (bA.at H)))) ?_
  have dt:=(bn).len_le
  refine s_val (x_lenS T28.und rfl bn) ?_
  refine zC ((rows.getD i ([])).length:Int) 18 (decide (18<((rows.getD i ([])).length:Int))) rfl rfl rfl ?_
  refine s_nil ?_
  refine W.cond (decide (18<((rows.getD i ([])).length:Int))) rfl (fun bo=>?_) (fun bo=>?_)
  ·replace hM:=M.e_t hM bo
   simp only [qy1,qy2,qy3,qy4,qy5,qy6,ne_eq,qy7] at bo
   refine W.seq ?_
   refine W.region rfl ?_
   obtain ⟨dv,co,hM⟩:=M.e_bind hM
   refine s_call cf16 [] rfl (zcC co _ (H.gt 1)) ?_
   rintro vq dw ⟨r4,cp,hvq,ac⟩
   subst cp
   subst vq
   try dsimp only at hM
   replace H:=H.bk ac
   clear ac
   refine zA (B r4) rfl ?_
   refine s_nil ?_
   refine W.ret ?_
   have cq:=M.e_inr hM bJ
   subst cq
   replace hM:=bV
   try dsimp only at hM
   have aA:=M.e_pure hM
   exact ⟨_,resE_tmp rfl,⟨r4,aA,rfl,(H.pk [])⟩⟩
  replace hM:=M.e_f hM bo
  simp only [qy1,qy2,qy3,qy4,qy5,qy6,ne_eq,qy7] at bo
  refine W.skip ?_
  refine W.region rfl ?_
  refine zM (I (i:Int)) rfl ?_
  refine zR (i:Int) 1 ((i:Int)+1) rfl rfl rfl (by omega) ?_
  refine zA (I ((i:Int)+1)) rfl ?_
  refine s_nil ?_
  exact ⟨cf,cg,i+1,_,upds_of _ _ ⟨rfl,rfl,rfl,rfl,rfl,rfl,rfl,rfl,trivial⟩,M.e_inl hM bJ,H⟩
 replace hM:=M.e_f hM bm
 simp only [qy1,qy2,qy3,qy4,qy5,qy6,ne_eq,qy7] at bm
 refine W.exit ?_
 have cr:=M.e_inr hM bJ
 subst cr
 replace hM:=bV
 try dsimp only at hM
 refine W.seq ?_
 refine W.region rfl ?_
 refine s_val (x_ld (p:=Pq aM) (v:=.agg #[aD,aC,aE]) rfl (ldb_ag (ds:=[aD,aC,aE]) Ag27 Sz27 (H.bl 0) rfl rfl)) ?_
 obtain ⟨dx,ct,hM⟩:=M.e_bind hM
 refine s_call cf17 [.agg #[aD,aC,aE]] rfl (zd7 s_Sections s_Marks s_Reaches (bu.app _) bv (bw.app _) bj (bx.app _) bz ct _ (H.gt 1)) ?_
 rintro vq dy ⟨r0,r1,aQ,ap,bB,bC,aq,au,cu,hvq,ac,a8⟩
 subst cu
 subst vq
 try dsimp only at hM
 replace H:=H.bk ac
 clear ac
 refine zM aG rfl ?_
 obtain ⟨dz,cw,hM⟩:=M.e_bind hM
 refine s_call cf15 [aG] rfl (zdD rows (bA.app _) a6 cw _ (H.gt 5)) ?_
 rintro vq dA ⟨r5,aR,bD,bE,cx,hvq,ac,bY⟩
 subst cx
 subst vq
 try dsimp only at hM
 replace H:=H.bk ac
 clear ac
 refine t_alloc (cs:=[.slice none 0 0,.slice none 0 0,.slice none 0 0]) H Al27 rfl ?_
 intro aO dB H
 refine t_sw 0 0 [ap,aq,au] (.agg #[ap,aq,au]) H rfl rfl Sz27 rfl rfl rfl (by simp only [List.all_cons,List.all_nil,Bool.true_and,Bool.and_true,Sl.oc (rowSl rfl (H.get (k:=3) rfl) (roLe _ (H.get (k:=4) rfl)) a8),Sl.oc (H.os 5),Sl.oc (H.os 6)]; try rfl) ?_
 intro dC H
 refine zA aR rfl ?_
 refine s_nil ?_
 refine W.seq ?_
 refine W.region rfl ?_
 refine s_val (x_ld (p:=Pq aM) (v:=.agg #[aD,aC,aE]) rfl (ldb_ag (ds:=[aD,aC,aE]) Ag27 Sz27 (H.bl 7) rfl rfl)) ?_
 obtain ⟨dD,cy,hM⟩:=M.e_bind hM
 refine s_call cf25 [.agg #[aD,aC,aE]] rfl (zdo s_Sections s_Marks s_Reaches (bu.app _) bv (bw.app _) bj (bx.app _) bz cy _ (H.gt 8)) ?_
 rintro vq dE ⟨ba,aS,aT,av,bF,bG,aw,ax,cz,hvq,ac,bb⟩
 subst cz
 subst vq
 try dsimp only at hM
 replace H:=H.bk ac
 clear ac
 refine t_alloc (cs:=[.slice none 0 0,.slice none 0 0,.slice none 0 0]) H Al81 rfl ?_
 intro aP dF H
 refine t_sw 0 0 [av,aw,ax] (.agg #[av,aw,ax]) H rfl rfl Sz81 rfl rfl rfl (by simp only [List.all_cons,List.all_nil,Bool.true_and,Bool.and_true,Sl.oc (rowSl rfl (H.get (k:=1) rfl) (roLe _ (H.get (k:=2) rfl)) bb),Sl.oc (H.os 3),Sl.oc (H.os 4)]; try rfl) ?_
 intro dG H
 refine s_nil ?_
 refine W.seq ?_
 refine W.seq ?_
 refine W.draw (fun W=>St w W [cBlk aP [av,aw,ax] 81,cOwn (α:=Raw 1) 148 av bF,cRo bG,cOwn (α:=Mrk) 150 aw aS,cOwn (α:=Rch) 151 ax aT,cBlk aO [ap,aq,au] 27,cOwn (α:=Raw 0) 28 aR bD,cRo bE,cOwn (α:=Raw 1) 68 ap bB,cRo bC,cOwn (α:=Mrk) 70 aq r1,cOwn (α:=Rch) 58 au aQ,cBlk aM [aD,aC,aE] 27] R) [(0,true),(2,true),(1,false),(3,false),(4,true)] mixed (by decide +kernel) rfl ?_
 intro dH az
 replace H:=H.ext az
 clear az
 refine ⟨(H.pk [0,1,2,3,4,5,6,7,8,9,10,11,12]),?_⟩
 refine d_q rfl (fun w' H=>x_ld (p:=Pq aO) (v:=.agg #[ap,aq,au]) rfl (ldb_ag (ds:=[ap,aq,au]) Ag27 Sz27 (H.bl 5) rfl rfl)) ?_
 refine d_q rfl (fun w' H=>x_ld (p:=Pq aP) (v:=.agg #[av,aw,ax]) rfl (ldb_ag (ds:=[av,aw,ax]) Ag81 Sz81 (H.bl 0) rfl rfl)) ?_
 refine d_l rfl ?_
 obtain ⟨dI,cA,hM⟩:=M.e_bind hM
 refine s_call cf26 [.agg #[ap,aq,au]] rfl (zc1 r0 r1 aQ (Reads.sup (rdo 8) (Reads.of (k:=9) rfl roLe)) (rowSl rfl (H.get (k:=8) rfl) (roLe _ (H.get (k:=9) rfl)) a8) (rdo 10) (H.os 10) (rdo 11) (H.os 11) cA _ (H.gt 13)) ?_
 rintro vq dJ ⟨r6,cB,hvq,ac⟩
 subst cB
 subst vq
 try dsimp only at hM
 replace H:=H.bk ac
 clear ac
 refine s_nil ⟨(H.pk [0,1,2,3,4,5,6,7,8,9,10,11,12]),?_⟩
 refine d_l rfl ?_
 obtain ⟨dK,cC,hM⟩:=M.e_bind hM
 refine s_call cf27 [.agg #[av,aw,ax]] rfl (zbg ba aS aT (Reads.sup (rdo 1) (Reads.of (k:=2) rfl roLe)) (rowSl rfl (H.get (k:=1) rfl) (roLe _ (H.get (k:=2) rfl)) bb) (rdo 3) (H.os 3) (rdo 4) (H.os 4) cC _ (H.gt 13)) ?_
 rintro vq dL ⟨r7,cD,hvq,ac⟩
 subst cD
 subst vq
 try dsimp only at hM
 replace H:=H.bk ac
 clear ac
 refine s_nil ⟨(H.pk [0,1,2,3,4,5,6,7,8,9,10,11,12]),?_⟩
 refine d_q rfl (fun w' H=>x_cmp (kd:=.i64) (a:=r6) (b:=r7) (r:=r6 != r7) rfl rfl rfl) ?_
 refine d_nil ?_
 refine W.cond (r6 != r7) rfl (fun bp=>?_) (fun bp=>?_)
 ·replace hM:=M.e_t hM bp
  simp only [qy1,qy2,qy3,qy4,qy5,qy6,ne_eq,qy7] at bp
  refine W.seq ?_
  refine W.region rfl ?_
  refine zA (B false) rfl ?_
  refine s_nil ?_
  replace H:=H.pk []
  refine W.ret ?_
  have aA:=M.e_pure hM
  exact ⟨_,resE_tmp rfl,⟨false,aA,rfl,H⟩⟩
 replace hM:=M.e_f hM bp
 simp only [qy1,qy2,qy3,qy4,qy5,qy6,ne_eq,qy7] at bp
 refine W.skip ?_
 refine W.seq ?_
 refine W.region rfl ?_
 refine s_val (x_ld (p:=Pq aO) (v:=.agg #[ap,aq,au]) rfl (ldb_ag (ds:=[ap,aq,au]) Ag27 Sz27 (H.bl 5) rfl rfl)) ?_
 refine zM (I aZ) rfl ?_
 refine zM (I stage) rfl ?_
 obtain ⟨dM,cE,hM⟩:=M.e_bind hM
 refine s_call cf28 [.agg #[ap,aq,au],I aZ,I stage] rfl (zd9 r0 r1 aQ aZ stage (Reads.sup (rdo 8) (Reads.of (k:=9) rfl roLe)) (rowSl rfl (H.get (k:=8) rfl) (roLe _ (H.get (k:=9) rfl)) a8) (rdo 10) (H.os 10) (rdo 11) (H.os 11) cE _ (H.gt 13)) ?_
 rintro vq dN ⟨aU,aI,cF,hvq,ac⟩
 subst cF
 subst vq
 try dsimp only at hM
 replace H:=H.bk ac
 clear ac
 refine zM (.tuple #[I aU,I aI]) rfl ?_
 refine zX [I aU,I aI] (I aU) rfl rfl ?_
 refine zX [I aU,I aI] (I aI) rfl rfl ?_
 refine zA (I aU) rfl ?_
 refine zA (I aI) rfl ?_
 refine s_nil ?_
 refine W.seq ?_
 refine W.region rfl ?_
 refine s_val (x_ld (p:=Pq aP) (v:=.agg #[av,aw,ax]) rfl (ldb_ag (ds:=[av,aw,ax]) Ag81 Sz81 (H.bl 0) rfl rfl)) ?_
 refine zM (I aZ) rfl ?_
 refine zM (I stage) rfl ?_
 obtain ⟨dO,cG,hM⟩:=M.e_bind hM
 refine s_call cf29 [.agg #[av,aw,ax],I aZ,I stage] rfl (zec ba aS aT aZ stage (Reads.sup (rdo 1) (Reads.of (k:=2) rfl roLe)) (rowSl rfl (H.get (k:=1) rfl) (roLe _ (H.get (k:=2) rfl)) bb) (rdo 3) (H.os 3) (rdo 4) (H.os 4) cG _ (H.gt 13)) ?_
 rintro vq dP ⟨aV,aJ,cH,hvq,ac⟩
 subst cH
 subst vq
 try dsimp only at hM
 replace H:=H.bk ac
 clear ac
 refine zM (.tuple #[I aV,I aJ]) rfl ?_
 refine zX [I aV,I aJ] (I aV) rfl rfl ?_
 refine zX [I aV,I aJ] (I aJ) rfl rfl ?_
 refine zA (I aV) rfl ?_
 refine zA (I aJ) rfl ?_
 refine s_nil ?_
 refine W.seq ?_
 refine W.seq ?_
 refine W.region rfl ?_
 refine zM (I aI) rfl ?_
 refine zM (I aJ) rfl ?_
 refine zC aI aJ (aI != aJ) rfl rfl rfl ?_
 refine zM (B (aI != aJ)) rfl ?_
 refine g_val (!(aI != aJ)) (gy_f rfl) (fun hg=>x_mv (v:=I aU) rfl) ?_
 refine g_val (!(aI != aJ)) (gy_f rfl) (fun hg=>x_mv (v:=I aV) rfl) ?_
 refine g_val (!(aI != aJ)) (gy_f rfl) (fun hg=>x_cmp (kd:=.i64) (a:=aU) (b:=aV) (r:=aU != aV) (gd_of (c:=!(aI != aJ)) hg (I aU)) (gd_of (c:=!(aI != aJ)) hg (I aV)) rfl) ?_
 refine s_val (x_por (b:=aI != aJ) (r:=aU != aV) rfl rfl (fun hb=>gd_of (c:=!(aI != aJ)) (by first | exact hb | (rw [hb]; rfl) | simp_all) (B (aU != aV)))) ?_
 refine s_nil ?_
 refine W.cond ((aI != aJ)||(aU != aV)) rfl (fun bK=>?_) (fun bK=>?_)
 ·replace hM:=M.e_t hM bK
  refine W.seq ?_
  refine W.region rfl ?_
  refine zA (B false) rfl ?_
  refine s_nil ?_
  replace H:=H.pk []
  refine W.ret ?_
  have aA:=M.e_pure hM
  exact ⟨_,resE_tmp rfl,⟨false,aA,rfl,H⟩⟩
 replace hM:=M.e_f hM bK
 refine W.skip ?_
 refine W.seq ?_
 refine W.region rfl ?_
 refine s_val (x_ld (p:=Pq aO) (v:=.agg #[ap,aq,au]) rfl (ldb_ag (ds:=[ap,aq,au]) Ag27 Sz27 (H.bl 5) rfl rfl)) ?_
 refine zM (I a) rfl ?_
 refine zM (I b) rfl ?_
 obtain ⟨dQ,cI,hM⟩:=M.e_bind hM
 refine s_call cf30 [.agg #[ap,aq,au],I a,I b] rfl (zdn r0 r1 aQ a b (Reads.sup (rdo 8) (Reads.of (k:=9) rfl roLe)) (rowSl rfl (H.get (k:=8) rfl) (roLe _ (H.get (k:=9) rfl)) a8) (rdo 10) (H.os 10) (rdo 11) (H.os 11) cI _ (H.gt 13)) ?_
 rintro vq dR ⟨aW,aK,cJ,hvq,ac⟩
 subst cJ
 subst vq
 try dsimp only at hM
 replace H:=H.bk ac
 clear ac
 refine zM (.tuple #[B aW,I aK]) rfl ?_
 refine zX [B aW,I aK] (B aW) rfl rfl ?_
 refine zX [B aW,I aK] (I aK) rfl rfl ?_
 refine zA (B aW) rfl ?_
 refine zA (I aK) rfl ?_
 refine s_nil ?_
 refine W.seq ?_
 refine W.region rfl ?_
 refine s_val (x_ld (p:=Pq aP) (v:=.agg #[av,aw,ax]) rfl (ldb_ag (ds:=[av,aw,ax]) Ag81 Sz81 (H.bl 0) rfl rfl)) ?_
 refine zM (I a) rfl ?_
 refine zM (I b) rfl ?_
 obtain ⟨dS,cK,hM⟩:=M.e_bind hM
 refine s_call cf31 [.agg #[av,aw,ax],I a,I b] rfl (zdU ba aS aT a b (Reads.sup (rdo 1) (Reads.of (k:=2) rfl roLe)) (rowSl rfl (H.get (k:=1) rfl) (roLe _ (H.get (k:=2) rfl)) bb) (rdo 3) (H.os 3) (rdo 4) (H.os 4) cK _ (H.gt 13)) ?_
 rintro vq dT ⟨aX,aL,cL,hvq,ac⟩
 subst cL
 subst vq
 try dsimp only at hM
 replace H:=H.bk ac
 clear ac
 refine zM (.tuple #[B aX,I aL]) rfl ?_
 refine zX [B aX,I aL] (B aX) rfl rfl ?_
 refine zX [B aX,I aL] (I aL) rfl rfl ?_
 refine zA (B aX) rfl ?_
 refine zA (I aL) rfl ?_
 refine s_nil ?_
 refine W.seq ?_
 refine W.seq ?_
 refine W.region rfl ?_
 refine zM (I aK) rfl ?_
 refine zM (I aL) rfl ?_
 refine zC aK aL (aK != aL) rfl rfl rfl ?_
 refine zM (B (aK != aL)) rfl ?_
 refine g_val (!(aK != aL)) (gy_f rfl) (fun hg=>x_mv (v:=B aW) rfl) ?_
 refine g_val (!(aK != aL)) (gy_f rfl) (fun hg=>x_mv (v:=B aX) rfl) ?_
 refine g_val (!(aK != aL)) (gy_f rfl) (fun hg=>x_eqb (a:=aW) (b:=aX) (r:=(aW != aX)) (gd_of (c:=!(aK != aL)) hg (B aW)) (gd_of (c:=!(aK != aL)) hg (B aX)) Tryz.underlying4 rfl) ?_
 refine s_val (x_por (b:=aK != aL) (r:=(aW != aX)) rfl rfl (fun hb=>gd_of (c:=!(aK != aL)) (by first | exact hb | (rw [hb]; rfl) | simp_all) (B (aW != aX)))) ?_
 refine s_nil ?_
 refine W.cond ((aK != aL)||(aW != aX)) rfl (fun bL=>?_) (fun bL=>?_)
 ·replace hM:=M.e_t hM bL
  refine W.seq ?_
  refine W.region rfl ?_
  refine zA (B false) rfl ?_
  refine s_nil ?_
  replace H:=H.pk []
  refine W.ret ?_
  have aA:=M.e_pure hM
  exact ⟨_,resE_tmp rfl,⟨false,aA,rfl,H⟩⟩
 replace hM:=M.e_f hM bL
 refine W.skip ?_
 refine W.seq ?_
 refine W.region rfl ?_
 refine s_val (x_ld (p:=Pq aO) (v:=.agg #[ap,aq,au]) rfl (ldb_ag (ds:=[ap,aq,au]) Ag27 Sz27 (H.bl 5) rfl rfl)) ?_
 obtain ⟨dU,cM,hM⟩:=M.e_bind hM
 refine s_call cf10 [.agg #[ap,aq,au]] rfl (zc7 r0 r1 aQ (Reads.sup (rdo 8) (Reads.of (k:=9) rfl roLe)) (rowSl rfl (H.get (k:=8) rfl) (roLe _ (H.get (k:=9) rfl)) a8) (rdo 10) (H.os 10) (rdo 11) (H.os 11) cM _ (H.gt 13)) ?_
 rintro vq dV ⟨aa,ae,aj,cN,hvq,ac⟩
 subst cN
 subst vq
 try dsimp only at hM
 replace H:=H.bk ac
 clear ac
 refine zM (.tuple #[aj,I ae]) rfl ?_
 refine zX [aj,I ae] aj rfl rfl ?_
 refine zX [aj,I ae] (I ae) rfl rfl ?_
 refine zA aj rfl ?_
 refine zA (I ae) rfl ?_
 refine s_nil ?_
 refine W.seq ?_
 refine W.region rfl ?_
 refine s_val (x_ld (p:=Pq aP) (v:=.agg #[av,aw,ax]) rfl (ldb_ag (ds:=[av,aw,ax]) Ag81 Sz81 (H.bl 1) rfl rfl)) ?_
 obtain ⟨dW,cO,hM⟩:=M.e_bind hM
 refine s_call cf32 [.agg #[av,aw,ax]] rfl (zdL ba aS aT (Reads.sup (rdo 2) (Reads.of (k:=3) rfl roLe)) (rowSl rfl (H.get (k:=2) rfl) (roLe _ (H.get (k:=3) rfl)) bb) (rdo 4) (H.os 4) (rdo 5) (H.os 5) cO _ (H.gt 14)) ?_
 rintro vq dX ⟨ak,ab,cP,hvq,ac⟩
 subst cP
 subst vq
 try dsimp only at hM
 replace H:=H.bk ac
 clear ac
 refine zM (.tuple #[I ak,I ab]) rfl ?_
 refine zX [I ak,I ab] (I ak) rfl rfl ?_
 refine zX [I ak,I ab] (I ab) rfl rfl ?_
 refine zA (I ak) rfl ?_
 refine zA (I ab) rfl ?_
 refine s_nil ?_
 refine W.seq ?_
 refine W.region rfl ?_
 refine s_val (x_ld (p:=Pq aO) (v:=.agg #[ap,aq,au]) rfl (ldb_ag (ds:=[ap,aq,au]) Ag27 Sz27 (H.bl 6) rfl rfl)) ?_
 obtain ⟨dY,cQ,hM⟩:=M.e_bind hM
 refine s_call cf11 [.agg #[ap,aq,au]] rfl (zdG r0 r1 aQ (Reads.sup (rdo 9) (Reads.of (k:=10) rfl roLe)) (rowSl rfl (H.get (k:=9) rfl) (roLe _ (H.get (k:=10) rfl)) a8) (rdo 11) (H.os 11) (rdo 12) (H.os 12) cQ _ (H.gt 14)) ?_
 rintro vq dZ ⟨bf,ay,aY,bZ,b4,cR,hvq,ac,b5⟩
 subst cR
 subst vq
 try dsimp only at hM
 replace H:=H.bk ac
 clear ac
 refine zM (.tuple #[aY,I ay]) rfl ?_
 refine zX [aY,I ay] aY rfl rfl ?_
 refine zX [aY,I ay] (I ay) rfl rfl ?_
 refine zA aY rfl ?_
 refine zA (I ay) rfl ?_
 refine s_nil ?_
 refine W.seq ?_
 refine W.seq ?_
 refine W.region rfl ?_
 refine zM (I ae) rfl ?_
 refine zM (I ab) rfl ?_
 refine zC ae ab (ae != ab) rfl rfl rfl ?_
 refine zM (B (ae != ab)) rfl ?_
 refine g_val (!(ae != ab)) (gy_f rfl) (fun hg=>x_mv (v:=I ay) rfl) ?_
 refine g_val (!(ae != ab)) (gy_f rfl) (fun hg=>x_mv (v:=I ab) rfl) ?_
 refine g_val (!(ae != ab)) (gy_f rfl) (fun hg=>x_cmp (kd:=.i64) (a:=ay) (b:=ab) (r:=ay != ab) (gd_of (c:=!(ae != ab)) hg (I ay)) (gd_of (c:=!(ae != ab)) hg (I ab)) rfl) ?_
 refine s_val (x_por (b:=ae != ab) (r:=ay != ab) rfl rfl (fun hb=>gd_of (c:=!(ae != ab)) (by first | exact hb | (rw [hb]; rfl) | simp_all) (B (ay != ab)))) ?_
 refine zM (B ((ae != ab)||(ay != ab))) rfl ?_
 refine g_val (!((ae != ab)||(ay != ab))) (gy_f rfl) (fun hg=>x_mv (v:=aj) rfl) ?_
 refine g_val (!((ae != ab)||(ay != ab))) (gy_f rfl) (fun hg=>x_lenS T28.und (gd_of (c:=!((ae != ab)||(ay != ab))) hg (aj)) (H.os 2)) ?_
 refine g_val (!((ae != ab)||(ay != ab))) (gy_f rfl) (fun hg=>x_mv (v:=I ak) rfl) ?_
 refine g_val (!((ae != ab)||(ay != ab))) (gy_f rfl) (fun hg=>x_cmp (kd:=.i64) (a:=(aa.length:Int)) (b:=ak) (r:=(aa.length:Int) != ak) (gd_of (c:=!((ae != ab)||(ay != ab))) hg (I (aa.length:Int))) (gd_of (c:=!((ae != ab)||(ay != ab))) hg (I ak)) rfl) ?_
 refine s_val (x_por (b:=((ae != ab)||(ay != ab))) (r:=(aa.length:Int) != ak) rfl rfl (fun hb=>gd_of (c:=!((ae != ab)||(ay != ab))) (by first | exact hb | (rw [hb]; rfl) | simp_all) (B ((aa.length:Int) != ak)))) ?_
 refine zM (B (((ae != ab)||(ay != ab))||((aa.length:Int) != ak))) rfl ?_
 refine g_val (!(((ae != ab)||(ay != ab))||((aa.length:Int) != ak))) (gy_f rfl) (fun hg=>x_mv (v:=aY) rfl) ?_
 refine g_val (!(((ae != ab)||(ay != ab))||((aa.length:Int) != ak))) (gy_f rfl) (fun hg=>x_lenS T38.und (gd_of (c:=!(((ae != ab)||(ay != ab))||((aa.length:Int) != ak))) hg (aY)) (rowSl rfl (H.get (k:=0) rfl) (roLe _ (H.get (k:=1) rfl)) b5)) ?_
 refine g_val (!(((ae != ab)||(ay != ab))||((aa.length:Int) != ak))) (gy_f rfl) (fun hg=>x_mv (v:=I ak) rfl) ?_
 refine g_val (!(((ae != ab)||(ay != ab))||((aa.length:Int) != ak))) (gy_f rfl) (fun hg=>x_cmp (kd:=.i64) (a:=(bf.length:Int)) (b:=ak) (r:=(bf.length:Int) != ak) (gd_of (c:=!(((ae != ab)||(ay != ab))||((aa.length:Int) != ak))) hg (I (bf.length:Int))) (gd_of (c:=!(((ae != ab)||(ay != ab))||((aa.length:Int) != ak))) hg (I ak)) rfl) ?_
 refine s_val (x_por (b:=(((ae != ab)||(ay != ab))||((aa.length:Int) != ak))) (r:=(bf.length:Int) != ak) rfl rfl (fun hb=>gd_of (c:=!(((ae != ab)||(ay != ab))||((aa.length:Int) != ak))) (by first | exact hb | (rw [hb]; rfl) | simp_all) (B ((bf.length:Int) != ak)))) ?_
 refine s_nil ?_
 refine W.cond ((((ae != ab)||(ay != ab))||((aa.length:Int) != ak))||((bf.length:Int) != ak)) rfl (fun bM=>?_) (fun bM=>?_)
 ·replace hM:=M.e_t hM bM
  refine W.seq ?_
  refine W.region rfl ?_
  refine zA (B false) rfl ?_
  refine s_nil ?_
  replace H:=H.pk []
  refine W.ret ?_
  have aA:=M.e_pure hM
  exact ⟨_,resE_tmp rfl,⟨false,aA,rfl,H⟩⟩
 replace hM:=M.e_f hM bM
 refine W.skip ?_
 refine W.seqJ (fun σ W=>∃ (ρ:Env),σ=upds ρ [(5,I many),(6,aG),(7,Pq aM),(16,Pq aO),(17,aR),(18,Pq aP)]/\(zaF s_Sections s_Marks s_Reaches many rows r0 r1 aQ r5 ba aS aT aa).Ends r/\St w W [cOwn (α:=Int) 3 aj aa,cBlk aP [av,aw,ax] 81,cOwn (α:=Raw 1) 148 av bF,cRo bG,cOwn (α:=Mrk) 150 aw aS,cOwn (α:=Rch) 151 ax aT,cBlk aO [ap,aq,au] 27,cOwn (α:=Raw 0) 28 aR bD,cRo bE,cOwn (α:=Raw 1) 68 ap bB,cRo bC,cOwn (α:=Mrk) 70 aq r1,cOwn (α:=Rch) 58 au aQ,cBlk aM [aD,aC,aE] 27] R) ?_ ?_
 ·skip
  refine W.seq ?_
  refine W.region rfl ?_
  refine zM (I ae) rfl ?_
  refine zC ae 0 (ae==0) rfl rfl rfl ?_
  refine s_nil ?_
  refine W.cond (ae==0) rfl (fun bq=>?_) (fun bq=>?_)
  ·replace hM:=M.e_t hM bq
   simp only [qy1,qy2,qy3,qy4,qy5,qy6,ne_eq,qy7] at bq
   refine W.seq ?_
   refine W.seq ?_
   refine W.region rfl ?_
   refine zA (I 0) rfl ?_
   refine s_nil ?_
   refine W.block ?_
   obtain ⟨cS,bN,b6⟩:=M.e_bind hM
   obtain ⟨ce,bN⟩:=M.e_iter bN
   refine W.loop (fun m σ W=>∃ (i2:Nat) (ρ:Env),σ=upds ρ [(5,I many),(6,aG),(7,Pq aM),(16,Pq aO),(17,aR),(18,Pq aP),(19,I ak),(25,aj),(26,aY),(28,I (i2:Int))]/\M.iterN (zaY s_Marks aa) m i2=some cS/\St w W [cOwn (α:=Raw 0) 28 aY bZ,cRo b4,cOwn (α:=Int) 3 aj aa,cBlk aP [av,aw,ax] 81,cOwn (α:=Raw 1) 148 av bF,cRo bG,cOwn (α:=Mrk) 150 aw aS,cOwn (α:=Rch) 151 ax aT,cBlk aO [ap,aq,au] 27,cOwn (α:=Raw 0) 28 aR bD,cRo bE,cOwn (α:=Raw 1) 68 ap bB,cRo bC,cOwn (α:=Mrk) 70 aq r1,cOwn (α:=Rch) 58 au aQ,cBlk aM [aD,aC,aE] 27] R) ?_ ?_
   ·exact ⟨_,0,_,upds_of _ _ ⟨rfl,rfl,rfl,rfl,rfl,rfl,rfl,rfl,rfl,rfl,trivial⟩,bN,H⟩
   rintro d7 σ d8 ⟨i2,ρ,rfl,b7,H⟩
   obtain ⟨cT,cU,d9,hM,bO⟩:=M.e_iterN b7
   simp only [zaY] at hM
   clear b7
   refine W.seq ?_
   refine W.seq ?_
   refine W.region rfl ?_
   refine zM (I (i2:Int)) rfl ?_
   refine zM aj rfl ?_
   have ed:=((H.os 2)).len_le
   refine s_val (x_lenS T28.und rfl (H.os 2)) ?_
   refine zC (i2:Int) (aa.length:Int) (decide ((i2:Int)<(aa.length:Int))) rfl rfl rfl ?_
   refine s_nil ?_
   refine W.cond (decide ((i2:Int)<(aa.length:Int))) rfl (fun br=>?_) (fun br=>?_)
   ·replace hM:=M.e_t hM br
    simp only [qy1,qy2,qy3,qy4,qy5,qy6,ne_eq,qy7] at br
    refine W.skip ?_
    refine W.seq ?_
    refine W.block ?_
    refine W.seq ?_
    refine W.draw (fun W=>St w W [cOwn (α:=Raw 0) 28 aY bZ,cRo b4,cOwn (α:=Int) 3 aj aa,cBlk aP [av,aw,ax] 81,cOwn (α:=Raw 1) 148 av bF,cRo bG,cOwn (α:=Mrk) 150 aw aS,cOwn (α:=Rch) 151 ax aT,cBlk aO [ap,aq,au] 27,cOwn (α:=Raw 0) 28 aR bD,cRo bE,cOwn (α:=Raw 1) 68 ap bB,cRo bC,cOwn (α:=Mrk) 70 aq r1,cOwn (α:=Rch) 58 au aQ,cBlk aM [aD,aC,aE] 27] R) [(0,true),(1,true),(2,true),(3,true),(4,true),(5,true),(6,true),(7,true),(8,true),(9,true),(10,true),(11,true),(12,true),(13,true),(14,true),(15,true),(16,true),(17,true),(18,true),(19,true),(20,true),(21,true),(22,true),(23,true),(24,true),(25,true),(26,true),(27,true),(28,true),(29,true),(30,true)] mixed (by decide +kernel) rfl ?_
    intro ef az
    replace H:=H.ext az
    clear az
    refine ⟨(H.pk [0,1,2,3,4,5,6,7,8,9,10,11,12,13,14,15]),?_⟩
    refine d_q rfl (fun w' H=>x_mv (v:=aj) rfl) ?_
    refine d_q rfl (fun w' H=>x_mv (v:=I (i2:Int)) rfl) ?_
    obtain ⟨cV,hM⟩:=M.e_grd hM
    simp only [Bool.and_eq_true,decide_eq_true_eq] at cV
    refine d_q rfl (fun w' H=>x_ix (a:=aj) (b:=I (i2:Int)) (v:=vat aj 1 (Int.toNat (i2:Int))) rfl rfl (Sl.ix (α:=Int) T28.und T28.size (H.os 2) (by omega) (by omega))) ?_
    refine d_q rfl (fun w' H=>x_ld (p:=vat aj 1 (Int.toNat (i2:Int))) (v:=I (aa.getD i2 0)) rfl (ld_sc Sc3 (At.mono (Int_at (H.os 2) (i:=(i2:Int)) (by omega) (by omega)) (H.ol 2)))) ?_
    refine d_q rfl (fun w' H=>x_cmp (kd:=.i64) (a:=aa.getD i2 0) (b:=0) (r:=decide ((aa.getD i2 0)<0)) rfl rfl rfl) ?_
    refine d_q rfl (fun w' H=>x_mv (v:=B (decide ((aa.getD i2 0)<0))) rfl) ?_
    refine d_qg (!(decide ((aa.getD i2 0)<0))) rfl (gy_f rfl) (fun hg=>(fun w' H=>x_mv (v:=aj) rfl)) ?_
    refine d_qg (!(decide ((aa.getD i2 0)<0))) rfl (gy_f rfl) (fun hg=>(fun w' H=>x_mv (v:=I (i2:Int)) rfl)) ?_
    refine d_qg (!(decide ((aa.getD i2 0)<0))) rfl (gy_f rfl) (fun hg=>(fun w' H=>x_ix (a:=aj) (b:=I (i2:Int)) (v:=vat aj 1 (Int.toNat (i2:Int))) (gd_of (c:=!(decide ((aa.getD i2 0)<0))) hg (aj)) (gd_of (c:=!(decide ((aa.getD i2 0)<0))) hg (I (i2:Int))) (Sl.ix (α:=Int) T28.und T28.size (H.os 2) (by first | omega | (have az:=hg; simp at az; omega)) (by first | omega | (have az:=hg; simp at az; omega))))) ?_
    refine d_qg (!(decide ((aa.getD i2 0)<0))) rfl (gy_f rfl) (fun hg=>(fun w' H=>x_ld (p:=vat aj 1 (Int.toNat (i2:Int))) (v:=I (aa.getD i2 0)) (gd_of (c:=!(decide ((aa.getD i2 0)<0))) hg (vat aj 1 (Int.toNat (i2:Int)))) (ld_sc Sc3 (At.mono (Int_at (H.os 2) (i:=(i2:Int)) (by first | omega | (have az:=hg; simp at az; omega)) (by first | omega | (have az:=hg; simp at az; omega))) (H.ol 2))))) ?_
    refine d_qg (!(decide ((aa.getD i2 0)<0))) rfl (gy_f rfl) (fun hg=>(fun w' H=>x_fa (a:=Pq aM) (v:=Oq aM 1) rfl (fa_blk (o:=0) Fd27_1 Sz24))) ?_
    refine d_qg (!(decide ((aa.getD i2 0)<0))) rfl (gy_f rfl) (fun hg=>(fun w' H=>x_ld (p:=Oq aM 1) (v:=aC) (gd_of (c:=!(decide ((aa.getD i2 0)<0))) hg (Oq aM 1)) (ldb_sc Sc24 (H.bl 15) rfl))) ?_
    have eg:=(bj).len_le
    refine d_qg (!(decide ((aa.getD i2 0)<0))) rfl (gy_f rfl) (fun hg=>(fun w' H=>x_lenS T24.und (gd_of (c:=!(decide ((aa.getD i2 0)<0))) hg (aC)) bj)) ?_
    refine d_qg (!(decide ((aa.getD i2 0)<0))) rfl (gy_f rfl) (fun hg=>(fun w' H=>x_cmp (kd:=.i64) (a:=aa.getD i2 0) (b:=(s_Marks.length:Int)) (r:=decide ((s_Marks.length:Int)<=(aa.getD i2 0))) (gd_of (c:=!(decide ((aa.getD i2 0)<0))) hg (I (aa.getD i2 0))) (gd_of (c:=!(decide ((aa.getD i2 0)<0))) hg (I (s_Marks.length:Int))) rfl)) ?_
    refine d_q rfl (fun w' H=>x_por (b:=decide ((aa.getD i2 0)<0)) (r:=decide ((s_Marks.length:Int)<=(aa.getD i2 0))) rfl rfl (fun hb=>gd_of (c:=!(decide ((aa.getD i2 0)<0))) (by first | exact hb | (rw [hb]; rfl) | simp_all) (B (decide ((s_Marks.length:Int)<=(aa.getD i2 0)))))) ?_
    refine d_q rfl (fun w' H=>x_mv (v:=B ((decide ((aa.getD i2 0)<0))||(decide ((s_Marks.length:Int)<=(aa.getD i2 0))))) rfl) ?_
    refine d_qg (!((decide ((aa.getD i2 0)<0))||(decide ((s_Marks.length:Int)<=(aa.getD i2 0))))) rfl (gy_f rfl) (fun hg=>(fun w' H=>x_mv (v:=I (i2:Int)) rfl)) ?_
    refine d_qg (!((decide ((aa.getD i2 0)<0))||(decide ((s_Marks.length:Int)<=(aa.getD i2 0))))) rfl (gy_f rfl) (fun hg=>(fun w' H=>x_cmp (kd:=.i64) (a:=(i2:Int)) (b:=0) (r:=decide (0<(i2:Int))) (gd_of (c:=!((decide ((aa.getD i2 0)<0))||(decide ((s_Marks.length:Int)<=(aa.getD i2 0))))) hg (I (i2:Int))) rfl rfl)) ?_
    refine d_qg (!((decide ((aa.getD i2 0)<0))||(decide ((s_Marks.length:Int)<=(aa.getD i2 0))))) rfl (gy_f rfl) (fun hg=>(fun w' H=>x_mv (v:=B (decide (0<(i2:Int)))) (gd_of (c:=!((decide ((aa.getD i2 0)<0))||(decide ((s_Marks.length:Int)<=(aa.getD i2 0))))) hg (B (decide (0<(i2:Int))))))) ?_
    refine d_qg ((!((decide ((aa.getD i2 0)<0))||(decide ((s_Marks.length:Int)<=(aa.getD i2 0)))))&&(decide (0<(i2:Int)))) rfl (gy_gt rfl rfl) (fun hg=>(fun w' H=>x_mv (v:=aj) rfl)) ?_
    refine d_qg ((!((decide ((aa.getD i2 0)<0))||(decide ((s_Marks.length:Int)<=(aa.getD i2 0)))))&&(decide (0<(i2:Int)))) rfl (gy_gt rfl rfl) (fun hg=>(fun w' H=>x_mv (v:=I (i2:Int)) rfl)) ?_
    refine d_qg ((!((decide ((aa.getD i2 0)<0))||(decide ((s_Marks.length:Int)<=(aa.getD i2 0)))))&&(decide (0<(i2:Int)))) rfl (gy_gt rfl rfl) (fun hg=>(fun w' H=>x_ix (a:=aj) (b:=I (i2:Int)) (v:=vat aj 1 (Int.toNat (i2:Int))) (gd_of (c:=((!((decide ((aa.getD i2 0)<0))||(decide ((s_Marks.length:Int)<=(aa.getD i2 0)))))&&(decide (0<(i2:Int))))) hg (aj)) (gd_of (c:=((!((decide ((aa.getD i2 0)<0))||(decide ((s_Marks.length:Int)<=(aa.getD i2 0)))))&&(decide (0<(i2:Int))))) hg (I (i2:Int))) (Sl.ix (α:=Int) T28.und T28.size (H.os 2) (by first | omega | (have az:=hg; simp at az; omega)) (by first | omega | (have az:=hg; simp at az; omega))))) ?_
    refine d_qg ((!((decide ((aa.getD i2 0)<0))||(decide ((s_Marks.length:Int)<=(aa.getD i2 0)))))&&(decide (0<(i2:Int)))) rfl (gy_gt rfl rfl) (fun hg=>(fun w' H=>x_ld (p:=vat aj 1 (Int.toNat (i2:Int))) (v:=I (aa.getD i2 0)) (gd_of (c:=((!((decide ((aa.getD i2 0)<0))||(decide ((s_Marks.length:Int)<=(aa.getD i2 0)))))&&(decide (0<(i2:Int))))) hg (vat aj 1 (Int.toNat (i2:Int)))) (ld_sc Sc3 (At.mono (Int_at (H.os 2) (i:=(i2:Int)) (by first | omega | (have az:=hg; simp at az; omega)) (by first | omega | (have az:=hg; simp at az; omega))) (H.ol 2))))) ?_
    refine d_qg ((!((decide ((aa.getD i2 0)<0))||(decide ((s_Marks.length:Int)<=(aa.getD i2 0)))))&&(decide (0<(i2:Int)))) rfl (gy_gt rfl rfl) (fun hg=>(fun w' H=>x_mv (v:=aj) rfl)) ?_
    refine d_qg ((!((decide ((aa.getD i2 0)<0))||(decide ((s_Marks.length:Int)<=(aa.getD i2 0)))))&&(decide (0<(i2:Int)))) rfl (gy_gt rfl rfl) (fun hg=>(fun w' H=>x_mv (v:=I (i2:Int)) rfl)) ?_
    obtain ⟨bc,hM⟩:=M.e_grd hM
    replace bc:=M.imp_of bc
    simp only [Bool.and_eq_true,decide_eq_true_eq] at bc
    refine d_qg ((!((decide ((aa.getD i2 0)<0))||(decide ((s_Marks.length:Int)<=(aa.getD i2 0)))))&&(decide (0<(i2:Int)))) rfl (gy_gt rfl rfl) (fun hg=>(fun w' H=>x_ari (a:=(i2:Int)) (b:=1) (r:=(i2:Int)-1) (gd_of (c:=((!((decide ((aa.getD i2 0)<0))||(decide ((s_Marks.length:Int)<=(aa.getD i2 0)))))&&(decide (0<(i2:Int))))) hg (I (i2:Int))) rfl rfl (by have aH:=bc.resolve_left (by rw [hg]; decide); first | exact aH | exact aH.1 | exact aH.2 | omega | (have az:=hg; simp at az; omega)))) ?_
    obtain ⟨bh,hM⟩:=M.e_grd hM
    replace bh:=M.imp_of bh
    simp only [Bool.and_eq_true,decide_eq_true_eq] at bh
    refine d_qg ((!((decide ((aa.getD i2 0)<0))||(decide ((s_Marks.length:Int)<=(aa.getD i2 0)))))&&(decide (0<(i2:Int)))) rfl (gy_gt rfl rfl) (fun hg=>(fun w' H=>x_ix (a:=aj) (b:=I ((i2:Int)-1)) (v:=vat aj 1 (Int.toNat ((i2:Int)-1))) (gd_of (c:=((!((decide ((aa.getD i2 0)<0))||(decide ((s_Marks.length:Int)<=(aa.getD i2 0)))))&&(decide (0<(i2:Int))))) hg (aj)) (gd_of (c:=((!((decide ((aa.getD i2 0)<0))||(decide ((s_Marks.length:Int)<=(aa.getD i2 0)))))&&(decide (0<(i2:Int))))) hg (I ((i2:Int)-1))) (Sl.ix (α:=Int) T28.und T28.size (H.os 2) (by have aH:=bc.resolve_left (by rw [hg]; decide); have aN:=bh.resolve_left (by rw [hg]; decide); first | exact aH | exact aH.1 | exact aH.2 | exact aN | exact aN.1 | exact aN.2 | omega | (have az:=hg; simp at az; omega)) (by have aH:=bc.resolve_left (by rw [hg]; decide); have aN:=bh.resolve_left (by rw [hg]; decide); first | exact aH | exact aH.1 | exact aH.2 | exact aN | exact aN.1 | exact aN.2 | omega | (have az:=hg; simp at az; omega))))) ?_
    refine d_qg ((!((decide ((aa.getD i2 0)<0))||(decide ((s_Marks.length:Int)<=(aa.getD i2 0)))))&&(decide (0<(i2:Int)))) rfl (gy_gt rfl rfl) (fun hg=>(fun w' H=>x_ld (p:=vat aj 1 (Int.toNat ((i2:Int)-1))) (v:=I (aa.getD (Int.toNat ((i2:Int)-1)) 0)) (gd_of (c:=((!((decide ((aa.getD i2 0)<0))||(decide ((s_Marks.length:Int)<=(aa.getD i2 0)))))&&(decide (0<(i2:Int))))) hg (vat aj 1 (Int.toNat ((i2:Int)-1)))) (ld_sc Sc3 (At.mono (Int_at (H.os 2) (i:=(i2:Int)-1) (by have aH:=bc.resolve_left (by rw [hg]; decide); have aN:=bh.resolve_left (by rw [hg]; decide); first | exact aH | exact aH.1 | exact aH.2 | exact aN | exact aN.1 | exact aN.2 | omega | (have az:=hg; simp at az; omega)) (by have aH:=bc.resolve_left (by rw [hg]; decide); have aN:=bh.resolve_left (by rw [hg]; decide); first | exact aH | exact aH.1 | exact aH.2 | exact aN | exact aN.1 | exact aN.2 | omega | (have az:=hg; simp at az; omega))) (H.ol 2))))) ?_
    refine d_qg ((!((decide ((aa.getD i2 0)<0))||(decide ((s_Marks.length:Int)<=(aa.getD i2 0)))))&&(decide (0<(i2:Int)))) rfl (gy_gt rfl rfl) (fun hg=>(fun w' H=>x_cmp (kd:=.i64) (a:=aa.getD i2 0) (b:=aa.getD (Int.toNat ((i2:Int)-1)) 0) (r:=decide ((aa.getD i2 0)<=(aa.getD (Int.toNat ((i2:Int)-1)) 0))) (gd_of (c:=((!((decide ((aa.getD i2 0)<0))||(decide ((s_Marks.length:Int)<=(aa.getD i2 0)))))&&(decide (0<(i2:Int))))) hg (I (aa.getD i2 0))) (gd_of (c:=((!((decide ((aa.getD i2 0)<0))||(decide ((s_Marks.length:Int)<=(aa.getD i2 0)))))&&(decide (0<(i2:Int))))) hg (I (aa.getD (Int.toNat ((i2:Int)-1)) 0))) rfl)) ?_
    refine d_qg (!((decide ((aa.getD i2 0)<0))||(decide ((s_Marks.length:Int)<=(aa.getD i2 0))))) rfl (gy_f rfl) (fun hg=>(fun w' H=>x_pand (b:=decide (0<(i2:Int))) (r:=decide ((aa.getD i2 0)<=(aa.getD (Int.toNat ((i2:Int)-1)) 0))) (gd_of (c:=!((decide ((aa.getD i2 0)<0))||(decide ((s_Marks.length:Int)<=(aa.getD i2 0))))) hg (B (decide (0<(i2:Int))))) (fun hb=>gd_of (c:=((!((decide ((aa.getD i2 0)<0))||(decide ((s_Marks.length:Int)<=(aa.getD i2 0)))))&&(decide (0<(i2:Int))))) (by first | exact hb | (rw [hb]; rfl) | simp_all) (B (decide ((aa.getD i2 0)<=(aa.getD (Int.toNat ((i2:Int)-1)) 0))))) rfl)) ?_
    refine d_q rfl (fun w' H=>x_por (b:=((decide ((aa.getD i2 0)<0))||(decide ((s_Marks.length:Int)<=(aa.getD i2 0))))) (r:=((decide (0<(i2:Int)))&&(decide ((aa.getD i2 0)<=(aa.getD (Int.toNat ((i2:Int)-1)) 0))))) rfl rfl (fun hb=>gd_of (c:=!((decide ((aa.getD i2 0)<0))||(decide ((s_Marks.length:Int)<=(aa.getD i2 0))))) (by first | exact hb | (rw [hb]; rfl) | simp_all) (B ((decide (0<(i2:Int)))&&(decide ((aa.getD i2 0)<=(aa.getD (Int.toNat ((i2:Int)-1)) 0))))))) ?_
    refine d_nil ?_
    refine W.cond (((decide ((aa.getD i2 0)<0))||(decide ((s_Marks.length:Int)<=(aa.getD i2 0))))||((decide (0<(i2:Int)))&&(decide ((aa.getD i2 0)<=(aa.getD (Int.toNat ((i2:Int)-1)) 0))))) rfl (fun bP=>?_) (fun bP=>?_)
    ·replace hM:=M.e_t hM bP
     refine W.seq ?_
     refine W.region rfl ?_
     refine zA (B false) rfl ?_
     refine s_nil ?_
     refine W.ret ?_
     have cW:=M.e_inr hM bO
     subst cW
     replace hM:=b6
     try dsimp only at hM
     have aA:=M.e_pure hM
     exact ⟨_,resE_tmp rfl,⟨false,aA,rfl,(H.pk [])⟩⟩
    replace hM:=M.e_f hM bP
    refine W.skip ?_
    refine W.region rfl ?_
    refine zM (I (i2:Int)) rfl ?_
    refine zR (i2:Int) 1 ((i2:Int)+1) rfl rfl rfl (by omega) ?_
    refine zA (I ((i2:Int)+1)) rfl ?_
    refine s_nil ?_
    exact ⟨cT,cU,i2+1,_,upds_of _ _ ⟨rfl,rfl,rfl,rfl,rfl,rfl,rfl,rfl,rfl,rfl,trivial⟩,M.e_inl hM bO,H⟩
   replace hM:=M.e_f hM br
   simp only [qy1,qy2,qy3,qy4,qy5,qy6,ne_eq,qy7] at br
   refine W.exit ?_
   have cX:=M.e_inr hM bO
   subst cX
   replace hM:=b6
   try dsimp only at hM
   refine W.seq ?_
   refine W.region rfl ?_
   refine s_val (x_ld (p:=Pq aP) (v:=.agg #[av,aw,ax]) rfl (ldb_ag (ds:=[av,aw,ax]) Ag81 Sz81 (H.bl 3) rfl rfl)) ?_
   refine zM (I ak) rfl ?_
   refine zM aY rfl ?_
   obtain ⟨eh,cY,hM⟩:=M.e_bind hM
   refine s_call cf33 [.agg #[av,aw,ax],I ak,aY] rfl (zdg ba aS aT ak bf (Reads.sup (rdo 4) (Reads.of (k:=5) rfl roLe)) (rowSl rfl (H.get (k:=4) rfl) (roLe _ (H.get (k:=5) rfl)) bb) (rdo 6) (H.os 6) (rdo 7) (H.os 7) (Reads.sup (rdo 0) (Reads.of (k:=1) rfl roLe)) (rowSl rfl (H.get (k:=0) rfl) (roLe _ (H.get (k:=1) rfl)) b5) cY _ (H.gt 16)) ?_
   rintro vq ei ⟨aF,aB,cZ,hvq,ac⟩
   subst cZ
   subst vq
   try dsimp only at hM
   replace H:=H.bk ac
   clear ac
   refine zM (.tuple #[B aF,I aB]) rfl ?_
   refine zX [B aF,I aB] (B aF) rfl rfl ?_
   refine zX [B aF,I aB] (I aB) rfl rfl ?_
   refine zA (B aF) rfl ?_
   refine zA (I aB) rfl ?_
   refine s_nil ?_
   replace H:=H.pk [2,3,4,5,6,7,8,9,10,11,12,13,14,15]
   refine W.seq ?_
   refine W.region rfl ?_
   refine zM (I aB) rfl ?_
   refine zC aB 0 (aB != 0) rfl rfl rfl ?_
   refine zM (B (aB != 0)) rfl ?_
   refine g_val (!(aB != 0)) (gy_f rfl) (fun hg=>x_mv (v:=B aF) rfl) ?_
   refine g_val (!(aB != 0)) (gy_f rfl) (fun hg=>x_not (b:=aF) (gd_of (c:=!(aB != 0)) hg (B aF))) ?_
   refine s_val (x_por (b:=aB != 0) (r:=!aF) rfl rfl (fun hb=>gd_of (c:=!(aB != 0)) (by first | exact hb | (rw [hb]; rfl) | simp_all) (B (!aF)))) ?_
   refine zM (B ((aB != 0)||(!aF))) rfl ?_
   refine g_val (!((aB != 0)||(!aF))) (gy_f rfl) (fun hg=>x_ld (p:=Pq aP) (v:=.agg #[av,aw,ax]) rfl (ldb_ag (ds:=[av,aw,ax]) Ag81 Sz81 (H.bl 1) rfl rfl)) ?_
   refine g_val (!((aB != 0)||(!aF))) (gy_f rfl) (fun hg=>x_mv (v:=aj) rfl) ?_
   obtain ⟨r8,c5,hM⟩:=M.e_bind hM
   refine t_gcall (!((aB != 0)||(!aF))) (gy_f rfl) cf34 (B r8) (fun _=>[.agg #[av,aw,ax],aj]) (fun hg=>lst2 (gd_of (c:=!((aB != 0)||(!aF))) hg (.agg #[av,aw,ax])) (gd_of (c:=!((aB != 0)||(!aF))) hg (aj))) H (fun hg=>(zdc ba aS aT aa (Reads.sup (rdo 2) (Reads.of (k:=3) rfl roLe)) (rowSl rfl (H.get (k:=2) rfl) (roLe _ (H.get (k:=3) rfl)) bb) (rdo 4) (H.os 4) (rdo 5) (H.os 5) (rdo 0) (H.os 0) (M.e_opt c5 hg) _ (H.give (A:=[]) rfl)).mono fun v_ w_ ⟨y_,aA,bi,H_⟩=>by subst aA; exact ⟨bi,H.via H_⟩) ?_
   intro ej H
   refine g_val (!((aB != 0)||(!aF))) (gy_f rfl) (fun hg=>x_not (b:=r8) (gd_of (c:=!((aB != 0)||(!aF))) hg (B r8))) ?_
   refine s_val (x_por (b:=((aB != 0)||(!aF))) (r:=!r8) rfl rfl (fun hb=>gd_of (c:=!((aB != 0)||(!aF))) (by first | exact hb | (rw [hb]; rfl) | simp_all) (B (!r8)))) ?_
   refine s_nil ?_
   refine W.cond (((aB != 0)||(!aF))||(!r8)) rfl (fun bQ=>?_) (fun bQ=>?_)
   ·replace hM:=M.e_t hM bQ
    refine W.seq ?_
    refine W.region rfl ?_
    refine zA (B false) rfl ?_
    refine s_nil ?_
    replace H:=H.pk []
    refine W.ret ?_
    have aA:=M.e_pure hM
    exact ⟨_,resE_tmp rfl,⟨false,aA,rfl,H⟩⟩
   replace hM:=M.e_f hM bQ
   refine W.skip ?_
   exact ⟨_,upds_of _ _ ⟨rfl,rfl,rfl,rfl,rfl,rfl,trivial⟩,hM,H⟩
  replace hM:=M.e_f hM bq
  simp only [qy1,qy2,qy3,qy4,qy5,qy6,ne_eq,qy7] at bq
  refine W.skip ?_
  exact ⟨_,upds_of _ _ ⟨rfl,rfl,rfl,rfl,rfl,rfl,trivial⟩,hM,(H.pk [2,3,4,5,6,7,8,9,10,11,12,13,14,15])⟩
 rintro _ em ⟨ρ,rfl,hM,H⟩
 unfold zaF at hM
 refine W.seq ?_
 refine W.region rfl ?_
 refine s_val (x_ld (p:=Pq aO) (v:=.agg #[ap,aq,au]) rfl (ldb_ag (ds:=[ap,aq,au]) Ag27 Sz27 (H.bl 6) rfl rfl)) ?_
 refine zM (I many) rfl ?_
 refine zM aR rfl ?_
 obtain ⟨eo,c6,hM⟩:=M.e_bind hM
 refine s_call cf12 [.agg #[ap,aq,au],I many,aR] rfl (zdy r0 r1 aQ many r5 (Reads.sup (rdo 9) (Reads.of (k:=10) rfl roLe)) (rowSl rfl (H.get (k:=9) rfl) (roLe _ (H.get (k:=10) rfl)) a8) (rdo 11) (H.os 11) (rdo 12) (H.os 12) (Reads.sup (rdo 7) (Reads.of (k:=8) rfl roLe)) (rowSl rfl (H.get (k:=7) rfl) (roLe _ (H.get (k:=8) rfl)) bY) c6 _ (H.gt 14)) ?_
 rintro vq ep ⟨am,ag,c7,hvq,ac⟩
 subst c7
 subst vq
 try dsimp only at hM
 replace H:=H.bk ac
 clear ac
 refine zM (.tuple #[B am,I ag]) rfl ?_
 refine zX [B am,I ag] (B am) rfl rfl ?_
 refine zX [B am,I ag] (I ag) rfl rfl ?_
 refine zA (B am) rfl ?_
 refine zA (I ag) rfl ?_
 refine s_nil ?_
 refine W.seq ?_
 refine W.region rfl ?_
 refine s_val (x_ld (p:=Pq aP) (v:=.agg #[av,aw,ax]) rfl (ldb_ag (ds:=[av,aw,ax]) Ag81 Sz81 (H.bl 1) rfl rfl)) ?_
 refine zM (I many) rfl ?_
 refine zM aG rfl ?_
 obtain ⟨er,c8,hM⟩:=M.e_bind hM
 refine s_call cf33 [.agg #[av,aw,ax],I many,aG] rfl (zdg ba aS aT many rows (Reads.sup (rdo 2) (Reads.of (k:=3) rfl roLe)) (rowSl rfl (H.get (k:=2) rfl) (roLe _ (H.get (k:=3) rfl)) bb) (rdo 4) (H.os 4) (rdo 5) (H.os 5) (bA.app _) a6 c8 _ (H.gt 14)) ?_
 rintro vq eu ⟨ao,ai,c9,hvq,ac⟩
 subst c9
 subst vq
 try dsimp only at hM
 replace H:=H.bk ac
 clear ac
 refine zM (.tuple #[B ao,I ai]) rfl ?_
 refine zX [B ao,I ai] (B ao) rfl rfl ?_
 refine zX [B ao,I ai] (I ai) rfl rfl ?_
 refine zA (B ao) rfl ?_
 refine zA (I ai) rfl ?_
 refine s_nil ?_
 replace H:=H.pk [6,7,8,9,10,11,12,13]
 refine W.seq ?_
 refine W.region rfl ?_
 refine zM (I ag) rfl ?_
 refine zM (I ai) rfl ?_
 refine zC ag ai (ag==ai) rfl rfl rfl ?_
 refine zM (B (ag==ai)) rfl ?_
 refine g_val (ag==ai) (gy_t rfl) (fun hg=>x_mv (v:=B am) rfl) ?_
 refine g_val (ag==ai) (gy_t rfl) (fun hg=>x_mv (v:=B ao) rfl) ?_
 refine g_val (ag==ai) (gy_t rfl) (fun hg=>x_eqb (a:=am) (b:=ao) (r:=(am==ao)) (gd_of (c:=ag==ai) hg (B am)) (gd_of (c:=ag==ai) hg (B ao)) Tryz.underlying4 rfl) ?_
 refine s_val (x_pand (b:=ag==ai) (r:=(am==ao)) rfl (fun hb=>gd_of (c:=ag==ai) (by first | exact hb | (rw [hb]; rfl) | simp_all) (B (am==ao))) rfl) ?_
 refine zM (B ((ag==ai)&&(am==ao))) rfl ?_
 refine g_val ((ag==ai)&&(am==ao)) (gy_t rfl) (fun hg=>x_ld (p:=Pq aO) (v:=.agg #[ap,aq,au]) rfl (ldb_ag (ds:=[ap,aq,au]) Ag27 Sz27 (H.bl 0) rfl rfl)) ?_
 refine g_val ((ag==ai)&&(am==ao)) (gy_t rfl) (fun hg=>x_ld (p:=Pq aM) (v:=.agg #[aD,aC,aE]) rfl (ldb_ag (ds:=[aD,aC,aE]) Ag27 Sz27 (H.bl 7) rfl rfl)) ?_
 obtain ⟨r9,da,hM⟩:=M.e_bind hM
 refine t_gcall ((ag==ai)&&(am==ao)) (gy_t rfl) cf35 (B r9) (fun _=>[.agg #[ap,aq,au],.agg #[aD,aC,aE]]) (fun hg=>lst2 (gd_of (c:=((ag==ai)&&(am==ao))) hg (.agg #[ap,aq,au])) (gd_of (c:=((ag==ai)&&(am==ao))) hg (.agg #[aD,aC,aE]))) H (fun hg=>(zd5 r0 r1 aQ s_Sections s_Marks s_Reaches (Reads.sup (rdo 3) (Reads.of (k:=4) rfl roLe)) (rowSl rfl (H.get (k:=3) rfl) (roLe _ (H.get (k:=4) rfl)) a8) (rdo 5) (H.os 5) (rdo 6) (H.os 6) (bu.app _) bv (bw.app _) bj (bx.app _) bz (M.e_opt da hg) _ (H.give (A:=[]) rfl)).mono fun v_ w_ ⟨y_,aA,bi,H_⟩=>by subst aA; exact ⟨bi,H.via H_⟩) ?_
 intro ew H
 refine s_val (x_pand (b:=((ag==ai)&&(am==ao))) (r:=r9) rfl (fun hb=>gd_of (c:=((ag==ai)&&(am==ao))) (by first | exact hb | (rw [hb]; rfl) | simp_all) (B r9)) rfl) ?_
 refine zM (B (((ag==ai)&&(am==ao))&&r9)) rfl ?_
 refine g_val (((ag==ai)&&(am==ao))&&r9) (gy_t rfl) (fun hg=>x_mv (v:=aR) rfl) ?_
 refine g_val (((ag==ai)&&(am==ao))&&r9) (gy_t rfl) (fun hg=>x_mv (v:=aG) rfl) ?_
 obtain ⟨a7,db,hM⟩:=M.e_bind hM
 refine t_gcall (((ag==ai)&&(am==ao))&&r9) (gy_t rfl) cf36 (B a7) (fun _=>[aR,aG]) (fun hg=>lst2 (gd_of (c:=(((ag==ai)&&(am==ao))&&r9)) hg (aR)) (gd_of (c:=(((ag==ai)&&(am==ao))&&r9)) hg (aG))) H (fun hg=>(zei r5 rows (Reads.sup (rdo 1) (Reads.of (k:=2) rfl roLe)) (rowSl rfl (H.get (k:=1) rfl) (roLe _ (H.get (k:=2) rfl)) bY) (bA.app _) a6 (M.e_opt db hg) _ (H.give (A:=[]) rfl)).mono fun v_ w_ ⟨y_,aA,bi,H_⟩=>by subst aA; exact ⟨bi,H.via H_⟩) ?_
 intro ey H
 refine s_val (x_pand (b:=(((ag==ai)&&(am==ao))&&r9)) (r:=a7) rfl (fun hb=>gd_of (c:=(((ag==ai)&&(am==ao))&&r9)) (by first | exact hb | (rw [hb]; rfl) | simp_all) (B a7)) rfl) ?_
 refine zM (B ((((ag==ai)&&(am==ao))&&r9)&&a7)) rfl ?_
 obtain ⟨bt,dc,hM⟩:=M.e_bind hM
 refine t_gcall ((((ag==ai)&&(am==ao))&&r9)&&a7) (gy_t rfl) cf16 (B bt) (fun _=>[]) (fun _=>rfl) H (fun hg=>(zcC (M.e_opt dc hg) _ (H.give (A:=[]) rfl)).mono fun v_ w_ ⟨y_,aA,bi,H_⟩=>by subst aA; exact ⟨bi,H.via H_⟩) ?_
 intro ez H
 refine s_val (x_pand (b:=((((ag==ai)&&(am==ao))&&r9)&&a7)) (r:=bt) rfl (fun hb=>gd_of (c:=((((ag==ai)&&(am==ao))&&r9)&&a7)) (by first | exact hb | (rw [hb]; rfl) | simp_all) (B bt)) rfl) ?_
 refine zA (B (((((ag==ai)&&(am==ao))&&r9)&&a7)&&bt)) rfl ?_
 refine s_nil ?_
 replace H:=H.pk []
 refine W.ret ?_
 have aA:=M.e_pure hM
 exact ⟨_,resE_tmp rfl,⟨(((((ag==ai)&&(am==ao))&&r9)&&a7)&&bt),aA,rfl,H⟩⟩

end Go.Proofs.YtlemgioaakecpaaGreat
end
namespace Go.Nm
open Classical in
/-- A loop that asks one place after the other, and stops at the first that is bad. -/
theorem M.scan {body:Nat->M (Nat ⊕ (Unit ⊕ Unit))} (n:Nat) (bad:Nat->Prop) (round:∀ i,i<n->(∀ j,j<i->¬bad j)->(body i).Out (fun x=>(bad i/\x = .inr (.inl ()))∨(¬bad i/\x = .inl (i+1)))) (last:(body n).Out (fun x=>x = .inr (.inr ()))) :
    (M.iter body 0).Out (fun z=>(z = .inl ()/\∃ i,i<n/\bad i)∨(z = .inr ()/\∀ i,i<n->¬bad i)):=by
  refine M.o_for n (fun i (s:Nat)=>s=i/\∀ j,j<i->¬bad j) ?_ ?_ ⟨rfl,fun j hj=>by omega⟩
  · rintro _ i hi ⟨rfl,hj⟩
    refine M.o_mono (round i hi hj) ?_
    rintro x (⟨h,rfl⟩ | ⟨h,rfl⟩)
    · exact .inl ⟨rfl,i,hi,h⟩
    · refine ⟨rfl,fun j hj'=>?_⟩
      by_cases e:j=i
      · subst e; exact h
      · exact hj j (by omega)
  · rintro _ ⟨rfl,hj⟩
    refine M.o_mono last ?_
    rintro x rfl
    exact .inr ⟨rfl,hj⟩
theorem nt {p:Prop} (h:p->False):¬p:=h
namespace Fl
/-- Rows, told place by place. -/
def RowsP (l:List FRow):Prop:=(∀ i,i<l.length->0<=(l.getD i default).stage/\(l.getD i default).stage<=2000/\0<=(l.getD i default).carry/\(l.getD i default).carry<=100000)/\∀ i,i+1<l.length->(l.getD i default).stage<(l.getD (i+1) default).stage/\(l.getD i default).carry<=(l.getD (i+1) default).carry
theorem rows_of:∀ l:List FRow,RowsP l->Rows l
  | [],_=>trivial
  | [a],h=>h.1 0 (by simp)
  | a :: b :: r,h=>by
    have h0:=h.1 0 (by simp)
    have h1:=h.2 0 (by simp)
    exact ⟨h0.1,h1.1,h0.2.2.1,h1.2,rows_of (b :: r) ⟨fun i hi=>by simpa using h.1 (i+1) (by simpa using hi),fun i hi=>by simpa using h.2 (i+1) (by simpa using hi)⟩⟩
theorem rows_iff {l:List FRow}:Rows l↔RowsP l:=by
  refine ⟨fun h=>⟨fun i hi=>?_,fun i hi=>⟨h.lt (by omega) hi,h.cm i hi⟩⟩,rows_of l⟩
  have:=h.el i hi
  omega
/-- As many of all as there may be. -/
def Cnt (S:List Sect) (M:List Mrk) (R:List Rch):Prop:=(2<=S.length/\S.length<=6)/\(1<=M.length/\M.length<=16)/\(1<=R.length/\R.length<=6)/\∀ i,i<S.length->2<=(S.getD i default).rows.length/\(S.getD i default).rows.length<=8
/-- What is asked of sections, one by one. -/
structure SecP (S:List Sect):Prop where
  e:∀ i,i<S.length->RowsP (S.getD i default).rows/\0<=(S.getD i default).place/\(S.getD i default).place<=10000
  u:∀ i,i+1<S.length->(S.getD i default).place<(S.getD (i+1) default).place
theorem site_iff {S:List Sect} {M:List Mrk} {R:List Rch} (hc:Cnt S M R):Site S M R↔SecP S/\(∀ x∈M,Mok x)/\∀ x∈R,Rok S x:=by
  obtain ⟨c1,c2,c3,c4⟩:=hc
  constructor
  · intro h
    exact ⟨⟨fun i hi=>⟨rows_iff.1 (h.s.rows i hi).1,h.s.place i hi⟩,fun i hi=>h.s.up i (i+1) (by omega) hi⟩,h.mks,h.rks⟩
  · rintro ⟨h1,h2,h3⟩
    refine ⟨⟨c1,fun i hi=>⟨rows_iff.2 (h1.e i hi).1,c4 i hi⟩,fun i hi=>(h1.e i hi).2,fun i j hij hj=>?_⟩,c2,c3,h2,h3⟩
    induction j with
    | zero=>omega
    | succ j ih =>
      have u:=h1.u j hj
      by_cases e:i=j
      · subst e; exact u
      · have:=ih (by omega) (by omega)
        omega
/-- The error of a site. -/
def CkE (S:List Sect) (M:List Mrk) (R:List Rch) (e:Int):Prop:=(¬Cnt S M R/\e=3)∨(Cnt S M R/\¬Site S M R/\e=70)∨(Cnt S M R/\Site S M R/\e=0)
theorem CkE.uniq {S:List Sect} {M:List Mrk} {R:List Rch} {e e':Int} (h:CkE S M R e) (h':CkE S M R e'):e=e':=by
  rcases h with ⟨a,b⟩ | ⟨a,b,c⟩ | ⟨a,b,c⟩ <;> rcases h' with ⟨a',b'⟩ | ⟨a',b',c'⟩ | ⟨a',b',c'⟩
  · omega
  · exact absurd a' a
  · exact absurd a' a
  · exact absurd a a'
  · omega
  · exact absurd b' b
  · exact absurd a a'
  · exact absurd b b'
  · omega
theorem CkE.zero {S:List Sect} {M:List Mrk} {R:List Rch} {e:Int} (h:CkE S M R e):e=0↔Site S M R:=by
  rcases h with ⟨a,b⟩ | ⟨a,b,c⟩ | ⟨a,b,c⟩
  · refine ⟨fun q=>by omega,fun q=>absurd ?_ a⟩
    exact ⟨q.s.n,q.m,q.r,fun i hi=>⟨(q.s.rows i hi).2.1,(q.s.rows i hi).2.2⟩⟩
  · exact ⟨fun q=>by omega,fun q=>absurd q b⟩
  · exact ⟨fun _=>b,fun _=>c⟩
end Fl
end Go.Nm
namespace Go.Proofs.YtlemgioaakecpaaGreat
open Go Go.Nm
section
variable {S:List Sect} {M':List Mrk} {R':List Rch} {ms:List Int} {r:Rch}
theorem inE (n a b:Int):(zab n a b).Out (fun x=>x=true↔a<=n/\n<=b):=by
  unfold zab
  refine M.o_pure ?_
  rw [Bool.and_eq_true,decide_eq_true_eq,decide_eq_true_eq]
theorem outE (n a b:Int):(zae n a b).Out (fun x=>x=true↔n<a∨b<n):=by
  unfold zae
  refine M.o_pure ?_
  rw [Bool.or_eq_true,decide_eq_true_eq,decide_eq_true_eq]
theorem optE {b:Bool} {m:M Bool} {p:Prop} (h:m.Out (fun x=>x=true↔p)):(M.opt b m false).Out (fun x=>x=true↔b=true/\p):=by
  refine M.o_opt (fun hb=>M.o_mono h fun x hx=>?_) (fun hb=>?_)
  · rw [hx,hb]; simp
  · rw [hb]; simp
theorem withinE (s:Span) (a b:Int):(zau s a b).Out (fun x=>x=true↔(a<=s.lo/\s.lo<=b)/\s.lo<=s.hi/\s.hi<=b):=by
  unfold zau
  refine M.o_bind (inE _ _ _) fun x hx=>M.o_bind (optE (inE _ _ _)) fun y hy=>M.o_pure ?_
  rw [Bool.and_eq_true,hy,hx]
  constructor
  · rintro ⟨q1,_,q2⟩; exact ⟨q1,q2⟩
  · rintro ⟨q1,q2⟩; exact ⟨q1,q1,q2⟩
theorem markE (m:Mrk):(zao m).Out (fun x=>x=true↔Fl.Mok m):=by
  unfold zao
  refine M.o_bind (inE _ _ _) fun x hx=>M.o_bind (optE (withinE _ _ _)) fun y hy=>M.o_pure ?_
  rw [Bool.and_eq_true,hy,hx]
  constructor
  · rintro ⟨q1,_,q2,q3⟩
    dsimp only at q2 q3
    exact ⟨q1.1,q1.2,q2.1,q3.1,q3.2⟩
  · intro h
    have:=h.p0
    have:=h.p1
    have:=h.l0
    have:=h.lh
    have:=h.h2
    refine ⟨by omega,by omega,?_,?_⟩ <;> dsimp only <;> omega
theorem reachE (r:Rch) (hS:S.length<=100):(zaT r (S.length:Int)).Out (fun x=>x=true↔Fl.Rok S r):=by
  unfold zaT
  refine M.o_grd (gA2 (by omega) (by omega)) (M.o_bind (inE _ _ _) fun x hx=>M.o_grd ?_ (M.o_bind (optE (inE _ _ _)) fun y hy=>M.o_bind (optE (withinE _ _ _)) fun z hz=>M.o_pure ?_))
  · cases x with
    | false=>rfl
    | true =>
      have:=hx.1 rfl
      exact gOr2 (by omega) (by omega)
  · rw [Bool.and_eq_true,hz,Bool.and_eq_true,hy,hx]
    constructor
    · rintro ⟨⟨q1,_,q2⟩,_,q3,q4⟩
      dsimp only at q3 q4
      exact ⟨q1.1,by omega,by omega,q3.1,q4.1,q4.2⟩
    · intro h
      have h1:=h.u0
      have h2:=h.ud
      have h3:=h.d1
      have h4:=h.l1
      have h5:=h.lh
      have h6:=h.h4
      have q1:0<=r.up/\r.up<=(S.length:Int)-1:=by omega
      have q2:r.up+1<=r.down/\r.down<=(S.length:Int)-1:=by omega
      refine ⟨⟨q1,q1,q2⟩,⟨q1,q1,q2⟩,?_,?_⟩ <;> dsimp only <;> omega
theorem sectE (x:Sect) (hx:x.rows.length<=100):(zaJ x).Out (fun b=>b=true↔Fl.RowsP x.rows/\0<=x.place/\x.place<=10000):=by
  unfold zaJ
  refine M.o_bind (P:=fun z=>match z with | .inl _=>¬Fl.RowsP x.rows | .inr _=>Fl.RowsP x.rows) ?_ ?_
  · refine M.o_for x.rows.length (fun i (s:Int × Int × Nat)=>s.2.2=i/\(∀ j,j<i->0<=(x.rows.getD j default).stage/\(x.rows.getD j default).stage<=2000/\0<=(x.rows.getD j default).carry/\(x.rows.getD j default).carry<=100000)/\(∀ j,j+1<i->(x.rows.getD j default).stage<(x.rows.getD (j+1) default).stage/\(x.rows.getD j default).carry<=(x.rows.getD (j+1) default).carry)/\(i=0->s.1 = -1/\s.2.1=0)/\∀ j,i=j+1->s.1=(x.rows.getD j default).stage/\s.2.1=(x.rows.getD j default).carry) ?_ ?_ (s:=(-1,0,0)) ⟨rfl,fun j hj=>by omega,fun j hj=>by omega,fun _=>⟨rfl,rfl⟩,fun j hj=>by omega⟩
    · rintro _ ⟨a,b,i⟩ hi ⟨rfl,h1,h2,h3,h4⟩
      dsimp only at hi h1 h2 h3 h4 ⊢
      have hab:-1<=a/\a<=2000/\0<=b:=by
        match i,h1,h3,h4 with
        | 0,_,h3,_=>have:=h3 rfl; omega
        | j+1,h1,_,h4 =>
          have q1:=h4 j rfl
          have q2:=h1 j (by omega)
          omega
      simp only [zax]
      refine M.o_t (decide_eq_true (by omega)) (M.o_grd (decide_eq_true (by omega)) (M.o_grd (gA2 (by omega) (by omega)) (M.o_bind (inE _ _ _) fun p hp=>M.o_bind (optE (inE _ _ _)) fun q hq=>M.o_if (fun hb=>?_) (fun hb=>?_))))
      · refine M.o_pure ?_
        show ¬Fl.RowsP x.rows
        intro h
        have e1:=h.1 i hi
        have e3:a+1<=(x.rows.getD i default).stage/\b<=(x.rows.getD i default).carry:=by
          match i,h3,h4,hi,e1 with
          | 0,h3,_,_,e1=>have:=h3 rfl; omega
          | j+1,_,h4,hi,_ =>
            have q1:=h4 j rfl
            have q2:=h.2 j hi
            omega
        have pt:p=true:=hp.2 ⟨e3.1,e1.2.1⟩
        have qt:q=true:=hq.2 ⟨by rw [pt]; rfl,e3.2,e1.2.2.2⟩
        rw [pt,qt] at hb
        cases hb
      · rw [Bool.or_eq_false_iff,Bool.not_eq_false',Bool.not_eq_false'] at hb
        have e1:=hp.1 hb.1
        have e2:=(hq.1 hb.2).2
        refine M.o_pure ⟨rfl,fun j hj=>?_,fun j hj=>?_,fun e=>by omega,fun j hj=>?_⟩
        · by_cases e:j=i
          · subst e; omega
          · exact h1 j (by omega)
        · by_cases e:j+1=i
          · have q:=h4 j e.symm
            subst e
            omega
          · exact h2 j (by omega)
        · obtain rfl:j=i:=by omega
          exact ⟨rfl,rfl⟩
    · rintro ⟨a,b,_⟩ ⟨rfl,h1,h2,_,_⟩
      simp only [zax]
      exact M.o_f (decide_eq_false (by omega)) (M.o_pure ⟨h1,h2⟩)
  · intro z hz
    match z,hz with
    | .inl _,hz=>exact M.o_pure ⟨fun q=>(by cases q),fun q=>absurd q.1 hz⟩
    | .inr _,hz =>
      refine M.o_bind (inE _ _ _) fun y hy=>M.o_pure ?_
      rw [hy]
      exact ⟨fun q=>⟨hz,q⟩,fun q=>q.2⟩
end
end Go.Proofs.YtlemgioaakecpaaGreat
namespace Go.Proofs.YtlemgioaakecpaaGreat
open Go Go.Nm
section
variable {S:List Sect} {M':List Mrk} {R':List Rch} {ms:List Int} {r:Rch}
theorem every_sectP (l:List Sect) (so:Sect->M Bool) (p:Sect->Prop) (h:∀ t∈l,(so t).Out (fun x=>x=true↔p t)):(zaG l so).Out (fun b=>b=true↔∀ t∈l,p t):=by
  unfold zaG zb8 zce
  refine M.o_bind (P:=fun b=>b=false↔∀ t∈l,p t) (M.o_bind (P:=fun i=>i<0↔∀ t∈l,p t) (M.o_bind (P:=fun z=>match z with | .inl i=>0<=i/\∃ t∈l,¬p t | .inr _=>∀ t∈l,p t) ?_ ?_) ?_) ?_
  · refine M.o_for l.length (fun i (s:Nat)=>s=i/\∀ j,j<i->p (l.getD j default)) ?_ ?_ ⟨rfl,fun j hj=>by omega⟩
    · rintro _ i hi ⟨rfl,hj⟩
      simp only [zaw]
      have hm:l.getD i default∈l:=by rw [getD_el l hi]; exact List.getElem_mem hi
      refine M.o_t (decide_eq_true (by omega)) (M.o_grd (decide_eq_true (by omega)) (M.o_bind (P:=fun x=>x=false↔p (l.getD i default)) ?_ fun x hx=>M.o_if (fun hb=>?_) (fun hb=>?_)))
      · unfold zbb
        exact M.o_bind (h _ hm) fun x hx=>M.o_pure (by rw [Bool.not_eq_false',hx])
      · exact M.o_pure ⟨by omega,_,hm,fun q=>by rw [hx.2 q] at hb; cases hb⟩
      · refine M.o_pure ⟨rfl,fun j hj'=>?_⟩
        by_cases e:j=i
        · subst e; exact hx.1 hb
        · exact hj j (by omega)
    · rintro _ ⟨rfl,hj⟩
      simp only [zaw]
      refine M.o_f (decide_eq_false (by omega)) (M.o_pure fun t ht=>?_)
      obtain ⟨i,hi,rfl⟩:=mem_getD ht default
      exact hj i hi
  · intro z hz
    match z,hz with
    | .inl i,hz =>
      refine M.o_pure ⟨fun q=>by have:=hz.1; omega,fun q=>?_⟩
      obtain ⟨_,t,ht,e⟩:=hz
      exact absurd (q t ht) e
    | .inr _,hz=>exact M.o_pure ⟨fun _=>hz,fun _=>by decide⟩
  · intro i hi
    refine M.o_pure ?_
    rw [decide_eq_false_iff_not,← hi]
    omega
  · intro b hb
    refine M.o_pure ?_
    rw [Bool.not_eq_true']
    exact hb
theorem every_markP (l:List Mrk) (so:Mrk->M Bool) (p:Mrk->Prop) (h:∀ t∈l,(so t).Out (fun x=>x=true↔p t)):(zaN l so).Out (fun b=>b=true↔∀ t∈l,p t):=by
  unfold zaN zbU zch
  refine M.o_bind (P:=fun b=>b=false↔∀ t∈l,p t) (M.o_bind (P:=fun i=>i<0↔∀ t∈l,p t) (M.o_bind (P:=fun z=>match z with | .inl i=>0<=i/\∃ t∈l,¬p t | .inr _=>∀ t∈l,p t) ?_ ?_) ?_) ?_
  · refine M.o_for l.length (fun i (s:Nat)=>s=i/\∀ j,j<i->p (l.getD j default)) ?_ ?_ ⟨rfl,fun j hj=>by omega⟩
    · rintro _ i hi ⟨rfl,hj⟩
      simp only [zas]
      have hm:l.getD i default∈l:=by rw [getD_el l hi]; exact List.getElem_mem hi
      refine M.o_t (decide_eq_true (by omega)) (M.o_grd (decide_eq_true (by omega)) (M.o_bind (P:=fun x=>x=false↔p (l.getD i default)) ?_ fun x hx=>M.o_if (fun hb=>?_) (fun hb=>?_)))
      · unfold zbq
        exact M.o_bind (h _ hm) fun x hx=>M.o_pure (by rw [Bool.not_eq_false',hx])
      · exact M.o_pure ⟨by omega,_,hm,fun q=>by rw [hx.2 q] at hb; cases hb⟩
      · refine M.o_pure ⟨rfl,fun j hj'=>?_⟩
        by_cases e:j=i
        · subst e; exact hx.1 hb
        · exact hj j (by omega)
    · rintro _ ⟨rfl,hj⟩
      simp only [zas]
      refine M.o_f (decide_eq_false (by omega)) (M.o_pure fun t ht=>?_)
      obtain ⟨i,hi,rfl⟩:=mem_getD ht default
      exact hj i hi
  · intro z hz
    match z,hz with
    | .inl i,hz =>
      refine M.o_pure ⟨fun q=>by have:=hz.1; omega,fun q=>?_⟩
      obtain ⟨_,t,ht,e⟩:=hz
      exact absurd (q t ht) e
    | .inr _,hz=>exact M.o_pure ⟨fun _=>hz,fun _=>by decide⟩
  · intro i hi
    refine M.o_pure ?_
    rw [decide_eq_false_iff_not,← hi]
    omega
  · intro b hb
    refine M.o_pure ?_
    rw [Bool.not_eq_true']
    exact hb
theorem every_reachP (l:List Rch) (so:Rch->M Bool) (p:Rch->Prop) (h:∀ t∈l,(so t).Out (fun x=>x=true↔p t)):(zaS l so).Out (fun b=>b=true↔∀ t∈l,p t):=by
  unfold zaS zbN zbM
  refine M.o_bind (P:=fun b=>b=false↔∀ t∈l,p t) (M.o_bind (P:=fun i=>i<0↔∀ t∈l,p t) (M.o_bind (P:=fun z=>match z with | .inl i=>0<=i/\∃ t∈l,¬p t | .inr _=>∀ t∈l,p t) ?_ ?_) ?_) ?_
  · refine M.o_for l.length (fun i (s:Nat)=>s=i/\∀ j,j<i->p (l.getD j default)) ?_ ?_ ⟨rfl,fun j hj=>by omega⟩
    · rintro _ i hi ⟨rfl,hj⟩
      simp only [zaz]
      have hm:l.getD i default∈l:=by rw [getD_el l hi]; exact List.getElem_mem hi
      refine M.o_t (decide_eq_true (by omega)) (M.o_grd (decide_eq_true (by omega)) (M.o_bind (P:=fun x=>x=false↔p (l.getD i default)) ?_ fun x hx=>M.o_if (fun hb=>?_) (fun hb=>?_)))
      · unfold zbj
        exact M.o_bind (h _ hm) fun x hx=>M.o_pure (by rw [Bool.not_eq_false',hx])
      · exact M.o_pure ⟨by omega,_,hm,fun q=>by rw [hx.2 q] at hb; cases hb⟩
      · refine M.o_pure ⟨rfl,fun j hj'=>?_⟩
        by_cases e:j=i
        · subst e; exact hx.1 hb
        · exact hj j (by omega)
    · rintro _ ⟨rfl,hj⟩
      simp only [zaz]
      refine M.o_f (decide_eq_false (by omega)) (M.o_pure fun t ht=>?_)
      obtain ⟨i,hi,rfl⟩:=mem_getD ht default
      exact hj i hi
  · intro z hz
    match z,hz with
    | .inl i,hz =>
      refine M.o_pure ⟨fun q=>by have:=hz.1; omega,fun q=>?_⟩
      obtain ⟨_,t,ht,e⟩:=hz
      exact absurd (q t ht) e
    | .inr _,hz=>exact M.o_pure ⟨fun _=>hz,fun _=>by decide⟩
  · intro i hi
    refine M.o_pure ?_
    rw [decide_eq_false_iff_not,← hi]
    omega
  · intro b hb
    refine M.o_pure ?_
    rw [Bool.not_eq_true']
    exact hb
theorem Check_out:(zat S M' R').Out (Fl.CkE S M' R'):=by
  unfold zat
  refine M.o_bind (inE _ _ _) fun a ha=>M.o_bind (optE (inE _ _ _)) fun b hb=>M.o_bind (optE (inE _ _ _)) fun c hc=>M.o_bind (P:=fun d=>d=true↔Fl.Cnt S M' R') ?_ fun d hd=>M.o_if (fun hn=>?_) (fun hn=>?_)
  · refine M.o_opt (fun hq=>?_) (fun hq=>?_)
    · rw [Bool.not_eq_true',Bool.or_eq_false_iff,Bool.or_eq_false_iff,Bool.not_eq_false',Bool.not_eq_false',Bool.not_eq_false'] at hq
      have e1:=ha.1 hq.1.1
      have e2:=(hb.1 hq.1.2).2
      have e3:=(hc.1 hq.2).2
      refine M.o_mono (every_sectP S (fun xqz=>zaR xqz) (fun x=>2<=x.rows.length/\x.rows.length<=8) fun t _=>?_) fun x hx=>?_
      · unfold zaR
        exact M.o_bind (inE _ _ _) fun y hy=>M.o_pure (by rw [hy]; omega)
      · rw [hx]
        constructor
        · intro q
          exact ⟨by omega,by omega,by omega,fun i hi=>q _ (by rw [getD_el S hi]; exact List.getElem_mem hi)⟩
        · rintro ⟨_,_,_,q⟩ t ht
          obtain ⟨i,hi,rfl⟩:=mem_getD ht default
          exact q i hi
    · rw [Bool.not_eq_false',Bool.or_eq_true,Bool.or_eq_true,Bool.not_eq_true',Bool.not_eq_true',Bool.not_eq_true'] at hq
      refine ⟨fun q=>(by cases q),fun q=>?_⟩
      obtain ⟨c1,c2,c3,_⟩:=q
      have a1:a=true:=ha.2 (by omega)
      have b1:b=true:=hb.2 ⟨by rw [a1]; rfl,by omega⟩
      have c1:c=true:=hc.2 ⟨by rw [a1,b1]; rfl,by omega⟩
      rw [a1,b1,c1] at hq
      simp at hq
  · refine M.o_pure (.inl ⟨fun q=>?_,rfl⟩)
    obtain ⟨c1,c2,c3,c4⟩:=id q
    have a1:a=true:=ha.2 (by omega)
    have b1:b=true:=hb.2 ⟨by rw [a1]; rfl,by omega⟩
    have c1:c=true:=hc.2 ⟨by rw [a1,b1]; rfl,by omega⟩
    rw [a1,b1,c1,hd.2 q] at hn
    cases hn
  · rw [Bool.or_eq_false_iff,Bool.not_eq_false'] at hn
    have cn:=hd.1 hn.2
    have cn':=cn
    obtain ⟨c1,c2,c3,c4⟩:=cn'
    refine M.o_bind (P:=fun z=>match z with | .inl _=>¬Fl.SecP S | .inr _=>Fl.SecP S) ?_ ?_
    · refine M.o_for S.length (fun i (s:Int × Nat)=>s.2=i/\(∀ j,j<i->Fl.RowsP (S.getD j default).rows/\0<=(S.getD j default).place/\(S.getD j default).place<=10000)/\(∀ j,j+1<i->(S.getD j default).place<(S.getD (j+1) default).place)/\(i=0->s.1 = -1)/\∀ j,i=j+1->s.1=(S.getD j default).place) ?_ ?_ (s:=(-1,0)) ⟨rfl,fun j hj=>by omega,fun j hj=>by omega,fun _=>rfl,fun j hj=>by omega⟩
      · rintro _ ⟨a,i⟩ hi ⟨rfl,h1,h2,h3,h4⟩
        dsimp only at hi h1 h2 h3 h4 ⊢
        simp only [zar]
        refine M.o_t (decide_eq_true (by omega)) (M.o_grd (decide_eq_true (by omega)) (M.o_bind (sectE _ (by have:=c4 i hi; omega)) fun p hp=>M.o_if (fun hb=>?_) (fun hb=>?_)))
        · refine M.o_pure ?_
          show ¬Fl.SecP S
          intro h
          have e1:=h.e i hi
          have pt:p=true:=hp.2 e1
          rw [pt] at hb
          have hb:(S.getD i default).place<=a:=by simpa using hb
          match i,h3,h4,hi,e1,hb with
          | 0,h3,_,_,e1,hb=>have:=h3 rfl; omega
          | j+1,_,h4,hi,_,hb =>
            have q1:=h4 j rfl
            have q2:=h.u j hi
            omega
        · rw [Bool.or_eq_false_iff,Bool.not_eq_false',decide_eq_false_iff_not] at hb
          have e1:=hp.1 hb.1
          refine M.o_pure ⟨rfl,fun j hj=>?_,fun j hj=>?_,fun e=>by omega,fun j hj=>?_⟩
          · by_cases e:j=i
            · subst e; exact e1
            · exact h1 j (by omega)
          · by_cases e:j+1=i
            · have q:=h4 j e.symm
              subst e
              omega
            · exact h2 j (by omega)
          · obtain rfl:j=i:=by omega
            rfl
      · rintro ⟨a,_⟩ ⟨rfl,h1,h2,_,_⟩
        simp only [zar]
        exact M.o_f (decide_eq_false (by omega)) (M.o_pure ⟨h1,h2⟩)
    · intro z hz
      match z,hz with
      | .inl _,hz=>exact M.o_pure (.inr (.inl ⟨cn,fun q=>hz ((Fl.site_iff cn).1 q).1,rfl⟩))
      | .inr _,hz =>
        refine M.o_bind (every_markP M' (fun xqz=>zao xqz) Fl.Mok fun t _=>markE t) fun x hx=>M.o_bind (P:=fun y=>y=true↔x=true/\∀ t∈R',Fl.Rok S t) ?_ fun y hy=>M.o_if (fun hb=>?_) (fun hb=>?_)
        · refine M.o_opt (fun hq=>?_) (fun hq=>?_)
          · rw [Bool.not_not] at hq
            refine M.o_mono (every_reachP R' (fun xqz=>zaE xqz S M' R') (Fl.Rok S) fun t _=>?_) fun z hz'=>?_
            · unfold zaE
              exact M.o_bind (reachE t (by omega)) fun y hy=>M.o_pure hy
            · rw [hz',hq]; simp
          · rw [Bool.not_not] at hq
            rw [hq]; simp
        · refine M.o_pure (.inr (.inl ⟨cn,fun q=>?_,rfl⟩))
          have s:=(Fl.site_iff cn).1 q
          have x1:x=true:=hx.2 s.2.1
          rw [x1,hy.2 ⟨x1,s.2.2⟩] at hb
          cases hb
        · rw [Bool.or_eq_false_iff,Bool.not_eq_false',Bool.not_eq_false'] at hb
          exact M.o_pure (.inr (.inr ⟨cn,(Fl.site_iff cn).2 ⟨hz,hx.1 hb.1,(hy.1 hb.2).2⟩,rfl⟩))
theorem rows_bad {l:List FRow}:¬Fl.RowsP l↔∃ k,k<l.length/\(((l.getD k default).stage<0∨2000<(l.getD k default).stage)∨((l.getD k default).carry<0∨100000<(l.getD k default).carry)∨(0<k/\((l.getD k default).stage<=(l.getD (k-1) default).stage∨(l.getD k default).carry<(l.getD (k-1) default).carry))):=by
  constructor
  · intro h
    refine Classical.byContradiction fun hc=>h ⟨fun i hi=>?_,fun i hi=>?_⟩
    · have:=nt fun q=>hc ⟨i,hi,q⟩
      omega
    · have:=nt fun q=>hc ⟨i+1,hi,q⟩
      rw [Nat.add_sub_cancel] at this
      omega
  · rintro ⟨k,hk,h⟩ hp
    have e:=hp.1 k hk
    match k,h,hk with
    | 0,h,_=>omega
    | k+1,h,hk =>
      have:=hp.2 k hk
      rw [Nat.add_sub_cancel] at h
      omega
theorem refCheck_out (hS:S.length<=1000) (hr:∀ x∈S,x.rows.length<=1000):(zal S M' R').Out (Fl.CkE S M' R'):=by
  unfold zal
  refine M.o_bind (outE _ _ _) fun a ha=>M.o_bind (optE (outE _ _ _)) fun b hb=>M.o_bind (optE (outE _ _ _)) fun c hc=>M.o_if (fun hn=>?_) (fun hn=>?_)
  · refine M.o_pure (.inl ⟨fun q=>?_,rfl⟩)
    obtain ⟨c1,c2,c3,c4⟩:=q
    rw [Bool.or_eq_true,Bool.or_eq_true] at hn
    rcases hn with (hn | hn) | hn
    · have:=ha.1 hn; omega
    · have:=(hb.1 hn).2; omega
    · have:=(hc.1 hn).2; omega
  · rw [Bool.or_eq_false_iff,Bool.or_eq_false_iff] at hn
    obtain ⟨⟨rfl,rfl⟩,rfl⟩:=hn
    have n1:2<=S.length/\S.length<=6:=by
      have:=nt fun q=>Bool.false_ne_true (ha.2 q)
      omega
    have n2:1<=M'.length/\M'.length<=16:=by
      have:=nt fun q=>Bool.false_ne_true (hb.2 ⟨rfl,q⟩)
      omega
    have n3:1<=R'.length/\R'.length<=6:=by
      have:=nt fun q=>Bool.false_ne_true (hc.2 ⟨rfl,q⟩)
      omega
    have rin:∀ i,i<S.length->(S.getD i default).rows.length<=1000:=fun i hi=>hr _ (by rw [getD_el S hi]; exact List.getElem_mem hi)
    refine M.o_bind (M.scan S.length (fun i=>(S.getD i default).rows.length<2∨8<(S.getD i default).rows.length) (fun i hi _=>?_) ?_) ?_
    · simp only [za5]
      refine M.o_t (decide_eq_true (by omega)) (M.o_grd (decide_eq_true (by omega)) (M.o_bind (outE _ _ _) fun x hx=>M.o_if (fun q=>M.o_pure (.inl ⟨?_,rfl⟩)) (fun q=>M.o_pure (.inr ⟨fun k=>?_,rfl⟩))))
      · have:=hx.1 q; omega
      · rw [hx.2 (by omega)] at q; cases q
    · simp only [za5]
      exact M.o_f (decide_eq_false (by omega)) (M.o_pure rfl)
    rintro z (⟨rfl,i,hi,hbad⟩ | ⟨rfl,hrows⟩)
    · exact M.o_pure (.inl ⟨fun q=>by have:=q.2.2.2 i hi; omega,rfl⟩)
    have cn:Fl.Cnt S M' R':=⟨n1,n2,n3,fun i hi=>by have:=hrows i hi; omega⟩
    refine M.o_bind (M.scan S.length (fun i=>((S.getD i default).place<0∨10000<(S.getD i default).place)∨(0<i/\(S.getD i default).place<=(S.getD (i-1) default).place)∨¬Fl.RowsP (S.getD i default).rows) (fun i hi _=>?_) ?_) ?_
    · simp only [zbw]
      have e1:0<i->Int.toNat ((i:Int)-1)=i-1:=fun q=>by omega
      refine M.o_t (decide_eq_true (by omega)) (M.o_grd (decide_eq_true (by omega)) (M.o_bind (outE _ _ _) fun x hx=>?_))
      refine M.o_grd ?_ (M.o_grd ?_ (M.o_if (fun q=>M.o_pure (.inl ⟨?_,rfl⟩)) (fun q=>?_)))
      · by_cases h0:0<i
        · exact gOr2 (by omega) (by omega)
        · have:decide (0<(i:Int))=false:=decide_eq_false (by omega)
          rw [this,Bool.and_false]; rfl
      · by_cases h0:0<i
        · exact gOr2 (by omega) (by omega)
        · have:decide (0<(i:Int))=false:=decide_eq_false (by omega)
          rw [this,Bool.and_false]; rfl
      · rw [Bool.or_eq_true,Bool.and_eq_true,decide_eq_true_eq,decide_eq_true_eq] at q
        rcases q with q | ⟨q1,q2⟩
        · exact .inl (hx.1 q)
        · rw [e1 (by omega)] at q2
          exact .inr (.inl ⟨by omega,q2⟩)
      · rw [Bool.or_eq_false_iff] at q
        have g1:¬((S.getD i default).place<0∨10000<(S.getD i default).place):=fun k=>by rw [hx.2 k] at q; cases q.1
        have g2:¬(0<i/\(S.getD i default).place<=(S.getD (i-1) default).place):=fun k=>by
          have q2:=q.2
          rw [e1 k.1,decide_eq_true (by omega:0<(i:Int)),decide_eq_true k.2] at q2
          cases q2
        refine M.o_bind (M.scan (S.getD i default).rows.length (fun k=>(((S.getD i default).rows.getD k default).stage<0∨2000<((S.getD i default).rows.getD k default).stage)∨(((S.getD i default).rows.getD k default).carry<0∨100000<((S.getD i default).rows.getD k default).carry)∨(0<k/\(((S.getD i default).rows.getD k default).stage<=((S.getD i default).rows.getD (k-1) default).stage∨((S.getD i default).rows.getD k default).carry<((S.getD i default).rows.getD (k-1) default).carry))) (fun k hk _=>?_) ?_) ?_
        · have ek:0<k->Int.toNat ((k:Int)-1)=k-1:=fun q=>by omega
          have:=rin i hi
          simp only [zby]
          refine M.o_t (decide_eq_true (by omega)) (M.o_grd (decide_eq_true (by omega)) (M.o_bind (outE _ _ _) fun y hy=>M.o_bind (optE (outE _ _ _)) fun z hz=>M.o_if (fun h=>M.o_pure (.inl ⟨?_,rfl⟩)) (fun h=>?_)))
          · rw [Bool.or_eq_true] at h
            rcases h with h | h
            · exact .inl (hy.1 h)
            · exact .inr (.inl (hz.1 h).2)
          · rw [Bool.or_eq_false_iff] at h
            obtain ⟨rfl,rfl⟩:=h
            have y1:¬(((S.getD i default).rows.getD k default).stage<0∨2000<((S.getD i default).rows.getD k default).stage):=fun w=>Bool.noConfusion (hy.2 w)
            have z1:¬(((S.getD i default).rows.getD k default).carry<0∨100000<((S.getD i default).rows.getD k default).carry):=fun w=>Bool.noConfusion (hz.2 ⟨rfl,w⟩)
            have gd:∀ p:Bool,(!(decide (0<(k:Int))&&p)||(decide ((-9223372036854775808:Int)<=((k:Int)-1))&&decide (((k:Int)-1)<=(9223372036854775807:Int))))=true:=fun p=>by
              by_cases h0:0<k
              · exact gOr2 (by omega) (by omega)
              · have:decide (0<(k:Int))=false:=decide_eq_false (by omega)
                rw [this]; rfl
            have gd':∀ p:Bool,(!(decide (0<(k:Int))&&p)||(decide ((0:Int)<=((k:Int)-1))&&decide (((k:Int)-1)<(((S.getD i default).rows).length:Int))))=true:=fun p=>by
              by_cases h0:0<k
              · exact gOr2 (by omega) (by omega)
              · have:decide (0<(k:Int))=false:=decide_eq_false (by omega)
                rw [this]; rfl
            refine M.o_grd (by have:=gd true; rwa [Bool.and_true] at this) (M.o_grd (by have:=gd' true; rwa [Bool.and_true] at this) (M.o_grd (gd _) (M.o_grd (gd' _) (M.o_if (fun h=>M.o_pure (.inl ⟨?_,rfl⟩)) (fun h=>M.o_pure (.inr ⟨?_,rfl⟩))))))
            · rw [Bool.and_eq_true,Bool.or_eq_true,decide_eq_true_eq,decide_eq_true_eq,decide_eq_true_eq] at h
              rw [ek (by omega)] at h
              exact .inr (.inr ⟨by omega,h.2⟩)
            · rintro (w | w | w)
              · exact y1 w
              · exact z1 w
              · have q2:=h
                rw [decide_eq_true (by omega:0<(k:Int)),ek w.1,Bool.true_and,Bool.or_eq_false_iff,decide_eq_false_iff_not,decide_eq_false_iff_not] at q2
                rcases w.2 with w | w
                · exact q2.1 w
                · exact q2.2 w
        · simp only [zby]
          exact M.o_f (decide_eq_false (by omega)) (M.o_pure rfl)
        rintro z (⟨rfl,hbad⟩ | ⟨rfl,hgood⟩)
        · exact M.o_pure (.inl ⟨.inr (.inr (rows_bad.2 hbad)),rfl⟩)
        · refine M.o_pure (.inr ⟨?_,rfl⟩)
          rintro (w | w | w)
          · exact g1 w
          · exact g2 w
          · obtain ⟨k,hk,w⟩:=rows_bad.1 w
            exact hgood k hk w
    · simp only [zbw]
      exact M.o_f (decide_eq_false (by omega)) (M.o_pure rfl)
    rintro z (⟨rfl,i,hi,hbad⟩ | ⟨rfl,hsec⟩)
    · refine M.o_pure (.inr (.inl ⟨cn,fun q=>?_,rfl⟩))
      have s:=((Fl.site_iff cn).1 q).1
      have e:=s.e i hi
      rcases hbad with w | w | w
      · omega
      · match i,hi,w with
        | j+1,hi,w =>
          have:=s.u j hi
          rw [Nat.add_sub_cancel] at w
          omega
      · exact w e.1
    have sec:Fl.SecP S:=⟨fun i hi=>by
      have:=nt fun w=>hsec i hi (.inl w)
      exact ⟨Classical.byContradiction fun w=>hsec i hi (.inr (.inr w)),by omega,by omega⟩,fun i hi=>by
      have:=nt fun w=>hsec (i+1) hi (.inr (.inl w))
      rw [Nat.add_sub_cancel] at this
      omega⟩
    refine M.o_bind (M.scan M'.length (fun i=>¬Fl.Mok (M'.getD i default)) (fun i hi _=>?_) ?_) ?_
    · simp only [za6]
      refine M.o_t (decide_eq_true (by omega)) (M.o_grd (decide_eq_true (by omega)) (M.o_bind (outE _ _ _) fun x hx=>M.o_if (fun q=>M.o_pure (.inl ⟨fun h=>?_,rfl⟩)) (fun q=>M.o_pure (.inr ⟨fun h=>h ?_,rfl⟩))))
      · have h1:=h.p0
        have h2:=h.p1
        have h3:=h.l0
        have h4:=h.lh
        have h5:=h.h2
        rw [Bool.or_eq_true,Bool.or_eq_true,Bool.or_eq_true,decide_eq_true_eq,decide_eq_true_eq,decide_eq_true_eq,hx] at q
        omega
      · rw [Bool.or_eq_false_iff,Bool.or_eq_false_iff,Bool.or_eq_false_iff,decide_eq_false_iff_not,decide_eq_false_iff_not,decide_eq_false_iff_not] at q
        have:¬((M'.getD i default).place<0∨10000<(M'.getD i default).place):=fun w=>by rw [hx.2 w] at q; exact Bool.noConfusion q.1.1.1
        constructor <;> omega
    · simp only [za6]
      exact M.o_f (decide_eq_false (by omega)) (M.o_pure rfl)
    rintro z (⟨rfl,i,hi,hbad⟩ | ⟨rfl,hmk⟩)
    · exact M.o_pure (.inr (.inl ⟨cn,fun q=>hbad (q.mks _ (by rw [getD_el M' hi]; exact List.getElem_mem hi)),rfl⟩))
    refine M.o_bind (M.scan R'.length (fun i=>¬Fl.Rok S (R'.getD i default)) (fun i hi _=>?_) ?_) ?_
    · simp only [zbo]
      refine M.o_t (decide_eq_true (by omega)) (M.o_grd (decide_eq_true (by omega)) (M.o_if (fun q=>M.o_pure (.inl ⟨fun h=>?_,rfl⟩)) (fun q=>M.o_pure (.inr ⟨fun h=>h ?_,rfl⟩))))
      · have h1:=h.u0
        have h2:=h.ud
        have h3:=h.d1
        have h4:=h.l1
        have h5:=h.lh
        have h6:=h.h4
        simp only [Bool.or_eq_true,decide_eq_true_eq] at q
        omega
      · simp only [Bool.or_eq_false_iff,decide_eq_false_iff_not] at q
        constructor <;> omega
    · simp only [zbo]
      exact M.o_f (decide_eq_false (by omega)) (M.o_pure rfl)
    rintro z (⟨rfl,i,hi,hbad⟩ | ⟨rfl,hrk⟩)
    · exact M.o_pure (.inr (.inl ⟨cn,fun q=>hbad (q.rks _ (by rw [getD_el R' hi]; exact List.getElem_mem hi)),rfl⟩))
    · refine M.o_pure (.inr (.inr ⟨cn,(Fl.site_iff cn).2 ⟨sec,fun x hx=>?_,fun x hx=>?_⟩,rfl⟩))
      · obtain ⟨i,hi,rfl⟩:=mem_getD hx default
        exact Classical.byContradiction (hmk i hi)
      · obtain ⟨i,hi,rfl⟩:=mem_getD hx default
        exact Classical.byContradiction (hrk i hi)
end
end Go.Proofs.YtlemgioaakecpaaGreat
namespace Go.Nm
namespace Fl
open Classical in
noncomputable def ckE (S:List Sect) (M:List Mrk) (R:List Rch):Int:=if Cnt S M R then (if Site S M R then 0 else 70) else 3
theorem CkE.eq {S:List Sect} {M:List Mrk} {R:List Rch} {e:Int} (h:CkE S M R e):e=ckE S M R:=by
  unfold ckE
  rcases h with ⟨a,b⟩ | ⟨a,b,c⟩ | ⟨a,b,c⟩
  · rw [if_neg a]; exact b
  · rw [if_pos a,if_neg b]; exact c
  · rw [if_pos a,if_pos b]; exact c
theorem ckE_ne {S:List Sect} {M:List Mrk} {R:List Rch} (h:¬Site S M R):ckE S M R ≠ 0:=by
  unfold ckE
  rw [if_neg h]
  split <;> decide
def IncP (M:List Mrk) (ms:List Int):Prop:=(∀ i,i<ms.length->0<=ms.getD i 0/\ms.getD i 0<M.length)/\∀ i,i+1<ms.length->ms.getD i 0<ms.getD (i+1) 0
theorem inc_iff {M:List Mrk} {ms:List Int}:Inc M ms↔IncP M ms:=by
  constructor
  · intro h
    refine ⟨fun i hi=>h.2 _ (by rw [getD_el ms hi]; exact List.getElem_mem hi),fun i hi=>?_⟩
    rw [getD_el ms hi,getD_el ms (by omega:i<ms.length)]
    exact List.pairwise_iff_getElem.1 h.1 i (i+1) (by omega) hi (by omega)
  · rintro ⟨h1,h2⟩
    have key:∀ i j,i<j->j<ms.length->ms.getD i 0<ms.getD j 0:=fun i j=>by
      induction j with
      | zero=>intro h; omega
      | succ j ih =>
        intro hij hj
        have u:=h2 j hj
        by_cases e:i=j
        · subst e; exact u
        · have:=ih (by omega) (by omega)
          omega
    refine ⟨List.pairwise_iff_getElem.2 fun i j hi hj hij=>?_,fun k hk=>?_⟩
    · have:=key i j hij hj
      rwa [getD_el ms hi,getD_el ms hj] at this
    · obtain ⟨i,hi,rfl⟩:=mem_getD hk 0
      exact h1 i hi
theorem car_ex {l:List FRow} {s:Int} (h0:0<l.length) (h1:(l.getD 0 default).stage<=s):∃ j,j<l.length/\(l.getD j default).stage<=s/\(j+1=l.length∨s<(l.getD (j+1) default).stage):=by
  refine Classical.byContradiction fun hc=>?_
  have key:∀ k,k<l.length->(l.getD k default).stage<=s:=fun k=>by
    induction k with
    | zero=>intro _; exact h1
    | succ k ih =>
      intro hk
      have q:=ih (by omega)
      exact Classical.byContradiction fun w=>hc ⟨k,by omega,q,.inr (by omega)⟩
  exact hc ⟨l.length-1,by omega,key _ (by omega),.inl (by omega)⟩
end Fl
end Go.Nm
namespace Go.Proofs.YtlemgioaakecpaaGreat
open Go Go.Nm
section
variable {S:List Sect} {M':List Mrk} {R':List Rch} {ms:List Int} {r:Rch}
theorem opened_any:(zad S M' R').Out (fun x=>match x with | .inl e=>e ≠ 0/\¬Fl.Site S M' R'/\e=Fl.ckE S M' R' | .inr e=>e=0/\Fl.Site S M' R'):=by
  unfold zad
  refine M.o_bind Check_out fun e he=>M.o_if (fun q=>?_) (fun q=>?_)
  · have q':e ≠ 0:=by simpa using q
    exact M.o_pure ⟨q',fun k=>q' (he.zero.2 k),he.eq⟩
  · have q':e=0:=by simpa using q
    exact M.o_pure ⟨rfl,he.zero.1 q'⟩
theorem againstE (a b:Mrk):(zaU a b).Out (fun x=>x=true↔(a.place<=b.place/\a.hi<b.lo)∨(b.place<=a.place/\b.hi<a.lo)):=by
  unfold zaU
  refine M.o_pure ?_
  simp only [Bool.or_eq_true,Bool.and_eq_true,decide_eq_true_eq]
theorem refTogether_out (hk:∀ x∈M',Fl.Mok x) (hx:Fl.Ixs M' ms) (hl:ms.length<=1000000):(zbr S M' R' ms).Out (fun b=>b=true↔Fl.Tog M' ms):=by
  unfold zbr
  have im:∀ {i},i<ms.length->ms.getD i 0∈ms:=fun {i} hi=>by rw [getD_el ms hi]; exact List.getElem_mem hi
  refine M.o_bind (M.scan ms.length (fun i=>∃ k,k<i/\((((M'.getD (Int.toNat (ms.getD i 0)) default).place<=(M'.getD (Int.toNat (ms.getD k 0)) default).place/\(M'.getD (Int.toNat (ms.getD i 0)) default).hi<(M'.getD (Int.toNat (ms.getD k 0)) default).lo))∨((M'.getD (Int.toNat (ms.getD k 0)) default).place<=(M'.getD (Int.toNat (ms.getD i 0)) default).place/\(M'.getD (Int.toNat (ms.getD k 0)) default).hi<(M'.getD (Int.toNat (ms.getD i 0)) default).lo))) (fun i hi _=>?_) ?_) ?_
  · simp only [zbh]
    refine M.o_t (decide_eq_true (by omega)) (M.o_bind (M.scan i (fun k=>(((M'.getD (Int.toNat (ms.getD i 0)) default).place<=(M'.getD (Int.toNat (ms.getD k 0)) default).place/\(M'.getD (Int.toNat (ms.getD i 0)) default).hi<(M'.getD (Int.toNat (ms.getD k 0)) default).lo))∨((M'.getD (Int.toNat (ms.getD k 0)) default).place<=(M'.getD (Int.toNat (ms.getD i 0)) default).place/\(M'.getD (Int.toNat (ms.getD k 0)) default).hi<(M'.getD (Int.toNat (ms.getD i 0)) default).lo)) (fun k hk _=>?_) ?_) ?_)
    · have g1:=hx _ (im hi)
      have g2:=hx _ (im (by omega:k<ms.length))
      simp only [zbz]
      exact M.o_t (decide_eq_true (by omega)) (M.o_grd (decide_eq_true (by omega)) (M.o_grd (gA2 g1.1 g1.2) (M.o_grd (decide_eq_true (by omega)) (M.o_grd (gA2 g2.1 g2.2) (M.o_bind (againstE _ _) fun x hx=>M.o_if (fun q=>M.o_pure (.inl ⟨hx.1 q,rfl⟩)) (fun q=>M.o_pure (.inr ⟨fun w=>(by rw [hx.2 w] at q; cases q),rfl⟩)))))))
    · simp only [zbz]
      exact M.o_f (decide_eq_false (by omega)) (M.o_pure rfl)
    rintro z (⟨rfl,k,hk,hbad⟩ | ⟨rfl,hgood⟩)
    · exact M.o_pure (.inl ⟨⟨k,hk,hbad⟩,rfl⟩)
    · exact M.o_pure (.inr ⟨fun ⟨k,hk,w⟩=>hgood k hk w,rfl⟩)
  · simp only [zbh]
    exact M.o_f (decide_eq_false (by omega)) (M.o_pure rfl)
  rintro z (⟨rfl,i,hi,k,hk,hbad⟩ | ⟨rfl,hgood⟩)
  · refine M.o_pure ⟨fun q=>(by cases q),fun q=>?_⟩
    rcases hbad with w | w
    · exact absurd w (q _ (im hi) _ (im (by omega)))
    · exact absurd w (q _ (im (by omega)) _ (im hi))
  · refine M.o_pure ⟨fun _ a ha b hb w=>?_,fun _=>rfl⟩
    obtain ⟨i,hi,rfl⟩:=mem_getD ha 0
    obtain ⟨j,hj,rfl⟩:=mem_getD hb 0
    rcases Nat.lt_trichotomy i j with e | rfl | e
    · exact hgood j hj ⟨i,e,.inr w⟩
    · have:=(hx.mok hk ha).lh
      omega
    · exact hgood i hi ⟨j,e,.inl w⟩
theorem refCarry_ends {x:Sect} {s:Int} (hr:Fl.Rows x.rows) (h0:0<x.rows.length) (h1:x.rows.length<=1000) (hs:-2000000<=s/\s<=2000000):(zcf x s).Ends (Fl.car x.rows s):=by
  refine M.Out.ends ?_
  unfold zcf
  refine M.o_bind (P:=fun n=>n=Fl.car x.rows s) ?_ fun n hn=>M.o_pure hn
  refine M.o_for x.rows.length (fun k (t:Int × Nat)=>t.2=k/\(s<(x.rows.getD 0 default).stage->t.1=0)/\∀ j,j<k->(x.rows.getD j default).stage<=s->(j+1=x.rows.length∨s<(x.rows.getD (j+1) default).stage)->t.1=Fl.car x.rows s) ?_ ?_ ⟨rfl,fun _=>rfl,fun j hj=>by omega⟩
  · rintro _ ⟨n,k⟩ hk ⟨rfl,k1,k2⟩
    dsimp only at hk k1 k2 ⊢
    have ek:Int.toNat ((k:Int)+1)=k+1:=by omega
    have b:=hr.el k hk
    simp only [zbK]
    refine M.o_t (decide_eq_true (by omega)) (M.o_grd (decide_eq_true (by omega)) (M.o_if (fun q=>?_) (fun q=>?_)))
    · have q:=of_decide_eq_true q
      have z:¬s<(x.rows.getD 0 default).stage:=fun w=>by
        by_cases e:k=0
        · subst e; omega
        · have:=hr.lt (i:=0) (j:=k) (by omega) hk
          omega
      refine M.o_grd ?_ (M.o_if (fun q'=>?_) (fun q'=>?_))
      · by_cases e:k+1<x.rows.length
        · exact gOr2 (by omega) (by omega)
        · rw [decide_eq_false (by omega:¬((k:Int)+1<(x.rows.length:Int)))]; rfl
      · rw [Bool.and_eq_true,decide_eq_true_eq,decide_eq_true_eq,ek] at q'
        have q1:k+1<x.rows.length:=by omega
        have b':=hr.el (k+1) q1
        have c':=hr.cm k q1
        have e:=Fl.car_btw hr q1 q q'.2
        have w:=Fl.ip_mono (a:=x.rows.getD k default) (b:=x.rows.getD (k+1) default) q (Int.le_refl s) (by omega) (by omega) c'
        unfold Fl.ip at e w
        have p0:0<=((x.rows.getD (k+1) default).carry-(x.rows.getD k default).carry)*(s-(x.rows.getD k default).stage):=Int.mul_nonneg (by omega) (by omega)
        have p1:((x.rows.getD (k+1) default).carry-(x.rows.getD k default).carry)*(s-(x.rows.getD k default).stage)<=100000*2000:=Int.mul_le_mul (by omega) (by omega) (by omega) (by omega)
        rw [ek]
        exact M.o_grd (gA2 (by omega) (by omega)) (M.o_grd (gA2 (by omega) (by omega)) (M.o_grd (gA2 (by omega) (by omega)) (M.o_grd (gA2 (by omega) (by omega)) (M.o_grd (gA2 (by omega) (by omega)) (M.o_grd (gA3 (by omega) (by omega) (by omega)) (M.o_grd (gA2 (by omega) (by omega)) (M.o_pure ⟨rfl,fun w=>absurd w z,fun j _ _ _=>e.symm⟩)))))))
      · rw [ek] at q'
        have nq:¬(k+1<x.rows.length/\s<(x.rows.getD (k+1) default).stage):=fun w=>by
          rw [decide_eq_true (by omega:(k:Int)+1<(x.rows.length:Int)),decide_eq_true w.2] at q'
          cases q'
        refine M.o_pure ⟨rfl,fun w=>absurd w z,fun j hj hj1 hj2=>?_⟩
        dsimp only
        by_cases e:j=k
        · subst e
          have el:j+1=x.rows.length:=by
            rcases hj2 with w | w
            · exact w
            · exact Classical.byContradiction fun e'=>nq ⟨by omega,w⟩
          exact (Fl.car_last hr el q).symm
        · exfalso
          have:(x.rows.getD (j+1) default).stage<=(x.rows.getD k default).stage:=by
            by_cases e':j+1=k
            · rw [e']; exact Int.le_refl _
            · exact Int.le_of_lt (hr.lt (by omega) hk)
          omega
    · have q:=of_decide_eq_false q
      refine M.o_pure ⟨rfl,k1,fun j hj hj1 hj2=>?_⟩
      by_cases e:j=k
      · subst e; exact absurd hj1 q
      · exact k2 j (by omega) hj1 hj2
  · rintro ⟨n,_⟩ ⟨rfl,k1,k2⟩
    simp only [zbK]
    refine M.o_f (decide_eq_false (by omega)) (M.o_pure ?_)
    by_cases e:s<(x.rows.getD 0 default).stage
    · rw [Fl.car_zero (by intro w; rw [w] at h0; cases h0) e]
      exact k1 e
    · obtain ⟨j,hj,h1,h2⟩:=Fl.car_ex (l:=x.rows) (s:=s) h0 (by omega)
      exact k2 j hj h1 h2
open Classical in
noncomputable def crV (S:List Sect) (M:List Mrk) (R:List Rch) (i s:Int):Int × Int:=if Fl.Site S M R then (if 0<=i/\i<S.length then (if 0<=s/\s<=2000 then (Fl.car (S.getD (Int.toNat i) default).rows s,0) else (0,4)) else (0,2)) else (0,Fl.ckE S M R)
theorem Carry_all (i s:Int):(zb4 S M' R' i s).Ends (crV S M' R' i s):=by
  refine M.Out.ends ?_
  unfold zb4 crV
  refine M.o_bind opened_any ?_
  intro x hx
  match x,hx with
  | .inl e,⟨h0,h1,h2⟩=>rw [if_neg h1,← h2]; exact M.o_t (bne_iff_ne.2 h0) (M.o_pure rfl)
  | .inr e,⟨h0,h1⟩ =>
    subst h0
    rw [if_pos h1]
    refine M.o_f rfl (M.o_bind (inE _ _ _) fun x hx=>M.o_if (fun q=>?_) (fun q=>?_))
    · have q:x=false:=by simpa using q
      rw [if_neg fun w=>by rw [hx.2 (by omega)] at q; cases q]
      exact M.o_pure rfl
    · have q:x=true:=by simpa using q
      have k:=hx.1 q
      rw [if_pos (by omega:0<=i/\i<(S.length:Int))]
      refine M.o_bind (inE _ _ _) fun y hy=>M.o_if (fun q=>?_) (fun q=>?_)
      · have q:y=false:=by simpa using q
        rw [if_neg fun w=>by rw [hy.2 w] at q; cases q]
        exact M.o_pure rfl
      · have q:y=true:=by simpa using q
        have k':=hy.1 q
        rw [if_pos k']
        have hr:=h1.s.rows (Int.toNat i) (by omega)
        exact M.o_bindE (carry_ends (by omega) (by omega) hr.1 (by intro e; rw [e] at hr; simp at hr) (by omega) (by omega)) (M.o_pure rfl)
theorem refCarry_all (hS:S.length<=1000) (hr:∀ x∈S,x.rows.length<=1000) (i s:Int):(zbS S M' R' i s).Ends (crV S M' R' i s):=by
  refine M.Out.ends ?_
  unfold zbS crV
  refine M.o_bind (refCheck_out hS hr) fun e he=>M.o_if (fun q=>?_) (fun q=>?_)
  · have q':e ≠ 0:=by simpa using q
    rw [if_neg fun k=>q' (he.zero.2 k),he.eq]
    exact M.o_pure rfl
  · have q':e=0:=by simpa using q
    have h1:=he.zero.1 q'
    rw [if_pos h1]
    refine M.o_bind (outE _ _ _) fun x hx=>M.o_if (fun q=>?_) (fun q=>?_)
    · have:=hx.1 q
      rw [if_neg (by omega)]
      exact M.o_pure rfl
    · have k:¬(i<0∨(S.length:Int)-1<i):=fun w=>by rw [hx.2 w] at q; cases q
      rw [if_pos (by omega:0<=i/\i<(S.length:Int))]
      refine M.o_bind (outE _ _ _) fun y hy=>M.o_if (fun q=>?_) (fun q=>?_)
      · have:=hy.1 q
        rw [if_neg (by omega)]
        exact M.o_pure rfl
      · have k':¬(s<0∨2000<s):=fun w=>by rw [hy.2 w] at q; cases q
        rw [if_pos (by omega:0<=s/\s<=2000)]
        have hr:=h1.s.rows (Int.toNat i) (by omega)
        exact M.o_grd (gA2 (by omega) (by omega)) (M.o_bindE (refCarry_ends hr.1 (by omega) (by omega) (by omega)) (M.o_pure rfl))
/-- What is answered of two marks. -/
def CtR (S:List Sect) (M:List Mrk) (R:List Rch) (a b:Int) (x:Bool × Int):Prop :=
  (¬Fl.Site S M R/\x=(false,Fl.ckE S M R))∨(Fl.Site S M R/\¬((0<=a/\a<M.length)/\0<=b/\b<M.length)/\x=(false,2)) ∨
  (Fl.Site S M R/\((0<=a/\a<M.length)/\0<=b/\b<M.length)/\x.2=0/\(x.1=true↔Fl.ah M (Int.toNat a) (Int.toNat b)∨Fl.ah M (Int.toNat b) (Int.toNat a)))
theorem CtR.uniq {a b:Int} {x y:Bool × Int} (h:CtR S M' R' a b x) (h':CtR S M' R' a b y):x=y:=by
  rcases h with ⟨h1,rfl⟩ | ⟨h1,h2,rfl⟩ | ⟨h1,h2,h3,h4⟩ <;> rcases h' with ⟨k1,rfl⟩ | ⟨k1,k2,rfl⟩ | ⟨k1,k2,k3,k4⟩
  · rfl
  · exact absurd k1 h1
  · exact absurd k1 h1
  · exact absurd h1 k1
  · rfl
  · exact absurd k2 h2
  · exact absurd h1 k1
  · exact absurd h2 k2
  · obtain ⟨x1,x2⟩:=x
    obtain ⟨y1,y2⟩:=y
    dsimp only at h3 h4 k3 k4
    rw [h3,k3,Bool.eq_iff_iff.2 (h4.trans k4.symm)]
theorem Contradict_all (a b:Int):(za1 S M' R' a b).Out (CtR S M' R' a b):=by
  unfold za1
  refine M.o_bind opened_any ?_
  intro x hx
  match x,hx with
  | .inl e,⟨h0,h1,h2⟩=>exact M.o_t (bne_iff_ne.2 h0) (M.o_pure (.inl ⟨h1,by rw [h2]⟩))
  | .inr e,⟨h0,h1⟩ =>
    subst h0
    refine M.o_f rfl (M.o_bind (inE _ _ _) fun x hx=>M.o_bind (optE (inE _ _ _)) fun y hy=>M.o_if (fun q=>?_) (fun q=>?_))
    · refine M.o_pure (.inr (.inl ⟨h1,fun k=>?_,rfl⟩))
      have x1:x=true:=hx.2 (by omega)
      rw [x1,hy.2 ⟨by rw [x1]; rfl,by omega⟩] at q
      cases q
    · rw [Bool.or_eq_false_iff,Bool.not_eq_false',Bool.not_eq_false'] at q
      have k1:=hx.1 q.1
      have k2:=(hy.1 q.2).2
      have ka:0<=a/\a<(M'.length:Int):=by omega
      have kb:0<=b/\b<(M'.length:Int):=by omega
      refine M.o_bindE (ahI_ends ka kb) (M.o_bindE (a:=bif (!decide (Fl.ah M' (Int.toNat a) (Int.toNat b))) then decide (Fl.ah M' (Int.toNat b) (Int.toNat a)) else false) (M.i_opt (fun q=>by rw [q]; exact ahI_ends kb ka) (fun q=>by rw [q]; rfl)) (M.o_pure (.inr (.inr ⟨h1,⟨ka,kb⟩,rfl,?_⟩))))
      dsimp only
      by_cases e:Fl.ah M' (Int.toNat a) (Int.toNat b)
      · rw [decide_eq_true e]; exact ⟨fun _=>.inl e,fun _=>rfl⟩
      · rw [decide_eq_false e]
        simp [e]
theorem refContradict_all (hS:S.length<=1000) (hr:∀ x∈S,x.rows.length<=1000) (a b:Int):(zbW S M' R' a b).Out (CtR S M' R' a b):=by
  unfold zbW
  refine M.o_bind (refCheck_out hS hr) fun e he=>M.o_if (fun q=>?_) (fun q=>?_)
  · have q':e ≠ 0:=by simpa using q
    exact M.o_pure (.inl ⟨fun k=>q' (he.zero.2 k),by rw [he.eq]⟩)
  · have q':e=0:=by simpa using q
    have h1:=he.zero.1 q'
    refine M.o_bind (outE _ _ _) fun x hx=>M.o_bind (optE (outE _ _ _)) fun y hy=>M.o_if (fun q=>?_) (fun q=>?_)
    · refine M.o_pure (.inr (.inl ⟨h1,fun k=>?_,rfl⟩))
      rw [Bool.or_eq_true] at q
      rcases q with q | q
      · have:=hx.1 q; omega
      · have:=(hy.1 q).2; omega
    · rw [Bool.or_eq_false_iff] at q
      obtain ⟨rfl,rfl⟩:=q
      have k1:=nt fun w=>Bool.false_ne_true (hx.2 w)
      have k2:=nt fun w=>Bool.false_ne_true (hy.2 ⟨rfl,w⟩)
      refine M.o_grd (gA2 (by omega) (by omega)) (M.o_grd (gA2 (by omega) (by omega)) (M.o_bind (againstE _ _) fun z hz=>M.o_pure (.inr (.inr ⟨h1,by omega,rfl,?_⟩))))
      exact hz
end
end Go.Proofs.YtlemgioaakecpaaGreat
namespace Go.Nm
namespace Fl
theorem inc_ext:∀ {a b:List Int},a.Pairwise (· < ·)->b.Pairwise (· < ·)->(∀ x,x∈a↔x∈b)->a=b
  | [],[],_,_,_=>rfl
  | [],y :: b,_,_,h=>absurd ((h y).2 (by simp)) (by simp)
  | x :: a,[],_,_,h=>absurd ((h x).1 (by simp)) (by simp)
  | x :: a,y :: b,ha,hb,h=>by
    have ha':=List.pairwise_cons.1 ha
    have hb':=List.pairwise_cons.1 hb
    have e:x=y:=by
      rcases List.mem_cons.1 ((h x).1 (by simp)) with q | q
      · exact q
      · rcases List.mem_cons.1 ((h y).2 (by simp)) with k | k
        · exact k.symm
        · have:=hb'.1 x q
          have:=ha'.1 y k
          omega
    subst e
    congr 1
    refine inc_ext ha'.2 hb'.2 fun z=>⟨fun hz=>?_,fun hz=>?_⟩
    · rcases List.mem_cons.1 ((h z).1 (by simp [hz])) with q | q
      · have:=ha'.1 z hz; omega
      · exact q
    · rcases List.mem_cons.1 ((h z).2 (by simp [hz])) with q | q
      · have:=hb'.1 z hz; omega
      · exact q
/-- Each set of the first numbers is told by the bits of one. -/
theorem enc_set:∀ (n:Nat) (p:Nat->Prop),∃ s,s<2 ^ n/\∀ i,i<n->((s / 2 ^ i) % 2=1↔p i)
  | 0,_=>⟨0,by simp,fun i hi=>by omega⟩
  | n + 1, p => by
    obtain ⟨s,hs,h⟩:=enc_set n (fun i=>p (i+1))
    by_cases q:p 0
    · refine ⟨2*s+1,by rw [Nat.pow_succ]; omega,fun i hi=>?_⟩
      match i with
      | 0=>exact ⟨fun _=>q,fun _=>by rw [Nat.pow_zero,Nat.div_one]; omega⟩
      | i+1 =>
        have e:(2*s+1) / 2 ^ (i+1)=s / 2 ^ i:=by
          rw [Nat.pow_succ,Nat.mul_comm (2 ^ i) 2,← Nat.div_div_eq_div_mul]
          congr 1
          omega
        rw [e]
        exact h i (by omega)
    · refine ⟨2*s,by rw [Nat.pow_succ]; omega,fun i hi=>?_⟩
      match i with
      | 0=>exact ⟨fun w=>by rw [Nat.pow_zero,Nat.div_one] at w; omega,fun w=>absurd w q⟩
      | i+1 =>
        have e:(2*s) / 2 ^ (i+1)=s / 2 ^ i:=by
          rw [Nat.pow_succ,Nat.mul_comm (2 ^ i) 2,← Nat.div_div_eq_div_mul]
          congr 1
          omega
        rw [e]
        exact h i (by omega)
/-- The numbers whose bits a number has. -/
def Bits (n s:Nat) (l:List Int):Prop:=l.Pairwise (· < ·)/\∀ x,x∈l↔0<=x/\x<n/\(s / 2 ^ Int.toNat x) % 2=1
theorem Bits.uniq {n s:Nat} {l l':List Int} (h:Bits n s l) (h':Bits n s l'):l=l':=inc_ext h.1 h'.1 fun x=>(h.2 x).trans (h'.2 x).symm
theorem Bits.inc {M:List Mrk} {s:Nat} {l:List Int} (h:Bits M.length s l):Inc M l:=⟨h.1,fun k hk=>by have:=(h.2 k).1 hk; omega⟩
theorem Inc.bits {M:List Mrk} {l:List Int} (h:Inc M l):∃ s,s<2 ^ M.length/\Bits M.length s l:=by
  obtain ⟨s,hs,q⟩:=enc_set M.length (fun i=>(i:Int)∈l)
  refine ⟨s,hs,h.1,fun x=>⟨fun hx=>?_,fun ⟨h0,h1,h2⟩=>?_⟩⟩
  · have b:=h.2 x hx
    refine ⟨b.1,b.2,(q (Int.toNat x) (by omega)).2 ?_⟩
    rwa [show ((Int.toNat x:Nat):Int)=x by omega]
  · have:=(q (Int.toNat x) (by omega)).1 h2
    rwa [show ((Int.toNat x:Nat):Int)=x by omega] at this
end Fl
end Go.Nm
namespace Go.Proofs.YtlemgioaakecpaaGreat
open Go Go.Nm
section
variable {S:List Sect} {M':List Mrk} {R':List Rch}
theorem gA4 {p q r t:Prop} [Decidable p] [Decidable q] [Decidable r] [Decidable t] (hp:p) (hq:q) (hr:r) (ht:t):(decide p&&decide q&&decide r&&decide t)=true:=by rw [decide_eq_true hp,decide_eq_true hq,decide_eq_true hr,decide_eq_true ht]; rfl
theorem zdQ (set:Nat) (hn:M'.length<=16):(M.iter (zaH M' set) (0,[])).Out (fun x=>Fl.Bits M'.length set x.2):=by
  refine M.o_for M'.length (fun i (s:Nat × List Int)=>s.1=i/\s.2.length<=i/\Fl.Bits i set s.2) ?_ ?_ ⟨rfl,Nat.le_refl _,List.Pairwise.nil,fun x=>⟨fun q=>(by cases q),fun q=>by omega⟩⟩
  · rintro _ ⟨i,l⟩ hi ⟨rfl,k1,k2,k3⟩
    dsimp only at hi k1 k2 k3 ⊢
    have e:(set:Int) / 2 ^ i=((set / 2 ^ i:Nat):Int):=by rw [Int.natCast_ediv,Int.natCast_pow]; rfl
    simp only [zaH]
    rw [e]
    refine M.o_t (decide_eq_true (by omega)) (M.o_grd (gA2 (by omega) (by omega)) (M.o_grd (gA2 (Int.natCast_nonneg _) (by decide)) (M.o_if (fun q=>?_) (fun q=>?_))))
    · have q:=eq_of_beq q
      refine M.o_grd (decide_eq_true (by simp; omega)) (M.o_pure ⟨rfl,by simp; omega,?_,fun x=>?_⟩)
      · rw [List.pairwise_append]
        refine ⟨k2,by simp,fun x hx y hy=>?_⟩
        rw [List.mem_singleton] at hy
        have:=(k3 x).1 hx
        omega
      · rw [List.mem_append,List.mem_singleton,k3]
        constructor
        · rintro (w | rfl)
          · exact ⟨w.1,by omega,w.2.2⟩
          · exact ⟨by omega,by omega,by rw [Int.toNat_natCast]; omega⟩
        · rintro ⟨w1,w2,w3⟩
          by_cases e:x=(i:Int)
          · exact .inr e
          · exact .inl ⟨w1,by omega,w3⟩
    · have q:¬(((set / 2 ^ i:Nat):Int) % 2=1):=fun w=>by rw [w] at q; exact absurd q (by decide)
      refine M.o_pure ⟨rfl,by dsimp only; omega,k2,fun x=>?_⟩
      rw [k3]
      constructor
      · rintro ⟨w1,w2,w3⟩
        exact ⟨w1,by omega,w3⟩
      · rintro ⟨w1,w2,w3⟩
        by_cases e:x=(i:Int)
        · subst e
          rw [Int.toNat_natCast] at w3
          omega
        · exact ⟨w1,by omega,w3⟩
  · rintro ⟨_,l⟩ ⟨rfl,k1,k2⟩
    simp only [zaH]
    exact M.o_f (decide_eq_false (by omega)) (M.o_pure k2)
theorem refMost_out (hS:S.length<=1000) (hr:∀ x∈S,x.rows.length<=1000):(zcb S M' R').Out (fun x=>(¬Fl.Site S M' R'/\x=(0,Fl.ckE S M' R'))∨(Fl.Site S M' R'/\x.2=0/\(∃ l,Fl.Inc M' l/\Fl.Tog M' l/\(l.length:Int)=x.1)/\∀ l,Fl.Inc M' l->Fl.Tog M' l->(l.length:Int)<=x.1)):=by
  unfold zcb
  refine M.o_bind (refCheck_out hS hr) fun e he=>M.o_if (fun q=>?_) (fun q=>?_)
  · have q':e ≠ 0:=by simpa using q
    exact M.o_pure (.inl ⟨fun k=>q' (he.zero.2 k),by rw [he.eq]⟩)
  · have q':e=0:=by simpa using q
    have st:=he.zero.1 q'
    have hn:=st.m
    have e2:(1:Int)*2 ^ M'.length=((2 ^ M'.length:Nat):Int):=by rw [Int.one_mul,Int.natCast_pow]; rfl
    have b2:2 ^ M'.length<=2 ^ 16:=Nat.pow_le_pow_right (by decide) hn.2
    have b3:(2:Nat) ^ 16=65536:=by decide
    have b0:(0:Int)<=((2 ^ M'.length:Nat):Int):=Int.natCast_nonneg _
    refine M.o_bind (P:=fun best=>(∃ l,Fl.Inc M' l/\Fl.Tog M' l/\(l.length:Int)=best)/\∀ l,Fl.Inc M' l->Fl.Tog M' l->(l.length:Int)<=best) ?_ fun best hb=>M.o_pure (.inr ⟨st,rfl,hb⟩)
    refine M.o_for (2 ^ M'.length) (fun set (s:Int × Nat)=>s.2=set/\(∃ l,Fl.Inc M' l/\Fl.Tog M' l/\(l.length:Int)=s.1)/\∀ l t,t<set->Fl.Bits M'.length t l->Fl.Tog M' l->(l.length:Int)<=s.1) ?_ ?_ ⟨rfl,⟨[],⟨List.Pairwise.nil,fun k hk=>(by cases hk)⟩,fun a ha=>(by cases ha),rfl⟩,fun l t ht=>by omega⟩
    · rintro _ ⟨best,set⟩ hs ⟨rfl,k1,k2⟩
      dsimp only at hs k1 k2 ⊢
      simp only [zbe]
      rw [e2]
      refine M.o_grd (gA4 (by omega) (by omega) (by omega) (by omega)) (M.o_t (decide_eq_true (by omega)) (M.o_bind (zdQ set hn.2) ?_))
      rintro ⟨l2,l3⟩ hb
      dsimp only at hb ⊢
      have hi:=hb.inc
      have hlen:l3.length<=1000000:=by
        have:=nodup_bound M'.length l3 (List.Pairwise.imp (fun h=>by omega) hb.1) (fun x hx=>hi.2 x hx)
        omega
      refine M.o_bind (P:=fun r3=>best<(l3.length:Int)->(r3=true↔Fl.Tog M' l3)) (M.o_opt (fun _=>M.o_mono (refTogether_out st.mks hi.2 hlen) fun x hx _=>hx) (fun q w=>absurd w (of_decide_eq_false q))) fun r3 h3=>M.o_if (fun q=>?_) (fun q=>?_)
      · rw [Bool.and_eq_true,decide_eq_true_eq] at q
        refine M.o_grd (gA2 (by omega) (by omega)) (M.o_pure ⟨rfl,⟨l3,hi,(h3 q.1).1 q.2,rfl⟩,fun l t ht hl htog=>?_⟩)
        dsimp only
        by_cases e:t=set
        · subst e
          rw [hl.uniq hb]
          exact Int.le_refl _
        · have:=k2 l t (by omega) hl htog
          omega
      · refine M.o_grd (gA2 (by omega) (by omega)) (M.o_pure ⟨rfl,k1,fun l t ht hl htog=>?_⟩)
        dsimp only
        by_cases e:t=set
        · subst e
          have e':=hl.uniq hb
          subst e'
          refine Classical.byContradiction fun w=>?_
          rw [decide_eq_true (by omega:best<(l.length:Int)),(h3 (by omega)).2 htog] at q
          cases q
        · exact k2 l t (by omega) hl htog
    · rintro ⟨best,_⟩ ⟨rfl,k1,k2⟩
      simp only [zbe]
      rw [e2]
      refine M.o_grd (gA4 (by omega) (by omega) (by omega) (by omega)) (M.o_f (decide_eq_false (by omega)) (M.o_pure ⟨k1,fun l hi htog=>?_⟩))
      · obtain ⟨t,ht,hb⟩:=hi.bits
        exact k2 l t ht hb htog
end
end Go.Proofs.YtlemgioaakecpaaGreat
namespace Go.Nm
theorem bad_iff {n:Nat} {row:List Int}:badRow n row=true↔row.length=0∨∃ k,k<row.length/\(row.getD k 0<0∨(n:Int)-1<row.getD k 0):=by
  unfold badRow
  rw [Bool.or_eq_true,List.any_eq_true,beq_iff_eq]
  constructor
  · rintro (h | ⟨x,hx,h⟩)
    · exact .inl h
    · obtain ⟨k,hk,rfl⟩:=mem_getD hx 0
      rw [Bool.or_eq_true,decide_eq_true_eq,decide_eq_true_eq] at h
      exact .inr ⟨k,hk,by omega⟩
  · rintro (h | ⟨k,hk,h⟩)
    · exact .inl h
    · refine .inr ⟨row.getD k 0,by rw [getD_el row hk]; exact List.getElem_mem hk,?_⟩
      rw [Bool.or_eq_true,decide_eq_true_eq,decide_eq_true_eq]
      omega
theorem any_iff {n:Nat} {rows:List (List Int)}:rows.any (badRow n)=true↔∃ i,i<rows.length/\badRow n (rows.getD i [])=true:=by
  rw [List.any_eq_true]
  constructor
  · rintro ⟨x,hx,h⟩
    obtain ⟨i,hi,rfl⟩:=mem_getD hx []
    exact ⟨i,hi,h⟩
  · rintro ⟨i,hi,h⟩
    exact ⟨rows.getD i [],by rw [getD_el rows hi]; exact List.getElem_mem hi,h⟩
end Go.Nm
namespace Go.Proofs.YtlemgioaakecpaaGreat
open Go Go.Nm
section
variable {S:List Sect} {M':List Mrk} {R':List Rch}
/-- What is answered of rows. -/
def PvR (S:List Sect) (M:List Mrk) (R:List Rch) (many:Int) (rows:List (List Int)) (x:Bool × Int):Prop :=
  (¬Fl.Site S M R/\x=(false,Fl.ckE S M R))∨(Fl.Site S M R/\16<rows.length/\x=(false,3))∨(Fl.Site S M R/\rows.length<=16/\rows.any (badRow M.length)=true/\x=(false,2)) ∨
  (Fl.Site S M R/\rows.length<=16/\rows.any (badRow M.length)=false/\x.2=0/\(x.1=true↔(rows.length:Int)<=many/\(∀ r∈rows,Fl.Chn M r)/\∀ v,v<M.length->∃ r∈rows,(v:Int)∈r))
theorem PvR.uniq {many:Int} {rows:List (List Int)} {x y:Bool × Int} (h:PvR S M' R' many rows x) (h':PvR S M' R' many rows y):x=y:=by
  rcases h with ⟨h1,rfl⟩ | ⟨h1,h2,rfl⟩ | ⟨h1,h2,h3,rfl⟩ | ⟨h1,h2,h3,h4,h5⟩ <;> rcases h' with ⟨k1,rfl⟩ | ⟨k1,k2,rfl⟩ | ⟨k1,k2,k3,rfl⟩ | ⟨k1,k2,k3,k4,k5⟩
  · rfl
  · exact absurd k1 h1
  · exact absurd k1 h1
  · exact absurd k1 h1
  · exact absurd h1 k1
  · rfl
  · omega
  · omega
  · exact absurd h1 k1
  · omega
  · rfl
  · rw [h3] at k3; cases k3
  · exact absurd h1 k1
  · omega
  · rw [h3] at k3; cases k3
  · obtain ⟨x1,x2⟩:=x
    obtain ⟨y1,y2⟩:=y
    dsimp only at h4 h5 k4 k5
    rw [h4,k4,Bool.eq_iff_iff.2 (h5.trans k5.symm)]
theorem rws_of {n:Nat} {rows:List (List Int)} (h:rows.length<=16) (hb:rows.any (badRow n)=false):Fl.Rws n rows:=by
  refine ⟨h,fun r hr=>row_isRow ?_⟩
  rw [List.any_eq_false] at hb
  have:=hb r hr
  simpa using this
theorem ProvesX_all (many:Int) (rows:List (List Int)):(zb5 S M' R' many rows).Out (PvR S M' R' many rows):=by
  unfold zb5
  refine M.o_bind opened_any ?_
  intro x hx
  match x,hx with
  | .inl e,⟨h0,h1,h2⟩ =>
    dsimp only
    unfold zaj
    refine M.o_bind opened_any ?_
    intro y hy
    match y,hy with
    | .inl z,⟨k0,k1,k2⟩=>exact M.o_t (bne_iff_ne.2 k0) (M.o_pure (.inl ⟨h1,by rw [k2]⟩))
    | .inr z,⟨k0,k1⟩=>exact absurd k1 h1
  | .inr e,⟨h0,st⟩ =>
    have hn:=st.m
    dsimp only
    by_cases h16:rows.length<=16
    · refine M.o_if (fun q=>?_) (fun q=>?_)
      · rw [Bool.and_eq_true] at q
        exact M.o_pure (.inr (.inr (.inl ⟨st,h16,q.2,rfl⟩)))
      · rw [decide_eq_true hn.2,decide_eq_true h16,Bool.and_self,Bool.true_and] at q
        refine M.o_mono (Proves_out st (rws_of h16 q)) fun x hx=>.inr (.inr (.inr ⟨st,h16,q,hx.1,hx.2⟩))
    · rw [decide_eq_false h16,Bool.and_false,Bool.false_and]
      show (zaj S M' R' many rows).Out _
      unfold zaj
      exact M.o_bindE (opened_ends st) (M.o_f rfl (M.o_t (decide_eq_true (by omega)) (M.o_pure (.inr (.inl ⟨st,by omega,rfl⟩)))))
theorem refProves_all (hS:S.length<=1000) (hr:∀ x∈S,x.rows.length<=1000) (many:Int) (rows:List (List Int)):(zbG S M' R' many rows).Out (PvR S M' R' many rows):=by
  unfold zbG
  refine M.o_bind (refCheck_out hS hr) fun e he=>M.o_if (fun q=>?_) (fun q=>?_)
  · have q':e ≠ 0:=by simpa using q
    exact M.o_pure (.inl ⟨fun k=>q' (he.zero.2 k),by rw [he.eq]⟩)
  have q':e=0:=by simpa using q
  have st:=he.zero.1 q'
  refine M.o_if (fun q=>M.o_pure (.inr (.inl ⟨st,by have:=of_decide_eq_true q; omega,rfl⟩))) (fun q=>?_)
  have h16:rows.length<=16:=by have:=of_decide_eq_false q; omega
  refine M.o_bind (M.scan rows.length (fun i=>badRow M'.length (rows.getD i [])=true) (fun i hi _=>?_) ?_) ?_
  · simp only [za7]
    refine M.o_t (decide_eq_true (by omega)) (M.o_grd (decide_eq_true (by omega)) (M.o_if (fun q=>M.o_pure (.inl ⟨bad_iff.2 (.inl (by have:=eq_of_beq q; omega)),rfl⟩)) (fun q=>?_)))
    have hl:(rows.getD i []).length ≠ 0:=fun w=>by rw [w] at q; exact absurd q (by decide)
    refine M.o_bind (M.scan (rows.getD i []).length (fun k=>(rows.getD i []).getD k 0<0∨(M'.length:Int)-1<(rows.getD i []).getD k 0) (fun k hk _=>?_) ?_) ?_
    · simp only [zaX]
      exact M.o_t (decide_eq_true (by omega)) (M.o_grd (decide_eq_true (by omega)) (M.o_bind (outE _ _ _) fun x hx=>M.o_if (fun q=>M.o_pure (.inl ⟨hx.1 q,rfl⟩)) (fun q=>M.o_pure (.inr ⟨fun w=>(by rw [hx.2 w] at q; cases q),rfl⟩))))
    · simp only [zaX]
      exact M.o_f (decide_eq_false (by omega)) (M.o_pure rfl)
    rintro z (⟨rfl,k,hk,hbad⟩ | ⟨rfl,hgood⟩)
    · exact M.o_pure (.inl ⟨bad_iff.2 (.inr ⟨k,hk,hbad⟩),rfl⟩)
    · refine M.o_pure (.inr ⟨fun w=>?_,rfl⟩)
      rcases bad_iff.1 w with w | ⟨k,hk,w⟩
      · exact hl w
      · exact hgood k hk w
  · simp only [za7]
    exact M.o_f (decide_eq_false (by omega)) (M.o_pure rfl)
  rintro z (⟨rfl,hbad⟩ | ⟨rfl,hgood⟩)
  · exact M.o_pure (.inr (.inr (.inl ⟨st,h16,any_iff.2 hbad,rfl⟩)))
  have hnb:rows.any (badRow M'.length)=false:=by
    cases hb:rows.any (badRow M'.length) with
    | false=>rfl
    | true =>
      obtain ⟨i,hi,w⟩:=any_iff.1 hb
      exact absurd w (hgood i hi)
  have rw_:=rws_of h16 hnb
  have rin:∀ {i},i<rows.length->∀ k∈rows.getD i [],0<=k/\k<M'.length:=fun {i} hi=>(rw_.row _ (by rw [getD_el rows hi]; exact List.getElem_mem hi)).2
  have fin:∀ b:Bool,(b=true↔(rows.length:Int)<=many/\(∀ r∈rows,Fl.Chn M' r)/\∀ v,v<M'.length->∃ r∈rows,(v:Int)∈r)->PvR S M' R' many rows (b,0):=fun b hb=>.inr (.inr (.inr ⟨st,h16,hnb,rfl,hb⟩))
  refine M.o_if (fun q=>M.o_pure (fin false ⟨fun w=>(by cases w),fun w=>by have:=of_decide_eq_true q; omega⟩)) (fun q=>?_)
  have hmany:(rows.length:Int)<=many:=by have:=of_decide_eq_false q; omega
  refine M.o_bind (M.scan M'.length (fun m=>¬∃ r∈rows,(m:Int)∈r) (fun m hm _=>?_) ?_) ?_
  · simp only [zbD]
    refine M.o_t (decide_eq_true (by omega)) (M.o_bind (P:=fun b=>b=true↔∃ j,j<rows.length/\(m:Int)∈rows.getD j []) ?_ fun b hb=>M.o_if (fun q=>?_) (fun q=>?_))
    · refine M.o_for rows.length (fun i (s:Bool × Nat)=>s.2=i/\(s.1=true↔∃ j,j<i/\(m:Int)∈rows.getD j [])) ?_ ?_ ⟨rfl,fun q=>(by cases q),fun ⟨j,hj,_⟩=>by omega⟩
      · rintro _ ⟨b,i⟩ hi ⟨rfl,hb⟩
        dsimp only at hi hb ⊢
        simp only [zbI]
        refine M.o_t (decide_eq_true (by omega)) (M.o_bind (P:=fun c=>c=true↔b=true∨∃ k,k<(rows.getD i []).length/\(rows.getD i []).getD k 0=(m:Int)) ?_ fun c hc=>M.o_pure ⟨rfl,?_⟩)
        · refine M.o_for (rows.getD i []).length (fun k (s:Bool × Nat)=>s.2=k/\(s.1=true↔b=true∨∃ j,j<k/\(rows.getD i []).getD j 0=(m:Int))) ?_ ?_ ⟨rfl,fun q=>.inl q,fun q=>by rcases q with q | ⟨j,hj,_⟩; exact q; omega⟩
          · rintro _ ⟨c,k⟩ hk ⟨rfl,hc⟩
            dsimp only at hk hc ⊢
            simp only [zbm]
            refine M.o_grd (decide_eq_true (by omega)) (M.o_t (decide_eq_true (by omega)) (M.o_grd (gOr (by omega)) (M.o_pure ⟨rfl,?_⟩)))
            dsimp only
            rw [Bool.or_eq_true,hc,beq_iff_eq]
            constructor
            · rintro ((w | ⟨j,hj,w⟩) | w)
              · exact .inl w
              · exact .inr ⟨j,by omega,w⟩
              · exact .inr ⟨k,by omega,w⟩
            · rintro (w | ⟨j,hj,w⟩)
              · exact .inl (.inl w)
              · by_cases e:j=k
                · subst e; exact .inr w
                · exact .inl (.inr ⟨j,by omega,w⟩)
          · rintro ⟨c,_⟩ ⟨rfl,hc⟩
            simp only [zbm]
            exact M.o_grd (decide_eq_true (by omega)) (M.o_f (decide_eq_false (by omega)) (M.o_pure hc))
        · dsimp only
          rw [hc,hb]
          constructor
          · rintro (⟨j,hj,w⟩ | ⟨k,hk,w⟩)
            · exact ⟨j,by omega,w⟩
            · exact ⟨i,by omega,by rw [← w,getD_el _ hk]; exact List.getElem_mem hk⟩
          · rintro ⟨j,hj,w⟩
            by_cases e:j=i
            · subst e
              obtain ⟨k,hk,w⟩:=mem_getD w 0
              exact .inr ⟨k,hk,w⟩
            · exact .inl ⟨j,by omega,w⟩
      · rintro ⟨b,_⟩ ⟨rfl,hb⟩
        simp only [zbI]
        exact M.o_f (decide_eq_false (by omega)) (M.o_pure hb)
    · refine M.o_pure (.inl ⟨fun ⟨r,hr',w⟩=>?_,rfl⟩)
      have q:b=false:=by simpa using q
      obtain ⟨j,hj,rfl⟩:=mem_getD hr' []
      rw [hb.2 ⟨j,hj,w⟩] at q
      cases q
    · have q:b=true:=by simpa using q
      obtain ⟨j,hj,w⟩:=hb.1 q
      exact M.o_pure (.inr ⟨fun k=>k ⟨_,by rw [getD_el rows hj]; exact List.getElem_mem hj,w⟩,rfl⟩)
  · simp only [zbD]
    exact M.o_f (decide_eq_false (by omega)) (M.o_pure rfl)
  rintro z (⟨rfl,m,hm,hbad⟩ | ⟨rfl,hcov⟩)
  · exact M.o_pure (fin false ⟨fun w=>(by cases w),fun w=>absurd (w.2.2 m hm) hbad⟩)
  refine M.o_bind (M.scan rows.length (fun i=>¬Fl.Chn M' (rows.getD i [])) (fun i hi _=>?_) ?_) ?_
  · simp only [zbJ]
    refine M.o_t (decide_eq_true (by omega)) (M.o_bind (M.scan (rows.getD i []).length (fun k=>∃ j,j<k/\¬(Fl.ah M' (Int.toNat ((rows.getD i []).getD k 0)) (Int.toNat ((rows.getD i []).getD j 0))∨Fl.ah M' (Int.toNat ((rows.getD i []).getD j 0)) (Int.toNat ((rows.getD i []).getD k 0)))) (fun k hk _=>?_) ?_) ?_)
    · simp only [zbf]
      refine M.o_grd (decide_eq_true (by omega)) (M.o_t (decide_eq_true (by omega)) (M.o_bind (M.scan k (fun j=>¬(Fl.ah M' (Int.toNat ((rows.getD i []).getD k 0)) (Int.toNat ((rows.getD i []).getD j 0))∨Fl.ah M' (Int.toNat ((rows.getD i []).getD j 0)) (Int.toNat ((rows.getD i []).getD k 0)))) (fun j hj _=>?_) ?_) ?_))
      · have gk:=rin hi _ (by rw [getD_el _ hk]; exact List.getElem_mem hk:(rows.getD i []).getD k 0∈rows.getD i [])
        have gj:=rin hi _ (by rw [getD_el _ (by omega:j<(rows.getD i []).length)]; exact List.getElem_mem _:(rows.getD i []).getD j 0∈rows.getD i [])
        simp only [zbx]
        refine M.o_t (decide_eq_true (by omega)) (M.o_grd (decide_eq_true (by omega)) (M.o_grd (gA2 gk.1 gk.2) (M.o_grd (decide_eq_true (by omega)) (M.o_grd (gA2 gj.1 gj.2) (M.o_bind (againstE _ _) fun x hx=>M.o_if (fun q=>M.o_pure (.inl ⟨fun w=>?_,rfl⟩)) (fun q=>M.o_pure (.inr ⟨fun w=>w ?_,rfl⟩)))))))
        · have q:x=false:=by simpa using q
          rw [hx.2 w] at q; cases q
        · have q:x=true:=by simpa using q
          exact hx.1 q
      · simp only [zbx]
        exact M.o_f (decide_eq_false (by omega)) (M.o_pure rfl)
      rintro z (⟨rfl,j,hj,hbad⟩ | ⟨rfl,hg⟩)
      · exact M.o_pure (.inl ⟨⟨j,hj,hbad⟩,rfl⟩)
      · exact M.o_pure (.inr ⟨fun ⟨j,hj,w⟩=>hg j hj w,rfl⟩)
    · simp only [zbf]
      exact M.o_grd (decide_eq_true (by omega)) (M.o_f (decide_eq_false (by omega)) (M.o_pure rfl))
    rintro z (⟨rfl,k,hk,j,hj,hbad⟩ | ⟨rfl,hg⟩)
    · exact M.o_pure (.inl ⟨fun w=>hbad (w j k hj hk),rfl⟩)
    · exact M.o_pure (.inr ⟨fun w=>w fun j k hj hk=>Classical.byContradiction fun c=>hg k hk ⟨j,hj,c⟩,rfl⟩)
  · simp only [zbJ]
    exact M.o_f (decide_eq_false (by omega)) (M.o_pure rfl)
  rintro z (⟨rfl,i,hi,hbad⟩ | ⟨rfl,hch⟩)
  · exact M.o_pure (fin false ⟨fun w=>(by cases w),fun w=>absurd (w.2.1 _ (by rw [getD_el rows hi]; exact List.getElem_mem hi)) hbad⟩)
  · refine M.o_pure (fin true ⟨fun _=>⟨hmany,fun r hr'=>?_,fun v hv=>Classical.byContradiction (hcov v hv)⟩,fun _=>rfl⟩)
    obtain ⟨i,hi,rfl⟩:=mem_getD hr' []
    exact Classical.byContradiction (hch i hi)
end
end Go.Proofs.YtlemgioaakecpaaGreat
namespace Go.Proofs.YtlemgioaakecpaaGreat
open Go Go.Nm
set_option maxRecDepth 100000 in
theorem awake_ends:zbE.Ends true:=⟨400,by kernel_rfl⟩
end Go.Proofs.YtlemgioaakecpaaGreat
namespace Go.Nm
namespace Fl
section
variable {M:List Mrk}
theorem ci_mem {l:List Nat} {k:Int}:k∈ci l↔∃ v∈l,k=(v:Int):=by
  unfold ci
  rw [List.mem_map]
  constructor
  · rintro ⟨v,hv,rfl⟩; exact ⟨v,hv,rfl⟩
  · rintro ⟨v,hv,rfl⟩; exact ⟨v,hv,rfl⟩
theorem RowsOk.rws {L:List (List Nat)} (h:RowsOk M L) (hn:M.length<=16):Rws M.length (L.map ci):=by
  have:=h.len
  refine ⟨by rw [List.length_map]; omega,fun r hr=>?_⟩
  obtain ⟨l,hl,rfl⟩:=List.mem_map.1 hr
  refine ⟨fun e=>h.ne l hl (by unfold ci at e; exact List.map_eq_nil_iff.1 e),fun k hk=>?_⟩
  obtain ⟨v,hv,rfl⟩:=ci_mem.1 hk
  have:=h.rg l hl v hv
  omega
theorem RowsOk.proves {L:List (List Nat)} (h:RowsOk M L):(∀ r∈L.map ci,Chn M r)/\∀ v,v<M.length->∃ r∈L.map ci,(v:Int)∈r:=by
  refine ⟨fun r hr j k hjk hk=>?_,fun v hv=>?_⟩
  · obtain ⟨l,hl,rfl⟩:=List.mem_map.1 hr
    rw [ci_len] at hk
    rw [ci_get,ci_get,Int.toNat_natCast,Int.toNat_natCast,getD_el l hk,getD_el l (by omega:j<l.length)]
    exact .inr (List.pairwise_iff_getElem.1 (h.pw l hl) j k (by omega) hk hjk)
  · obtain ⟨l,hl,q⟩:=h.cov v hv
    exact ⟨_,List.mem_map.2 ⟨l,hl,rfl⟩,ci_mem.2 ⟨v,q,rfl⟩⟩
theorem rws_any {n:Nat} {T:List (List Int)} (h:Rws n T):T.any (badRow n)=false:=by
  rw [List.any_eq_false]
  intro r hr
  have g:=h.row r hr
  have hl:=List.length_pos_iff.2 g.1
  intro w
  rcases bad_iff.1 w with w | ⟨k,hk,w⟩
  · omega
  · have:=g.2 (r.getD k 0) (by rw [getD_el r hk]; exact List.getElem_mem hk)
    omega
end
end Fl
end Go.Nm
namespace Go.Proofs.YtlemgioaakecpaaGreat
open Go Go.Nm
section
variable {S:List Sect} {M':List Mrk} {R':List Rch} {ms:List Int} {r:Rch} {c:Cas}
/-- As much as is worked on. -/
structure Few (S:List Sect) (M':List Mrk) (R':List Rch):Prop where
  s:S.length<=8
  m:M'.length<=18
  r:R'.length<=8
  w:∀ x∈S,x.rows.length<=10
theorem big_out:(zb9 S M' R').Out (fun b=>b=false->Few S M' R'):=by
  unfold zb9
  refine M.o_if (fun q=>M.o_pure fun h=>by cases h) (fun q=>?_)
  rw [Bool.or_eq_false_iff,Bool.or_eq_false_iff,Bool.or_eq_false_iff,decide_eq_false_iff_not,decide_eq_false_iff_not,decide_eq_false_iff_not] at q
  obtain ⟨⟨⟨q1,_⟩,q2⟩,q3⟩:=q
  refine M.o_bind (M.scan S.length (fun i=>10<(S.getD i default).rows.length) (fun i hi _=>?_) ?_) ?_
  · simp only [za9]
    refine M.o_t (decide_eq_true (by omega)) (M.o_grd (decide_eq_true (by omega)) (M.o_if (fun q=>M.o_pure (.inl ⟨?_,rfl⟩)) (fun q=>M.o_pure (.inr ⟨?_,rfl⟩))))
    · have:=of_decide_eq_true q; omega
    · have:=of_decide_eq_false q; omega
  · simp only [za9]
    exact M.o_f (decide_eq_false (by omega)) (M.o_pure rfl)
  rintro z (⟨rfl,_⟩ | ⟨rfl,hg⟩)
  · exact M.o_pure fun h=>by cases h
  · refine M.o_pure fun _=>⟨by omega,by omega,by omega,fun x hx=>?_⟩
    obtain ⟨i,hi,rfl⟩:=mem_getD hx default
    have:=hg i hi
    omega
theorem rows_at (h:Few S M' R') {i:Nat} (hi:i<S.length):(S.getD i default).rows.length<=10:=h.w _ (by rw [getD_el S hi]; exact List.getElem_mem hi)
theorem copy_row (l:List FRow) (h:l.length<=1000):(zb0 l).Ends l:=by
  unfold zb0
  exact M.i_grd (decide_eq_true (by simp; omega)) M.i_pure
theorem copy_ends (h:Few S M' R'):(zb7 S M' R').Ends (S,M',R'):=by
  have h1:=h.m
  have h2:=h.r
  have h3:=h.s
  unfold zb7 zco zcP
  refine M.i_bind (M.i_grd (decide_eq_true (by simp; omega)) M.i_pure) (M.i_bind (M.i_grd (decide_eq_true (by simp; omega)) M.i_pure) (M.i_bind (a:=(S,S)) ?_ M.i_pure))
  refine M.i_for (fun i=>(i,S.take i)) S.length (fun i hi=>?_) ?_
  · simp only [za8]
    refine M.i_t (decide_eq_true (by omega)) (M.i_grd (decide_eq_true (by omega)) (M.i_bind (copy_row _ (by have:=rows_at h hi; omega)) (M.i_grd (decide_eq_true (by simp; omega)) ?_)))
    rw [← take_succ_D S i hi default]
    exact M.i_pure
  · simp only [za8]
    rw [List.take_length]
    exact M.i_f (decide_eq_false (by omega)) M.i_pure
theorem site_ends (h:Few S M' R'):(zcd S M' R').Ends (S,M',R'):=by
  have h1:=h.m
  have h2:=h.r
  have h3:=h.s
  unfold zcd
  refine M.i_bind (a:=(S,S)) ?_ (M.i_bind (a:=(M',M')) ?_ (M.i_bind (a:=(R',R')) ?_ M.i_pure))
  · refine M.i_for (fun i=>(i,S.take i)) S.length (fun i hi=>?_) ?_
    · simp only [zbF]
      have hw:=rows_at h hi
      refine M.i_t (decide_eq_true (by omega)) (M.i_grd (decide_eq_true (by omega)) (M.i_bind (a:=((S.getD i default).rows,(S.getD i default).rows)) ?_ (M.i_grd (decide_eq_true (by simp; omega)) ?_)))
      · refine M.i_for (fun k=>(k,(S.getD i default).rows.take k)) (S.getD i default).rows.length (fun k hk=>?_) ?_
        · simp only [zbv]
          refine M.i_t (decide_eq_true (by omega)) (M.i_grd (decide_eq_true (by omega)) (M.i_grd (decide_eq_true (by simp; omega)) ?_))
          rw [← take_succ_D (S.getD i default).rows k hk default]
          exact M.i_pure
        · simp only [zbv]
          rw [List.take_length]
          exact M.i_f (decide_eq_false (by omega)) M.i_pure
      · rw [← take_succ_D S i hi default]
        exact M.i_pure
    · simp only [zbF]
      rw [List.take_length]
      exact M.i_f (decide_eq_false (by omega)) M.i_pure
  · refine M.i_for (fun i=>(i,M'.take i)) M'.length (fun i hi=>?_) ?_
    · simp only [zbl]
      refine M.i_t (decide_eq_true (by omega)) (M.i_grd (decide_eq_true (by omega)) (M.i_grd (decide_eq_true (by simp; omega)) ?_))
      rw [← take_succ_D M' i hi default]
      exact M.i_pure
    · simp only [zbl]
      rw [List.take_length]
      exact M.i_f (decide_eq_false (by omega)) M.i_pure
  · refine M.i_for (fun i=>(i,R'.take i)) R'.length (fun i hi=>?_) ?_
    · simp only [zbp]
      refine M.i_t (decide_eq_true (by omega)) (M.i_grd (decide_eq_true (by omega)) (M.i_grd (decide_eq_true (by simp; omega)) ?_))
      rw [← take_succ_D R' i hi default]
      exact M.i_pure
    · simp only [zbp]
      rw [List.take_length]
      exact M.i_f (decide_eq_false (by omega)) M.i_pure
theorem none_bad {body:Nat->M (Nat ⊕ (Unit ⊕ Unit))} (n:Nat) (round:∀ i,i<n->(body i).Ends (.inl (i+1))) (last:(body n).Ends (.inr (.inr ()))):(M.iter body 0).Ends (.inr ()):=M.i_for (fun i=>i) n round last
theorem sameRow_ends (a:List FRow):(zci a a).Ends true:=by
  unfold zci
  refine M.i_f (by simp) (M.i_bind (none_bad a.length (fun i hi=>?_) ?_) M.i_pure)
  · simp only [zbk]
    exact M.i_t (decide_eq_true (by omega)) (M.i_grd (decide_eq_true (by omega)) (M.i_grd (decide_eq_true (by omega)) (M.i_f (by simp) M.i_pure)))
  · simp only [zbk]
    exact M.i_f (decide_eq_false (by omega)) M.i_pure
theorem sameMark_ends (a:List Mrk):(zbT a a).Ends true:=by
  unfold zbT
  refine M.i_f (by simp) (M.i_bind (none_bad a.length (fun i hi=>?_) ?_) M.i_pure)
  · simp only [zaV]
    exact M.i_t (decide_eq_true (by omega)) (M.i_grd (decide_eq_true (by omega)) (M.i_grd (decide_eq_true (by omega)) (M.i_f (by simp) M.i_pure)))
  · simp only [zaV]
    exact M.i_f (decide_eq_false (by omega)) M.i_pure
theorem sameReach_ends (a:List Rch):(zbR a a).Ends true:=by
  unfold zbR
  refine M.i_f (by simp) (M.i_bind (none_bad a.length (fun i hi=>?_) ?_) M.i_pure)
  · simp only [za3]
    exact M.i_t (decide_eq_true (by omega)) (M.i_grd (decide_eq_true (by omega)) (M.i_grd (decide_eq_true (by omega)) (M.i_f (by simp) M.i_pure)))
  · simp only [za3]
    exact M.i_f (decide_eq_false (by omega)) M.i_pure
theorem sameInt_ends (a:List Int):(zcm a a).Ends true:=by
  unfold zcm
  refine M.i_f (by simp) (M.i_bind (none_bad a.length (fun i hi=>?_) ?_) M.i_pure)
  · simp only [zbB]
    exact M.i_t (decide_eq_true (by omega)) (M.i_grd (decide_eq_true (by omega)) (M.i_grd (decide_eq_true (by omega)) (M.i_f (by simp) M.i_pure)))
  · simp only [zbB]
    exact M.i_f (decide_eq_false (by omega)) M.i_pure
theorem same_ends:(zb1 S M' R' S M' R').Ends true:=by
  unfold zb1
  refine M.i_bind (M.i_opt (fun _=>sameMark_ends M') (fun q=>by simp at q)) (M.i_bind (M.i_opt (fun _=>sameReach_ends R') (fun q=>by simp at q)) (M.i_f (by simp) (M.i_bind (none_bad S.length (fun i hi=>?_) ?_) M.i_pure)))
  · simp only [zbc]
    exact M.i_t (decide_eq_true (by omega)) (M.i_grd (decide_eq_true (by omega)) (M.i_grd (decide_eq_true (by omega)) (M.i_bind (M.i_opt (fun _=>sameRow_ends _) (fun q=>by simp at q)) (M.i_f (by simp) M.i_pure))))
  · simp only [zbc]
    exact M.i_f (decide_eq_false (by omega)) M.i_pure
theorem Rows_ends (h:Fl.Site S M' R') {T:List (List Int)} (hE:(zan S M' R').Ends T):(zaQ S M' R').Ends (T,0):=by
  unfold zaQ
  exact M.i_bind (opened_ends h) (M.i_f rfl (M.i_bind hE M.i_pure))
theorem lists_ends18 {T:List (List Int)} (hl:T.length<=18) (hr:∀ r∈T,r.length<=18):(zcc T).Ends T:=by
  unfold zcc
  refine M.i_bind (a:=(T,T)) ?_ M.i_pure
  refine M.i_for (fun i=>(i,T.take i)) T.length (fun i hi=>?_) ?_
  · have hm:T.getD i []∈T:=by rw [getD_el T hi]; exact List.getElem_mem hi
    have:=hr _ hm
    simp only [zbn]
    refine M.i_t (decide_eq_true (by omega)) (M.i_grd (decide_eq_true (by omega)) (M.i_bind (a:=T.getD i []) ?_ (M.i_grd (decide_eq_true (by simp; omega)) ?_)))
    · unfold zcI
      exact M.i_grd (decide_eq_true (by simp only [List.length_nil]; omega)) M.i_pure
    · rw [← take_succ_D T i hi []]
      exact M.i_pure
  · simp only [zbn]
    rw [List.take_length]
    exact M.i_f (decide_eq_false (by omega)) M.i_pure
theorem sameLists_ends (a:List (List Int)):(zbY a a).Ends true:=by
  unfold zbY
  refine M.i_f (by simp) (M.i_bind (none_bad a.length (fun i hi=>?_) ?_) M.i_pure)
  · simp only [zbt]
    exact M.i_t (decide_eq_true (by omega)) (M.i_grd (decide_eq_true (by omega)) (M.i_grd (decide_eq_true (by omega)) (M.i_bind (sameInt_ends _) (M.i_f rfl M.i_pure))))
  · simp only [zbt]
    exact M.i_f (decide_eq_false (by omega)) M.i_pure
theorem Most_all:(zaq S M' R').Out (fun x=>(¬Fl.Site S M' R'/\x=([],Fl.ckE S M' R'))∨(Fl.Site S M' R'/\x.2=0/\∃ L:List (List Nat),(zan S M' R').Ends (L.map Fl.ci)/\Fl.RowsOk M' L/\Fl.Best M' L x.1)):=by
  by_cases st:Fl.Site S M' R'
  · exact M.o_mono (Most_best st) fun x hx=>.inr ⟨st,hx⟩
  · unfold zaq
    refine M.o_bind opened_any ?_
    intro x hx
    match x,hx with
    | .inl e,⟨h0,h1,h2⟩=>exact M.o_t (bne_iff_ne.2 h0) (M.o_pure (.inl ⟨st,by rw [h2]⟩))
    | .inr e,⟨h0,h1⟩=>exact absurd h1 st
theorem Rows_not (st:¬Fl.Site S M' R'):(zaQ S M' R').Ends ([],Fl.ckE S M' R'):=by
  refine M.Out.ends ?_
  unfold zaQ
  refine M.o_bind opened_any ?_
  intro x hx
  match x,hx with
  | .inl e,⟨h0,h1,h2⟩=>rw [← h2]; exact M.o_t (bne_iff_ne.2 h0) (M.o_pure rfl)
  | .inr e,⟨h0,h1⟩=>exact absurd h1 st
theorem few_out {rows:List (List Int)}:(M.iter (zaA rows) 0).Out (fun z=>z = .inl true∨(z = .inr ()/\∀ i,i<rows.length->(rows.getD i []).length<=18)):=by
  refine M.o_for rows.length (fun i (s:Nat)=>s=i/\∀ j,j<i->(rows.getD j []).length<=18) ?_ ?_ ⟨rfl,fun j hj=>by omega⟩
  · rintro _ i hi ⟨rfl,hj⟩
    simp only [zaA]
    refine M.o_t (decide_eq_true (by omega)) (M.o_grd (decide_eq_true (by omega)) (M.o_if (fun _=>M.o_bindE awake_ends (M.o_pure (.inl rfl))) (fun q=>M.o_pure ⟨rfl,fun j hj'=>?_⟩)))
    have q:=of_decide_eq_false q
    by_cases e:j=i
    · subst e; omega
    · exact hj j (by omega)
  · rintro _ ⟨rfl,hj⟩
    simp only [zaA]
    exact M.o_f (decide_eq_false (by omega)) (M.o_pure (.inr ⟨rfl,hj⟩))
theorem j2_ends (h:Few S M' R') (many:Int) (rows:List (List Int)) (l:List Int):(zaF S M' R' many rows S M' R' rows S M' R' l).Ends true:=by
  have hs:S.length<=1000:=by have:=h.s; omega
  have hw:∀ x∈S,x.rows.length<=1000:=fun x hx=>by have:=h.w x hx; omega
  refine M.Out.ends ?_
  unfold zaF
  refine M.o_bind (ProvesX_all many rows) fun x hx=>M.o_bind (refProves_all hs hw many rows) fun y hy=>?_
  obtain rfl:=hx.uniq hy
  obtain ⟨x1,x2⟩:=x
  dsimp only
  have e0:((x2==x2)&&(x1==x1))=true:=by simp
  rw [e0]
  exact M.o_bindE (M.i_opt (fun _=>same_ends) (fun q=>by cases q)) (M.o_bindE (M.i_opt (fun _=>sameLists_ends rows) (fun q=>by cases q)) (M.o_bindE (M.i_opt (fun _=>awake_ends) (fun q=>by cases q)) (M.o_pure rfl)))
theorem zdW (i s a b many:Int) (rows:List (List Int)):(zcF S M' R' i s a b many rows).Ends true:=by
  refine M.Out.ends ?_
  unfold zcF
  refine M.o_bind big_out fun bg hb=>M.o_if (fun _=>M.o_bindE awake_ends (M.o_pure rfl)) (fun q=>?_)
  rw [Bool.or_eq_false_iff,decide_eq_false_iff_not] at q
  have h:=hb q.1
  have hl:rows.length<=18:=by omega
  have hs:S.length<=1000:=by have:=h.s; omega
  have hw:∀ x∈S,x.rows.length<=1000:=fun x hx=>by have:=h.w x hx; omega
  refine M.o_bind few_out ?_
  rintro z (rfl | ⟨rfl,hrows⟩)
  · exact M.o_pure rfl
  refine M.o_bindE (copy_ends h) (M.o_bindE (lists_ends18 hl fun r hr=>?_) (M.o_bindE (site_ends h) (M.o_bind Check_out fun c1 hc1=>M.o_bind (refCheck_out hs hw) fun c2 hc2=>M.o_f (by rw [hc1.uniq hc2]; simp) ?_)))
  · obtain ⟨k,hk,rfl⟩:=mem_getD hr []
    exact hrows k hk
  have e1:=Carry_all (S:=S) (M':=M') (R':=R') i s
  have e2:=refCarry_all (M':=M') (R':=R') hs hw i s
  generalize crV S M' R' i s=cv at e1 e2
  obtain ⟨v1,v2⟩:=cv
  refine M.o_bindE e1 (M.o_bindE e2 (M.o_f (by simp) (M.o_bind (Contradict_all a b) ?_)))
  rintro ⟨x1,x2⟩ hx
  refine M.o_bind (refContradict_all hs hw a b) ?_
  rintro ⟨y1,y2⟩ hy
  have e:=hx.uniq hy
  rw [Prod.mk.injEq] at e
  obtain ⟨rfl,rfl⟩:=e
  refine M.o_f (by simp) (M.o_bind Most_all ?_)
  rintro ⟨l,e⟩ hM
  refine M.o_bind (refMost_out hs hw) ?_
  rintro ⟨n,w⟩ hR
  rcases hM with ⟨st,hM⟩ | ⟨st,rfl,L,hE,hr,hbest⟩
  · rw [Prod.mk.injEq] at hM
    obtain ⟨rfl,rfl⟩:=hM
    rcases hR with ⟨_,hR⟩ | ⟨st',_⟩
    · rw [Prod.mk.injEq] at hR
      obtain ⟨rfl,rfl⟩:=hR
      exact M.o_bindE (Rows_not st) (M.o_f (by simp) (M.o_f (beq_false_of_ne (Fl.ckE_ne st)) (M.o_of (j2_ends h _ _ _) rfl)))
    · exact absurd st' st
  · rcases hR with ⟨st',_⟩ | ⟨_,rfl,⟨l',hi',ht',hn'⟩,hmax⟩
    · exact absurd st st'
    dsimp only at hn' hmax hbest
    have hn:=st.m
    have pr:=hr.proves
    have rws:=hr.rws hn.2
    have n1:(l.length:Int)<=n:=hmax l hbest.inc hbest.tog
    have n2:l'.length<=(L.map Fl.ci).length:=Fl.prove_few hi' ht' (fun r hr' k hk=>(rws.row r hr').2 k hk) pr.1 pr.2
    rw [List.length_map] at n2
    have n3:=hbest.n
    obtain rfl:n=(l.length:Int):=by omega
    refine M.o_bindE (Rows_ends st hE) (M.o_f (by simp; omega) (M.o_t rfl ?_))
    have hinc:=Fl.inc_iff.1 hbest.inc
    have hll:l.length<=1000000:=by have:=hr.len; omega
    refine M.o_bind (M.scan l.length (fun _=>False) (fun k hk _=>?_) ?_) ?_
    · have g:=hinc.1 k hk
      have ek:0<k->Int.toNat ((k:Int)-1)=k-1:=fun q=>by omega
      have nb:((decide (l.getD k 0<0))||(decide ((M'.length:Int)<=l.getD k 0)))=false:=by
        rw [decide_eq_false (by omega),decide_eq_false (by omega)]; rfl
      simp only [zaY]
      rw [nb]
      refine M.o_t (decide_eq_true (by omega)) (M.o_grd (decide_eq_true (by omega)) (M.o_grd ?_ (M.o_grd ?_ (M.o_f ?_ (M.o_pure (.inr ⟨id,rfl⟩))))))
      · by_cases h0:0<k
        · exact gOr2 (by omega) (by omega)
        · have:decide (0<(k:Int))=false:=decide_eq_false (by omega)
          rw [this]; rfl
      · by_cases h0:0<k
        · exact gOr2 (by omega) (by omega)
        · have:decide (0<(k:Int))=false:=decide_eq_false (by omega)
          rw [this]; rfl
      · by_cases h0:0<k
        · have:=hinc.2 (k-1) (by omega)
          rw [show k-1+1=k by omega] at this
          rw [ek h0,decide_eq_false (by omega:¬l.getD k 0<=l.getD (k-1) 0),Bool.and_false]; rfl
        · have:decide (0<(k:Int))=false:=decide_eq_false (by omega)
          rw [this]; rfl
    · simp only [zaY]
      exact M.o_f (decide_eq_false (by omega)) (M.o_pure rfl)
    rintro z (⟨_,_,_,w⟩ | ⟨rfl,_⟩)
    · exact w.elim
    refine M.o_bind (refProves_all hs hw _ _) ?_
    rintro ⟨p1,p2⟩ hp
    have hp':p1=true/\p2=0:=by
      rcases hp with ⟨k1,_⟩ | ⟨_,k2,_⟩ | ⟨_,_,k3,_⟩ | ⟨_,_,_,k4,k5⟩
      · exact absurd st k1
      · have:=rws.len; omega
      · rw [Fl.rws_any rws] at k3; cases k3
      · exact ⟨k5.2 ⟨by rw [List.length_map]; omega,pr.1,pr.2⟩,k4⟩
    obtain ⟨rfl,rfl⟩:=hp'
    refine M.o_bind (M.o_opt (Q:=fun x=>x=true) (fun _=>M.o_mono (refTogether_out st.mks hbest.inc.2 hll) fun x hx=>hx.2 hbest.tog) (fun q=>by simp at q)) fun x hx=>?_
    subst hx
    exact M.o_f rfl (M.o_of (j2_ends h _ _ _) rfl)
end
end Go.Proofs.YtlemgioaakecpaaGreat
