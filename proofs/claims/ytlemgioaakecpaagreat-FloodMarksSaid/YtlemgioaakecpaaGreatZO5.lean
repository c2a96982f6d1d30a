/- Part 5 of the texts on which the proof rests. Conditions: none. -/
import Derived.Test.YtlemgioaakecpaaGreatZO4
set_option linter.unusedVariables false
set_option linter.unusedSimpArgs false
set_option linter.unusedSectionVars false
section
set_option maxRecDepth 100000
set_option maxHeartbeats 16000000
namespace Go.Proofs.YtlemgioaakecpaaGreat
open Go Go.Nm
def za9 (s_Sections:List Sect):Nat->M (Nat ⊕ (Unit ⊕ Unit)):=fun i =>
  bif decide ((i:Int)<(s_Sections.length:Int)) then (
  M.grd (decide ((i:Int)<(s_Sections.length:Int))) <|
  bif decide (10<(((s_Sections.getD i default).rows).length:Int)) then (
  M.pure (.inr (.inl ())))
  else (
  M.pure (.inl (i+1))))
  else (
  M.pure (.inr (.inr ())))
def zb9 (s_Sections:List Sect) (s_Marks:List Mrk) (s_Reaches:List Rch):M Bool :=
  bif ((((decide (8<(s_Sections.length:Int)))||((decide (9<(s_Marks.length:Int)))&&(decide ((s_Marks.length:Int)<17))))||(decide (18<(s_Marks.length:Int))))||(decide (8<(s_Reaches.length:Int)))) then (
  M.pure true)
  else (
  M.bind (M.iter (za9 s_Sections) 0) fun x_=>match x_ with
  | (.inl (_:Unit))=>(
  M.pure true)
  | (.inr (_:Unit))=>(
  M.pure false))
theorem zd8 {R:List Chunk} {av:Cells} {ab:Value} {aw:Cells} {ac:Value} {ax:Cells} {ae:Value} (s_Sections:List Sect) (s_Marks:List Mrk) (s_Reaches:List Rch) (aC:Reads R av) (ag:Sl av ab s_Sections) (aK:Reads R aw) (ai:Sl aw ac s_Marks) (aL:Reads R ax) (ay:Sl ax ae s_Reaches) {r:Bool} (hM:(zb9 s_Sections s_Marks s_Reaches).Ends r) (w:World) (H:St w w [] R):Ret Tryz.prog 24 #[.agg #[ab,ac,ae]] w fun v w'=>∃ (y0:Bool),y0=r/\v=B y0/\St w w' [] R:=by
 refine ret_of_W Tryz.func24 rfl rfl rfl ?_
 refine W.seq ?_
 refine W.region rfl ?_
 refine t_box (v:=.agg #[ab,ac,ae]) (cs:=[ab,ac,ae]) H rfl rfl ?_
 intro aa aM H
 refine zA (B false) rfl ?_
 refine s_nil ?_
 refine W.seq ?_
 refine W.seq ?_
 refine W.region rfl ?_
 refine s_val (x_fa (a:=Pq aa) (v:=Pq aa) rfl (fa_blk (o:=0) Fd27_0 Sz23)) ?_
 refine s_val (x_ld (p:=Pq aa) (v:=ab) rfl (ldb_sc Sc23 (H.bl 0) rfl)) ?_
 have aN:=(ag).len_le
 refine s_val (x_lenS T23.und rfl ag) ?_
 refine zC (s_Sections.length:Int) 8 (decide (8<(s_Sections.length:Int))) rfl rfl rfl ?_
 refine zM (B (decide (8<(s_Sections.length:Int)))) rfl ?_
 refine g_val (!(decide (8<(s_Sections.length:Int)))) (gy_f rfl) (fun hg=>x_fa (a:=Pq aa) (v:=Oq aa 1) rfl (fa_blk (o:=0) Fd27_1 Sz24)) ?_
 refine g_val (!(decide (8<(s_Sections.length:Int)))) (gy_f rfl) (fun hg=>x_ld (p:=Oq aa 1) (v:=ac) (gd_of (c:=!(decide (8<(s_Sections.length:Int)))) hg (Oq aa 1)) (ldb_sc Sc24 (H.bl 0) rfl)) ?_
 have aO:=(ai).len_le
 refine g_val (!(decide (8<(s_Sections.length:Int)))) (gy_f rfl) (fun hg=>x_lenS T24.und (gd_of (c:=!(decide (8<(s_Sections.length:Int)))) hg (ac)) ai) ?_
 refine g_val (!(decide (8<(s_Sections.length:Int)))) (gy_f rfl) (fun hg=>x_cmp (kd:=.i64) (a:=(s_Marks.length:Int)) (b:=9) (r:=decide (9<(s_Marks.length:Int))) (gd_of (c:=!(decide (8<(s_Sections.length:Int)))) hg (I (s_Marks.length:Int))) rfl rfl) ?_
 refine g_val (!(decide (8<(s_Sections.length:Int)))) (gy_f rfl) (fun hg=>x_mv (v:=B (decide (9<(s_Marks.length:Int)))) (gd_of (c:=!(decide (8<(s_Sections.length:Int)))) hg (B (decide (9<(s_Marks.length:Int)))))) ?_
 refine g_val ((!(decide (8<(s_Sections.length:Int))))&&(decide (9<(s_Marks.length:Int)))) (gy_gt rfl rfl) (fun hg=>x_fa (a:=Pq aa) (v:=Oq aa 1) rfl (fa_blk (o:=0) Fd27_1 Sz24)) ?_
 refine g_val ((!(decide (8<(s_Sections.length:Int))))&&(decide (9<(s_Marks.length:Int)))) (gy_gt rfl rfl) (fun hg=>x_ld (p:=Oq aa 1) (v:=ac) (gd_of (c:=((!(decide (8<(s_Sections.length:Int))))&&(decide (9<(s_Marks.length:Int))))) hg (Oq aa 1)) (ldb_sc Sc24 (H.bl 0) rfl)) ?_
 have aP:=(ai).len_le
 refine g_val ((!(decide (8<(s_Sections.length:Int))))&&(decide (9<(s_Marks.length:Int)))) (gy_gt rfl rfl) (fun hg=>x_lenS T24.und (gd_of (c:=((!(decide (8<(s_Sections.length:Int))))&&(decide (9<(s_Marks.length:Int))))) hg (ac)) ai) ?_
 refine g_val ((!(decide (8<(s_Sections.length:Int))))&&(decide (9<(s_Marks.length:Int)))) (gy_gt rfl rfl) (fun hg=>x_cmp (kd:=.i64) (a:=(s_Marks.length:Int)) (b:=17) (r:=decide ((s_Marks.length:Int)<17)) (gd_of (c:=((!(decide (8<(s_Sections.length:Int))))&&(decide (9<(s_Marks.length:Int))))) hg (I (s_Marks.length:Int))) rfl rfl) ?_
 refine g_val (!(decide (8<(s_Sections.length:Int)))) (gy_f rfl) (fun hg=>x_pand (b:=decide (9<(s_Marks.length:Int))) (r:=decide ((s_Marks.length:Int)<17)) (gd_of (c:=!(decide (8<(s_Sections.length:Int)))) hg (B (decide (9<(s_Marks.length:Int))))) (fun hb=>gd_of (c:=((!(decide (8<(s_Sections.length:Int))))&&(decide (9<(s_Marks.length:Int))))) (by first | exact hb | (rw [hb]; rfl) | simp_all) (B (decide ((s_Marks.length:Int)<17)))) rfl) ?_
 refine s_val (x_por (b:=decide (8<(s_Sections.length:Int))) (r:=((decide (9<(s_Marks.length:Int)))&&(decide ((s_Marks.length:Int)<17)))) rfl rfl (fun hb=>gd_of (c:=!(decide (8<(s_Sections.length:Int)))) (by first | exact hb | (rw [hb]; rfl) | simp_all) (B ((decide (9<(s_Marks.length:Int)))&&(decide ((s_Marks.length:Int)<17)))))) ?_
 refine zM (B ((decide (8<(s_Sections.length:Int)))||((decide (9<(s_Marks.length:Int)))&&(decide ((s_Marks.length:Int)<17))))) rfl ?_
 refine g_val (!((decide (8<(s_Sections.length:Int)))||((decide (9<(s_Marks.length:Int)))&&(decide ((s_Marks.length:Int)<17))))) (gy_f rfl) (fun hg=>x_fa (a:=Pq aa) (v:=Oq aa 1) rfl (fa_blk (o:=0) Fd27_1 Sz24)) ?_
 refine g_val (!((decide (8<(s_Sections.length:Int)))||((decide (9<(s_Marks.length:Int)))&&(decide ((s_Marks.length:Int)<17))))) (gy_f rfl) (fun hg=>x_ld (p:=Oq aa 1) (v:=ac) (gd_of (c:=!((decide (8<(s_Sections.length:Int)))||((decide (9<(s_Marks.length:Int)))&&(decide ((s_Marks.length:Int)<17))))) hg (Oq aa 1)) (ldb_sc Sc24 (H.bl 0) rfl)) ?_
 have aQ:=(ai).len_le
 refine g_val (!((decide (8<(s_Sections.length:Int)))||((decide (9<(s_Marks.length:Int)))&&(decide ((s_Marks.length:Int)<17))))) (gy_f rfl) (fun hg=>x_lenS T24.und (gd_of (c:=!((decide (8<(s_Sections.length:Int)))||((decide (9<(s_Marks.length:Int)))&&(decide ((s_Marks.length:Int)<17))))) hg (ac)) ai) ?_
 refine g_val (!((decide (8<(s_Sections.length:Int)))||((decide (9<(s_Marks.length:Int)))&&(decide ((s_Marks.length:Int)<17))))) (gy_f rfl) (fun hg=>x_cmp (kd:=.i64) (a:=(s_Marks.length:Int)) (b:=18) (r:=decide (18<(s_Marks.length:Int))) (gd_of (c:=!((decide (8<(s_Sections.length:Int)))||((decide (9<(s_Marks.length:Int)))&&(decide ((s_Marks.length:Int)<17))))) hg (I (s_Marks.length:Int))) rfl rfl) ?_
 refine s_val (x_por (b:=((decide (8<(s_Sections.length:Int)))||((decide (9<(s_Marks.length:Int)))&&(decide ((s_Marks.length:Int)<17))))) (r:=decide (18<(s_Marks.length:Int))) rfl rfl (fun hb=>gd_of (c:=!((decide (8<(s_Sections.length:Int)))||((decide (9<(s_Marks.length:Int)))&&(decide ((s_Marks.length:Int)<17))))) (by first | exact hb | (rw [hb]; rfl) | simp_all) (B (decide (18<(s_Marks.length:Int)))))) ?_
 refine zM (B (((decide (8<(s_Sections.length:Int)))||((decide (9<(s_Marks.length:Int)))&&(decide ((s_Marks.length:Int)<17))))||(decide (18<(s_Marks.length:Int))))) rfl ?_
 refine g_val (!(((decide (8<(s_Sections.length:Int)))||((decide (9<(s_Marks.length:Int)))&&(decide ((s_Marks.length:Int)<17))))||(decide (18<(s_Marks.length:Int))))) (gy_f rfl) (fun hg=>x_fa (a:=Pq aa) (v:=Oq aa 2) rfl (fa_blk (o:=0) Fd27_2 Sz25)) ?_
 refine g_val (!(((decide (8<(s_Sections.length:Int)))||((decide (9<(s_Marks.length:Int)))&&(decide ((s_Marks.length:Int)<17))))||(decide (18<(s_Marks.length:Int))))) (gy_f rfl) (fun hg=>x_ld (p:=Oq aa 2) (v:=ae) (gd_of (c:=!(((decide (8<(s_Sections.length:Int)))||((decide (9<(s_Marks.length:Int)))&&(decide ((s_Marks.length:Int)<17))))||(decide (18<(s_Marks.length:Int))))) hg (Oq aa 2)) (ldb_sc Sc25 (H.bl 0) rfl)) ?_
 have aR:=(ay).len_le
 refine g_val (!(((decide (8<(s_Sections.length:Int)))||((decide (9<(s_Marks.length:Int)))&&(decide ((s_Marks.length:Int)<17))))||(decide (18<(s_Marks.length:Int))))) (gy_f rfl) (fun hg=>x_lenS T25.und (gd_of (c:=!(((decide (8<(s_Sections.length:Int)))||((decide (9<(s_Marks.length:Int)))&&(decide ((s_Marks.length:Int)<17))))||(decide (18<(s_Marks.length:Int))))) hg (ae)) ay) ?_
 refine g_val (!(((decide (8<(s_Sections.length:Int)))||((decide (9<(s_Marks.length:Int)))&&(decide ((s_Marks.length:Int)<17))))||(decide (18<(s_Marks.length:Int))))) (gy_f rfl) (fun hg=>x_cmp (kd:=.i64) (a:=(s_Reaches.length:Int)) (b:=8) (r:=decide (8<(s_Reaches.length:Int))) (gd_of (c:=!(((decide (8<(s_Sections.length:Int)))||((decide (9<(s_Marks.length:Int)))&&(decide ((s_Marks.length:Int)<17))))||(decide (18<(s_Marks.length:Int))))) hg (I (s_Reaches.length:Int))) rfl rfl) ?_
 refine s_val (x_por (b:=(((decide (8<(s_Sections.length:Int)))||((decide (9<(s_Marks.length:Int)))&&(decide ((s_Marks.length:Int)<17))))||(decide (18<(s_Marks.length:Int))))) (r:=decide (8<(s_Reaches.length:Int))) rfl rfl (fun hb=>gd_of (c:=!(((decide (8<(s_Sections.length:Int)))||((decide (9<(s_Marks.length:Int)))&&(decide ((s_Marks.length:Int)<17))))||(decide (18<(s_Marks.length:Int))))) (by first | exact hb | (rw [hb]; rfl) | simp_all) (B (decide (8<(s_Reaches.length:Int)))))) ?_
 refine s_nil ?_
 refine W.cond ((((decide (8<(s_Sections.length:Int)))||((decide (9<(s_Marks.length:Int)))&&(decide ((s_Marks.length:Int)<17))))||(decide (18<(s_Marks.length:Int))))||(decide (8<(s_Reaches.length:Int)))) rfl (fun ap=>?_) (fun ap=>?_)
 ·replace hM:=M.e_t hM ap
  refine W.seq ?_
  refine W.region rfl ?_
  refine zA (B true) rfl ?_
  refine s_nil ?_
  refine W.ret ?_
  have aj:=M.e_pure hM
  exact ⟨_,resE_tmp rfl,⟨true,aj,rfl,(H.pk [])⟩⟩
 replace hM:=M.e_f hM ap
 refine W.skip ?_
 refine W.seq ?_
 refine W.seq ?_
 refine W.region rfl ?_
 refine zA (I 0) rfl ?_
 refine s_nil ?_
 refine W.block ?_
 obtain ⟨aD,aq,az⟩:=M.e_bind hM
 obtain ⟨aS,aq⟩:=M.e_iter aq
 refine W.loop (fun m σ W=>∃ (i:Nat) (ρ:Env),σ=upds ρ [(1,Pq aa),(3,I (i:Int))]/\M.iterN (za9 s_Sections) m i=some aD/\St w W [cBlk aa [ab,ac,ae] 27] R) ?_ ?_
 ·exact ⟨_,0,_,upds_of _ _ ⟨rfl,rfl,trivial⟩,aq,H⟩
 rintro aT σ aU ⟨i,ρ,rfl,aA,H⟩
 obtain ⟨aE,aF,aV,hM,au⟩:=M.e_iterN aA
 simp only [za9] at hM
 clear aA
 refine W.seq ?_
 refine W.seq ?_
 refine W.region rfl ?_
 refine zM (I (i:Int)) rfl ?_
 refine s_val (x_fa (a:=Pq aa) (v:=Pq aa) rfl (fa_blk (o:=0) Fd27_0 Sz23)) ?_
 refine s_val (x_ld (p:=Pq aa) (v:=ab) rfl (ldb_sc Sc23 (H.bl 0) rfl)) ?_
 have aW:=(ag).len_le
 refine s_val (x_lenS T23.und rfl ag) ?_
 refine zC (i:Int) (s_Sections.length:Int) (decide ((i:Int)<(s_Sections.length:Int))) rfl rfl rfl ?_
 refine s_nil ?_
 refine W.cond (decide ((i:Int)<(s_Sections.length:Int))) rfl (fun ak=>?_) (fun ak=>?_)
 ·replace hM:=M.e_t hM ak
  simp only [qy1,qy2,qy3,qy4,qy5,qy6,ne_eq,qy7] at ak
  refine W.skip ?_
  refine W.seq ?_
  refine W.block ?_
  refine W.seq ?_
  refine W.region rfl ?_
  refine s_val (x_fa (a:=Pq aa) (v:=Pq aa) rfl (fa_blk (o:=0) Fd27_0 Sz23)) ?_
  refine s_val (x_ld (p:=Pq aa) (v:=ab) rfl (ldb_sc Sc23 (H.bl 0) rfl)) ?_
  refine zM (I (i:Int)) rfl ?_
  obtain ⟨aG,hM⟩:=M.e_grd hM
  simp only [Bool.and_eq_true,decide_eq_true_eq] at aG
  refine s_val (x_ix (a:=ab) (b:=I (i:Int)) (v:=vat ab 2 (Int.toNat (i:Int))) rfl rfl (Sl.ix (α:=Sect) T23.und T23.size ag (by omega) (by omega))) ?_
  refine s_val (x_fa (a:=vat ab 2 (Int.toNat (i:Int))) (v:=fat (vat ab 2 (Int.toNat (i:Int))) 1) rfl (fa_pl Fd68_1 Sz66 (Sl.pl (i:=(i:Int)) ag (by omega) (by omega)))) ?_
  obtain ⟨aB,aH,am⟩:=Sect_at1 ag (i:=(i:Int)) (by omega) (by omega)
  replace am:Sl _ aB (s_Sections.getD i default).rows:=am
  have aX:=am.len_le
  refine s_val (x_ld (p:=fat (vat ab 2 (Int.toNat (i:Int))) 1) (v:=aB) rfl (ld_sc Sc66 (At.mono (aH) (aC.at H)))) ?_
  have aY:=(am).len_le
  refine s_val (x_lenS T66.und rfl am) ?_
  refine zC (((s_Sections.getD i default).rows).length:Int) 10 (decide (10<(((s_Sections.getD i default).rows).length:Int))) rfl rfl rfl ?_
  refine s_nil ?_
  refine W.cond (decide (10<(((s_Sections.getD i default).rows).length:Int))) rfl (fun ao=>?_) (fun ao=>?_)
  ·replace hM:=M.e_t hM ao
   simp only [qy1,qy2,qy3,qy4,qy5,qy6,ne_eq,qy7] at ao
   refine W.seq ?_
   refine W.region rfl ?_
   refine zA (B true) rfl ?_
   refine s_nil ?_
   refine W.ret ?_
   have aI:=M.e_inr hM au
   subst aI
   replace hM:=az
   try dsimp only at hM
   have aj:=M.e_pure hM
   exact ⟨_,resE_tmp rfl,⟨true,aj,rfl,(H.pk [])⟩⟩
  replace hM:=M.e_f hM ao
  simp only [qy1,qy2,qy3,qy4,qy5,qy6,ne_eq,qy7] at ao
  refine W.skip ?_
  refine W.region rfl ?_
  refine zM (I (i:Int)) rfl ?_
  refine zR (i:Int) 1 ((i:Int)+1) rfl rfl rfl (by omega) ?_
  refine zA (I ((i:Int)+1)) rfl ?_
  refine s_nil ?_
  exact ⟨aE,aF,i+1,_,upds_of _ _ ⟨rfl,rfl,trivial⟩,M.e_inl hM au,H⟩
 replace hM:=M.e_f hM ak
 simp only [qy1,qy2,qy3,qy4,qy5,qy6,ne_eq,qy7] at ak
 refine W.exit ?_
 have aJ:=M.e_inr hM au
 subst aJ
 replace hM:=az
 try dsimp only at hM
 refine W.seq ?_
 refine W.region rfl ?_
 refine zA (B false) rfl ?_
 refine s_nil ?_
 refine W.ret ?_
 have aj:=M.e_pure hM
 exact ⟨_,resE_tmp rfl,⟨false,aj,rfl,(H.pk [])⟩⟩

def zco (l:List Mrk):M (List Mrk) :=
  M.grd (decide ((([]:List Mrk).length+l.length)*24<=140737488355328)) <|
  M.pure l
theorem zdd {R:List Chunk} {ab:Cells} {aa:Value} (l:List Mrk) (ae:Reads R ab) (ag:Sl ab aa l) {r:(List Mrk)} (hM:(zco l).Ends r) (w:World) (H:St w w [] R):Ret Tryz.prog 62 #[aa] w fun v w'=>∃ (y0:List Mrk) (u0:Value),y0=r/\v=u0/\St w w' [cOwn (α:=Mrk) 70 u0 y0] R:=by
 refine ret_of_W Tryz.func62 rfl rfl rfl ?_
 refine W.seq ?_
 refine W.region rfl ?_
 refine zA (.slice none 0 0) rfl ?_
 refine s_nil ?_
 refine W.seq ?_
 refine W.region rfl ?_
 refine zA (.slice none 0 0) rfl ?_
 refine s_nil ?_
 refine W.seq ?_
 refine W.region rfl ?_
 refine zM (.slice none 0 0) rfl ?_
 refine zM aa rfl ?_
 replace H:=H.nilOwn (α:=Mrk) 70
 obtain ⟨ai,hM⟩:=M.e_grd hM
 simp only [Bool.and_eq_true,decide_eq_true_eq] at ai
 refine t_app (α:=Mrk) (k:=0) (l:=[]) (l2:=l) (l':=l) (vy:=aa) T24 rfl H rfl rfl rfl ag (ae.at H) (List.nil_append _) (by first | omega | (simp only [List.length_nil] at *; omega)) ?_
 intro ac ak H
 replace H:=H.nf
 refine zA ac rfl ?_
 refine s_nil ?_
 refine W.ret ?_
 have aj:=M.e_pure hM
 exact ⟨_,resE_tmp rfl,⟨l,ac,aj,rfl,H⟩⟩

def zcP (l:List Rch):M (List Rch) :=
  M.grd (decide ((([]:List Rch).length+l.length)*40<=140737488355328)) <|
  M.pure l
theorem zcv {R:List Chunk} {ab:Cells} {aa:Value} (l:List Rch) (ae:Reads R ab) (ag:Sl ab aa l) {r:(List Rch)} (hM:(zcP l).Ends r) (w:World) (H:St w w [] R):Ret Tryz.prog 63 #[aa] w fun v w'=>∃ (y0:List Rch) (u0:Value),y0=r/\v=u0/\St w w' [cOwn (α:=Rch) 58 u0 y0] R:=by
 refine ret_of_W Tryz.func63 rfl rfl rfl ?_
 refine W.seq ?_
 refine W.region rfl ?_
 refine zA (.slice none 0 0) rfl ?_
 refine s_nil ?_
 refine W.seq ?_
 refine W.region rfl ?_
 refine zA (.slice none 0 0) rfl ?_
 refine s_nil ?_
 refine W.seq ?_
 refine W.region rfl ?_
 refine zM (.slice none 0 0) rfl ?_
 refine zM aa rfl ?_
 replace H:=H.nilOwn (α:=Rch) 58
 obtain ⟨ai,hM⟩:=M.e_grd hM
 simp only [Bool.and_eq_true,decide_eq_true_eq] at ai
 refine t_app (α:=Rch) (k:=0) (l:=[]) (l2:=l) (l':=l) (vy:=aa) T25 rfl H rfl rfl rfl ag (ae.at H) (List.nil_append _) (by first | omega | (simp only [List.length_nil] at *; omega)) ?_
 intro ac ak H
 replace H:=H.nf
 refine zA ac rfl ?_
 refine s_nil ?_
 refine W.ret ?_
 have aj:=M.e_pure hM
 exact ⟨_,resE_tmp rfl,⟨l,ac,aj,rfl,H⟩⟩

def zb0 (l:List FRow):M (List FRow) :=
  M.grd (decide ((([]:List FRow).length+l.length)*16<=140737488355328)) <|
  M.pure l
theorem zdh {R:List Chunk} {ab:Cells} {aa:Value} (l:List FRow) (ae:Reads R ab) (ag:Sl ab aa l) {r:(List FRow)} (hM:(zb0 l).Ends r) (w:World) (H:St w w [] R):Ret Tryz.prog 64 #[aa] w fun v w'=>∃ (y0:List FRow) (u0:Value),y0=r/\v=u0/\St w w' [cOwn (α:=FRow) 109 u0 y0] R:=by
 refine ret_of_W Tryz.func64 rfl rfl rfl ?_
 refine W.seq ?_
 refine W.region rfl ?_
 refine zA (.slice none 0 0) rfl ?_
 refine s_nil ?_
 refine W.seq ?_
 refine W.region rfl ?_
 refine zA (.slice none 0 0) rfl ?_
 refine s_nil ?_
 refine W.seq ?_
 refine W.region rfl ?_
 refine zM (.slice none 0 0) rfl ?_
 refine zM aa rfl ?_
 replace H:=H.nilOwn (α:=FRow) 109
 obtain ⟨ai,hM⟩:=M.e_grd hM
 simp only [Bool.and_eq_true,decide_eq_true_eq] at ai
 refine t_app (α:=FRow) (k:=0) (l:=[]) (l2:=l) (l':=l) (vy:=aa) T66 rfl H rfl rfl rfl ag (ae.at H) (List.nil_append _) (by first | omega | (simp only [List.length_nil] at *; omega)) ?_
 intro ac ak H
 replace H:=H.nf
 refine zA ac rfl ?_
 refine s_nil ?_
 refine W.ret ?_
 have aj:=M.e_pure hM
 exact ⟨_,resE_tmp rfl,⟨l,ac,aj,rfl,H⟩⟩

def za8 (s_Sections:List Sect):(Nat × (List Sect))->M ((Nat × (List Sect)) ⊕ ((List Sect) × (List Sect))):=fun (i,l) =>
  bif decide ((i:Int)<(s_Sections.length:Int)) then (
  M.grd (decide ((i:Int)<(s_Sections.length:Int))) <|
  M.bind (zb0 ((s_Sections.getD i default).rows)) fun r4 =>
  M.grd (decide ((l.length+([(⟨((s_Sections.getD i default).place:Int),r4⟩:Sect)]).length)*32<=140737488355328)) <|
  M.pure (.inl (i+1,l++([(⟨((s_Sections.getD i default).place:Int),r4⟩:Sect)]))))
  else (
  M.pure (.inr (l,l)))
def zcr (s_Sections:List Sect) (r2:List Mrk) (r3:List Rch):M ((List Sect) × (List Mrk) × (List Rch)) :=
  M.bind (M.iter (za8 s_Sections) (0,[])) fun (l2,l3) =>
  M.pure (l3,r2,r3)
def zb7 (s_Sections:List Sect) (s_Marks:List Mrk) (s_Reaches:List Rch):M ((List Sect) × (List Mrk) × (List Rch)) :=
  M.bind (zco s_Marks) fun r2 =>
  M.bind (zcP s_Reaches) fun r3 =>
  zcr s_Sections r2 r3
theorem zd7 {R:List Chunk} {bc:Cells} {ag:Value} {bf:Cells} {aq:Value} {bh:Cells} {ap:Value} (s_Sections:List Sect) (s_Marks:List Mrk) (s_Reaches:List Rch) (aG:Reads R bc) (au:Sl bc ag s_Sections) (bi:Reads R bf) (bj:Sl bf aq s_Marks) (aS:Reads R bh) (aT:Sl bh ap s_Reaches) {r:((List Sect) × (List Mrk) × (List Rch))} (hM:(zb7 s_Sections s_Marks s_Reaches).Ends r) (w:World) (H:St w w [] R):Ret Tryz.prog 17 #[.agg #[ag,aq,ap]] w fun v w'=>∃ (y0:List Sect) (y1:List Mrk) (y2:List Rch) (u0:Value) (rr1:List (Raw 1)) (bm:Base) (u3:Value) (u4:Value),(y0,y1,y2)=r/\v = .agg #[u0,u3,u4]/\St w w' [cOwn (α:=Raw 1) 68 u0 rr1,cRo bm,cOwn (α:=Mrk) 70 u3 y1,cOwn (α:=Rch) 58 u4 y2] R/\RepR (α:=Sect) bm.cells rr1 y0:=by
 refine ret_of_W Tryz.func17 rfl rfl rfl ?_
 refine W.seq ?_
 refine W.region rfl ?_
 refine t_box (v:=.agg #[ag,aq,ap]) (cs:=[ag,aq,ap]) H rfl rfl ?_
 intro ai cy H
 refine t_alloc (cs:=[.slice none 0 0,.slice none 0 0,.slice none 0 0]) H Al27 rfl ?_
 intro aB cz H
 refine s_nil ?_
 refine W.seqJ (fun σ W=>∃ (ac:Nat) (r2:List Mrk) (r3:List Rch) (ab:Value) (aa:Value) (ρ:Env),σ=upds ρ [(1,Pq ai),(2,Pq aB),(3,Pq ac)]/\(zcr s_Sections r2 r3).Ends r/\St w W [cBlk ac [.slice none 0 0,ab,aa] 27,cOwn (α:=Rch) 58 aa r3,cOwn (α:=Mrk) 70 ab r2,cBlk aB [.slice none 0 0,.slice none 0 0,.slice none 0 0] 27,cBlk ai [ag,aq,ap] 27] R) ?_ ?_
 ·skip
  refine W.drawT (fun W=>St w W [cBlk aB [.slice none 0 0,.slice none 0 0,.slice none 0 0] 27,cBlk ai [ag,aq,ap] 27] R) (.q 0 (.q 1 (.q 3 (.q 4 (.l2 2 (.l2 5 (.q 6 (.l 7 (.l 8 .nil))) 7 (.l 5 (.q 6 (.l 8 .nil)))) 7 (.l 2 (.l 5 (.q 6 (.l 8 .nil))))))))) mixed (by decide +kernel) rfl ?_
  intro cA aC
  replace H:=H.ext aC
  clear aC
  refine ⟨(H.pk [0,1]),?_⟩
  refine t_q rfl (fun w' H=>x_fa (a:=Pq ai) (v:=Oq ai 1) rfl (fa_blk (o:=0) Fd27_1 Sz24)) ?_
  refine t_q rfl (fun w' H=>x_ld (p:=Oq ai 1) (v:=aq) rfl (ldb_sc Sc24 (H.bl 1) rfl)) ?_
  refine t_q rfl (fun w' H=>x_fa (a:=Pq ai) (v:=Oq ai 2) rfl (fa_blk (o:=0) Fd27_2 Sz25)) ?_
  refine t_q rfl (fun w' H=>x_ld (p:=Oq ai 2) (v:=ap) rfl (ldb_sc Sc25 (H.bl 1) rfl)) ?_
  refine t_l2 rfl rfl ?_ ?_
  ·skip
   obtain ⟨cB,bv,hM⟩:=M.e_bind hM
   refine s_call cf62 [aq] rfl (zdd s_Marks (bi.app _) bj bv _ (H.gt 2)) ?_
   rintro vq cC ⟨r2,ab,bw,hvq,aj⟩
   subst bw
   subst vq
   try dsimp only at hM
   replace H:=H.bk aj
   clear aj
   have bn:=Sl.cells (H.os 0)
   have cD:=Sl.oc (H.os 0)
   refine s_nil ⟨(H.pk [1,2]),?_⟩
   refine t_l2 rfl rfl ?_ ?_
   ·skip
    obtain ⟨cE,bx,hM⟩:=M.e_bind hM
    refine s_call cf63 [ap] rfl (zcv s_Reaches (aS.app _) aT bx _ (H.gt 3)) ?_
    rintro vq cF ⟨r3,aa,bz,hvq,aj⟩
    subst bz
    subst vq
    try dsimp only at hM
    replace H:=H.bk aj
    clear aj
    have bA:=Sl.cells (H.os 0)
    have cG:=Sl.oc (H.os 0)
    refine s_nil ⟨(H.pk [2,3]),?_⟩
    refine t_q rfl (fun w' H=>x_bld (ps:=[(1,ab),(2,aa)]) (zs:=[.slice none 0 0,.slice none 0 0,.slice none 0 0]) (L':=[.slice none 0 0,ab,aa]) rfl Tryz.underlying27 Al27 rfl (Bd27 Tryz.underlying27) (.cons (cs:=[ab]) bn rfl rfl rfl rfl<|.cons (cs:=[aa]) bA rfl rfl rfl rfl<|.nil)) ?_
    refine t_l rfl ?_
    refine t_alloc (cs:=[.slice none 0 0,.slice none 0 0,.slice none 0 0]) H Al27 rfl ?_
    intro ac cH H
    refine s_nil ⟨(H.pk [3,4]),?_⟩
    refine t_l rfl ?_
    refine t_sw 0 0 [.slice none 0 0,ab,aa] (.agg #[.slice none 0 0,ab,aa]) H rfl rfl Sz27 rfl rfl rfl (by simp only [List.all_cons,List.all_nil,Bool.true_and,Bool.and_true,Sl.oc (H.os 2),Sl.oc (H.os 1)]; try rfl) ?_
    intro cI H
    refine s_nil ⟨(H.pk [3,4]),?_⟩
    refine t_nil ?_
    exact ⟨ac,r2,r3,ab,aa,_,upds_of _ _ ⟨rfl,rfl,rfl,trivial⟩,hM,H⟩
   skip
   refine t_alloc (cs:=[.slice none 0 0,.slice none 0 0,.slice none 0 0]) H Al27 rfl ?_
   intro ac cJ H
   refine s_nil ⟨(H.pk [2,3]),?_⟩
   refine t_l rfl ?_
   obtain ⟨cK,bB,hM⟩:=M.e_bind hM
   refine s_call cf63 [ap] rfl (zcv s_Reaches (aS.app _) aT bB _ (H.gt 4)) ?_
   rintro vq cL ⟨r3,aa,bC,hvq,aj⟩
   subst bC
   subst vq
   try dsimp only at hM
   replace H:=H.bk aj
   clear aj
   have bD:=Sl.cells (H.os 0)
   have cM:=Sl.oc (H.os 0)
   refine s_nil ⟨(H.pk [3,4]),?_⟩
   refine t_q rfl (fun w' H=>x_bld (ps:=[(1,ab),(2,aa)]) (zs:=[.slice none 0 0,.slice none 0 0,.slice none 0 0]) (L':=[.slice none 0 0,ab,aa]) rfl Tryz.underlying27 Al27 rfl (Bd27 Tryz.underlying27) (.cons (cs:=[ab]) bn rfl rfl rfl rfl<|.cons (cs:=[aa]) bD rfl rfl rfl rfl<|.nil)) ?_
   refine t_l rfl ?_
   refine t_sw 1 0 [.slice none 0 0,ab,aa] (.agg #[.slice none 0 0,ab,aa]) H rfl rfl Sz27 rfl rfl rfl (by simp only [List.all_cons,List.all_nil,Bool.true_and,Bool.and_true,Sl.oc (H.os 2),Sl.oc (H.os 0)]; try rfl) ?_
   intro cN H
   refine s_nil ⟨(H.pk [3,4]),?_⟩
   refine t_nil ?_
   exact ⟨ac,r2,r3,ab,aa,_,upds_of _ _ ⟨rfl,rfl,rfl,trivial⟩,hM,(H.pk [1,0,2,3,4])⟩
  skip
  refine t_alloc (cs:=[.slice none 0 0,.slice none 0 0,.slice none 0 0]) H Al27 rfl ?_
  intro ac cO H
  refine s_nil ⟨(H.pk [1,2]),?_⟩
  refine t_l rfl ?_
  obtain ⟨cP,bE,hM⟩:=M.e_bind hM
  refine s_call cf62 [aq] rfl (zdd s_Marks (bi.app _) bj bE _ (H.gt 3)) ?_
  rintro vq cQ ⟨r2,ab,bF,hvq,aj⟩
  subst bF
  subst vq
  try dsimp only at hM
  replace H:=H.bk aj
  clear aj
  have bG:=Sl.cells (H.os 0)
  have cR:=Sl.oc (H.os 0)
  refine s_nil ⟨(H.pk [2,3]),?_⟩
  refine t_l rfl ?_
  obtain ⟨cS,bH,hM⟩:=M.e_bind hM
  refine s_call cf63 [ap] rfl (zcv s_Reaches (aS.app _) aT bH _ (H.gt 4)) ?_
  rintro vq cT ⟨r3,aa,bI,hvq,aj⟩
  subst bI
  subst vq
  try dsimp only at hM
  replace H:=H.bk aj
  clear aj
  have bJ:=Sl.cells (H.os 0)
  have cU:=Sl.oc (H.os 0)
  refine s_nil ⟨(H.pk [3,4]),?_⟩
  refine t_q rfl (fun w' H=>x_bld (ps:=[(1,ab),(2,aa)]) (zs:=[.slice none 0 0,.slice none 0 0,.slice none 0 0]) (L':=[.slice none 0 0,ab,aa]) rfl Tryz.underlying27 Al27 rfl (Bd27 Tryz.underlying27) (.cons (cs:=[ab]) bG rfl rfl rfl rfl<|.cons (cs:=[aa]) bJ rfl rfl rfl rfl<|.nil)) ?_
  refine t_l rfl ?_
  refine t_sw 2 0 [.slice none 0 0,ab,aa] (.agg #[.slice none 0 0,ab,aa]) H rfl rfl Sz27 rfl rfl rfl (by simp only [List.all_cons,List.all_nil,Bool.true_and,Bool.and_true,Sl.oc (H.os 1),Sl.oc (H.os 0)]; try rfl) ?_
  intro cV H
  refine s_nil ⟨(H.pk [3,4]),?_⟩
  refine t_nil ?_
  exact ⟨ac,r2,r3,ab,aa,_,upds_of _ _ ⟨rfl,rfl,rfl,trivial⟩,hM,(H.pk [2,0,1,3,4])⟩
 rintro _ cW ⟨ac,r2,r3,ab,aa,ρ,rfl,hM,H⟩
 unfold zcr at hM
 refine W.seq ?_
 refine W.seq ?_
 refine W.region rfl ?_
 refine zA (I 0) rfl ?_
 refine s_nil ?_
 refine W.block ?_
 obtain ⟨bo,H⟩:=H.emptyE
 replace H:=H.nilOwn (α:=Raw 1) 68
 have bK:RepR (α:=Sect) (n:=1) bo.cells [] []:=.nil
 obtain ⟨bL,aU,bM⟩:=M.e_bind hM
 obtain ⟨cX,aU⟩:=M.e_iter aU
 refine W.loop (fun m σ W=>∃ (i:Nat) (l:List Sect) (ao:Value) (am:List (Raw 1)) (B_l:Base) (ρ:Env),σ=upds ρ [(1,Pq ai),(2,Pq aB),(3,Pq ac),(4,I (i:Int))]/\M.iterN (za8 s_Sections) m (i,l)=some bL/\St w W [cOwn (α:=Raw 1) 68 ao am,cRo B_l,cBlk ac [ao,ab,aa] 27,cOwn (α:=Rch) 58 aa r3,cOwn (α:=Mrk) 70 ab r2,cBlk aB [.slice none 0 0,.slice none 0 0,.slice none 0 0] 27,cBlk ai [ag,aq,ap] 27] R/\RepR (α:=Sect) B_l.cells am l) ?_ ?_
 ·exact ⟨_,0,[],(.slice none 0 0),[],bo,_,upds_of _ _ ⟨rfl,rfl,rfl,rfl,trivial⟩,aU,H,bK⟩
 rintro cY σ cZ ⟨i,l,ao,am,B_l,ρ,rfl,bp,H,ak⟩
 obtain ⟨aH,aI,c5,hM,aD⟩:=M.e_iterN bp
 simp only [za8] at hM
 clear bp
 refine W.seq ?_
 refine W.seq ?_
 refine W.region rfl ?_
 refine zM (I (i:Int)) rfl ?_
 refine s_val (x_fa (a:=Pq ai) (v:=Pq ai) rfl (fa_blk (o:=0) Fd27_0 Sz23)) ?_
 refine s_val (x_ld (p:=Pq ai) (v:=ag) rfl (ldb_sc Sc23 (H.bl 6) rfl)) ?_
 have c6:=(au).len_le
 refine s_val (x_lenS T23.und rfl au) ?_
 refine zC (i:Int) (s_Sections.length:Int) (decide ((i:Int)<(s_Sections.length:Int))) rfl rfl rfl ?_
 refine s_nil ?_
 refine W.cond (decide ((i:Int)<(s_Sections.length:Int))) rfl (fun aE=>?_) (fun aE=>?_)
 ·replace hM:=M.e_t hM aE
  simp only [qy1,qy2,qy3,qy4,qy5,qy6,ne_eq,qy7] at aE
  refine W.skip ?_
  refine W.seq ?_
  refine W.block ?_
  refine W.drawT (fun W=>St w W [cRo B_l,cOwn (α:=Rch) 58 aa r3,cOwn (α:=Mrk) 70 ab r2,cBlk aB [.slice none 0 0,.slice none 0 0,.slice none 0 0] 27,cBlk ai [ag,aq,ap] 27] R) (.q 0 (.q 2 (.q 3 (.q 4 (.q 5 (.q 6 (.q 7 (.q 8 (.q 9 (.q 10 (.q 11 (.q 12 (.q 13 (.l2 1 (.l 14 (.l 15 (.l 16 (.l 17 (.q 18 (.l 19 .nil)))))) 14 (.l2 1 (.l 15 (.l 16 (.l 17 (.q 18 (.l 19 .nil))))) 15 (.l2 1 (.l 16 (.l 17 (.q 18 (.l 19 .nil)))) 16 (.l 1 (.l 17 (.q 18 (.l 19 .nil)))))))))))))))))))) mixed (by decide +kernel) rfl ?_
  intro c7 aC
  replace H:=H.ext aC
  clear aC
  refine ⟨(H.pk [1,3,4,5,6]),?_⟩
  refine t_q rfl (fun w' H=>x_fa (a:=Pq ac) (v:=Pq ac) rfl (fa_blk (o:=0) Fd27_0 Sz23)) ?_
  refine t_q rfl (fun w' H=>x_fa (a:=Pq ai) (v:=Pq ai) rfl (fa_blk (o:=0) Fd27_0 Sz23)) ?_
  refine t_q rfl (fun w' H=>x_ld (p:=Pq ai) (v:=ag) rfl (ldb_sc Sc23 (H.bl 4) rfl)) ?_
  refine t_q rfl (fun w' H=>x_mv (v:=I (i:Int)) rfl) ?_
  obtain ⟨bN,hM⟩:=M.e_grd hM
  simp only [Bool.and_eq_true,decide_eq_true_eq] at bN
  refine t_q rfl (fun w' H=>x_ix (a:=ag) (b:=I (i:Int)) (v:=vat ag 2 (Int.toNat (i:Int))) rfl rfl (Sl.ix (α:=Sect) T23.und T23.size au (by omega) (by omega))) ?_
  refine t_q rfl (fun w' H=>x_fa (a:=vat ag 2 (Int.toNat (i:Int))) (v:=fat (vat ag 2 (Int.toNat (i:Int))) 0) rfl (fa_pl Fd68_0 Sz3 (Sl.pl (i:=(i:Int)) au (by omega) (by omega)))) ?_
  refine t_q rfl (fun w' H=>x_ld (p:=fat (vat ag 2 (Int.toNat (i:Int))) 0) (v:=I ((s_Sections.getD i default).place)) rfl (ld_sc Sc3 (At.mono (Sect_at0 au (i:=(i:Int)) (by omega) (by omega)) (aG.at H)))) ?_
  refine t_q rfl (fun w' H=>x_fa (a:=Pq ai) (v:=Pq ai) rfl (fa_blk (o:=0) Fd27_0 Sz23)) ?_
  refine t_q rfl (fun w' H=>x_ld (p:=Pq ai) (v:=ag) rfl (ldb_sc Sc23 (H.bl 4) rfl)) ?_
  refine t_q rfl (fun w' H=>x_mv (v:=I (i:Int)) rfl) ?_
  refine t_q rfl (fun w' H=>x_ix (a:=ag) (b:=I (i:Int)) (v:=vat ag 2 (Int.toNat (i:Int))) rfl rfl (Sl.ix (α:=Sect) T23.und T23.size au (by omega) (by omega))) ?_
  refine t_q rfl (fun w' H=>x_fa (a:=vat ag 2 (Int.toNat (i:Int))) (v:=fat (vat ag 2 (Int.toNat (i:Int))) 1) rfl (fa_pl Fd68_1 Sz66 (Sl.pl (i:=(i:Int)) au (by omega) (by omega)))) ?_
  obtain ⟨aJ,bO,aF⟩:=Sect_at1 au (i:=(i:Int)) (by omega) (by omega)
  replace aF:Sl _ aJ (s_Sections.getD i default).rows:=aF
  have c8:=aF.len_le
  refine t_q rfl (fun w' H=>x_ld (p:=fat (vat ag 2 (Int.toNat (i:Int))) 1) (v:=aJ) rfl (ld_sc Sc66 (At.mono (bO) (aG.at H)))) ?_
  refine t_l2 rfl rfl ?_ ?_
  ·skip
   refine s_val (x_ld (p:=Pq ac) (v:=ao) rfl (ldb_sc Sc23 (H.bl 2) rfl)) ?_
   have c9:=Sl.cells (H.os 0)
   have da:=Sl.oc (H.os 0)
   refine s_nil ⟨(H.pk [1,3,4,5,6]),?_⟩
   refine t_l rfl ?_
   obtain ⟨db,bP,hM⟩:=M.e_bind hM
   refine s_call cf64 [aJ] rfl (zdh ((s_Sections.getD i default).rows) (aG.app _) aF bP _ (H.gt 7)) ?_
   rintro vq dc ⟨r4,ae,bQ,hvq,aj⟩
   subst bQ
   subst vq
   try dsimp only at hM
   replace H:=H.bk aj
   clear aj
   have dd:=Sl.cells (H.os 0)
   have de:=Sl.oc (H.os 0)
   refine s_nil ⟨(H.pk [2,4,5,6,7]),?_⟩
   refine t_l rfl ?_
   refine s_val (x_bld (ps:=[(0,I ((s_Sections.getD i default).place)),(1,ae)]) (zs:=[I 0,.slice none 0 0]) (L':=[I ((s_Sections.getD i default).place),ae]) rfl Tryz.underlying68 Al68 rfl (Bd68 Tryz.underlying68) (.cons (cs:=[I ((s_Sections.getD i default).place)]) rfl rfl rfl rfl rfl<|.cons (cs:=[ae]) (Sl.cells (H.os 0)) rfl rfl rfl rfl<|.nil)) ?_
   refine s_nil ⟨(H.pk [2,4,5,6,7]),?_⟩
   refine t_l rfl ?_
   obtain ⟨aV,H⟩:=H.emptyE
   obtain ⟨aW,H,bR⟩:=H.freezeE (k:=1) rfl
   replace H:=H.nf
   have aK:=bR
   obtain ⟨av,H,dg,bS⟩:=H.joinE (i:=0) (j:=1) rfl rfl
   replace aK:=aK.mono bS
   obtain ⟨aw,bq⟩:∃ r:Raw 1,r.cs=[I ((s_Sections.getD i default).place),ae]:=⟨Raw.of [I ((s_Sections.getD i default).place),ae] rfl (by simp only [List.all_cons,List.all_nil,Bool.true_and,Bool.and_true,Sl.oc aK]; try rfl),rfl⟩
   have bT:RepR (α:=Sect) av.cells [aw] [(⟨((s_Sections.getD i default).place:Int),r4⟩:Sect)]:=.cons (by rw [bq]; exact ⟨_,rfl,aK⟩)<|.nil
   refine t_bs (α:=Raw 1) T23 [.agg #[I ((s_Sections.getD i default).place),ae]] [aw] H rfl (.cons (by rw [show (Flat.enc aw:List Value)=aw.cs from rfl,bq]; rfl) (Flat.rep_enc _ _)<|.nil) rfl rfl rfl ?_
   intro bU dh H
   replace H:=H.nf
   have di:=Sl.cells (H.os 0)
   have dj:=Sl.oc (H.os 0)
   refine s_nil ⟨(H.pk [5,7,8,9,10]),?_⟩
   refine t_l rfl ?_
   obtain ⟨bV,hM⟩:=M.e_grd hM
   simp only [Bool.and_eq_true,decide_eq_true_eq] at bV
   have aL:=bT
   obtain ⟨ax,H,bW,bX⟩:=H.joinE (i:=5) (j:=1) rfl rfl
   replace ak:=ak.mono bW
   replace aL:=aL.mono bX
   have aX:=ak.app aL
   refine t_app (α:=Raw 1) (k:=5) (l:=am) (l2:=[aw]) (l':=am++([aw])) (vy:=bU) T23 rfl H rfl rfl rfl (H.os 1) (H.ol 1) (rfl) (by have a_:=ak.len; have b_:=aL.len; (try simp only [List.length_nil] at *); first | omega | (rw [a_,b_]; omega)) ?_
   intro aY dk H
   replace H:=H.nf
   have dm:=Sl.cells (H.os 5)
   have dp:=Sl.oc (H.os 5)
   refine s_nil ⟨(H.pk [6,8,9,10,11]),?_⟩
   refine t_q rfl (fun w' H=>x_fa (a:=Pq ac) (v:=Pq ac) rfl (fa_blk (o:=0) Fd27_0 Sz23)) ?_
   refine t_l rfl ?_
   refine t_sw 7 0 [aY] aY H rfl rfl Sz23 (Sl.cells (rowSl rfl (H.get (k:=5) rfl) (roLe _ (H.get (k:=0) rfl)) aX)) rfl rfl (by simp only [List.all_cons,List.all_nil,Bool.true_and,Bool.and_true,Sl.oc (rowSl rfl (H.get (k:=5) rfl) (roLe _ (H.get (k:=0) rfl)) aX)]; try rfl) ?_
   intro dq H
   refine s_nil ⟨(H.pk [6,8,9,10,11]),?_⟩
   refine t_nil ?_
   replace H:=H.pk [0,5,6,7,8,9,10,11]
   refine W.region rfl ?_
   refine zM (I (i:Int)) rfl ?_
   refine zR (i:Int) 1 ((i:Int)+1) rfl rfl rfl (by omega) ?_
   refine zA (I ((i:Int)+1)) rfl ?_
   refine s_nil ?_
   exact ⟨aH,aI,i+1,l++([(⟨((s_Sections.getD i default).place:Int),r4⟩:Sect)]),aY,am++([aw]),ax,_,upds_of _ _ ⟨rfl,rfl,rfl,rfl,trivial⟩,M.e_inl hM aD,(H.pk [1,0,3,4,5,6,7]),aX⟩
  skip
  obtain ⟨dr,bY,hM⟩:=M.e_bind hM
  refine s_call cf64 [aJ] rfl (zdh ((s_Sections.getD i default).rows) (aG.app _) aF bY _ (H.gt 7)) ?_
  rintro vq dt ⟨r4,ae,bZ,hvq,aj⟩
  subst bZ
  subst vq
  try dsimp only at hM
  replace H:=H.bk aj
  clear aj
  have dv:=Sl.cells (H.os 0)
  have dw:=Sl.oc (H.os 0)
  have dx:=Sl.cells (H.os 1)
  have dy:=Sl.oc (H.os 1)
  refine s_nil ⟨(H.pk [2,4,5,6,7]),?_⟩
  obtain ⟨b4,hM⟩:=M.e_grd hM
  simp only [Bool.and_eq_true,decide_eq_true_eq] at b4
  refine t_l2 rfl rfl ?_ ?_
  ·skip
   refine s_val (x_ld (p:=Pq ac) (v:=ao) rfl (ldb_sc Sc23 (H.bl 3) rfl)) ?_
   refine s_nil ⟨(H.pk [2,4,5,6,7]),?_⟩
   refine t_l rfl ?_
   refine s_val (x_bld (ps:=[(0,I ((s_Sections.getD i default).place)),(1,ae)]) (zs:=[I 0,.slice none 0 0]) (L':=[I ((s_Sections.getD i default).place),ae]) rfl Tryz.underlying68 Al68 rfl (Bd68 Tryz.underlying68) (.cons (cs:=[I ((s_Sections.getD i default).place)]) rfl rfl rfl rfl rfl<|.cons (cs:=[ae]) (Sl.cells (H.os 0)) rfl rfl rfl rfl<|.nil)) ?_
   refine s_nil ⟨(H.pk [2,4,5,6,7]),?_⟩
   refine t_l rfl ?_
   obtain ⟨aV,H⟩:=H.emptyE
   obtain ⟨aW,H,b5⟩:=H.freezeE (k:=1) rfl
   replace H:=H.nf
   have aM:=b5
   obtain ⟨av,H,dz,b6⟩:=H.joinE (i:=0) (j:=1) rfl rfl
   replace aM:=aM.mono b6
   obtain ⟨ay,br⟩:∃ r:Raw 1,r.cs=[I ((s_Sections.getD i default).place),ae]:=⟨Raw.of [I ((s_Sections.getD i default).place),ae] rfl (by simp only [List.all_cons,List.all_nil,Bool.true_and,Bool.and_true,Sl.oc aM]; try rfl),rfl⟩
   have b7:RepR (α:=Sect) av.cells [ay] [(⟨((s_Sections.getD i default).place:Int),r4⟩:Sect)]:=.cons (by rw [br]; exact ⟨_,rfl,aM⟩)<|.nil
   refine t_bs (α:=Raw 1) T23 [.agg #[I ((s_Sections.getD i default).place),ae]] [ay] H rfl (.cons (by rw [show (Flat.enc ay:List Value)=ay.cs from rfl,br]; rfl) (Flat.rep_enc _ _)<|.nil) rfl rfl rfl ?_
   intro b8 dA H
   replace H:=H.nf
   have dB:=Sl.cells (H.os 0)
   have dC:=Sl.oc (H.os 0)
   refine s_nil ⟨(H.pk [5,7,8,9,10]),?_⟩
   refine t_l rfl ?_
   have aN:=b7
   obtain ⟨ax,H,b9,cb⟩:=H.joinE (i:=5) (j:=1) rfl rfl
   replace ak:=ak.mono b9
   replace aN:=aN.mono cb
   have aZ:=ak.app aN
   refine t_app (α:=Raw 1) (k:=5) (l:=am) (l2:=[ay]) (l':=am++([ay])) (vy:=b8) T23 rfl H rfl rfl rfl (H.os 1) (H.ol 1) (rfl) (by have a_:=ak.len; have b_:=aN.len; (try simp only [List.length_nil] at *); first | omega | (rw [a_,b_]; omega)) ?_
   intro a6 dD H
   replace H:=H.nf
   have dE:=Sl.cells (H.os 5)
   have dF:=Sl.oc (H.os 5)
   refine s_nil ⟨(H.pk [6,8,9,10,11]),?_⟩
   refine t_q rfl (fun w' H=>x_fa (a:=Pq ac) (v:=Pq ac) rfl (fa_blk (o:=0) Fd27_0 Sz23)) ?_
   refine t_l rfl ?_
   refine t_sw 7 0 [a6] a6 H rfl rfl Sz23 (Sl.cells (rowSl rfl (H.get (k:=5) rfl) (roLe _ (H.get (k:=0) rfl)) aZ)) rfl rfl (by simp only [List.all_cons,List.all_nil,Bool.true_and,Bool.and_true,Sl.oc (rowSl rfl (H.get (k:=5) rfl) (roLe _ (H.get (k:=0) rfl)) aZ)]; try rfl) ?_
   intro dG H
   refine s_nil ⟨(H.pk [6,8,9,10,11]),?_⟩
   refine t_nil ?_
   replace H:=H.pk [0,5,6,7,8,9,10,11]
   refine W.region rfl ?_
   refine zM (I (i:Int)) rfl ?_
   refine zR (i:Int) 1 ((i:Int)+1) rfl rfl rfl (by omega) ?_
   refine zA (I ((i:Int)+1)) rfl ?_
   refine s_nil ?_
   exact ⟨aH,aI,i+1,l++([(⟨((s_Sections.getD i default).place:Int),r4⟩:Sect)]),a6,am++([ay]),ax,_,upds_of _ _ ⟨rfl,rfl,rfl,rfl,trivial⟩,M.e_inl hM aD,(H.pk [1,0,3,4,5,6,7]),aZ⟩
  skip
  refine s_val (x_bld (ps:=[(0,I ((s_Sections.getD i default).place)),(1,ae)]) (zs:=[I 0,.slice none 0 0]) (L':=[I ((s_Sections.getD i default).place),ae]) rfl Tryz.underlying68 Al68 rfl (Bd68 Tryz.underlying68) (.cons (cs:=[I ((s_Sections.getD i default).place)]) rfl rfl rfl rfl rfl<|.cons (cs:=[ae]) (Sl.cells (H.os 0)) rfl rfl rfl rfl<|.nil)) ?_
  refine s_nil ⟨(H.pk [2,4,5,6,7]),?_⟩
  refine t_l2 rfl rfl ?_ ?_
  ·skip
   refine s_val (x_ld (p:=Pq ac) (v:=ao) rfl (ldb_sc Sc23 (H.bl 3) rfl)) ?_
   refine s_nil ⟨(H.pk [2,4,5,6,7]),?_⟩
   refine t_l rfl ?_
   obtain ⟨aV,H⟩:=H.emptyE
   obtain ⟨aW,H,cc⟩:=H.freezeE (k:=1) rfl
   replace H:=H.nf
   have aO:=cc
   obtain ⟨av,H,dH,cd⟩:=H.joinE (i:=0) (j:=1) rfl rfl
   replace aO:=aO.mono cd
   obtain ⟨az,bt⟩:∃ r:Raw 1,r.cs=[I ((s_Sections.getD i default).place),ae]:=⟨Raw.of [I ((s_Sections.getD i default).place),ae] rfl (by simp only [List.all_cons,List.all_nil,Bool.true_and,Bool.and_true,Sl.oc aO]; try rfl),rfl⟩
   have ce:RepR (α:=Sect) av.cells [az] [(⟨((s_Sections.getD i default).place:Int),r4⟩:Sect)]:=.cons (by rw [bt]; exact ⟨_,rfl,aO⟩)<|.nil
   refine t_bs (α:=Raw 1) T23 [.agg #[I ((s_Sections.getD i default).place),ae]] [az] H rfl (.cons (by rw [show (Flat.enc az:List Value)=az.cs from rfl,bt]; rfl) (Flat.rep_enc _ _)<|.nil) rfl rfl rfl ?_
   intro cf dI H
   replace H:=H.nf
   have dJ:=Sl.cells (H.os 0)
   have dK:=Sl.oc (H.os 0)
   refine s_nil ⟨(H.pk [5,7,8,9,10]),?_⟩
   refine t_l rfl ?_
   have aP:=ce
   obtain ⟨ax,H,cg,cj⟩:=H.joinE (i:=5) (j:=1) rfl rfl
   replace ak:=ak.mono cg
   replace aP:=aP.mono cj
   have a7:=ak.app aP
   refine t_app (α:=Raw 1) (k:=5) (l:=am) (l2:=[az]) (l':=am++([az])) (vy:=cf) T23 rfl H rfl rfl rfl (H.os 1) (H.ol 1) (rfl) (by have a_:=ak.len; have b_:=aP.len; (try simp only [List.length_nil] at *); first | omega | (rw [a_,b_]; omega)) ?_
   intro a8 dL H
   replace H:=H.nf
   have dM:=Sl.cells (H.os 5)
   have dN:=Sl.oc (H.os 5)
   refine s_nil ⟨(H.pk [6,8,9,10,11]),?_⟩
   refine t_q rfl (fun w' H=>x_fa (a:=Pq ac) (v:=Pq ac) rfl (fa_blk (o:=0) Fd27_0 Sz23)) ?_
   refine t_l rfl ?_
   refine t_sw 7 0 [a8] a8 H rfl rfl Sz23 (Sl.cells (rowSl rfl (H.get (k:=5) rfl) (roLe _ (H.get (k:=0) rfl)) a7)) rfl rfl (by simp only [List.all_cons,List.all_nil,Bool.true_and,Bool.and_true,Sl.oc (rowSl rfl (H.get (k:=5) rfl) (roLe _ (H.get (k:=0) rfl)) a7)]; try rfl) ?_
   intro dO H
   refine s_nil ⟨(H.pk [6,8,9,10,11]),?_⟩
   refine t_nil ?_
   replace H:=H.pk [0,5,6,7,8,9,10,11]
   refine W.region rfl ?_
   refine zM (I (i:Int)) rfl ?_
   refine zR (i:Int) 1 ((i:Int)+1) rfl rfl rfl (by omega) ?_
   refine zA (I ((i:Int)+1)) rfl ?_
   refine s_nil ?_
   exact ⟨aH,aI,i+1,l++([(⟨((s_Sections.getD i default).place:Int),r4⟩:Sect)]),a8,am++([az]),ax,_,upds_of _ _ ⟨rfl,rfl,rfl,rfl,trivial⟩,M.e_inl hM aD,(H.pk [1,0,3,4,5,6,7]),a7⟩
  skip
  obtain ⟨aV,H⟩:=H.emptyE
  obtain ⟨aW,H,ck⟩:=H.freezeE (k:=1) rfl
  replace H:=H.nf
  have aQ:=ck
  obtain ⟨av,H,dP,co⟩:=H.joinE (i:=0) (j:=1) rfl rfl
  replace aQ:=aQ.mono co
  obtain ⟨aA,bu⟩:∃ r:Raw 1,r.cs=[I ((s_Sections.getD i default).place),ae]:=⟨Raw.of [I ((s_Sections.getD i default).place),ae] rfl (by simp only [List.all_cons,List.all_nil,Bool.true_and,Bool.and_true,Sl.oc aQ]; try rfl),rfl⟩
  have cp:RepR (α:=Sect) av.cells [aA] [(⟨((s_Sections.getD i default).place:Int),r4⟩:Sect)]:=.cons (by rw [bu]; exact ⟨_,rfl,aQ⟩)<|.nil
  refine t_bs (α:=Raw 1) T23 [.agg #[I ((s_Sections.getD i default).place),ae]] [aA] H rfl (.cons (by rw [show (Flat.enc aA:List Value)=aA.cs from rfl,bu]; rfl) (Flat.rep_enc _ _)<|.nil) rfl rfl rfl ?_
  intro cq dQ H
  replace H:=H.nf
  have dR:=Sl.cells (H.os 0)
  have dS:=Sl.oc (H.os 0)
  refine s_nil ⟨(H.pk [5,7,8,9,10]),?_⟩
  refine t_l rfl ?_
  refine s_val (x_ld (p:=Pq ac) (v:=ao) rfl (ldb_sc Sc23 (H.bl 6) rfl)) ?_
  refine s_nil ⟨(H.pk [5,7,8,9,10]),?_⟩
  refine t_l rfl ?_
  have aR:=cp
  obtain ⟨ax,H,cr,ct⟩:=H.joinE (i:=5) (j:=1) rfl rfl
  replace ak:=ak.mono cr
  replace aR:=aR.mono ct
  have ba:=ak.app aR
  refine t_app (α:=Raw 1) (k:=5) (l:=am) (l2:=[aA]) (l':=am++([aA])) (vy:=cq) T23 rfl H rfl rfl rfl (H.os 1) (H.ol 1) (rfl) (by have a_:=ak.len; have b_:=aR.len; (try simp only [List.length_nil] at *); first | omega | (rw [a_,b_]; omega)) ?_
  intro bb dT H
  replace H:=H.nf
  have dU:=Sl.cells (H.os 5)
  have dV:=Sl.oc (H.os 5)
  refine s_nil ⟨(H.pk [6,8,9,10,11]),?_⟩
  refine t_q rfl (fun w' H=>x_fa (a:=Pq ac) (v:=Pq ac) rfl (fa_blk (o:=0) Fd27_0 Sz23)) ?_
  refine t_l rfl ?_
  refine t_sw 7 0 [bb] bb H rfl rfl Sz23 (Sl.cells (rowSl rfl (H.get (k:=5) rfl) (roLe _ (H.get (k:=0) rfl)) ba)) rfl rfl (by simp only [List.all_cons,List.all_nil,Bool.true_and,Bool.and_true,Sl.oc (rowSl rfl (H.get (k:=5) rfl) (roLe _ (H.get (k:=0) rfl)) ba)]; try rfl) ?_
  intro dW H
  refine s_nil ⟨(H.pk [6,8,9,10,11]),?_⟩
  refine t_nil ?_
  replace H:=H.pk [0,5,6,7,8,9,10,11]
  refine W.region rfl ?_
  refine zM (I (i:Int)) rfl ?_
  refine zR (i:Int) 1 ((i:Int)+1) rfl rfl rfl (by omega) ?_
  refine zA (I ((i:Int)+1)) rfl ?_
  refine s_nil ?_
  exact ⟨aH,aI,i+1,l++([(⟨((s_Sections.getD i default).place:Int),r4⟩:Sect)]),bb,am++([aA]),ax,_,upds_of _ _ ⟨rfl,rfl,rfl,rfl,trivial⟩,M.e_inl hM aD,(H.pk [1,0,3,4,5,6,7]),ba⟩
 replace hM:=M.e_f hM aE
 simp only [qy1,qy2,qy3,qy4,qy5,qy6,ne_eq,qy7] at aE
 refine W.exit ?_
 have cu:=M.e_inr hM aD
 subst cu
 replace hM:=bM
 try dsimp only at hM
 refine W.seq ?_
 refine W.region rfl ?_
 refine s_val (x_ld (p:=Pq ac) (v:=.agg #[ao,ab,aa]) rfl (ldb_ag (ds:=[ao,ab,aa]) Ag27 Sz27 (H.bl 2) rfl rfl)) ?_
 refine t_sw 5 0 [ao,ab,aa] (.agg #[ao,ab,aa]) H rfl rfl Sz27 rfl rfl rfl (by simp only [List.all_cons,List.all_nil,Bool.true_and,Bool.and_true,Sl.oc (rowSl rfl (H.get (k:=0) rfl) (roLe _ (H.get (k:=1) rfl)) ak),Sl.oc (H.os 4),Sl.oc (H.os 3)]; try rfl) ?_
 intro dX H
 refine s_nil ?_
 replace H:=H.pk [0,1,3,4,5]
 refine W.ret ?_
 have cw:=(H.bl 4)
 have cx:=M.e_pure hM
 exact ⟨_,(resE_of1 (v:=.agg #[ao,ab,aa]) rfl (.cell (v:=.agg #[ao,ab,aa]) rfl (run_loadVar_ag (ds:=[ao,ab,aa]) Ag27 Sz27 cw rfl rfl)<|.nil)),⟨l,r2,r3,ao,am,B_l,ab,aa,cx,rfl,(H.pk [0,1,3,2]),ak⟩⟩

def zcI (l:List Int):M (List Int) :=
  M.grd (decide ((([]:List Int).length+l.length)*8<=140737488355328)) <|
  M.pure l
theorem zd6 {R:List Chunk} {ab:Cells} {aa:Value} (l:List Int) (ae:Reads R ab) (ag:Sl ab aa l) {r:(List Int)} (hM:(zcI l).Ends r) (w:World) (H:St w w [] R):Ret Tryz.prog 37 #[aa] w fun v w'=>∃ (y0:List Int) (u0:Value),y0=r/\v=u0/\St w w' [cOwn (α:=Int) 3 u0 y0] R:=by
 refine ret_of_W Tryz.func37 rfl rfl rfl ?_
 refine W.seq ?_
 refine W.region rfl ?_
 refine zA (.slice none 0 0) rfl ?_
 refine s_nil ?_
 refine W.seq ?_
 refine W.region rfl ?_
 refine zA (.slice none 0 0) rfl ?_
 refine s_nil ?_
 refine W.seq ?_
 refine W.region rfl ?_
 refine zM (.slice none 0 0) rfl ?_
 refine zM aa rfl ?_
 replace H:=H.nilOwn (α:=Int) 3
 obtain ⟨ai,hM⟩:=M.e_grd hM
 simp only [Bool.and_eq_true,decide_eq_true_eq] at ai
 refine t_app (α:=Int) (k:=0) (l:=[]) (l2:=l) (l':=l) (vy:=aa) T28 rfl H rfl rfl rfl ag (ae.at H) (List.nil_append _) (by first | omega | (simp only [List.length_nil] at *; omega)) ?_
 intro ac ak H
 replace H:=H.nf
 refine zA ac rfl ?_
 refine s_nil ?_
 refine W.ret ?_
 have aj:=M.e_pure hM
 exact ⟨_,resE_tmp rfl,⟨l,ac,aj,rfl,H⟩⟩

def zbn (l:List (List Int)):(Nat × (List (List Int)))->M ((Nat × (List (List Int))) ⊕ ((List (List Int)) × (List (List Int)))):=fun (i,l2) =>
  bif decide ((i:Int)<(l.length:Int)) then (
  M.grd (decide ((i:Int)<(l.length:Int))) <|
  M.bind (zcI (l.getD i ([]))) fun r2 =>
  M.grd (decide ((l2.length+([r2]).length)*24<=140737488355328)) <|
  M.pure (.inl (i+1,l2++([r2]))))
  else (
  M.pure (.inr (l2,l2)))
def zcc (l:List (List Int)):M (List (List Int)) :=
  M.bind (M.iter (zbn l) (0,[])) fun (l3,l4) =>
  M.pure l4
theorem zdD {R:List Chunk} {av:Cells} {aa:Value} (l:List (List Int)) (aw:Reads R av) (ak:Sl av aa l) {r:(List (List Int))} (hM:(zcc l).Ends r) (w:World) (H:St w w [] R):Ret Tryz.prog 15 #[aa] w fun v w'=>∃ (y0:List (List Int)) (u0:Value) (rr1:List (Raw 0)) (ax:Base),y0=r/\v=u0/\St w w' [cOwn (α:=Raw 0) 28 u0 rr1,cRo ax] R/\RepR (α:=List Int) ax.cells rr1 y0:=by
 refine ret_of_W Tryz.func15 rfl rfl rfl ?_
 refine W.seq ?_
 refine W.region rfl ?_
 refine zA (.slice none 0 0) rfl ?_
 refine s_nil ?_
 refine W.seq ?_
 refine W.region rfl ?_
 refine zA (.slice none 0 0) rfl ?_
 refine s_nil ?_
 refine W.seq ?_
 refine W.seq ?_
 refine W.region rfl ?_
 refine zA (I 0) rfl ?_
 refine s_nil ?_
 refine W.block ?_
 obtain ⟨ay,H⟩:=H.emptyE
 replace H:=H.nilOwn (α:=Raw 0) 28
 have aE:RepR (α:=List Int) (n:=0) ay.cells [] []:=.nil
 obtain ⟨aF,ap,aG⟩:=M.e_bind hM
 obtain ⟨aZ,ap⟩:=M.e_iter ap
 refine W.loop (fun m σ W=>∃ (i:Nat) (l2:List (List Int)) (ab:Value) (ac:List (Raw 0)) (B_l2:Base) (ρ:Env),σ=upds ρ [(0,aa),(3,ab),(4,I (i:Int))]/\M.iterN (zbn l) m (i,l2)=some aF/\St w W [cOwn (α:=Raw 0) 28 ab ac,cRo B_l2] R/\RepR (α:=List Int) B_l2.cells ac l2) ?_ ?_
 ·exact ⟨_,0,[],(.slice none 0 0),[],ay,_,upds_of _ _ ⟨rfl,rfl,rfl,trivial⟩,ap,H,aE⟩
 rintro a6 σ a7 ⟨i,l2,ab,ac,B_l2,ρ,rfl,az,H,ag⟩
 obtain ⟨aH,aI,a8,hM,aA⟩:=M.e_iterN az
 simp only [zbn] at hM
 clear az
 refine W.seq ?_
 refine W.seq ?_
 refine W.region rfl ?_
 refine zM (I (i:Int)) rfl ?_
 refine zM aa rfl ?_
 have ba:=(ak).len_le
 refine s_val (x_lenS T38.und rfl ak) ?_
 refine zC (i:Int) (l.length:Int) (decide ((i:Int)<(l.length:Int))) rfl rfl rfl ?_
 refine s_nil ?_
 refine W.cond (decide ((i:Int)<(l.length:Int))) rfl (fun ai=>?_) (fun ai=>?_)
 ·replace hM:=M.e_t hM ai
  simp only [qy1,qy2,qy3,qy4,qy5,qy6,ne_eq,qy7] at ai
  refine W.skip ?_
  refine W.seq ?_
  refine W.block ?_
  refine W.region rfl ?_
  refine zM ab rfl ?_
  refine zM aa rfl ?_
  refine zM (I (i:Int)) rfl ?_
  obtain ⟨aJ,hM⟩:=M.e_grd hM
  simp only [Bool.and_eq_true,decide_eq_true_eq] at aJ
  refine s_val (x_ix (a:=aa) (b:=I (i:Int)) (v:=vat aa 1 (Int.toNat (i:Int))) rfl rfl (Sl.ix (α:=List Int) T38.und T38.size ak (by omega) (by omega))) ?_
  obtain ⟨aq,aK,am⟩:=List_at ak (i:=(i:Int)) (by omega) (by omega)
  replace am:Sl _ aq (l.getD i ([])):=am
  have bb:=am.len_le
  refine s_val (x_ld (p:=vat aa 1 (Int.toNat (i:Int))) (v:=aq) rfl (ld_sc Sc28 (At.mono (aK) (aw.at H)))) ?_
  obtain ⟨bc,aL,hM⟩:=M.e_bind hM
  refine s_call cf37 [aq] rfl (zd6 (l.getD i ([])) (aw.app _) am aL _ (H.gt 2)) ?_
  rintro vq bf ⟨r2,au,aM,hvq,aB⟩
  subst aM
  subst vq
  try dsimp only at hM
  replace H:=H.bk aB
  clear aB
  obtain ⟨bh,H⟩:=H.emptyE
  obtain ⟨bi,H,aN⟩:=H.freezeE (k:=1) rfl
  replace H:=H.nf
  have aj:=aN
  obtain ⟨aO,H,bj,aP⟩:=H.joinE (i:=0) (j:=1) rfl rfl
  replace aj:=aj.mono aP
  obtain ⟨ae,aC⟩:∃ r:Raw 0,r.cs=[au]:=⟨Raw.of [au] rfl (by simp only [List.all_cons,List.all_nil,Bool.true_and,Bool.and_true,Sl.oc aj]; try rfl),rfl⟩
  have aQ:RepR (α:=List Int) aO.cells [ae] [r2]:=.cons (by rw [aC]; exact ⟨_,rfl,aj⟩)<|.nil
  refine t_bs (α:=Raw 0) T38 [au] [ae] H rfl (.cons (by rw [show (Flat.enc ae:List Value)=ae.cs from rfl,aC]; exact Sl.cells aj) (Flat.rep_enc _ _)<|.nil) rfl rfl rfl ?_
  intro aR bm H
  replace H:=H.nf
  obtain ⟨aS,hM⟩:=M.e_grd hM
  simp only [Bool.and_eq_true,decide_eq_true_eq] at aS
  have ao:=aQ
  obtain ⟨aT,H,aU,aV⟩:=H.joinE (i:=5) (j:=1) rfl rfl
  replace ag:=ag.mono aU
  replace ao:=ao.mono aV
  have aW:=ag.app ao
  refine t_app (α:=Raw 0) (k:=5) (l:=ac) (l2:=[ae]) (l':=ac++([ae])) (vy:=aR) T38 rfl H rfl rfl rfl (H.os 1) (H.ol 1) (rfl) (by have a_:=ag.len; have b_:=ao.len; (try simp only [List.length_nil] at *); first | omega | (rw [a_,b_]; omega)) ?_
  intro aD bn H
  replace H:=H.nf
  refine zA aD rfl ?_
  refine s_nil ?_
  replace H:=H.pk [0,5,6]
  refine W.region rfl ?_
  refine zM (I (i:Int)) rfl ?_
  refine zR (i:Int) 1 ((i:Int)+1) rfl rfl rfl (by omega) ?_
  refine zA (I ((i:Int)+1)) rfl ?_
  refine s_nil ?_
  exact ⟨aH,aI,i+1,l2++([r2]),aD,ac++([ae]),aT,_,upds_of _ _ ⟨rfl,rfl,rfl,trivial⟩,M.e_inl hM aA,(H.pk [1,0]),aW⟩
 replace hM:=M.e_f hM ai
 simp only [qy1,qy2,qy3,qy4,qy5,qy6,ne_eq,qy7] at ai
 refine W.exit ?_
 have aX:=M.e_inr hM aA
 subst aX
 replace hM:=aG
 try dsimp only at hM
 refine W.seq ?_
 refine W.region rfl ?_
 refine zM ab rfl ?_
 refine zA ab rfl ?_
 refine s_nil ?_
 refine W.ret ?_
 have aY:=M.e_pure hM
 exact ⟨_,resE_tmp rfl,⟨l2,ab,ac,B_l2,aY,rfl,H,ag⟩⟩

def zbv (s_Sections:List Sect) (i:Nat):(Nat × (List FRow))->M ((Nat × (List FRow)) ⊕ ((List FRow) × (List FRow))):=fun (k,l) =>
  bif decide ((k:Int)<(((s_Sections.getD i default).rows).length:Int)) then (
  M.grd (decide ((k:Int)<(((s_Sections.getD i default).rows).length:Int))) <|
  M.grd (decide ((l.length+([(((s_Sections.getD i default).rows).getD k default)]).length)*16<=140737488355328)) <|
  M.pure (.inl (k+1,l++([(((s_Sections.getD i default).rows).getD k default)]))))
  else (
  M.pure (.inr (l,l)))
def zbF (s_Sections:List Sect):(Nat × (List Sect))->M ((Nat × (List Sect)) ⊕ ((List Sect) × (List Sect))):=fun (i,l4) =>
  bif decide ((i:Int)<(s_Sections.length:Int)) then (
  M.grd (decide ((i:Int)<(s_Sections.length:Int))) <|
  M.bind (M.iter (zbv s_Sections i) (0,[])) fun (l2,l3) =>
  M.grd (decide ((l4.length+([(⟨((s_Sections.getD i default).place:Int),l3⟩:Sect)]).length)*32<=140737488355328)) <|
  M.pure (.inl (i+1,l4++([(⟨((s_Sections.getD i default).place:Int),l3⟩:Sect)]))))
  else (
  M.pure (.inr (l4,l4)))
def zbl (s_Marks:List Mrk):(Nat × (List Mrk))->M ((Nat × (List Mrk)) ⊕ ((List Mrk) × (List Mrk))):=fun (i2,l7) =>
  bif decide ((i2:Int)<(s_Marks.length:Int)) then (
  M.grd (decide ((i2:Int)<(s_Marks.length:Int))) <|
  M.grd (decide ((l7.length+([(s_Marks.getD i2 default)]).length)*24<=140737488355328)) <|
  M.pure (.inl (i2+1,l7++([(s_Marks.getD i2 default)]))))
  else (
  M.pure (.inr (l7,l7)))
def zbp (s_Reaches:List Rch):(Nat × (List Rch))->M ((Nat × (List Rch)) ⊕ ((List Rch) × (List Rch))):=fun (i3,aa) =>
  bif decide ((i3:Int)<(s_Reaches.length:Int)) then (
  M.grd (decide ((i3:Int)<(s_Reaches.length:Int))) <|
  M.grd (decide ((aa.length+([(s_Reaches.getD i3 default)]).length)*40<=140737488355328)) <|
  M.pure (.inl (i3+1,aa++([(s_Reaches.getD i3 default)]))))
  else (
  M.pure (.inr (aa,aa)))
def zcd (s_Sections:List Sect) (s_Marks:List Mrk) (s_Reaches:List Rch):M ((List Sect) × (List Mrk) × (List Rch)) :=
  M.bind (M.iter (zbF s_Sections) (0,[])) fun (l5,l6) =>
  M.bind (M.iter (zbl s_Marks) (0,[])) fun (l8,l9) =>
  M.bind (M.iter (zbp s_Reaches) (0,[])) fun (ab,aa) =>
  M.pure (l6,l9,aa)
theorem zdo {R:List Chunk} {a7:Cells} {ac:Value} {a8:Cells} {ag:Value} {ba:Cells} {ai:Value} (s_Sections:List Sect) (s_Marks:List Mrk) (s_Reaches:List Rch) (aG:Reads R a7) (ao:Sl a7 ac s_Sections) (bw:Reads R a8) (aH:Sl a8 ag s_Marks) (bx:Reads R ba) (aI:Sl ba ai s_Reaches) {r:((List Sect) × (List Mrk) × (List Rch))} (hM:(zcd s_Sections s_Marks s_Reaches).Ends r) (w:World) (H:St w w [] R):Ret Tryz.prog 25 #[.agg #[ac,ag,ai]] w fun v w'=>∃ (y0:List Sect) (y1:List Mrk) (y2:List Rch) (u0:Value) (rr1:List (Raw 1)) (bb:Base) (u3:Value) (u4:Value),(y0,y1,y2)=r/\v = .agg #[u0,u3,u4]/\St w w' [cOwn (α:=Raw 1) 148 u0 rr1,cRo bb,cOwn (α:=Mrk) 150 u3 y1,cOwn (α:=Rch) 151 u4 y2] R/\RepR (α:=Sect) bb.cells rr1 y0:=by
 refine ret_of_W Tryz.func25 rfl rfl rfl ?_
 refine W.seq ?_
 refine W.region rfl ?_
 refine t_box (v:=.agg #[ac,ag,ai]) (cs:=[ac,ag,ai]) H rfl rfl ?_
 intro aa co H
 refine t_alloc (cs:=[.slice none 0 0,.slice none 0 0,.slice none 0 0]) H Al81 rfl ?_
 intro ap cp H
 refine s_nil ?_
 refine W.seq ?_
 refine W.region rfl ?_
 refine t_alloc (cs:=[.slice none 0 0,.slice none 0 0,.slice none 0 0]) H Al81 rfl ?_
 intro ab cq H
 refine s_nil ?_
 refine W.seq ?_
 refine W.seq ?_
 refine W.region rfl ?_
 refine zA (I 0) rfl ?_
 refine s_nil ?_
 refine W.block ?_
 obtain ⟨bc,H⟩:=H.emptyE
 replace H:=H.nilOwn (α:=Raw 1) 148
 have bz:RepR (α:=Sect) (n:=1) bc.cells [] []:=.nil
 obtain ⟨bA,aL,bB⟩:=M.e_bind hM
 obtain ⟨aM,aL⟩:=M.e_iter aL
 refine W.loop (fun m σ W=>∃ (i:Nat) (l4:List Sect) (ae:Value) (ak:List (Raw 1)) (B_l4:Base) (ρ:Env),σ=upds ρ [(1,Pq aa),(2,Pq ap),(3,Pq ab),(4,I (i:Int))]/\M.iterN (zbF s_Sections) m (i,l4)=some bA/\St w W [cOwn (α:=Raw 1) 148 ae ak,cRo B_l4,cBlk ab [ae,.slice none 0 0,.slice none 0 0] 81,cBlk ap [.slice none 0 0,.slice none 0 0,.slice none 0 0] 81,cBlk aa [ac,ag,ai] 27] R/\RepR (α:=Sect) B_l4.cells ak l4) ?_ ?_
 ·exact ⟨_,0,[],(.slice none 0 0),[],bc,_,upds_of _ _ ⟨rfl,rfl,rfl,rfl,trivial⟩,aL,H,bz⟩
 rintro cr σ ct ⟨i,l4,ae,ak,B_l4,ρ,rfl,bf,H,ay⟩
 obtain ⟨bC,bD,cu,hM,bh⟩:=M.e_iterN bf
 simp only [zbF] at hM
 clear bf
 refine W.seq ?_
 refine W.seq ?_
 refine W.region rfl ?_
 refine zM (I (i:Int)) rfl ?_
 refine s_val (x_fa (a:=Pq aa) (v:=Pq aa) rfl (fa_blk (o:=0) Fd27_0 Sz23)) ?_
 refine s_val (x_ld (p:=Pq aa) (v:=ac) rfl (ldb_sc Sc23 (H.bl 4) rfl)) ?_
 have cw:=(ao).len_le
 refine s_val (x_lenS T23.und rfl ao) ?_
 refine zC (i:Int) (s_Sections.length:Int) (decide ((i:Int)<(s_Sections.length:Int))) rfl rfl rfl ?_
 refine s_nil ?_
 refine W.cond (decide ((i:Int)<(s_Sections.length:Int))) rfl (fun az=>?_) (fun az=>?_)
 ·replace hM:=M.e_t hM az
  simp only [qy1,qy2,qy3,qy4,qy5,qy6,ne_eq,qy7] at az
  refine W.skip ?_
  refine W.seq ?_
  refine W.block ?_
  refine W.seq ?_
  refine W.region rfl ?_
  refine s_val (x_fa (a:=Pq aa) (v:=Pq aa) rfl (fa_blk (o:=0) Fd27_0 Sz23)) ?_
  refine s_val (x_ld (p:=Pq aa) (v:=ac) rfl (ldb_sc Sc23 (H.bl 4) rfl)) ?_
  refine zM (I (i:Int)) rfl ?_
  obtain ⟨bE,hM⟩:=M.e_grd hM
  simp only [Bool.and_eq_true,decide_eq_true_eq] at bE
  refine s_val (x_ix (a:=ac) (b:=I (i:Int)) (v:=vat ac 2 (Int.toNat (i:Int))) rfl rfl (Sl.ix (α:=Sect) T23.und T23.size ao (by omega) (by omega))) ?_
  refine s_val (x_fa (a:=vat ac 2 (Int.toNat (i:Int))) (v:=fat (vat ac 2 (Int.toNat (i:Int))) 0) rfl (fa_pl Fd68_0 Sz3 (Sl.pl (i:=(i:Int)) ao (by omega) (by omega)))) ?_
  refine s_val (x_ld (p:=fat (vat ac 2 (Int.toNat (i:Int))) 0) (v:=I ((s_Sections.getD i default).place)) rfl (ld_sc Sc3 (At.mono (Sect_at0 ao (i:=(i:Int)) (by omega) (by omega)) (aG.at H)))) ?_
  refine s_val (x_bld (ps:=[(0,I ((s_Sections.getD i default).place))]) (zs:=[I 0,.slice none 0 0]) (L':=[I ((s_Sections.getD i default).place),.slice none 0 0]) rfl Tryz.underlying148 Al148 rfl (Bd148 Tryz.underlying148) (.cons (cs:=[I ((s_Sections.getD i default).place)]) rfl rfl rfl rfl rfl<|.nil)) ?_
  refine t_alloc (cs:=[I 0,.slice none 0 0]) H Al148 rfl ?_
  intro aq cx H
  refine t_sw 0 0 [I ((s_Sections.getD i default).place),.slice none 0 0] (.agg #[I ((s_Sections.getD i default).place),.slice none 0 0]) H rfl rfl Sz148 rfl rfl rfl rfl ?_
  intro cy H
  refine s_nil ?_
  refine W.seq ?_
  refine W.seq ?_
  refine W.region rfl ?_
  refine zA (I 0) rfl ?_
  refine s_nil ?_
  refine W.block ?_
  replace H:=H.nilOwn (α:=FRow) 149
  obtain ⟨bF,aN,bG⟩:=M.e_bind hM
  obtain ⟨aM,aN⟩:=M.e_iter aN
  refine W.loop (fun m σ W=>∃ (k:Nat) (l:List FRow) (au:Value) (ρ:Env),σ=upds ρ [(1,Pq aa),(2,Pq ap),(3,Pq ab),(4,I (i:Int)),(5,Pq aq),(6,I (k:Int))]/\M.iterN (zbv s_Sections i) m (k,l)=some bF/\St w W [cOwn (α:=FRow) 149 au l,cBlk aq [I ((s_Sections.getD i default).place),au] 148,cOwn (α:=Raw 1) 148 ae ak,cRo B_l4,cBlk ab [ae,.slice none 0 0,.slice none 0 0] 81,cBlk ap [.slice none 0 0,.slice none 0 0,.slice none 0 0] 81,cBlk aa [ac,ag,ai] 27] R) ?_ ?_
  ·exact ⟨_,0,[],(.slice none 0 0),_,upds_of _ _ ⟨rfl,rfl,rfl,rfl,rfl,rfl,trivial⟩,aN,H⟩
  rintro cz σ cA ⟨k,l,au,ρ,rfl,bi,H⟩
  obtain ⟨bj,bm,cB,hM,aO⟩:=M.e_iterN bi
  simp only [zbv] at hM
  clear bi
  refine W.seq ?_
  refine W.seq ?_
  refine W.region rfl ?_
  refine zM (I (k:Int)) rfl ?_
  refine s_val (x_fa (a:=Pq aa) (v:=Pq aa) rfl (fa_blk (o:=0) Fd27_0 Sz23)) ?_
  refine s_val (x_ld (p:=Pq aa) (v:=ac) rfl (ldb_sc Sc23 (H.bl 6) rfl)) ?_
  refine zM (I (i:Int)) rfl ?_
  refine s_val (x_ix (a:=ac) (b:=I (i:Int)) (v:=vat ac 2 (Int.toNat (i:Int))) rfl rfl (Sl.ix (α:=Sect) T23.und T23.size ao (by omega) (by omega))) ?_
  refine s_val (x_fa (a:=vat ac 2 (Int.toNat (i:Int))) (v:=fat (vat ac 2 (Int.toNat (i:Int))) 1) rfl (fa_pl Fd68_1 Sz66 (Sl.pl (i:=(i:Int)) ao (by omega) (by omega)))) ?_
  obtain ⟨bn,bH,aA⟩:=Sect_at1 ao (i:=(i:Int)) (by omega) (by omega)
  replace aA:Sl _ bn (s_Sections.getD i default).rows:=aA
  have cC:=aA.len_le
  refine s_val (x_ld (p:=fat (vat ac 2 (Int.toNat (i:Int))) 1) (v:=bn) rfl (ld_sc Sc66 (At.mono (bH) (aG.at H)))) ?_
  have cD:=(aA).len_le
  refine s_val (x_lenS T66.und rfl aA) ?_
  refine zC (k:Int) (((s_Sections.getD i default).rows).length:Int) (decide ((k:Int)<(((s_Sections.getD i default).rows).length:Int))) rfl rfl rfl ?_
  refine s_nil ?_
  refine W.cond (decide ((k:Int)<(((s_Sections.getD i default).rows).length:Int))) rfl (fun aB=>?_) (fun aB=>?_)
  ·replace hM:=M.e_t hM aB
   simp only [qy1,qy2,qy3,qy4,qy5,qy6,ne_eq,qy7] at aB
   refine W.skip ?_
   refine W.seq ?_
   refine W.block ?_
   refine W.drawT (fun W=>St w W [cOwn (α:=Raw 1) 148 ae ak,cRo B_l4,cBlk ab [ae,.slice none 0 0,.slice none 0 0] 81,cBlk ap [.slice none 0 0,.slice none 0 0,.slice none 0 0] 81,cBlk aa [ac,ag,ai] 27] R) (.q 0 (.q 2 (.q 3 (.q 4 (.q 5 (.q 6 (.q 7 (.q 8 (.q 9 (.q 10 (.l2 1 (.l 11 (.l 12 (.q 13 (.l 14 .nil)))) 11 (.l 1 (.l 12 (.q 13 (.l 14 .nil))))))))))))))) mixed (by decide +kernel) rfl ?_
   intro cE aw
   replace H:=H.ext aw
   clear aw
   refine ⟨(H.pk [2,3,4,5,6]),?_⟩
   refine t_q rfl (fun w' H=>x_fa (a:=Pq aq) (v:=Oq aq 1) rfl (fa_blk (o:=0) Fd148_1 Sz146)) ?_
   refine t_q rfl (fun w' H=>x_fa (a:=Pq aa) (v:=Pq aa) rfl (fa_blk (o:=0) Fd27_0 Sz23)) ?_
   refine t_q rfl (fun w' H=>x_ld (p:=Pq aa) (v:=ac) rfl (ldb_sc Sc23 (H.bl 4) rfl)) ?_
   refine t_q rfl (fun w' H=>x_mv (v:=I (i:Int)) rfl) ?_
   refine t_q rfl (fun w' H=>x_ix (a:=ac) (b:=I (i:Int)) (v:=vat ac 2 (Int.toNat (i:Int))) rfl rfl (Sl.ix (α:=Sect) T23.und T23.size ao (by omega) (by omega))) ?_
   refine t_q rfl (fun w' H=>x_fa (a:=vat ac 2 (Int.toNat (i:Int))) (v:=fat (vat ac 2 (Int.toNat (i:Int))) 1) rfl (fa_pl Fd68_1 Sz66 (Sl.pl (i:=(i:Int)) ao (by omega) (by omega)))) ?_
   obtain ⟨aC,bI,aD⟩:=Sect_at1 ao (i:=(i:Int)) (by omega) (by omega)
   replace aD:Sl _ aC (s_Sections.getD i default).rows:=aD
   have cF:=aD.len_le
   refine t_q rfl (fun w' H=>x_ld (p:=fat (vat ac 2 (Int.toNat (i:Int))) 1) (v:=aC) rfl (ld_sc Sc66 (At.mono (bI) (aG.at H)))) ?_
   refine t_q rfl (fun w' H=>x_mv (v:=I (k:Int)) rfl) ?_
   obtain ⟨bJ,hM⟩:=M.e_grd hM
   simp only [Bool.and_eq_true,decide_eq_true_eq] at bJ
   refine t_q rfl (fun w' H=>x_ix (a:=aC) (b:=I (k:Int)) (v:=vat aC 2 (Int.toNat (k:Int))) rfl rfl (Sl.ix (α:=FRow) T66.und T66.size aD (by omega) (by omega))) ?_
   refine t_q rfl (fun w' H=>x_ld (p:=vat aC 2 (Int.toNat (k:Int))) (v:=.agg #[I ((((s_Sections.getD i default).rows).getD k default).stage),I ((((s_Sections.getD i default).rows).getD k default).carry)]) rfl (ld_ag Ag109 Sz109 (At.mono (FRow_atA aD (i:=(k:Int)) (by omega) (by omega)) (aG.at H)))) ?_
   obtain ⟨bK,hM⟩:=M.e_grd hM
   simp only [Bool.and_eq_true,decide_eq_true_eq] at bK
   refine t_l2 rfl rfl ?_ ?_
   ·skip
    refine s_val (x_ld (p:=Oq aq 1) (v:=au) rfl (ldb_sc Sc146 (H.bl 1) rfl)) ?_
    have cG:=Sl.cells (H.os 0)
    have cH:=Sl.oc (H.os 0)
    refine s_nil ⟨(H.pk [2,3,4,5,6]),?_⟩
    refine t_l rfl ?_
    refine t_bs (α:=FRow) T146 [.agg #[I ((((s_Sections.getD i default).rows).getD k default).stage),I ((((s_Sections.getD i default).rows).getD k default).carry)]] [(((s_Sections.getD i default).rows).getD k default)] H rfl (.cons rfl (Flat.rep_enc _ (((s_Sections.getD i default).rows).getD k default))<|.nil) rfl rfl rfl ?_
    intro bL cI H
    have cJ:=Sl.cells (H.os 0)
    have cK:=Sl.oc (H.os 0)
    refine s_nil ⟨(H.pk [3,4,5,6,7]),?_⟩
    refine t_l rfl ?_
    refine t_app (α:=FRow) (k:=1) (l:=l) (l2:=[(((s_Sections.getD i default).rows).getD k default)]) (l':=l++([(((s_Sections.getD i default).rows).getD k default)])) (vy:=bL) T146 rfl H rfl rfl rfl (H.os 0) (H.ol 0) (rfl) (by first | omega | (simp only [List.length_nil] at *; omega)) ?_
    intro aP cL H
    replace H:=H.nf
    have cM:=Sl.cells (H.os 1)
    have cN:=Sl.oc (H.os 1)
    refine s_nil ⟨(H.pk [3,4,5,6,7]),?_⟩
    refine t_q rfl (fun w' H=>x_fa (a:=Pq aq) (v:=Oq aq 1) rfl (fa_blk (o:=0) Fd148_1 Sz146)) ?_
    refine t_l rfl ?_
    refine t_sw 2 1 [aP] aP H rfl rfl Sz146 (Sl.cells (H.os 1)) rfl rfl (by simp only [List.all_cons,List.all_nil,Bool.true_and,Bool.and_true,Sl.oc (H.os 1)]; try rfl) ?_
    intro cO H
    refine s_nil ⟨(H.pk [3,4,5,6,7]),?_⟩
    refine t_nil ?_
    refine W.region rfl ?_
    refine zM (I (k:Int)) rfl ?_
    refine zR (k:Int) 1 ((k:Int)+1) rfl rfl rfl (by omega) ?_
    refine zA (I ((k:Int)+1)) rfl ?_
    refine s_nil ?_
    exact ⟨bj,bm,k+1,l++([(((s_Sections.getD i default).rows).getD k default)]),aP,_,upds_of _ _ ⟨rfl,rfl,rfl,rfl,rfl,rfl,trivial⟩,M.e_inl hM aO,(H.pk [1,2,3,4,5,6,7])⟩
   skip
   refine t_bs (α:=FRow) T146 [.agg #[I ((((s_Sections.getD i default).rows).getD k default).stage),I ((((s_Sections.getD i default).rows).getD k default).carry)]] [(((s_Sections.getD i default).rows).getD k default)] H rfl (.cons rfl (Flat.rep_enc _ (((s_Sections.getD i default).rows).getD k default))<|.nil) rfl rfl rfl ?_
   intro bM cP H
   have cQ:=Sl.cells (H.os 0)
   have cR:=Sl.oc (H.os 0)
   have cS:=Sl.cells (H.os 1)
   have cT:=Sl.oc (H.os 1)
   refine s_nil ⟨(H.pk [3,4,5,6,7]),?_⟩
   refine t_l rfl ?_
   refine s_val (x_ld (p:=Oq aq 1) (v:=au) rfl (ldb_sc Sc146 (H.bl 2) rfl)) ?_
   refine s_nil ⟨(H.pk [3,4,5,6,7]),?_⟩
   refine t_l rfl ?_
   refine t_app (α:=FRow) (k:=1) (l:=l) (l2:=[(((s_Sections.getD i default).rows).getD k default)]) (l':=l++([(((s_Sections.getD i default).rows).getD k default)])) (vy:=bM) T146 rfl H rfl rfl rfl (H.os 0) (H.ol 0) (rfl) (by first | omega | (simp only [List.length_nil] at *; omega)) ?_
   intro aQ cU H
   replace H:=H.nf
   have cV:=Sl.cells (H.os 1)
   have cW:=Sl.oc (H.os 1)
   refine s_nil ⟨(H.pk [3,4,5,6,7]),?_⟩
   refine t_q rfl (fun w' H=>x_fa (a:=Pq aq) (v:=Oq aq 1) rfl (fa_blk (o:=0) Fd148_1 Sz146)) ?_
   refine t_l rfl ?_
   refine t_sw 2 1 [aQ] aQ H rfl rfl Sz146 (Sl.cells (H.os 1)) rfl rfl (by simp only [List.all_cons,List.all_nil,Bool.true_and,Bool.and_true,Sl.oc (H.os 1)]; try rfl) ?_
   intro cX H
   refine s_nil ⟨(H.pk [3,4,5,6,7]),?_⟩
   refine t_nil ?_
   refine W.region rfl ?_
   refine zM (I (k:Int)) rfl ?_
   refine zR (k:Int) 1 ((k:Int)+1) rfl rfl rfl (by omega) ?_
   refine zA (I ((k:Int)+1)) rfl ?_
   refine s_nil ?_
   exact ⟨bj,bm,k+1,l++([(((s_Sections.getD i default).rows).getD k default)]),aQ,_,upds_of _ _ ⟨rfl,rfl,rfl,rfl,rfl,rfl,trivial⟩,M.e_inl hM aO,(H.pk [1,2,3,4,5,6,7])⟩
  replace hM:=M.e_f hM aB
  simp only [qy1,qy2,qy3,qy4,qy5,qy6,ne_eq,qy7] at aB
  refine W.exit ?_
  have bN:=M.e_inr hM aO
  subst bN
  replace hM:=bG
  try dsimp only at hM
  refine W.region rfl ?_
  refine s_val (x_fa (a:=Pq ab) (v:=Pq ab) rfl (fa_blk (o:=0) Fd81_0 Sz77)) ?_
  refine s_val (x_ld (p:=Pq ab) (v:=ae) rfl (ldb_sc Sc77 (H.bl 4) rfl)) ?_
  refine s_val (x_ld (p:=Pq aq) (v:=.agg #[I ((s_Sections.getD i default).place),au]) rfl (ldb_ag (ds:=[I ((s_Sections.getD i default).place),au]) Ag148 Sz148 (H.bl 1) rfl rfl)) ?_
  obtain ⟨cY,H⟩:=H.emptyE
  obtain ⟨cZ,H,bO⟩:=H.freezeE (k:=1) rfl
  replace H:=H.nf
  have aJ:=bO
  obtain ⟨bP,H,c5,bQ⟩:=H.joinE (i:=0) (j:=1) rfl rfl
  replace aJ:=aJ.mono bQ
  obtain ⟨ax,bo⟩:∃ r:Raw 1,r.cs=[I ((s_Sections.getD i default).place),au]:=⟨Raw.of [I ((s_Sections.getD i default).place),au] rfl (by simp only [List.all_cons,List.all_nil,Bool.true_and,Bool.and_true,Sl.oc aJ]; try rfl),rfl⟩
  have bR:RepR (α:=Sect) bP.cells [ax] [(⟨((s_Sections.getD i default).place:Int),l⟩:Sect)]:=.cons (by rw [bo]; exact ⟨_,rfl,aJ⟩)<|.nil
  refine t_bs (α:=Raw 1) T77 [.agg #[I ((s_Sections.getD i default).place),au]] [ax] H rfl (.cons (by rw [show (Flat.enc ax:List Value)=ax.cs from rfl,bo]; rfl) (Flat.rep_enc _ _)<|.nil) rfl rfl rfl ?_
  intro bS c6 H
  replace H:=H.nf
  obtain ⟨bT,hM⟩:=M.e_grd hM
  simp only [Bool.and_eq_true,decide_eq_true_eq] at bT
  have aK:=bR
  obtain ⟨bU,H,bV,bW⟩:=H.joinE (i:=6) (j:=1) rfl rfl
  replace ay:=ay.mono bV
  replace aK:=aK.mono bW
  have aR:=ay.app aK
  refine t_app (α:=Raw 1) (k:=6) (l:=ak) (l2:=[ax]) (l':=ak++([ax])) (vy:=bS) T77 rfl H rfl rfl rfl (H.os 1) (H.ol 1) (rfl) (by have a_:=ay.len; have b_:=aK.len; (try simp only [List.length_nil] at *); first | omega | (rw [a_,b_]; omega)) ?_
  intro aS c7 H
  replace H:=H.nf
  refine s_val (x_fa (a:=Pq ab) (v:=Pq ab) rfl (fa_blk (o:=0) Fd81_0 Sz77)) ?_
  refine t_sw 8 0 [aS] aS H rfl rfl Sz77 (Sl.cells (rowSl rfl (H.get (k:=6) rfl) (roLe _ (H.get (k:=0) rfl)) aR)) rfl rfl (by simp only [List.all_cons,List.all_nil,Bool.true_and,Bool.and_true,Sl.oc (rowSl rfl (H.get (k:=6) rfl) (roLe _ (H.get (k:=0) rfl)) aR)]; try rfl) ?_
  intro c8 H
  refine s_nil ?_
  replace H:=H.pk [0,6,7,8,9,10]
  refine W.region rfl ?_
  refine zM (I (i:Int)) rfl ?_
  refine zR (i:Int) 1 ((i:Int)+1) rfl rfl rfl (by omega) ?_
  refine zA (I ((i:Int)+1)) rfl ?_
  refine s_nil ?_
  exact ⟨bC,bD,i+1,l4++([(⟨((s_Sections.getD i default).place:Int),l⟩:Sect)]),aS,ak++([ax]),bU,_,upds_of _ _ ⟨rfl,rfl,rfl,rfl,trivial⟩,M.e_inl hM bh,(H.pk [1,0,3,4,5]),aR⟩
 replace hM:=M.e_f hM az
 simp only [qy1,qy2,qy3,qy4,qy5,qy6,ne_eq,qy7] at az
 refine W.exit ?_
 have bX:=M.e_inr hM bh
 subst bX
 replace hM:=bB
 try dsimp only at hM
 refine W.seq ?_
 refine W.seq ?_
 refine W.region rfl ?_
 refine zA (I 0) rfl ?_
 refine s_nil ?_
 refine W.block ?_
 replace H:=H.nilOwn (α:=Mrk) 150
 obtain ⟨bY,aT,bZ⟩:=M.e_bind hM
 obtain ⟨aM,aT⟩:=M.e_iter aT
 refine W.loop (fun m σ W=>∃ (i2:Nat) (l7:List Mrk) (aj:Value) (ρ:Env),σ=upds ρ [(1,Pq aa),(2,Pq ap),(3,Pq ab),(7,I (i2:Int))]/\M.iterN (zbl s_Marks) m (i2,l7)=some bY/\St w W [cOwn (α:=Mrk) 150 aj l7,cOwn (α:=Raw 1) 148 ae ak,cRo B_l4,cBlk ab [ae,aj,.slice none 0 0] 81,cBlk ap [.slice none 0 0,.slice none 0 0,.slice none 0 0] 81,cBlk aa [ac,ag,ai] 27] R) ?_ ?_
 ·exact ⟨_,0,[],(.slice none 0 0),_,upds_of _ _ ⟨rfl,rfl,rfl,rfl,trivial⟩,aT,H⟩
 rintro c9 σ da ⟨i2,l7,aj,ρ,rfl,bp,H⟩
 obtain ⟨bq,br,db,hM,aU⟩:=M.e_iterN bp
 simp only [zbl] at hM
 clear bp
 refine W.seq ?_
 refine W.seq ?_
 refine W.region rfl ?_
 refine zM (I (i2:Int)) rfl ?_
 refine s_val (x_fa (a:=Pq aa) (v:=Oq aa 1) rfl (fa_blk (o:=0) Fd27_1 Sz24)) ?_
 refine s_val (x_ld (p:=Oq aa 1) (v:=ag) rfl (ldb_sc Sc24 (H.bl 5) rfl)) ?_
 have dc:=(aH).len_le
 refine s_val (x_lenS T24.und rfl aH) ?_
 refine zC (i2:Int) (s_Marks.length:Int) (decide ((i2:Int)<(s_Marks.length:Int))) rfl rfl rfl ?_
 refine s_nil ?_
 refine W.cond (decide ((i2:Int)<(s_Marks.length:Int))) rfl (fun aE=>?_) (fun aE=>?_)
 ·replace hM:=M.e_t hM aE
  simp only [qy1,qy2,qy3,qy4,qy5,qy6,ne_eq,qy7] at aE
  refine W.skip ?_
  refine W.seq ?_
  refine W.block ?_
  refine W.drawT (fun W=>St w W [cOwn (α:=Raw 1) 148 ae ak,cRo B_l4,cBlk ap [.slice none 0 0,.slice none 0 0,.slice none 0 0] 81,cBlk aa [ac,ag,ai] 27] R) (.q 0 (.q 2 (.q 3 (.q 4 (.q 5 (.q 6 (.l2 1 (.l 7 (.l 8 (.q 9 (.l 10 .nil)))) 7 (.l 1 (.l 8 (.q 9 (.l 10 .nil))))))))))) mixed (by decide +kernel) rfl ?_
  intro dd aw
  replace H:=H.ext aw
  clear aw
  refine ⟨(H.pk [1,2,4,5]),?_⟩
  refine t_q rfl (fun w' H=>x_fa (a:=Pq ab) (v:=Oq ab 1) rfl (fa_blk (o:=0) Fd81_1 Sz78)) ?_
  refine t_q rfl (fun w' H=>x_fa (a:=Pq aa) (v:=Oq aa 1) rfl (fa_blk (o:=0) Fd27_1 Sz24)) ?_
  refine t_q rfl (fun w' H=>x_ld (p:=Oq aa 1) (v:=ag) rfl (ldb_sc Sc24 (H.bl 3) rfl)) ?_
  refine t_q rfl (fun w' H=>x_mv (v:=I (i2:Int)) rfl) ?_
  obtain ⟨b4,hM⟩:=M.e_grd hM
  simp only [Bool.and_eq_true,decide_eq_true_eq] at b4
  refine t_q rfl (fun w' H=>x_ix (a:=ag) (b:=I (i2:Int)) (v:=vat ag 3 (Int.toNat (i2:Int))) rfl rfl (Sl.ix (α:=Mrk) T24.und T24.size aH (by omega) (by omega))) ?_
  refine t_q rfl (fun w' H=>x_ld (p:=vat ag 3 (Int.toNat (i2:Int))) (v:=.agg #[I ((s_Marks.getD i2 default).place),I ((s_Marks.getD i2 default).lo),I ((s_Marks.getD i2 default).hi)]) rfl (ld_ag Ag70 Sz70 (At.mono (Mrk_atA aH (i:=(i2:Int)) (by omega) (by omega)) (bw.at H)))) ?_
  obtain ⟨b5,hM⟩:=M.e_grd hM
  simp only [Bool.and_eq_true,decide_eq_true_eq] at b5
  refine t_l2 rfl rfl ?_ ?_
  ·skip
   refine s_val (x_ld (p:=Oq ab 1) (v:=aj) rfl (ldb_sc Sc78 (H.bl 3) rfl)) ?_
   have de:=Sl.cells (H.os 0)
   have dg:=Sl.oc (H.os 0)
   refine s_nil ⟨(H.pk [1,2,4,5]),?_⟩
   refine t_l rfl ?_
   refine t_bs (α:=Mrk) T78 [.agg #[I ((s_Marks.getD i2 default).place),I ((s_Marks.getD i2 default).lo),I ((s_Marks.getD i2 default).hi)]] [(s_Marks.getD i2 default)] H rfl (.cons rfl (Flat.rep_enc _ (s_Marks.getD i2 default))<|.nil) rfl rfl rfl ?_
   intro b6 dh H
   have di:=Sl.cells (H.os 0)
   have dj:=Sl.oc (H.os 0)
   refine s_nil ⟨(H.pk [2,3,5,6]),?_⟩
   refine t_l rfl ?_
   refine t_app (α:=Mrk) (k:=1) (l:=l7) (l2:=[(s_Marks.getD i2 default)]) (l':=l7++([(s_Marks.getD i2 default)])) (vy:=b6) T78 rfl H rfl rfl rfl (H.os 0) (H.ol 0) (rfl) (by first | omega | (simp only [List.length_nil] at *; omega)) ?_
   intro aV dk H
   replace H:=H.nf
   have dm:=Sl.cells (H.os 1)
   have dp:=Sl.oc (H.os 1)
   refine s_nil ⟨(H.pk [2,3,5,6]),?_⟩
   refine t_q rfl (fun w' H=>x_fa (a:=Pq ab) (v:=Oq ab 1) rfl (fa_blk (o:=0) Fd81_1 Sz78)) ?_
   refine t_l rfl ?_
   refine t_sw 4 1 [aV] aV H rfl rfl Sz78 (Sl.cells (H.os 1)) rfl rfl (by simp only [List.all_cons,List.all_nil,Bool.true_and,Bool.and_true,Sl.oc (H.os 1)]; try rfl) ?_
   intro dq H
   refine s_nil ⟨(H.pk [2,3,5,6]),?_⟩
   refine t_nil ?_
   refine W.region rfl ?_
   refine zM (I (i2:Int)) rfl ?_
   refine zR (i2:Int) 1 ((i2:Int)+1) rfl rfl rfl (by omega) ?_
   refine zA (I ((i2:Int)+1)) rfl ?_
   refine s_nil ?_
   exact ⟨bq,br,i2+1,l7++([(s_Marks.getD i2 default)]),aV,_,upds_of _ _ ⟨rfl,rfl,rfl,rfl,trivial⟩,M.e_inl hM aU,(H.pk [1,2,3,4,5,6])⟩
  skip
  refine t_bs (α:=Mrk) T78 [.agg #[I ((s_Marks.getD i2 default).place),I ((s_Marks.getD i2 default).lo),I ((s_Marks.getD i2 default).hi)]] [(s_Marks.getD i2 default)] H rfl (.cons rfl (Flat.rep_enc _ (s_Marks.getD i2 default))<|.nil) rfl rfl rfl ?_
  intro b7 dr H
  have dt:=Sl.cells (H.os 0)
  have dv:=Sl.oc (H.os 0)
  have dw:=Sl.cells (H.os 1)
  have dx:=Sl.oc (H.os 1)
  refine s_nil ⟨(H.pk [2,3,5,6]),?_⟩
  refine t_l rfl ?_
  refine s_val (x_ld (p:=Oq ab 1) (v:=aj) rfl (ldb_sc Sc78 (H.bl 4) rfl)) ?_
  refine s_nil ⟨(H.pk [2,3,5,6]),?_⟩
  refine t_l rfl ?_
  refine t_app (α:=Mrk) (k:=1) (l:=l7) (l2:=[(s_Marks.getD i2 default)]) (l':=l7++([(s_Marks.getD i2 default)])) (vy:=b7) T78 rfl H rfl rfl rfl (H.os 0) (H.ol 0) (rfl) (by first | omega | (simp only [List.length_nil] at *; omega)) ?_
  intro aW dy H
  replace H:=H.nf
  have dz:=Sl.cells (H.os 1)
  have dA:=Sl.oc (H.os 1)
  refine s_nil ⟨(H.pk [2,3,5,6]),?_⟩
  refine t_q rfl (fun w' H=>x_fa (a:=Pq ab) (v:=Oq ab 1) rfl (fa_blk (o:=0) Fd81_1 Sz78)) ?_
  refine t_l rfl ?_
  refine t_sw 4 1 [aW] aW H rfl rfl Sz78 (Sl.cells (H.os 1)) rfl rfl (by simp only [List.all_cons,List.all_nil,Bool.true_and,Bool.and_true,Sl.oc (H.os 1)]; try rfl) ?_
  intro dB H
  refine s_nil ⟨(H.pk [2,3,5,6]),?_⟩
  refine t_nil ?_
  refine W.region rfl ?_
  refine zM (I (i2:Int)) rfl ?_
  refine zR (i2:Int) 1 ((i2:Int)+1) rfl rfl rfl (by omega) ?_
  refine zA (I ((i2:Int)+1)) rfl ?_
  refine s_nil ?_
  exact ⟨bq,br,i2+1,l7++([(s_Marks.getD i2 default)]),aW,_,upds_of _ _ ⟨rfl,rfl,rfl,rfl,trivial⟩,M.e_inl hM aU,(H.pk [1,2,3,4,5,6])⟩
 replace hM:=M.e_f hM aE
 simp only [qy1,qy2,qy3,qy4,qy5,qy6,ne_eq,qy7] at aE
 refine W.exit ?_
 have b8:=M.e_inr hM aU
 subst b8
 replace hM:=bZ
 try dsimp only at hM
 refine W.seq ?_
 refine W.seq ?_
 refine W.region rfl ?_
 refine zA (I 0) rfl ?_
 refine s_nil ?_
 refine W.block ?_
 replace H:=H.nilOwn (α:=Rch) 151
 obtain ⟨b9,aX,cb⟩:=M.e_bind hM
 obtain ⟨aM,aX⟩:=M.e_iter aX
 refine W.loop (fun m σ W=>∃ (i3:Nat) (av:List Rch) (am:Value) (ρ:Env),σ=upds ρ [(1,Pq aa),(2,Pq ap),(3,Pq ab),(8,I (i3:Int))]/\M.iterN (zbp s_Reaches) m (i3,av)=some b9/\St w W [cOwn (α:=Rch) 151 am av,cOwn (α:=Mrk) 150 aj l7,cOwn (α:=Raw 1) 148 ae ak,cRo B_l4,cBlk ab [ae,aj,am] 81,cBlk ap [.slice none 0 0,.slice none 0 0,.slice none 0 0] 81,cBlk aa [ac,ag,ai] 27] R) ?_ ?_
 ·exact ⟨_,0,[],(.slice none 0 0),_,upds_of _ _ ⟨rfl,rfl,rfl,rfl,trivial⟩,aX,H⟩
 rintro dC σ dD ⟨i3,av,am,ρ,rfl,bt,H⟩
 obtain ⟨bu,bv,dE,hM,aY⟩:=M.e_iterN bt
 simp only [zbp] at hM
 clear bt
 refine W.seq ?_
 refine W.seq ?_
 refine W.region rfl ?_
 refine zM (I (i3:Int)) rfl ?_
 refine s_val (x_fa (a:=Pq aa) (v:=Oq aa 2) rfl (fa_blk (o:=0) Fd27_2 Sz25)) ?_
 refine s_val (x_ld (p:=Oq aa 2) (v:=ai) rfl (ldb_sc Sc25 (H.bl 6) rfl)) ?_
 have dF:=(aI).len_le
 refine s_val (x_lenS T25.und rfl aI) ?_
 refine zC (i3:Int) (s_Reaches.length:Int) (decide ((i3:Int)<(s_Reaches.length:Int))) rfl rfl rfl ?_
 refine s_nil ?_
 refine W.cond (decide ((i3:Int)<(s_Reaches.length:Int))) rfl (fun aF=>?_) (fun aF=>?_)
 ·replace hM:=M.e_t hM aF
  simp only [qy1,qy2,qy3,qy4,qy5,qy6,ne_eq,qy7] at aF
  refine W.skip ?_
  refine W.seq ?_
  refine W.block ?_
  refine W.drawT (fun W=>St w W [cOwn (α:=Mrk) 150 aj l7,cOwn (α:=Raw 1) 148 ae ak,cRo B_l4,cBlk ap [.slice none 0 0,.slice none 0 0,.slice none 0 0] 81,cBlk aa [ac,ag,ai] 27] R) (.q 0 (.q 2 (.q 3 (.q 4 (.q 5 (.q 6 (.l2 1 (.l 7 (.l 8 (.q 9 (.l 10 .nil)))) 7 (.l 1 (.l 8 (.q 9 (.l 10 .nil))))))))))) mixed (by decide +kernel) rfl ?_
  intro dG aw
  replace H:=H.ext aw
  clear aw
  refine ⟨(H.pk [1,2,3,5,6]),?_⟩
  refine t_q rfl (fun w' H=>x_fa (a:=Pq ab) (v:=Oq ab 2) rfl (fa_blk (o:=0) Fd81_2 Sz79)) ?_
  refine t_q rfl (fun w' H=>x_fa (a:=Pq aa) (v:=Oq aa 2) rfl (fa_blk (o:=0) Fd27_2 Sz25)) ?_
  refine t_q rfl (fun w' H=>x_ld (p:=Oq aa 2) (v:=ai) rfl (ldb_sc Sc25 (H.bl 4) rfl)) ?_
  refine t_q rfl (fun w' H=>x_mv (v:=I (i3:Int)) rfl) ?_
  obtain ⟨cc,hM⟩:=M.e_grd hM
  simp only [Bool.and_eq_true,decide_eq_true_eq] at cc
  refine t_q rfl (fun w' H=>x_ix (a:=ai) (b:=I (i3:Int)) (v:=vat ai 5 (Int.toNat (i3:Int))) rfl rfl (Sl.ix (α:=Rch) T25.und T25.size aI (by omega) (by omega))) ?_
  refine t_q rfl (fun w' H=>x_ld (p:=vat ai 5 (Int.toNat (i3:Int))) (v:=.agg #[I ((s_Reaches.getD i3 default).up),I ((s_Reaches.getD i3 default).down),I ((s_Reaches.getD i3 default).lo),I ((s_Reaches.getD i3 default).hi),B ((s_Reaches.getD i3 default).narrow)]) rfl (ld_ag Ag58 Sz58 (At.mono (Rch_atA aI (i:=(i3:Int)) (by omega) (by omega)) (bx.at H)))) ?_
  obtain ⟨cd,hM⟩:=M.e_grd hM
  simp only [Bool.and_eq_true,decide_eq_true_eq] at cd
  refine t_l2 rfl rfl ?_ ?_
  ·skip
   refine s_val (x_ld (p:=Oq ab 2) (v:=am) rfl (ldb_sc Sc79 (H.bl 4) rfl)) ?_
   have dH:=Sl.cells (H.os 0)
   have dI:=Sl.oc (H.os 0)
   refine s_nil ⟨(H.pk [1,2,3,5,6]),?_⟩
   refine t_l rfl ?_
   refine t_bs (α:=Rch) T79 [.agg #[I ((s_Reaches.getD i3 default).up),I ((s_Reaches.getD i3 default).down),I ((s_Reaches.getD i3 default).lo),I ((s_Reaches.getD i3 default).hi),B ((s_Reaches.getD i3 default).narrow)]] [(s_Reaches.getD i3 default)] H rfl (.cons rfl (Flat.rep_enc _ (s_Reaches.getD i3 default))<|.nil) rfl rfl rfl ?_
   intro ce dJ H
   have dK:=Sl.cells (H.os 0)
   have dL:=Sl.oc (H.os 0)
   refine s_nil ⟨(H.pk [2,3,4,6,7]),?_⟩
   refine t_l rfl ?_
   refine t_app (α:=Rch) (k:=1) (l:=av) (l2:=[(s_Reaches.getD i3 default)]) (l':=av++([(s_Reaches.getD i3 default)])) (vy:=ce) T79 rfl H rfl rfl rfl (H.os 0) (H.ol 0) (rfl) (by first | omega | (simp only [List.length_nil] at *; omega)) ?_
   intro aZ dM H
   replace H:=H.nf
   have dN:=Sl.cells (H.os 1)
   have dO:=Sl.oc (H.os 1)
   refine s_nil ⟨(H.pk [2,3,4,6,7]),?_⟩
   refine t_q rfl (fun w' H=>x_fa (a:=Pq ab) (v:=Oq ab 2) rfl (fa_blk (o:=0) Fd81_2 Sz79)) ?_
   refine t_l rfl ?_
   refine t_sw 5 2 [aZ] aZ H rfl rfl Sz79 (Sl.cells (H.os 1)) rfl rfl (by simp only [List.all_cons,List.all_nil,Bool.true_and,Bool.and_true,Sl.oc (H.os 1)]; try rfl) ?_
   intro dP H
   refine s_nil ⟨(H.pk [2,3,4,6,7]),?_⟩
   refine t_nil ?_
   refine W.region rfl ?_
   refine zM (I (i3:Int)) rfl ?_
   refine zR (i3:Int) 1 ((i3:Int)+1) rfl rfl rfl (by omega) ?_
   refine zA (I ((i3:Int)+1)) rfl ?_
   refine s_nil ?_
   exact ⟨bu,bv,i3+1,av++([(s_Reaches.getD i3 default)]),aZ,_,upds_of _ _ ⟨rfl,rfl,rfl,rfl,trivial⟩,M.e_inl hM aY,(H.pk [1,2,3,4,5,6,7])⟩
  skip
  refine t_bs (α:=Rch) T79 [.agg #[I ((s_Reaches.getD i3 default).up),I ((s_Reaches.getD i3 default).down),I ((s_Reaches.getD i3 default).lo),I ((s_Reaches.getD i3 default).hi),B ((s_Reaches.getD i3 default).narrow)]] [(s_Reaches.getD i3 default)] H rfl (.cons rfl (Flat.rep_enc _ (s_Reaches.getD i3 default))<|.nil) rfl rfl rfl ?_
  intro cf dQ H
  have dR:=Sl.cells (H.os 0)
  have dS:=Sl.oc (H.os 0)
  have dT:=Sl.cells (H.os 1)
  have dU:=Sl.oc (H.os 1)
  refine s_nil ⟨(H.pk [2,3,4,6,7]),?_⟩
  refine t_l rfl ?_
  refine s_val (x_ld (p:=Oq ab 2) (v:=am) rfl (ldb_sc Sc79 (H.bl 5) rfl)) ?_
  refine s_nil ⟨(H.pk [2,3,4,6,7]),?_⟩
  refine t_l rfl ?_
  refine t_app (α:=Rch) (k:=1) (l:=av) (l2:=[(s_Reaches.getD i3 default)]) (l':=av++([(s_Reaches.getD i3 default)])) (vy:=cf) T79 rfl H rfl rfl rfl (H.os 0) (H.ol 0) (rfl) (by first | omega | (simp only [List.length_nil] at *; omega)) ?_
  intro a6 dV H
  replace H:=H.nf
  have dW:=Sl.cells (H.os 1)
  have dX:=Sl.oc (H.os 1)
  refine s_nil ⟨(H.pk [2,3,4,6,7]),?_⟩
  refine t_q rfl (fun w' H=>x_fa (a:=Pq ab) (v:=Oq ab 2) rfl (fa_blk (o:=0) Fd81_2 Sz79)) ?_
  refine t_l rfl ?_
  refine t_sw 5 2 [a6] a6 H rfl rfl Sz79 (Sl.cells (H.os 1)) rfl rfl (by simp only [List.all_cons,List.all_nil,Bool.true_and,Bool.and_true,Sl.oc (H.os 1)]; try rfl) ?_
  intro dY H
  refine s_nil ⟨(H.pk [2,3,4,6,7]),?_⟩
  refine t_nil ?_
  refine W.region rfl ?_
  refine zM (I (i3:Int)) rfl ?_
  refine zR (i3:Int) 1 ((i3:Int)+1) rfl rfl rfl (by omega) ?_
  refine zA (I ((i3:Int)+1)) rfl ?_
  refine s_nil ?_
  exact ⟨bu,bv,i3+1,av++([(s_Reaches.getD i3 default)]),a6,_,upds_of _ _ ⟨rfl,rfl,rfl,rfl,trivial⟩,M.e_inl hM aY,(H.pk [1,2,3,4,5,6,7])⟩
 replace hM:=M.e_f hM aF
 simp only [qy1,qy2,qy3,qy4,qy5,qy6,ne_eq,qy7] at aF
 refine W.exit ?_
 have cg:=M.e_inr hM aY
 subst cg
 replace hM:=cb
 try dsimp only at hM
 refine W.seq ?_
 refine W.region rfl ?_
 refine s_val (x_ld (p:=Pq ab) (v:=.agg #[ae,aj,am]) rfl (ldb_ag (ds:=[ae,aj,am]) Ag81 Sz81 (H.bl 4) rfl rfl)) ?_
 refine t_sw 5 0 [ae,aj,am] (.agg #[ae,aj,am]) H rfl rfl Sz81 rfl rfl rfl (by simp only [List.all_cons,List.all_nil,Bool.true_and,Bool.and_true,Sl.oc (rowSl rfl (H.get (k:=2) rfl) (roLe _ (H.get (k:=3) rfl)) ay),Sl.oc (H.os 1),Sl.oc (H.os 0)]; try rfl) ?_
 intro dZ H
 refine s_nil ?_
 replace H:=H.pk [0,1,2,3,5]
 refine W.ret ?_
 have cj:=(H.bl 4)
 have ck:=M.e_pure hM
 exact ⟨_,(resE_of1 (v:=.agg #[ae,aj,am]) rfl (.cell (v:=.agg #[ae,aj,am]) rfl (run_loadVar_ag (ds:=[ae,aj,am]) Ag81 Sz81 cj rfl rfl)<|.nil)),⟨l4,l7,av,ae,ak,B_l4,aj,am,ck,rfl,(H.pk [2,3,1,0]),ay⟩⟩

def zae (n:Int) (a:Int) (b:Int):M Bool :=
  M.pure ((decide (n<a))||(decide (b<n)))
theorem zaf {R:List Chunk}  (n:Int) (a:Int) (b:Int)  {r:Bool} (hM:(zae n a b).Ends r) (w:World) (H:St w w [] R):Ret Tryz.prog 82 #[I n,I a,I b] w fun v w'=>∃ (y0:Bool),y0=r/\v=B y0/\St w w' [] R:=by
 refine ret_of_W Tryz.func82 rfl rfl rfl ?_
 refine W.seq ?_
 refine W.region rfl ?_
 refine zA (B false) rfl ?_
 refine s_nil ?_
 refine W.seq ?_
 refine W.region rfl ?_
 refine zM (I n) rfl ?_
 refine zM (I a) rfl ?_
 refine zC n a (decide (n<a)) rfl rfl rfl ?_
 refine zM (B (decide (n<a))) rfl ?_
 refine g_val (!(decide (n<a))) (gy_f rfl) (fun hg=>x_mv (v:=I n) rfl) ?_
 refine g_val (!(decide (n<a))) (gy_f rfl) (fun hg=>x_mv (v:=I b) rfl) ?_
 refine g_val (!(decide (n<a))) (gy_f rfl) (fun hg=>x_cmp (kd:=.i64) (a:=n) (b:=b) (r:=decide (b<n)) (gd_of (c:=!(decide (n<a))) hg (I n)) (gd_of (c:=!(decide (n<a))) hg (I b)) rfl) ?_
 refine s_val (x_por (b:=decide (n<a)) (r:=decide (b<n)) rfl rfl (fun hb=>gd_of (c:=!(decide (n<a))) (by first | exact hb | (rw [hb]; rfl) | simp_all) (B (decide (b<n))))) ?_
 refine zA (B ((decide (n<a))||(decide (b<n)))) rfl ?_
 refine s_nil ?_
 refine W.ret ?_
 have aa:=M.e_pure hM
 exact ⟨_,resE_tmp rfl,⟨((decide (n<a))||(decide (b<n))),aa,rfl,H⟩⟩

end Go.Proofs.YtlemgioaakecpaaGreat
end
section
set_option maxRecDepth 100000
set_option maxHeartbeats 16000000
namespace Go.Proofs.YtlemgioaakecpaaGreat
open Go Go.Nm
def za5 (s_Sections:List Sect):Nat->M (Nat ⊕ (Unit ⊕ Unit)):=fun i =>
  bif decide ((i:Int)<(s_Sections.length:Int)) then (
  M.grd (decide ((i:Int)<(s_Sections.length:Int))) <|
  M.bind (zae (((s_Sections.getD i default).rows).length:Int) 2 8) fun r5 =>
  bif r5 then (
  M.pure (.inr (.inl ())))
  else (
  M.pure (.inl (i+1))))
  else (
  M.pure (.inr (.inr ())))
def zby (s_Sections:List Sect) (i2:Nat):Nat->M (Nat ⊕ (Unit ⊕ Unit)):=fun k =>
  bif decide ((k:Int)<(((s_Sections.getD i2 default).rows).length:Int)) then (
  M.grd (decide ((k:Int)<(((s_Sections.getD i2 default).rows).length:Int))) <|
  M.bind (zae ((((s_Sections.getD i2 default).rows).getD k default).stage) 0 2000) fun r7 =>
  M.bind (M.opt (!r7) (zae ((((s_Sections.getD i2 default).rows).getD k default).carry) 0 100000) false) fun r8 =>
  bif (r7||r8) then (
  M.pure (.inr (.inl ())))
  else (
  M.grd ((!(decide (0<(k:Int)))||(decide ((-9223372036854775808:Int)<=((k:Int)-1))&&decide (((k:Int)-1)<=(9223372036854775807:Int))))) <|
  M.grd ((!(decide (0<(k:Int)))||(decide ((0:Int)<=((k:Int)-1))&&decide (((k:Int)-1)<(((s_Sections.getD i2 default).rows).length:Int))))) <|
  M.grd ((!((decide (0<(k:Int)))&&!(decide (((((s_Sections.getD i2 default).rows).getD k default).stage)<=((((s_Sections.getD i2 default).rows).getD (Int.toNat ((k:Int)-1)) default).stage))))||(decide ((-9223372036854775808:Int)<=((k:Int)-1))&&decide (((k:Int)-1)<=(9223372036854775807:Int))))) <|
  M.grd ((!((decide (0<(k:Int)))&&!(decide (((((s_Sections.getD i2 default).rows).getD k default).stage)<=((((s_Sections.getD i2 default).rows).getD (Int.toNat ((k:Int)-1)) default).stage))))||(decide ((0:Int)<=((k:Int)-1))&&decide (((k:Int)-1)<(((s_Sections.getD i2 default).rows).length:Int))))) <|
  bif ((decide (0<(k:Int)))&&((decide (((((s_Sections.getD i2 default).rows).getD k default).stage)<=((((s_Sections.getD i2 default).rows).getD (Int.toNat ((k:Int)-1)) default).stage)))||(decide (((((s_Sections.getD i2 default).rows).getD k default).carry)<((((s_Sections.getD i2 default).rows).getD (Int.toNat ((k:Int)-1)) default).carry))))) then (
  M.pure (.inr (.inl ())))
  else (
  M.pure (.inl (k+1)))))
  else (
  M.pure (.inr (.inr ())))
def zbw (s_Sections:List Sect):Nat->M (Nat ⊕ (Unit ⊕ Unit)):=fun i2 =>
  bif decide ((i2:Int)<(s_Sections.length:Int)) then (
  M.grd (decide ((i2:Int)<(s_Sections.length:Int))) <|
  M.bind (zae ((s_Sections.getD i2 default).place) 0 10000) fun r6 =>
  M.grd ((!((!r6)&&(decide (0<(i2:Int))))||(decide ((-9223372036854775808:Int)<=((i2:Int)-1))&&decide (((i2:Int)-1)<=(9223372036854775807:Int))))) <|
  M.grd ((!((!r6)&&(decide (0<(i2:Int))))||(decide ((0:Int)<=((i2:Int)-1))&&decide (((i2:Int)-1)<(s_Sections.length:Int))))) <|
  bif (r6||((decide (0<(i2:Int)))&&(decide (((s_Sections.getD i2 default).place)<=((s_Sections.getD (Int.toNat ((i2:Int)-1)) default).place))))) then (
  M.pure (.inr (.inl ())))
  else (
  M.bind (M.iter (zby s_Sections i2) 0) fun x_=>match x_ with
  | (.inl (_:Unit))=>(
  M.pure (.inr (.inl ())))
  | (.inr (_:Unit))=>(
  M.pure (.inl (i2+1)))))
  else (
  M.pure (.inr (.inr ())))
def za6 (s_Marks:List Mrk):Nat->M (Nat ⊕ (Unit ⊕ Unit)):=fun i3 =>
  bif decide ((i3:Int)<(s_Marks.length:Int)) then (
  M.grd (decide ((i3:Int)<(s_Marks.length:Int))) <|
  M.bind (zae ((s_Marks.getD i3 default).place) 0 10000) fun r9 =>
  bif (((r9||(decide (((s_Marks.getD i3 default).lo)<0)))||(decide (2000<((s_Marks.getD i3 default).hi))))||(decide (((s_Marks.getD i3 default).hi)<((s_Marks.getD i3 default).lo)))) then (
  M.pure (.inr (.inl ())))
  else (
  M.pure (.inl (i3+1))))
  else (
  M.pure (.inr (.inr ())))
def zbo (s_Sections:List Sect) (s_Reaches:List Rch):Nat->M (Nat ⊕ (Unit ⊕ Unit)):=fun i4 =>
  bif decide ((i4:Int)<(s_Reaches.length:Int)) then (
  M.grd (decide ((i4:Int)<(s_Reaches.length:Int))) <|
  bif ((((((decide (((s_Reaches.getD i4 default).up)<0))||(decide (((s_Reaches.getD i4 default).down)<=((s_Reaches.getD i4 default).up))))||(decide ((s_Sections.length:Int)<=((s_Reaches.getD i4 default).down))))||(decide (((s_Reaches.getD i4 default).lo)<1)))||(decide (400<((s_Reaches.getD i4 default).hi))))||(decide (((s_Reaches.getD i4 default).hi)<((s_Reaches.getD i4 default).lo)))) then (
  M.pure (.inr (.inl ())))
  else (
  M.pure (.inl (i4+1))))
  else (
  M.pure (.inr (.inr ())))
def zal (s_Sections:List Sect) (s_Marks:List Mrk) (s_Reaches:List Rch):M Int :=
  M.bind (zae (s_Sections.length:Int) 2 6) fun r2 =>
  M.bind (M.opt (!r2) (zae (s_Marks.length:Int) 1 16) false) fun r3 =>
  M.bind (M.opt (!(r2||r3)) (zae (s_Reaches.length:Int) 1 6) false) fun r4 =>
  bif ((r2||r3)||r4) then (
  M.pure 3)
  else (
  M.bind (M.iter (za5 s_Sections) 0) fun x_=>match x_ with
  | (.inl (_:Unit))=>(
  M.pure 3)
  | (.inr (_:Unit))=>(
  M.bind (M.iter (zbw s_Sections) 0) fun x_=>match x_ with
  | (.inl (_:Unit))=>(
  M.pure 70)
  | (.inr (_:Unit))=>(
  M.bind (M.iter (za6 s_Marks) 0) fun x_=>match x_ with
  | (.inl (_:Unit))=>(
  M.pure 70)
  | (.inr (_:Unit))=>(
  M.bind (M.iter (zbo s_Sections s_Reaches) 0) fun x_=>match x_ with
  | (.inl (_:Unit))=>(
  M.pure 70)
  | (.inr (_:Unit))=>(
  M.pure 0)))))
theorem zbg {R:List Chunk} {bj:Cells} {aj:Value} {bm:Cells} {ax:Value} {bn:Cells} {ay:Value} (s_Sections:List Sect) (s_Marks:List Mrk) (s_Reaches:List Rch) (aD:Reads R bj) (az:Sl bj aj s_Sections) (bz:Reads R bm) (aG:Sl bm ax s_Marks) (bA:Reads R bn) (aH:Sl bn ay s_Reaches) {r:Int} (hM:(zal s_Sections s_Marks s_Reaches).Ends r) (w:World) (H:St w w [] R):Ret Tryz.prog 27 #[.agg #[aj,ax,ay]] w fun v w'=>∃ (y0:Int),y0=r/\v=I y0/\St w w' [] R:=by
 refine ret_of_W Tryz.func27 rfl rfl rfl ?_
 refine W.seq ?_
 refine W.region rfl ?_
 refine t_box (v:=.agg #[aj,ax,ay]) (cs:=[aj,ax,ay]) H rfl rfl ?_
 intro ag cz H
 refine zA (I 0) rfl ?_
 refine s_nil ?_
 refine W.seq ?_
 refine W.seq ?_
 refine W.region rfl ?_
 refine s_val (x_fa (a:=Pq ag) (v:=Pq ag) rfl (fa_blk (o:=0) Fd81_0 Sz77)) ?_
 refine s_val (x_ld (p:=Pq ag) (v:=aj) rfl (ldb_sc Sc77 (H.bl 0) rfl)) ?_
 have cA:=(az).len_le
 refine s_val (x_lenS T77.und rfl az) ?_
 obtain ⟨cB,bB,hM⟩:=M.e_bind hM
 refine s_call cf82 [I (s_Sections.length:Int),I 2,I 6] rfl (zaf (s_Sections.length:Int) 2 6 bB _ (H.gt 1)) ?_
 rintro vq cC ⟨r2,bC,hvq,aA⟩
 subst bC
 subst vq
 try dsimp only at hM
 replace H:=H.bk aA
 clear aA
 refine zM (B r2) rfl ?_
 refine g_val (!r2) (gy_f rfl) (fun hg=>x_fa (a:=Pq ag) (v:=Oq ag 1) rfl (fa_blk (o:=0) Fd81_1 Sz78)) ?_
 refine g_val (!r2) (gy_f rfl) (fun hg=>x_ld (p:=Oq ag 1) (v:=ax) (gd_of (c:=!r2) hg (Oq ag 1)) (ldb_sc Sc78 (H.bl 0) rfl)) ?_
 have cD:=(aG).len_le
 refine g_val (!r2) (gy_f rfl) (fun hg=>x_lenS T78.und (gd_of (c:=!r2) hg (ax)) aG) ?_
 obtain ⟨r3,bD,hM⟩:=M.e_bind hM
 refine t_gcall (!r2) (gy_f rfl) cf82 (B r3) (fun _=>[I (s_Marks.length:Int),I 1,I 16]) (fun hg=>lst3 (gd_of (c:=!r2) hg (I (s_Marks.length:Int))) rfl rfl) H (fun hg=>(zaf (s_Marks.length:Int) 1 16 (M.e_opt bD hg) _ (H.give (A:=[]) rfl)).mono fun v_ w_ ⟨y_,aw,aI,H_⟩=>by subst aw; exact ⟨aI,H.via H_⟩) ?_
 intro cE H
 refine s_val (x_por (b:=r2) (r:=r3) rfl rfl (fun hb=>gd_of (c:=!r2) (by first | exact hb | (rw [hb]; rfl) | simp_all) (B r3))) ?_
 refine zM (B (r2||r3)) rfl ?_
 refine g_val (!(r2||r3)) (gy_f rfl) (fun hg=>x_fa (a:=Pq ag) (v:=Oq ag 2) rfl (fa_blk (o:=0) Fd81_2 Sz79)) ?_
 refine g_val (!(r2||r3)) (gy_f rfl) (fun hg=>x_ld (p:=Oq ag 2) (v:=ay) (gd_of (c:=!(r2||r3)) hg (Oq ag 2)) (ldb_sc Sc79 (H.bl 0) rfl)) ?_
 have cF:=(aH).len_le
 refine g_val (!(r2||r3)) (gy_f rfl) (fun hg=>x_lenS T79.und (gd_of (c:=!(r2||r3)) hg (ay)) aH) ?_
 obtain ⟨r4,bE,hM⟩:=M.e_bind hM
 refine t_gcall (!(r2||r3)) (gy_f rfl) cf82 (B r4) (fun _=>[I (s_Reaches.length:Int),I 1,I 6]) (fun hg=>lst3 (gd_of (c:=!(r2||r3)) hg (I (s_Reaches.length:Int))) rfl rfl) H (fun hg=>(zaf (s_Reaches.length:Int) 1 6 (M.e_opt bE hg) _ (H.give (A:=[]) rfl)).mono fun v_ w_ ⟨y_,aw,aI,H_⟩=>by subst aw; exact ⟨aI,H.via H_⟩) ?_
 intro cG H
 refine s_val (x_por (b:=(r2||r3)) (r:=r4) rfl rfl (fun hb=>gd_of (c:=!(r2||r3)) (by first | exact hb | (rw [hb]; rfl) | simp_all) (B r4))) ?_
 refine s_nil ?_
 refine W.cond ((r2||r3)||r4) rfl (fun aT=>?_) (fun aT=>?_)
 ·replace hM:=M.e_t hM aT
  refine W.seq ?_
  refine W.region rfl ?_
  refine zA (I 3) rfl ?_
  refine s_nil ?_
  refine W.ret ?_
  have aw:=M.e_pure hM
  exact ⟨_,resE_tmp rfl,⟨3,aw,rfl,(H.pk [])⟩⟩
 replace hM:=M.e_f hM aT
 refine W.skip ?_
 refine W.seq ?_
 refine W.seq ?_
 refine W.region rfl ?_
 refine zA (I 0) rfl ?_
 refine s_nil ?_
 refine W.block ?_
 obtain ⟨bF,aU,bo⟩:=M.e_bind hM
 obtain ⟨aQ,aU⟩:=M.e_iter aU
 refine W.loop (fun m σ W=>∃ (i:Nat) (ρ:Env),σ=upds ρ [(1,Pq ag),(3,I (i:Int))]/\M.iterN (za5 s_Sections) m i=some bF/\St w W [cBlk ag [aj,ax,ay] 81] R) ?_ ?_
 ·exact ⟨_,0,_,upds_of _ _ ⟨rfl,rfl,trivial⟩,aU,H⟩
 rintro cH σ cI ⟨i,ρ,rfl,bp,H⟩
 obtain ⟨bG,bH,cJ,hM,aV⟩:=M.e_iterN bp
 simp only [za5] at hM
 clear bp
 refine W.seq ?_
 refine W.seq ?_
 refine W.region rfl ?_
 refine zM (I (i:Int)) rfl ?_
 refine s_val (x_fa (a:=Pq ag) (v:=Pq ag) rfl (fa_blk (o:=0) Fd81_0 Sz77)) ?_
 refine s_val (x_ld (p:=Pq ag) (v:=aj) rfl (ldb_sc Sc77 (H.bl 0) rfl)) ?_
 have cK:=(az).len_le
 refine s_val (x_lenS T77.und rfl az) ?_
 refine zC (i:Int) (s_Sections.length:Int) (decide ((i:Int)<(s_Sections.length:Int))) rfl rfl rfl ?_
 refine s_nil ?_
 refine W.cond (decide ((i:Int)<(s_Sections.length:Int))) rfl (fun aJ=>?_) (fun aJ=>?_)
 ·replace hM:=M.e_t hM aJ
  simp only [qy1,qy2,qy3,qy4,qy5,qy6,ne_eq,qy7] at aJ
  refine W.skip ?_
  refine W.seq ?_
  refine W.block ?_
  refine W.seq ?_
  refine W.region rfl ?_
  refine s_val (x_fa (a:=Pq ag) (v:=Pq ag) rfl (fa_blk (o:=0) Fd81_0 Sz77)) ?_
  refine s_val (x_ld (p:=Pq ag) (v:=aj) rfl (ldb_sc Sc77 (H.bl 0) rfl)) ?_
  refine zM (I (i:Int)) rfl ?_
  obtain ⟨bI,hM⟩:=M.e_grd hM
  simp only [Bool.and_eq_true,decide_eq_true_eq] at bI
  refine s_val (x_ix (a:=aj) (b:=I (i:Int)) (v:=vat aj 2 (Int.toNat (i:Int))) rfl rfl (Sl.ix (α:=Sect) T77.und T77.size az (by omega) (by omega))) ?_
  refine s_val (x_fa (a:=vat aj 2 (Int.toNat (i:Int))) (v:=fat (vat aj 2 (Int.toNat (i:Int))) 1) rfl (fa_pl Fd148_1 Sz146 (Sl.pl (i:=(i:Int)) az (by omega) (by omega)))) ?_
  obtain ⟨bq,bJ,aK⟩:=Sect_at1 az (i:=(i:Int)) (by omega) (by omega)
  replace aK:Sl _ bq (s_Sections.getD i default).rows:=aK
  have cL:=aK.len_le
  refine s_val (x_ld (p:=fat (vat aj 2 (Int.toNat (i:Int))) 1) (v:=bq) rfl (ld_sc Sc146 (At.mono (bJ) (aD.at H)))) ?_
  have cM:=(aK).len_le
  refine s_val (x_lenS T146.und rfl aK) ?_
  obtain ⟨cN,bK,hM⟩:=M.e_bind hM
  refine s_call cf82 [I (((s_Sections.getD i default).rows).length:Int),I 2,I 8] rfl (zaf (((s_Sections.getD i default).rows).length:Int) 2 8 bK _ (H.gt 1)) ?_
  rintro vq cO ⟨r5,bL,hvq,aA⟩
  subst bL
  subst vq
  try dsimp only at hM
  replace H:=H.bk aA
  clear aA
  refine s_nil ?_
  refine W.cond r5 rfl (fun aW=>?_) (fun aW=>?_)
  ·replace hM:=M.e_t hM aW
   refine W.seq ?_
   refine W.region rfl ?_
   refine zA (I 3) rfl ?_
   refine s_nil ?_
   refine W.ret ?_
   have bM:=M.e_inr hM aV
   subst bM
   replace hM:=bo
   try dsimp only at hM
   have aw:=M.e_pure hM
   exact ⟨_,resE_tmp rfl,⟨3,aw,rfl,(H.pk [])⟩⟩
  replace hM:=M.e_f hM aW
  refine W.skip ?_
  refine W.region rfl ?_
  refine zM (I (i:Int)) rfl ?_
  refine zR (i:Int) 1 ((i:Int)+1) rfl rfl rfl (by omega) ?_
  refine zA (I ((i:Int)+1)) rfl ?_
  refine s_nil ?_
  exact ⟨bG,bH,i+1,_,upds_of _ _ ⟨rfl,rfl,trivial⟩,M.e_inl hM aV,H⟩
 replace hM:=M.e_f hM aJ
 simp only [qy1,qy2,qy3,qy4,qy5,qy6,ne_eq,qy7] at aJ
 refine W.exit ?_
 have bN:=M.e_inr hM aV
 subst bN
 replace hM:=bo
 try dsimp only at hM
 refine W.seq ?_
 refine W.seq ?_
 refine W.region rfl ?_
 refine zA (I 0) rfl ?_
 refine s_nil ?_
 refine W.block ?_
 obtain ⟨bO,aX,aR⟩:=M.e_bind hM
 obtain ⟨aQ,aX⟩:=M.e_iter aX
 refine W.loop (fun m σ W=>∃ (i2:Nat) (ρ:Env),σ=upds ρ [(1,Pq ag),(4,I (i2:Int))]/\M.iterN (zbw s_Sections) m i2=some bO/\St w W [cBlk ag [aj,ax,ay] 81] R) ?_ ?_
 ·exact ⟨_,0,_,upds_of _ _ ⟨rfl,rfl,trivial⟩,aX,H⟩
 rintro cP σ cQ ⟨i2,ρ,rfl,br,H⟩
 obtain ⟨bP,bQ,cR,hM,aL⟩:=M.e_iterN br
 simp only [zbw] at hM
 clear br
 refine W.seq ?_
 refine W.seq ?_
 refine W.region rfl ?_
 refine zM (I (i2:Int)) rfl ?_
 refine s_val (x_fa (a:=Pq ag) (v:=Pq ag) rfl (fa_blk (o:=0) Fd81_0 Sz77)) ?_
 refine s_val (x_ld (p:=Pq ag) (v:=aj) rfl (ldb_sc Sc77 (H.bl 0) rfl)) ?_
 have cS:=(az).len_le
 refine s_val (x_lenS T77.und rfl az) ?_
 refine zC (i2:Int) (s_Sections.length:Int) (decide ((i2:Int)<(s_Sections.length:Int))) rfl rfl rfl ?_
 refine s_nil ?_
 refine W.cond (decide ((i2:Int)<(s_Sections.length:Int))) rfl (fun aM=>?_) (fun aM=>?_)
 ·replace hM:=M.e_t hM aM
  simp only [qy1,qy2,qy3,qy4,qy5,qy6,ne_eq,qy7] at aM
  refine W.skip ?_
  refine W.seq ?_
  refine W.block ?_
  refine W.seq ?_
  refine W.region rfl ?_
  refine s_val (x_fa (a:=Pq ag) (v:=Pq ag) rfl (fa_blk (o:=0) Fd81_0 Sz77)) ?_
  refine s_val (x_ld (p:=Pq ag) (v:=aj) rfl (ldb_sc Sc77 (H.bl 0) rfl)) ?_
  refine zM (I (i2:Int)) rfl ?_
  obtain ⟨bR,hM⟩:=M.e_grd hM
  simp only [Bool.and_eq_true,decide_eq_true_eq] at bR
  refine s_val (x_ix (a:=aj) (b:=I (i2:Int)) (v:=vat aj 2 (Int.toNat (i2:Int))) rfl rfl (Sl.ix (α:=Sect) T77.und T77.size az (by omega) (by omega))) ?_
  obtain ⟨ae,bS,ap⟩:=Sect_atA az (i:=(i2:Int)) (by omega) (by omega)
  replace ap:Sl _ ae (s_Sections.getD i2 default).rows:=ap
  have cT:=ap.len_le
  refine s_val (x_ld (p:=vat aj 2 (Int.toNat (i2:Int))) (v:=.agg #[I ((s_Sections.getD i2 default).place),ae]) rfl (ld_ag Ag148 Sz148 (At.mono bS (aD.at H)))) ?_
  refine t_alloc (cs:=[I 0,.slice none 0 0]) H Al148 rfl ?_
  intro ak cU H
  refine t_sw 0 0 [I ((s_Sections.getD i2 default).place),ae] (.agg #[I ((s_Sections.getD i2 default).place),ae]) H rfl rfl Sz148 rfl rfl rfl (by simp only [List.all_cons,List.all_nil,Bool.true_and,Bool.and_true,Sl.oc ap]; try rfl) ?_
  intro cV H
  refine s_nil ?_
  refine W.seq ?_
  refine W.seq ?_
  refine W.draw (fun W=>St w W [cBlk ak [I ((s_Sections.getD i2 default).place),ae] 148,cBlk ag [aj,ax,ay] 81] R) [(0,true),(1,true),(2,false),(3,true),(4,true),(5,true),(6,true),(7,true),(8,true),(9,true),(10,true),(11,true),(12,true),(13,true),(14,true),(15,true),(16,true),(17,true),(18,true)] mixed (by decide +kernel) rfl ?_
  intro cW ac
  replace H:=H.ext ac
  clear ac
  refine ⟨(H.pk [0,1]),?_⟩
  refine d_q rfl (fun w' H=>x_fa (a:=Pq ak) (v:=Pq ak) rfl (fa_blk (o:=0) Fd148_0 Sz3)) ?_
  refine d_q rfl (fun w' H=>x_ld (p:=Pq ak) (v:=I ((s_Sections.getD i2 default).place)) rfl (ldb_sc Sc3 (H.bl 0) rfl)) ?_
  refine d_l rfl ?_
  obtain ⟨cX,bT,hM⟩:=M.e_bind hM
  refine s_call cf82 [I ((s_Sections.getD i2 default).place),I 0,I 10000] rfl (zaf ((s_Sections.getD i2 default).place) 0 10000 bT _ (H.gt 2)) ?_
  rintro vq cY ⟨r6,bU,hvq,aA⟩
  subst bU
  subst vq
  try dsimp only at hM
  replace H:=H.bk aA
  clear aA
  refine s_nil ⟨(H.pk [0,1]),?_⟩
  refine d_q rfl (fun w' H=>x_mv (v:=B r6) rfl) ?_
  refine d_qg (!r6) rfl (gy_f rfl) (fun hg=>(fun w' H=>x_mv (v:=I (i2:Int)) rfl)) ?_
  refine d_qg (!r6) rfl (gy_f rfl) (fun hg=>(fun w' H=>x_cmp (kd:=.i64) (a:=(i2:Int)) (b:=0) (r:=decide (0<(i2:Int))) (gd_of (c:=!r6) hg (I (i2:Int))) rfl rfl)) ?_
  refine d_qg (!r6) rfl (gy_f rfl) (fun hg=>(fun w' H=>x_mv (v:=B (decide (0<(i2:Int)))) (gd_of (c:=!r6) hg (B (decide (0<(i2:Int))))))) ?_
  refine d_qg ((!r6)&&(decide (0<(i2:Int)))) rfl (gy_gt rfl rfl) (fun hg=>(fun w' H=>x_fa (a:=Pq ak) (v:=Pq ak) rfl (fa_blk (o:=0) Fd148_0 Sz3))) ?_
  refine d_qg ((!r6)&&(decide (0<(i2:Int)))) rfl (gy_gt rfl rfl) (fun hg=>(fun w' H=>x_ld (p:=Pq ak) (v:=I ((s_Sections.getD i2 default).place)) (gd_of (c:=((!r6)&&(decide (0<(i2:Int))))) hg (Pq ak)) (ldb_sc Sc3 (H.bl 0) rfl))) ?_
  refine d_qg ((!r6)&&(decide (0<(i2:Int)))) rfl (gy_gt rfl rfl) (fun hg=>(fun w' H=>x_fa (a:=Pq ag) (v:=Pq ag) rfl (fa_blk (o:=0) Fd81_0 Sz77))) ?_
  refine d_qg ((!r6)&&(decide (0<(i2:Int)))) rfl (gy_gt rfl rfl) (fun hg=>(fun w' H=>x_ld (p:=Pq ag) (v:=aj) (gd_of (c:=((!r6)&&(decide (0<(i2:Int))))) hg (Pq ag)) (ldb_sc Sc77 (H.bl 1) rfl))) ?_
  refine d_qg ((!r6)&&(decide (0<(i2:Int)))) rfl (gy_gt rfl rfl) (fun hg=>(fun w' H=>x_mv (v:=I (i2:Int)) rfl)) ?_
  obtain ⟨aB,hM⟩:=M.e_grd hM
  replace aB:=M.imp_of aB
  simp only [Bool.and_eq_true,decide_eq_true_eq] at aB
  refine d_qg ((!r6)&&(decide (0<(i2:Int)))) rfl (gy_gt rfl rfl) (fun hg=>(fun w' H=>x_ari (a:=(i2:Int)) (b:=1) (r:=(i2:Int)-1) (gd_of (c:=((!r6)&&(decide (0<(i2:Int))))) hg (I (i2:Int))) rfl rfl (by have aa:=aB.resolve_left (by rw [hg]; decide); first | exact aa | exact aa.1 | exact aa.2 | omega | (have ac:=hg; simp at ac; omega)))) ?_
  obtain ⟨aE,hM⟩:=M.e_grd hM
  replace aE:=M.imp_of aE
  simp only [Bool.and_eq_true,decide_eq_true_eq] at aE
  refine d_qg ((!r6)&&(decide (0<(i2:Int)))) rfl (gy_gt rfl rfl) (fun hg=>(fun w' H=>x_ix (a:=aj) (b:=I ((i2:Int)-1)) (v:=vat aj 2 (Int.toNat ((i2:Int)-1))) (gd_of (c:=((!r6)&&(decide (0<(i2:Int))))) hg (aj)) (gd_of (c:=((!r6)&&(decide (0<(i2:Int))))) hg (I ((i2:Int)-1))) (Sl.ix (α:=Sect) T77.und T77.size az (by have aa:=aB.resolve_left (by rw [hg]; decide); have ab:=aE.resolve_left (by rw [hg]; decide); first | exact aa | exact aa.1 | exact aa.2 | exact ab | exact ab.1 | exact ab.2 | omega | (have ac:=hg; simp at ac; omega)) (by have aa:=aB.resolve_left (by rw [hg]; decide); have ab:=aE.resolve_left (by rw [hg]; decide); first | exact aa | exact aa.1 | exact aa.2 | exact ab | exact ab.1 | exact ab.2 | omega | (have ac:=hg; simp at ac; omega))))) ?_
  refine d_qg ((!r6)&&(decide (0<(i2:Int)))) rfl (gy_gt rfl rfl) (fun hg=>(fun w' H=>x_fa (a:=vat aj 2 (Int.toNat ((i2:Int)-1))) (v:=fat (vat aj 2 (Int.toNat ((i2:Int)-1))) 0) (gd_of (c:=((!r6)&&(decide (0<(i2:Int))))) hg (vat aj 2 (Int.toNat ((i2:Int)-1)))) (fa_pl Fd148_0 Sz3 (Sl.pl (i:=(i2:Int)-1) az (by have aa:=aB.resolve_left (by rw [hg]; decide); have ab:=aE.resolve_left (by rw [hg]; decide); first | exact aa | exact aa.1 | exact aa.2 | exact ab | exact ab.1 | exact ab.2 | omega | (have ac:=hg; simp at ac; omega)) (by have aa:=aB.resolve_left (by rw [hg]; decide); have ab:=aE.resolve_left (by rw [hg]; decide); first | exact aa | exact aa.1 | exact aa.2 | exact ab | exact ab.1 | exact ab.2 | omega | (have ac:=hg; simp at ac; omega)))))) ?_
  refine d_qg ((!r6)&&(decide (0<(i2:Int)))) rfl (gy_gt rfl rfl) (fun hg=>(fun w' H=>x_ld (p:=fat (vat aj 2 (Int.toNat ((i2:Int)-1))) 0) (v:=I ((s_Sections.getD (Int.toNat ((i2:Int)-1)) default).place)) (gd_of (c:=((!r6)&&(decide (0<(i2:Int))))) hg (fat (vat aj 2 (Int.toNat ((i2:Int)-1))) 0)) (ld_sc Sc3 (At.mono (Sect_at0 az (i:=(i2:Int)-1) (by have aa:=aB.resolve_left (by rw [hg]; decide); have ab:=aE.resolve_left (by rw [hg]; decide); first | exact aa | exact aa.1 | exact aa.2 | exact ab | exact ab.1 | exact ab.2 | omega | (have ac:=hg; simp at ac; omega)) (by have aa:=aB.resolve_left (by rw [hg]; decide); have ab:=aE.resolve_left (by rw [hg]; decide); first | exact aa | exact aa.1 | exact aa.2 | exact ab | exact ab.1 | exact ab.2 | omega | (have ac:=hg; simp at ac; omega))) (aD.at H))))) ?_
  refine d_qg ((!r6)&&(decide (0<(i2:Int)))) rfl (gy_gt rfl rfl) (fun hg=>(fun w' H=>x_cmp (kd:=.i64) (a:=(s_Sections.getD i2 default).place) (b:=(s_Sections.getD (Int.toNat ((i2:Int)-1)) default).place) (r:=decide (((s_Sections.getD i2 default).place)<=((s_Sections.getD (Int.toNat ((i2:Int)-1)) default).place))) (gd_of (c:=((!r6)&&(decide (0<(i2:Int))))) hg (I ((s_Sections.getD i2 default).place))) (gd_of (c:=((!r6)&&(decide (0<(i2:Int))))) hg (I ((s_Sections.getD (Int.toNat ((i2:Int)-1)) default).place))) rfl)) ?_
  refine d_qg (!r6) rfl (gy_f rfl) (fun hg=>(fun w' H=>x_pand (b:=decide (0<(i2:Int))) (r:=decide (((s_Sections.getD i2 default).place)<=((s_Sections.getD (Int.toNat ((i2:Int)-1)) default).place))) (gd_of (c:=!r6) hg (B (decide (0<(i2:Int))))) (fun hb=>gd_of (c:=((!r6)&&(decide (0<(i2:Int))))) (by first | exact hb | (rw [hb]; rfl) | simp_all) (B (decide (((s_Sections.getD i2 default).place)<=((s_Sections.getD (Int.toNat ((i2:Int)-1)) default).place))))) rfl)) ?_
  refine d_q rfl (fun w' H=>x_por (b:=r6) (r:=((decide (0<(i2:Int)))&&(decide (((s_Sections.getD i2 default).place)<=((s_Sections.getD (Int.toNat ((i2:Int)-1)) default).place))))) rfl rfl (fun hb=>gd_of (c:=!r6) (by first | exact hb | (rw [hb]; rfl) | simp_all) (B ((decide (0<(i2:Int)))&&(decide (((s_Sections.getD i2 default).place)<=((s_Sections.getD (Int.toNat ((i2:Int)-1)) default).place))))))) ?_
  refine d_nil ?_
  refine W.cond (r6||((decide (0<(i2:Int)))&&(decide (((s_Sections.getD i2 default).place)<=((s_Sections.getD (Int.toNat ((i2:Int)-1)) default).place))))) rfl (fun aY=>?_) (fun aY=>?_)
  ·replace hM:=M.e_t hM aY
   refine W.seq ?_
   refine W.region rfl ?_
   refine zA (I 70) rfl ?_
   refine s_nil ?_
   refine W.ret ?_
   have bV:=M.e_inr hM aL
   subst bV
   replace hM:=aR
   try dsimp only at hM
   have aw:=M.e_pure hM
   exact ⟨_,resE_tmp rfl,⟨70,aw,rfl,(H.pk [])⟩⟩
  replace hM:=M.e_f hM aY
  refine W.skip ?_
  refine W.seq ?_
  refine W.region rfl ?_
  refine zA (I 0) rfl ?_
  refine s_nil ?_
  refine W.block ?_
  obtain ⟨bW,aZ,a6⟩:=M.e_bind hM
  obtain ⟨aQ,aZ⟩:=M.e_iter aZ
  refine W.loop (fun m σ W=>∃ (k:Nat) (ρ:Env),σ=upds ρ [(1,Pq ag),(4,I (i2:Int)),(5,Pq ak),(6,I (k:Int)),(58,gd (!r6) (I (i2:Int))),(59,gd (!r6) (B (decide (0<(i2:Int))))),(60,gd (!r6) (B (decide (0<(i2:Int))))),(61,gd ((!r6)&&(decide (0<(i2:Int)))) (Pq ak)),(62,gd ((!r6)&&(decide (0<(i2:Int)))) (I ((s_Sections.getD i2 default).place))),(63,gd ((!r6)&&(decide (0<(i2:Int)))) (Pq ag)),(64,gd ((!r6)&&(decide (0<(i2:Int)))) aj),(65,gd ((!r6)&&(decide (0<(i2:Int)))) (I (i2:Int))),(66,gd ((!r6)&&(decide (0<(i2:Int)))) (I ((i2:Int)-1))),(67,gd ((!r6)&&(decide (0<(i2:Int)))) (vat aj 2 (Int.toNat ((i2:Int)-1)))),(68,gd ((!r6)&&(decide (0<(i2:Int)))) (fat (vat aj 2 (Int.toNat ((i2:Int)-1))) 0)),(69,gd ((!r6)&&(decide (0<(i2:Int)))) (I ((s_Sections.getD (Int.toNat ((i2:Int)-1)) default).place))),(70,gd ((!r6)&&(decide (0<(i2:Int)))) (B (decide (((s_Sections.getD i2 default).place)<=((s_Sections.getD (Int.toNat ((i2:Int)-1)) default).place))))),(71,gd (!r6) (B ((decide (0<(i2:Int)))&&(decide (((s_Sections.getD i2 default).place)<=((s_Sections.getD (Int.toNat ((i2:Int)-1)) default).place))))))]/\M.iterN (zby s_Sections i2) m k=some bW/\St w W [cBlk ak [I ((s_Sections.getD i2 default).place),ae] 148,cBlk ag [aj,ax,ay] 81] R) ?_ ?_
  ·exact ⟨_,0,_,upds_of _ _ ⟨rfl,rfl,rfl,rfl,rfl,rfl,rfl,rfl,rfl,rfl,rfl,rfl,rfl,rfl,rfl,rfl,rfl,rfl,trivial⟩,aZ,H⟩
  rintro cZ σ c5 ⟨k,ρ,rfl,bt,H⟩
  obtain ⟨bX,bY,c6,hM,aS⟩:=M.e_iterN bt
  simp only [zby] at hM
  clear bt
  refine W.seq ?_
  refine W.seq ?_
  refine W.region rfl ?_
  refine zM (I (k:Int)) rfl ?_
  refine s_val (x_fa (a:=Pq ak) (v:=Oq ak 1) rfl (fa_blk (o:=0) Fd148_1 Sz146)) ?_
  refine s_val (x_ld (p:=Oq ak 1) (v:=ae) rfl (ldb_sc Sc146 (H.bl 0) rfl)) ?_
  have c7:=(ap).len_le
  refine s_val (x_lenS T146.und rfl ap) ?_
  refine zC (k:Int) (((s_Sections.getD i2 default).rows).length:Int) (decide ((k:Int)<(((s_Sections.getD i2 default).rows).length:Int))) rfl rfl rfl ?_
  refine s_nil ?_
  refine W.cond (decide ((k:Int)<(((s_Sections.getD i2 default).rows).length:Int))) rfl (fun aN=>?_) (fun aN=>?_)
  ·replace hM:=M.e_t hM aN
   simp only [qy1,qy2,qy3,qy4,qy5,qy6,ne_eq,qy7] at aN
   refine W.skip ?_
   refine W.seq ?_
   refine W.block ?_
   refine W.seq ?_
   refine W.seq ?_
   refine W.region rfl ?_
   refine s_val (x_fa (a:=Pq ak) (v:=Oq ak 1) rfl (fa_blk (o:=0) Fd148_1 Sz146)) ?_
   refine s_val (x_ld (p:=Oq ak 1) (v:=ae) rfl (ldb_sc Sc146 (H.bl 0) rfl)) ?_
   refine zM (I (k:Int)) rfl ?_
   obtain ⟨bZ,hM⟩:=M.e_grd hM
   simp only [Bool.and_eq_true,decide_eq_true_eq] at bZ
   refine s_val (x_ix (a:=ae) (b:=I (k:Int)) (v:=vat ae 2 (Int.toNat (k:Int))) rfl rfl (Sl.ix (α:=FRow) T146.und T146.size ap (by omega) (by omega))) ?_
   refine s_val (x_fa (a:=vat ae 2 (Int.toNat (k:Int))) (v:=fat (vat ae 2 (Int.toNat (k:Int))) 0) rfl (fa_pl Fd149_0 Sz3 (Sl.pl (i:=(k:Int)) ap (by omega) (by omega)))) ?_
   refine s_val (x_ld (p:=fat (vat ae 2 (Int.toNat (k:Int))) 0) (v:=I ((((s_Sections.getD i2 default).rows).getD k default).stage)) rfl (ld_sc Sc3 (At.mono (FRow_at0 ap (i:=(k:Int)) (by omega) (by omega)) (aD.at H)))) ?_
   obtain ⟨c8,b4,hM⟩:=M.e_bind hM
   refine s_call cf82 [I ((((s_Sections.getD i2 default).rows).getD k default).stage),I 0,I 2000] rfl (zaf ((((s_Sections.getD i2 default).rows).getD k default).stage) 0 2000 b4 _ (H.gt 2)) ?_
   rintro vq c9 ⟨r7,b5,hvq,aA⟩
   subst b5
   subst vq
   try dsimp only at hM
   replace H:=H.bk aA
   clear aA
   refine zM (B r7) rfl ?_
   refine g_val (!r7) (gy_f rfl) (fun hg=>x_fa (a:=Pq ak) (v:=Oq ak 1) rfl (fa_blk (o:=0) Fd148_1 Sz146)) ?_
   refine g_val (!r7) (gy_f rfl) (fun hg=>x_ld (p:=Oq ak 1) (v:=ae) (gd_of (c:=!r7) hg (Oq ak 1)) (ldb_sc Sc146 (H.bl 0) rfl)) ?_
   refine g_val (!r7) (gy_f rfl) (fun hg=>x_mv (v:=I (k:Int)) rfl) ?_
   refine g_val (!r7) (gy_f rfl) (fun hg=>x_ix (a:=ae) (b:=I (k:Int)) (v:=vat ae 2 (Int.toNat (k:Int))) (gd_of (c:=!r7) hg (ae)) (gd_of (c:=!r7) hg (I (k:Int))) (Sl.ix (α:=FRow) T146.und T146.size ap (by first | omega | (have ac:=hg; simp at ac; omega)) (by first | omega | (have ac:=hg; simp at ac; omega)))) ?_
   refine g_val (!r7) (gy_f rfl) (fun hg=>x_fa (a:=vat ae 2 (Int.toNat (k:Int))) (v:=fat (vat ae 2 (Int.toNat (k:Int))) 1) (gd_of (c:=!r7) hg (vat ae 2 (Int.toNat (k:Int)))) (fa_pl Fd149_1 Sz3 (Sl.pl (i:=(k:Int)) ap (by first | omega | (have ac:=hg; simp at ac; omega)) (by first | omega | (have ac:=hg; simp at ac; omega))))) ?_
   refine g_val (!r7) (gy_f rfl) (fun hg=>x_ld (p:=fat (vat ae 2 (Int.toNat (k:Int))) 1) (v:=I ((((s_Sections.getD i2 default).rows).getD k default).carry)) (gd_of (c:=!r7) hg (fat (vat ae 2 (Int.toNat (k:Int))) 1)) (ld_sc Sc3 (At.mono (FRow_at1 ap (i:=(k:Int)) (by first | omega | (have ac:=hg; simp at ac; omega)) (by first | omega | (have ac:=hg; simp at ac; omega))) (aD.at H)))) ?_
   obtain ⟨r8,b6,hM⟩:=M.e_bind hM
   refine t_gcall (!r7) (gy_f rfl) cf82 (B r8) (fun _=>[I ((((s_Sections.getD i2 default).rows).getD k default).carry),I 0,I 100000]) (fun hg=>lst3 (gd_of (c:=!r7) hg (I ((((s_Sections.getD i2 default).rows).getD k default).carry))) rfl rfl) H (fun hg=>(zaf ((((s_Sections.getD i2 default).rows).getD k default).carry) 0 100000 (M.e_opt b6 hg) _ (H.give (A:=[]) rfl)).mono fun v_ w_ ⟨y_,aw,aI,H_⟩=>by subst aw; exact ⟨aI,H.via H_⟩) ?_
   intro da H
   refine s_val (x_por (b:=r7) (r:=r8) rfl rfl (fun hb=>gd_of (c:=!r7) (by first | exact hb | (rw [hb]; rfl) | simp_all) (B r8))) ?_
   refine s_nil ?_
   refine W.cond (r7||r8) rfl (fun a7=>?_) (fun a7=>?_)
   ·replace hM:=M.e_t hM a7
    refine W.seq ?_
    refine W.region rfl ?_
    refine zA (I 70) rfl ?_
    refine s_nil ?_
    refine W.ret ?_
    have b7:=M.e_inr hM aS
    subst b7
    replace hM:=a6
    try dsimp only at hM
    have b8:=M.e_inr hM aL
    subst b8
    replace hM:=aR
    try dsimp only at hM
    have aw:=M.e_pure hM
    exact ⟨_,resE_tmp rfl,⟨70,aw,rfl,(H.pk [])⟩⟩
   replace hM:=M.e_f hM a7
   refine W.skip ?_
   refine W.seq ?_
   refine W.draw (fun W=>St w W [cBlk ak [I ((s_Sections.getD i2 default).place),ae] 148,cBlk ag [aj,ax,ay] 81] R) [(0,true),(1,true),(2,true),(3,true),(4,true),(5,true),(6,true),(7,true),(8,true),(9,true),(10,true),(11,true),(12,true),(13,true),(14,true),(15,true),(16,true),(17,true),(18,true),(19,true),(20,true),(21,true),(22,true),(23,true),(24,true),(25,true),(26,true),(27,true),(28,true),(29,true),(30,true),(31,true),(32,true),(33,true)] mixed (by decide +kernel) rfl ?_
   intro db ac
   replace H:=H.ext ac
   clear ac
   refine ⟨(H.pk [0,1]),?_⟩
   refine d_q rfl (fun w' H=>x_mv (v:=I (k:Int)) rfl) ?_
   refine d_q rfl (fun w' H=>x_cmp (kd:=.i64) (a:=(k:Int)) (b:=0) (r:=decide (0<(k:Int))) rfl rfl rfl) ?_
   refine d_q rfl (fun w' H=>x_mv (v:=B (decide (0<(k:Int)))) rfl) ?_
   refine d_qg (decide (0<(k:Int))) rfl (gy_t rfl) (fun hg=>(fun w' H=>x_fa (a:=Pq ak) (v:=Oq ak 1) rfl (fa_blk (o:=0) Fd148_1 Sz146))) ?_
   refine d_qg (decide (0<(k:Int))) rfl (gy_t rfl) (fun hg=>(fun w' H=>x_ld (p:=Oq ak 1) (v:=ae) (gd_of (c:=decide (0<(k:Int))) hg (Oq ak 1)) (ldb_sc Sc146 (H.bl 0) rfl))) ?_
   refine d_qg (decide (0<(k:Int))) rfl (gy_t rfl) (fun hg=>(fun w' H=>x_mv (v:=I (k:Int)) rfl)) ?_
   refine d_qg (decide (0<(k:Int))) rfl (gy_t rfl) (fun hg=>(fun w' H=>x_ix (a:=ae) (b:=I (k:Int)) (v:=vat ae 2 (Int.toNat (k:Int))) (gd_of (c:=decide (0<(k:Int))) hg (ae)) (gd_of (c:=decide (0<(k:Int))) hg (I (k:Int))) (Sl.ix (α:=FRow) T146.und T146.size ap (by first | omega | (have ac:=hg; simp at ac; omega)) (by first | omega | (have ac:=hg; simp at ac; omega))))) ?_
   refine d_qg (decide (0<(k:Int))) rfl (gy_t rfl) (fun hg=>(fun w' H=>x_fa (a:=vat ae 2 (Int.toNat (k:Int))) (v:=fat (vat ae 2 (Int.toNat (k:Int))) 0) (gd_of (c:=decide (0<(k:Int))) hg (vat ae 2 (Int.toNat (k:Int)))) (fa_pl Fd149_0 Sz3 (Sl.pl (i:=(k:Int)) ap (by first | omega | (have ac:=hg; simp at ac; omega)) (by first | omega | (have ac:=hg; simp at ac; omega)))))) ?_
   refine d_qg (decide (0<(k:Int))) rfl (gy_t rfl) (fun hg=>(fun w' H=>x_ld (p:=fat (vat ae 2 (Int.toNat (k:Int))) 0) (v:=I ((((s_Sections.getD i2 default).rows).getD k default).stage)) (gd_of (c:=decide (0<(k:Int))) hg (fat (vat ae 2 (Int.toNat (k:Int))) 0)) (ld_sc Sc3 (At.mono (FRow_at0 ap (i:=(k:Int)) (by first | omega | (have ac:=hg; simp at ac; omega)) (by first | omega | (have ac:=hg; simp at ac; omega))) (aD.at H))))) ?_
   refine d_qg (decide (0<(k:Int))) rfl (gy_t rfl) (fun hg=>(fun w' H=>x_fa (a:=Pq ak) (v:=Oq ak 1) rfl (fa_blk (o:=0) Fd148_1 Sz146))) ?_
   refine d_qg (decide (0<(k:Int))) rfl (gy_t rfl) (fun hg=>(fun w' H=>x_ld (p:=Oq ak 1) (v:=ae) (gd_of (c:=decide (0<(k:Int))) hg (Oq ak 1)) (ldb_sc Sc146 (H.bl 0) rfl))) ?_
   refine d_qg (decide (0<(k:Int))) rfl (gy_t rfl) (fun hg=>(fun w' H=>x_mv (v:=I (k:Int)) rfl)) ?_
   obtain ⟨aq,hM⟩:=M.e_grd hM
   replace aq:=M.imp_of aq
   simp only [Bool.and_eq_true,decide_eq_true_eq] at aq
   refine d_qg (decide (0<(k:Int))) rfl (gy_t rfl) (fun hg=>(fun w' H=>x_ari (a:=(k:Int)) (b:=1) (r:=(k:Int)-1) (gd_of (c:=decide (0<(k:Int))) hg (I (k:Int))) rfl rfl (by have aa:=aq.resolve_left (by rw [hg]; decide); first | exact aa | exact aa.1 | exact aa.2 | omega | (have ac:=hg; simp at ac; omega)))) ?_
   obtain ⟨av,hM⟩:=M.e_grd hM
   replace av:=M.imp_of av
   simp only [Bool.and_eq_true,decide_eq_true_eq] at av
   refine d_qg (decide (0<(k:Int))) rfl (gy_t rfl) (fun hg=>(fun w' H=>x_ix (a:=ae) (b:=I ((k:Int)-1)) (v:=vat ae 2 (Int.toNat ((k:Int)-1))) (gd_of (c:=decide (0<(k:Int))) hg (ae)) (gd_of (c:=decide (0<(k:Int))) hg (I ((k:Int)-1))) (Sl.ix (α:=FRow) T146.und T146.size ap (by have aa:=aq.resolve_left (by rw [hg]; decide); have ab:=av.resolve_left (by rw [hg]; decide); first | exact aa | exact aa.1 | exact aa.2 | exact ab | exact ab.1 | exact ab.2 | omega | (have ac:=hg; simp at ac; omega)) (by have aa:=aq.resolve_left (by rw [hg]; decide); have ab:=av.resolve_left (by rw [hg]; decide); first | exact aa | exact aa.1 | exact aa.2 | exact ab | exact ab.1 | exact ab.2 | omega | (have ac:=hg; simp at ac; omega))))) ?_
   refine d_qg (decide (0<(k:Int))) rfl (gy_t rfl) (fun hg=>(fun w' H=>x_fa (a:=vat ae 2 (Int.toNat ((k:Int)-1))) (v:=fat (vat ae 2 (Int.toNat ((k:Int)-1))) 0) (gd_of (c:=decide (0<(k:Int))) hg (vat ae 2 (Int.toNat ((k:Int)-1)))) (fa_pl Fd149_0 Sz3 (Sl.pl (i:=(k:Int)-1) ap (by have aa:=aq.resolve_left (by rw [hg]; decide); have ab:=av.resolve_left (by rw [hg]; decide); first | exact aa | exact aa.1 | exact aa.2 | exact ab | exact ab.1 | exact ab.2 | omega | (have ac:=hg; simp at ac; omega)) (by have aa:=aq.resolve_left (by rw [hg]; decide); have ab:=av.resolve_left (by rw [hg]; decide); first | exact aa | exact aa.1 | exact aa.2 | exact ab | exact ab.1 | exact ab.2 | omega | (have ac:=hg; simp at ac; omega)))))) ?_
   refine d_qg (decide (0<(k:Int))) rfl (gy_t rfl) (fun hg=>(fun w' H=>x_ld (p:=fat (vat ae 2 (Int.toNat ((k:Int)-1))) 0) (v:=I ((((s_Sections.getD i2 default).rows).getD (Int.toNat ((k:Int)-1)) default).stage)) (gd_of (c:=decide (0<(k:Int))) hg (fat (vat ae 2 (Int.toNat ((k:Int)-1))) 0)) (ld_sc Sc3 (At.mono (FRow_at0 ap (i:=(k:Int)-1) (by have aa:=aq.resolve_left (by rw [hg]; decide); have ab:=av.resolve_left (by rw [hg]; decide); first | exact aa | exact aa.1 | exact aa.2 | exact ab | exact ab.1 | exact ab.2 | omega | (have ac:=hg; simp at ac; omega)) (by have aa:=aq.resolve_left (by rw [hg]; decide); have ab:=av.resolve_left (by rw [hg]; decide); first | exact aa | exact aa.1 | exact aa.2 | exact ab | exact ab.1 | exact ab.2 | omega | (have ac:=hg; simp at ac; omega))) (aD.at H))))) ?_
   refine d_qg (decide (0<(k:Int))) rfl (gy_t rfl) (fun hg=>(fun w' H=>x_cmp (kd:=.i64) (a:=(((s_Sections.getD i2 default).rows).getD k default).stage) (b:=(((s_Sections.getD i2 default).rows).getD (Int.toNat ((k:Int)-1)) default).stage) (r:=decide (((((s_Sections.getD i2 default).rows).getD k default).stage)<=((((s_Sections.getD i2 default).rows).getD (Int.toNat ((k:Int)-1)) default).stage))) (gd_of (c:=decide (0<(k:Int))) hg (I ((((s_Sections.getD i2 default).rows).getD k default).stage))) (gd_of (c:=decide (0<(k:Int))) hg (I ((((s_Sections.getD i2 default).rows).getD (Int.toNat ((k:Int)-1)) default).stage))) rfl)) ?_
   refine d_qg (decide (0<(k:Int))) rfl (gy_t rfl) (fun hg=>(fun w' H=>x_mv (v:=B (decide (((((s_Sections.getD i2 default).rows).getD k default).stage)<=((((s_Sections.getD i2 default).rows).getD (Int.toNat ((k:Int)-1)) default).stage)))) (gd_of (c:=decide (0<(k:Int))) hg (B (decide (((((s_Sections.getD i2 default).rows).getD k default).stage)<=((((s_Sections.getD i2 default).rows).getD (Int.toNat ((k:Int)-1)) default).stage))))))) ?_
   refine d_qg ((decide (0<(k:Int)))&&!(decide (((((s_Sections.getD i2 default).rows).getD k default).stage)<=((((s_Sections.getD i2 default).rows).getD (Int.toNat ((k:Int)-1)) default).stage)))) rfl (gy_gf rfl rfl) (fun hg=>(fun w' H=>x_fa (a:=Pq ak) (v:=Oq ak 1) rfl (fa_blk (o:=0) Fd148_1 Sz146))) ?_
   refine d_qg ((decide (0<(k:Int)))&&!(decide (((((s_Sections.getD i2 default).rows).getD k default).stage)<=((((s_Sections.getD i2 default).rows).getD (Int.toNat ((k:Int)-1)) default).stage)))) rfl (gy_gf rfl rfl) (fun hg=>(fun w' H=>x_ld (p:=Oq ak 1) (v:=ae) (gd_of (c:=((decide (0<(k:Int)))&&!(decide (((((s_Sections.getD i2 default).rows).getD k default).stage)<=((((s_Sections.getD i2 default).rows).getD (Int.toNat ((k:Int)-1)) default).stage))))) hg (Oq ak 1)) (ldb_sc Sc146 (H.bl 0) rfl))) ?_
   refine d_qg ((decide (0<(k:Int)))&&!(decide (((((s_Sections.getD i2 default).rows).getD k default).stage)<=((((s_Sections.getD i2 default).rows).getD (Int.toNat ((k:Int)-1)) default).stage)))) rfl (gy_gf rfl rfl) (fun hg=>(fun w' H=>x_mv (v:=I (k:Int)) rfl)) ?_
   refine d_qg ((decide (0<(k:Int)))&&!(decide (((((s_Sections.getD i2 default).rows).getD k default).stage)<=((((s_Sections.getD i2 default).rows).getD (Int.toNat ((k:Int)-1)) default).stage)))) rfl (gy_gf rfl rfl) (fun hg=>(fun w' H=>x_ix (a:=ae) (b:=I (k:Int)) (v:=vat ae 2 (Int.toNat (k:Int))) (gd_of (c:=((decide (0<(k:Int)))&&!(decide (((((s_Sections.getD i2 default).rows).getD k default).stage)<=((((s_Sections.getD i2 default).rows).getD (Int.toNat ((k:Int)-1)) default).stage))))) hg (ae)) (gd_of (c:=((decide (0<(k:Int)))&&!(decide (((((s_Sections.getD i2 default).rows).getD k default).stage)<=((((s_Sections.getD i2 default).rows).getD (Int.toNat ((k:Int)-1)) default).stage))))) hg (I (k:Int))) (Sl.ix (α:=FRow) T146.und T146.size ap (by have aa:=aq.resolve_left (by rw [(Eq.mp (Bool.and_eq_true _ _) hg).1]; decide); have ab:=av.resolve_left (by rw [(Eq.mp (Bool.and_eq_true _ _) hg).1]; decide); first | exact aa | exact aa.1 | exact aa.2 | exact ab | exact ab.1 | exact ab.2 | omega | (have ac:=hg; simp at ac; omega)) (by have aa:=aq.resolve_left (by rw [(Eq.mp (Bool.and_eq_true _ _) hg).1]; decide); have ab:=av.resolve_left (by rw [(Eq.mp (Bool.and_eq_true _ _) hg).1]; decide); first | exact aa | exact aa.1 | exact aa.2 | exact ab | exact ab.1 | exact ab.2 | omega | (have ac:=hg; simp at ac; omega))))) ?_
   refine d_qg ((decide (0<(k:Int)))&&!(decide (((((s_Sections.getD i2 default).rows).getD k default).stage)<=((((s_Sections.getD i2 default).rows).getD (Int.toNat ((k:Int)-1)) default).stage)))) rfl (gy_gf rfl rfl) (fun hg=>(fun w' H=>x_fa (a:=vat ae 2 (Int.toNat (k:Int))) (v:=fat (vat ae 2 (Int.toNat (k:Int))) 1) (gd_of (c:=((decide (0<(k:Int)))&&!(decide (((((s_Sections.getD i2 default).rows).getD k default).stage)<=((((s_Sections.getD i2 default).rows).getD (Int.toNat ((k:Int)-1)) default).stage))))) hg (vat ae 2 (Int.toNat (k:Int)))) (fa_pl Fd149_1 Sz3 (Sl.pl (i:=(k:Int)) ap (by have aa:=aq.resolve_left (by rw [(Eq.mp (Bool.and_eq_true _ _) hg).1]; decide); have ab:=av.resolve_left (by rw [(Eq.mp (Bool.and_eq_true _ _) hg).1]; decide); first | exact aa | exact aa.1 | exact aa.2 | exact ab | exact ab.1 | exact ab.2 | omega | (have ac:=hg; simp at ac; omega)) (by have aa:=aq.resolve_left (by rw [(Eq.mp (Bool.and_eq_true _ _) hg).1]; decide); have ab:=av.resolve_left (by rw [(Eq.mp (Bool.and_eq_true _ _) hg).1]; decide); first | exact aa | exact aa.1 | exact aa.2 | exact ab | exact ab.1 | exact ab.2 | omega | (have ac:=hg; simp at ac; omega)))))) ?_
   refine d_qg ((decide (0<(k:Int)))&&!(decide (((((s_Sections.getD i2 default).rows).getD k default).stage)<=((((s_Sections.getD i2 default).rows).getD (Int.toNat ((k:Int)-1)) default).stage)))) rfl (gy_gf rfl rfl) (fun hg=>(fun w' H=>x_ld (p:=fat (vat ae 2 (Int.toNat (k:Int))) 1) (v:=I ((((s_Sections.getD i2 default).rows).getD k default).carry)) (gd_of (c:=((decide (0<(k:Int)))&&!(decide (((((s_Sections.getD i2 default).rows).getD k default).stage)<=((((s_Sections.getD i2 default).rows).getD (Int.toNat ((k:Int)-1)) default).stage))))) hg (fat (vat ae 2 (Int.toNat (k:Int))) 1)) (ld_sc Sc3 (At.mono (FRow_at1 ap (i:=(k:Int)) (by have aa:=aq.resolve_left (by rw [(Eq.mp (Bool.and_eq_true _ _) hg).1]; decide); have ab:=av.resolve_left (by rw [(Eq.mp (Bool.and_eq_true _ _) hg).1]; decide); first | exact aa | exact aa.1 | exact aa.2 | exact ab | exact ab.1 | exact ab.2 | omega | (have ac:=hg; simp at ac; omega)) (by have aa:=aq.resolve_left (by rw [(Eq.mp (Bool.and_eq_true _ _) hg).1]; decide); have ab:=av.resolve_left (by rw [(Eq.mp (Bool.and_eq_true _ _) hg).1]; decide); first | exact aa | exact aa.1 | exact aa.2 | exact ab | exact ab.1 | exact ab.2 | omega | (have ac:=hg; simp at ac; omega))) (aD.at H))))) ?_
   refine d_qg ((decide (0<(k:Int)))&&!(decide (((((s_Sections.getD i2 default).rows).getD k default).stage)<=((((s_Sections.getD i2 default).rows).getD (Int.toNat ((k:Int)-1)) default).stage)))) rfl (gy_gf rfl rfl) (fun hg=>(fun w' H=>x_fa (a:=Pq ak) (v:=Oq ak 1) rfl (fa_blk (o:=0) Fd148_1 Sz146))) ?_
   refine d_qg ((decide (0<(k:Int)))&&!(decide (((((s_Sections.getD i2 default).rows).getD k default).stage)<=((((s_Sections.getD i2 default).rows).getD (Int.toNat ((k:Int)-1)) default).stage)))) rfl (gy_gf rfl rfl) (fun hg=>(fun w' H=>x_ld (p:=Oq ak 1) (v:=ae) (gd_of (c:=((decide (0<(k:Int)))&&!(decide (((((s_Sections.getD i2 default).rows).getD k default).stage)<=((((s_Sections.getD i2 default).rows).getD (Int.toNat ((k:Int)-1)) default).stage))))) hg (Oq ak 1)) (ldb_sc Sc146 (H.bl 0) rfl))) ?_
   refine d_qg ((decide (0<(k:Int)))&&!(decide (((((s_Sections.getD i2 default).rows).getD k default).stage)<=((((s_Sections.getD i2 default).rows).getD (Int.toNat ((k:Int)-1)) default).stage)))) rfl (gy_gf rfl rfl) (fun hg=>(fun w' H=>x_mv (v:=I (k:Int)) rfl)) ?_
   obtain ⟨aC,hM⟩:=M.e_grd hM
   replace aC:=M.imp_of aC
   simp only [Bool.and_eq_true,decide_eq_true_eq] at aC
   refine d_qg ((decide (0<(k:Int)))&&!(decide (((((s_Sections.getD i2 default).rows).getD k default).stage)<=((((s_Sections.getD i2 default).rows).getD (Int.toNat ((k:Int)-1)) default).stage)))) rfl (gy_gf rfl rfl) (fun hg=>(fun w' H=>x_ari (a:=(k:Int)) (b:=1) (r:=(k:Int)-1) (gd_of (c:=((decide (0<(k:Int)))&&!(decide (((((s_Sections.getD i2 default).rows).getD k default).stage)<=((((s_Sections.getD i2 default).rows).getD (Int.toNat ((k:Int)-1)) default).stage))))) hg (I (k:Int))) rfl rfl (by have aa:=aC.resolve_left (by rw [hg]; decide); have ab:=aq.resolve_left (by rw [(Eq.mp (Bool.and_eq_true _ _) hg).1]; decide); have ao:=av.resolve_left (by rw [(Eq.mp (Bool.and_eq_true _ _) hg).1]; decide); first | exact aa | exact aa.1 | exact aa.2 | exact ab | exact ab.1 | exact ab.2 | exact ao | exact ao.1 | exact ao.2 | omega | (have ac:=hg; simp at ac; omega)))) ?_
   obtain ⟨aF,hM⟩:=M.e_grd hM
   replace aF:=M.imp_of aF
   simp only [Bool.and_eq_true,decide_eq_true_eq] at aF
   refine d_qg ((decide (0<(k:Int)))&&!(decide (((((s_Sections.getD i2 default).rows).getD k default).stage)<=((((s_Sections.getD i2 default).rows).getD (Int.toNat ((k:Int)-1)) default).stage)))) rfl (gy_gf rfl rfl) (fun hg=>(fun w' H=>x_ix (a:=ae) (b:=I ((k:Int)-1)) (v:=vat ae 2 (Int.toNat ((k:Int)-1))) (gd_of (c:=((decide (0<(k:Int)))&&!(decide (((((s_Sections.getD i2 default).rows).getD k default).stage)<=((((s_Sections.getD i2 default).rows).getD (Int.toNat ((k:Int)-1)) default).stage))))) hg (ae)) (gd_of (c:=((decide (0<(k:Int)))&&!(decide (((((s_Sections.getD i2 default).rows).getD k default).stage)<=((((s_Sections.getD i2 default).rows).getD (Int.toNat ((k:Int)-1)) default).stage))))) hg (I ((k:Int)-1))) (Sl.ix (α:=FRow) T146.und T146.size ap (by have aa:=aC.resolve_left (by rw [hg]; decide); have ab:=aF.resolve_left (by rw [hg]; decide); have ao:=aq.resolve_left (by rw [(Eq.mp (Bool.and_eq_true _ _) hg).1]; decide); have au:=av.resolve_left (by rw [(Eq.mp (Bool.and_eq_true _ _) hg).1]; decide); first | exact aa | exact aa.1 | exact aa.2 | exact ab | exact ab.1 | exact ab.2 | exact ao | exact ao.1 | exact ao.2 | exact au | exact au.1 | exact au.2 | omega | (have ac:=hg; simp at ac; omega)) (by have aa:=aC.resolve_left (by rw [hg]; decide); have ab:=aF.resolve_left (by rw [hg]; decide); have ao:=aq.resolve_left (by rw [(Eq.mp (Bool.and_eq_true _ _) hg).1]; decide); have au:=av.resolve_left (by rw [(Eq.mp (Bool.and_eq_true _ _) hg).1]; decide); first | exact aa | exact aa.1 | exact aa.2 | exact ab | exact ab.1 | exact ab.2 | exact ao | exact ao.1 | exact ao.2 | exact au | exact au.1 | exact au.2 | omega | (have ac:=hg; simp at ac; omega))))) ?_
   refine d_qg ((decide (0<(k:Int)))&&!(decide (((((s_Sections.getD i2 default).rows).getD k default).stage)<=((((s_Sections.getD i2 default).rows).getD (Int.toNat ((k:Int)-1)) default).stage)))) rfl (gy_gf rfl rfl) (fun hg=>(fun w' H=>x_fa (a:=vat ae 2 (Int.toNat ((k:Int)-1))) (v:=fat (vat ae 2 (Int.toNat ((k:Int)-1))) 1) (gd_of (c:=((decide (0<(k:Int)))&&!(decide (((((s_Sections.getD i2 default).rows).getD k default).stage)<=((((s_Sections.getD i2 default).rows).getD (Int.toNat ((k:Int)-1)) default).stage))))) hg (vat ae 2 (Int.toNat ((k:Int)-1)))) (fa_pl Fd149_1 Sz3 (Sl.pl (i:=(k:Int)-1) ap (by have aa:=aC.resolve_left (by rw [hg]; decide); have ab:=aF.resolve_left (by rw [hg]; decide); have ao:=aq.resolve_left (by rw [(Eq.mp (Bool.and_eq_true _ _) hg).1]; decide); have au:=av.resolve_left (by rw [(Eq.mp (Bool.and_eq_true _ _) hg).1]; decide); first | exact aa | exact aa.1 | exact aa.2 | exact ab | exact ab.1 | exact ab.2 | exact ao | exact ao.1 | exact ao.2 | exact au | exact au.1 | exact au.2 | omega | (have ac:=hg; simp at ac; omega)) (by have aa:=aC.resolve_left (by rw [hg]; decide); have ab:=aF.resolve_left (by rw [hg]; decide); have ao:=aq.resolve_left (by rw [(Eq.mp (Bool.and_eq_true _ _) hg).1]; decide); have au:=av.resolve_left (by rw [(Eq.mp (Bool.and_eq_true _ _) hg).1]; decide); first | exact aa | exact aa.1 | exact aa.2 | exact ab | exact ab.1 | exact ab.2 | exact ao | exact ao.1 | exact ao.2 | exact au | exact au.1 | exact au.2 | omega | (have ac:=hg; simp at ac; omega)))))) ?_
   refine d_qg ((decide (0<(k:Int)))&&!(decide (((((s_Sections.getD i2 default).rows).getD k default).stage)<=((((s_Sections.getD i2 default).rows).getD (Int.toNat ((k:Int)-1)) default).stage)))) rfl (gy_gf rfl rfl) (fun hg=>(fun w' H=>x_ld (p:=fat (vat ae 2 (Int.toNat ((k:Int)-1))) 1) (v:=I ((((s_Sections.getD i2 default).rows).getD (Int.toNat ((k:Int)-1)) default).carry)) (gd_of (c:=((decide (0<(k:Int)))&&!(decide (((((s_Sections.getD i2 default).rows).getD k default).stage)<=((((s_Sections.getD i2 default).rows).getD (Int.toNat ((k:Int)-1)) default).stage))))) hg (fat (vat ae 2 (Int.toNat ((k:Int)-1))) 1)) (ld_sc Sc3 (At.mono (FRow_at1 ap (i:=(k:Int)-1) (by have aa:=aC.resolve_left (by rw [hg]; decide); have ab:=aF.resolve_left (by rw [hg]; decide); have ao:=aq.resolve_left (by rw [(Eq.mp (Bool.and_eq_true _ _) hg).1]; decide); have au:=av.resolve_left (by rw [(Eq.mp (Bool.and_eq_true _ _) hg).1]; decide); first | exact aa | exact aa.1 | exact aa.2 | exact ab | exact ab.1 | exact ab.2 | exact ao | exact ao.1 | exact ao.2 | exact au | exact au.1 | exact au.2 | omega | (have ac:=hg; simp at ac; omega)) (by have aa:=aC.resolve_left (by rw [hg]; decide); have ab:=aF.resolve_left (by rw [hg]; decide); have ao:=aq.resolve_left (by rw [(Eq.mp (Bool.and_eq_true _ _) hg).1]; decide); have au:=av.resolve_left (by rw [(Eq.mp (Bool.and_eq_true _ _) hg).1]; decide); first | exact aa | exact aa.1 | exact aa.2 | exact ab | exact ab.1 | exact ab.2 | exact ao | exact ao.1 | exact ao.2 | exact au | exact au.1 | exact au.2 | omega | (have ac:=hg; simp at ac; omega))) (aD.at H))))) ?_
   refine d_qg ((decide (0<(k:Int)))&&!(decide (((((s_Sections.getD i2 default).rows).getD k default).stage)<=((((s_Sections.getD i2 default).rows).getD (Int.toNat ((k:Int)-1)) default).stage)))) rfl (gy_gf rfl rfl) (fun hg=>(fun w' H=>x_cmp (kd:=.i64) (a:=(((s_Sections.getD i2 default).rows).getD k default).carry) (b:=(((s_Sections.getD i2 default).rows).getD (Int.toNat ((k:Int)-1)) default).carry) (r:=decide (((((s_Sections.getD i2 default).rows).getD k default).carry)<((((s_Sections.getD i2 default).rows).getD (Int.toNat ((k:Int)-1)) default).carry))) (gd_of (c:=((decide (0<(k:Int)))&&!(decide (((((s_Sections.getD i2 default).rows).getD k default).stage)<=((((s_Sections.getD i2 default).rows).getD (Int.toNat ((k:Int)-1)) default).stage))))) hg (I ((((s_Sections.getD i2 default).rows).getD k default).carry))) (gd_of (c:=((decide (0<(k:Int)))&&!(decide (((((s_Sections.getD i2 default).rows).getD k default).stage)<=((((s_Sections.getD i2 default).rows).getD (Int.toNat ((k:Int)-1)) default).stage))))) hg (I ((((s_Sections.getD i2 default).rows).getD (Int.toNat ((k:Int)-1)) default).carry))) rfl)) ?_
   refine d_qg (decide (0<(k:Int))) rfl (gy_t rfl) (fun hg=>(fun w' H=>x_por (b:=decide (((((s_Sections.getD i2 default).rows).getD k default).stage)<=((((s_Sections.getD i2 default).rows).getD (Int.toNat ((k:Int)-1)) default).stage))) (r:=decide (((((s_Sections.getD i2 default).rows).getD k default).carry)<((((s_Sections.getD i2 default).rows).getD (Int.toNat ((k:Int)-1)) default).carry))) (gd_of (c:=decide (0<(k:Int))) hg (B (decide (((((s_Sections.getD i2 default).rows).getD k default).stage)<=((((s_Sections.getD i2 default).rows).getD (Int.toNat ((k:Int)-1)) default).stage))))) rfl (fun hb=>gd_of (c:=((decide (0<(k:Int)))&&!(decide (((((s_Sections.getD i2 default).rows).getD k default).stage)<=((((s_Sections.getD i2 default).rows).getD (Int.toNat ((k:Int)-1)) default).stage))))) (by first | exact hb | (rw [hb]; rfl) | simp_all) (B (decide (((((s_Sections.getD i2 default).rows).getD k default).carry)<((((s_Sections.getD i2 default).rows).getD (Int.toNat ((k:Int)-1)) default).carry))))))) ?_
   refine d_q rfl (fun w' H=>x_pand (b:=decide (0<(k:Int))) (r:=((decide (((((s_Sections.getD i2 default).rows).getD k default).stage)<=((((s_Sections.getD i2 default).rows).getD (Int.toNat ((k:Int)-1)) default).stage)))||(decide (((((s_Sections.getD i2 default).rows).getD k default).carry)<((((s_Sections.getD i2 default).rows).getD (Int.toNat ((k:Int)-1)) default).carry))))) rfl (fun hb=>gd_of (c:=decide (0<(k:Int))) (by first | exact hb | (rw [hb]; rfl) | simp_all) (B ((decide (((((s_Sections.getD i2 default).rows).getD k default).stage)<=((((s_Sections.getD i2 default).rows).getD (Int.toNat ((k:Int)-1)) default).stage)))||(decide (((((s_Sections.getD i2 default).rows).getD k default).carry)<((((s_Sections.getD i2 default).rows).getD (Int.toNat ((k:Int)-1)) default).carry)))))) rfl) ?_
   refine d_nil ?_
   refine W.cond ((decide (0<(k:Int)))&&((decide (((((s_Sections.getD i2 default).rows).getD k default).stage)<=((((s_Sections.getD i2 default).rows).getD (Int.toNat ((k:Int)-1)) default).stage)))||(decide (((((s_Sections.getD i2 default).rows).getD k default).carry)<((((s_Sections.getD i2 default).rows).getD (Int.toNat ((k:Int)-1)) default).carry))))) rfl (fun a8=>?_) (fun a8=>?_)
   ·replace hM:=M.e_t hM a8
    refine W.seq ?_
    refine W.region rfl ?_
    refine zA (I 70) rfl ?_
    refine s_nil ?_
    refine W.ret ?_
    have b9:=M.e_inr hM aS
    subst b9
    replace hM:=a6
    try dsimp only at hM
    have cb:=M.e_inr hM aL
    subst cb
    replace hM:=aR
    try dsimp only at hM
    have aw:=M.e_pure hM
    exact ⟨_,resE_tmp rfl,⟨70,aw,rfl,(H.pk [])⟩⟩
   replace hM:=M.e_f hM a8
   refine W.skip ?_
   refine W.region rfl ?_
   refine zM (I (k:Int)) rfl ?_
   refine zR (k:Int) 1 ((k:Int)+1) rfl rfl rfl (by omega) ?_
   refine zA (I ((k:Int)+1)) rfl ?_
   refine s_nil ?_
   exact ⟨bX,bY,k+1,_,upds_of _ _ ⟨rfl,rfl,rfl,rfl,rfl,rfl,rfl,rfl,rfl,rfl,rfl,rfl,rfl,rfl,rfl,rfl,rfl,rfl,trivial⟩,M.e_inl hM aS,H⟩
  replace hM:=M.e_f hM aN
  simp only [qy1,qy2,qy3,qy4,qy5,qy6,ne_eq,qy7] at aN
  refine W.exit ?_
  have cc:=M.e_inr hM aS
  subst cc
  replace hM:=a6
  try dsimp only at hM
  refine W.region rfl ?_
  refine zM (I (i2:Int)) rfl ?_
  refine zR (i2:Int) 1 ((i2:Int)+1) rfl rfl rfl (by omega) ?_
  refine zA (I ((i2:Int)+1)) rfl ?_
  refine s_nil ?_
  exact ⟨bP,bQ,i2+1,_,upds_of _ _ ⟨rfl,rfl,trivial⟩,M.e_inl hM aL,(H.pk [1])⟩
 replace hM:=M.e_f hM aM
 simp only [qy1,qy2,qy3,qy4,qy5,qy6,ne_eq,qy7] at aM
 refine W.exit ?_
 have cd:=M.e_inr hM aL
 subst cd
 replace hM:=aR
 try dsimp only at hM
 refine W.seq ?_
 refine W.seq ?_
 refine W.region rfl ?_
 refine zA (I 0) rfl ?_
 refine s_nil ?_
 refine W.block ?_
 obtain ⟨ce,ba,bu⟩:=M.e_bind hM
 obtain ⟨aQ,ba⟩:=M.e_iter ba
 refine W.loop (fun m σ W=>∃ (i3:Nat) (ρ:Env),σ=upds ρ [(1,Pq ag),(7,I (i3:Int))]/\M.iterN (za6 s_Marks) m i3=some ce/\St w W [cBlk ag [aj,ax,ay] 81] R) ?_ ?_
 ·exact ⟨_,0,_,upds_of _ _ ⟨rfl,rfl,trivial⟩,ba,H⟩
 rintro dc σ dd ⟨i3,ρ,rfl,bv,H⟩
 obtain ⟨cf,cg,de,hM,bb⟩:=M.e_iterN bv
 simp only [za6] at hM
 clear bv
 refine W.seq ?_
 refine W.seq ?_
 refine W.region rfl ?_
 refine zM (I (i3:Int)) rfl ?_
 refine s_val (x_fa (a:=Pq ag) (v:=Oq ag 1) rfl (fa_blk (o:=0) Fd81_1 Sz78)) ?_
 refine s_val (x_ld (p:=Oq ag 1) (v:=ax) rfl (ldb_sc Sc78 (H.bl 0) rfl)) ?_
 have dg:=(aG).len_le
 refine s_val (x_lenS T78.und rfl aG) ?_
 refine zC (i3:Int) (s_Marks.length:Int) (decide ((i3:Int)<(s_Marks.length:Int))) rfl rfl rfl ?_
 refine s_nil ?_
 refine W.cond (decide ((i3:Int)<(s_Marks.length:Int))) rfl (fun aO=>?_) (fun aO=>?_)
 ·replace hM:=M.e_t hM aO
  simp only [qy1,qy2,qy3,qy4,qy5,qy6,ne_eq,qy7] at aO
  refine W.skip ?_
  refine W.seq ?_
  refine W.block ?_
  refine W.seq ?_
  refine W.region rfl ?_
  refine s_val (x_fa (a:=Pq ag) (v:=Oq ag 1) rfl (fa_blk (o:=0) Fd81_1 Sz78)) ?_
  refine s_val (x_ld (p:=Oq ag 1) (v:=ax) rfl (ldb_sc Sc78 (H.bl 0) rfl)) ?_
  refine zM (I (i3:Int)) rfl ?_
  obtain ⟨cj,hM⟩:=M.e_grd hM
  simp only [Bool.and_eq_true,decide_eq_true_eq] at cj
  refine s_val (x_ix (a:=ax) (b:=I (i3:Int)) (v:=vat ax 3 (Int.toNat (i3:Int))) rfl rfl (Sl.ix (α:=Mrk) T78.und T78.size aG (by omega) (by omega))) ?_
  refine s_val (x_ld (p:=vat ax 3 (Int.toNat (i3:Int))) (v:=.agg #[I ((s_Marks.getD i3 default).place),I ((s_Marks.getD i3 default).lo),I ((s_Marks.getD i3 default).hi)]) rfl (ld_ag Ag150 Sz150 (At.mono (Mrk_atA aG (i:=(i3:Int)) (by omega) (by omega)) (bz.at H)))) ?_
  refine t_alloc (cs:=[I 0,I 0,I 0]) H Al150 rfl ?_
  intro am dh H
  refine t_sw 0 0 [I ((s_Marks.getD i3 default).place),I ((s_Marks.getD i3 default).lo),I ((s_Marks.getD i3 default).hi)] (.agg #[I ((s_Marks.getD i3 default).place),I ((s_Marks.getD i3 default).lo),I ((s_Marks.getD i3 default).hi)]) H rfl rfl Sz150 rfl rfl rfl rfl ?_
  intro di H
  refine s_nil ?_
  refine W.seq ?_
  refine W.region rfl ?_
  refine s_val (x_fa (a:=Pq am) (v:=Pq am) rfl (fa_blk (o:=0) Fd150_0 Sz3)) ?_
  refine s_val (x_ld (p:=Pq am) (v:=I ((s_Marks.getD i3 default).place)) rfl (ldb_sc Sc3 (H.bl 0) rfl)) ?_
  obtain ⟨dj,ck,hM⟩:=M.e_bind hM
  refine s_call cf82 [I ((s_Marks.getD i3 default).place),I 0,I 10000] rfl (zaf ((s_Marks.getD i3 default).place) 0 10000 ck _ (H.gt 2)) ?_
  rintro vq dk ⟨r9,co,hvq,aA⟩
  subst co
  subst vq
  try dsimp only at hM
  replace H:=H.bk aA
  clear aA
  refine zM (B r9) rfl ?_
  refine g_val (!r9) (gy_f rfl) (fun hg=>x_fa (a:=Pq am) (v:=Oq am 1) rfl (fa_blk (o:=0) Fd150_1 Sz54)) ?_
  refine g_val (!r9) (gy_f rfl) (fun hg=>x_fa (a:=Oq am 1) (v:=Oq am 1) (gd_of (c:=!r9) hg (Oq am 1)) (fa_blk (o:=1) Fd54_0 Sz3)) ?_
  refine g_val (!r9) (gy_f rfl) (fun hg=>x_ld (p:=Oq am 1) (v:=I ((s_Marks.getD i3 default).lo)) (gd_of (c:=!r9) hg (Oq am 1)) (ldb_sc Sc3 (H.bl 0) rfl)) ?_
  refine g_val (!r9) (gy_f rfl) (fun hg=>x_cmp (kd:=.i64) (a:=(s_Marks.getD i3 default).lo) (b:=0) (r:=decide (((s_Marks.getD i3 default).lo)<0)) (gd_of (c:=!r9) hg (I ((s_Marks.getD i3 default).lo))) rfl rfl) ?_
  refine s_val (x_por (b:=r9) (r:=decide (((s_Marks.getD i3 default).lo)<0)) rfl rfl (fun hb=>gd_of (c:=!r9) (by first | exact hb | (rw [hb]; rfl) | simp_all) (B (decide (((s_Marks.getD i3 default).lo)<0))))) ?_
  refine zM (B (r9||(decide (((s_Marks.getD i3 default).lo)<0)))) rfl ?_
  refine g_val (!(r9||(decide (((s_Marks.getD i3 default).lo)<0)))) (gy_f rfl) (fun hg=>x_fa (a:=Pq am) (v:=Oq am 1) rfl (fa_blk (o:=0) Fd150_1 Sz54)) ?_
  refine g_val (!(r9||(decide (((s_Marks.getD i3 default).lo)<0)))) (gy_f rfl) (fun hg=>x_fa (a:=Oq am 1) (v:=Oq am 2) (gd_of (c:=!(r9||(decide (((s_Marks.getD i3 default).lo)<0)))) hg (Oq am 1)) (fa_blk (o:=1) Fd54_1 Sz3)) ?_
  refine g_val (!(r9||(decide (((s_Marks.getD i3 default).lo)<0)))) (gy_f rfl) (fun hg=>x_ld (p:=Oq am 2) (v:=I ((s_Marks.getD i3 default).hi)) (gd_of (c:=!(r9||(decide (((s_Marks.getD i3 default).lo)<0)))) hg (Oq am 2)) (ldb_sc Sc3 (H.bl 0) rfl)) ?_
  refine g_val (!(r9||(decide (((s_Marks.getD i3 default).lo)<0)))) (gy_f rfl) (fun hg=>x_cmp (kd:=.i64) (a:=(s_Marks.getD i3 default).hi) (b:=2000) (r:=decide (2000<((s_Marks.getD i3 default).hi))) (gd_of (c:=!(r9||(decide (((s_Marks.getD i3 default).lo)<0)))) hg (I ((s_Marks.getD i3 default).hi))) rfl rfl) ?_
  refine s_val (x_por (b:=(r9||(decide (((s_Marks.getD i3 default).lo)<0)))) (r:=decide (2000<((s_Marks.getD i3 default).hi))) rfl rfl (fun hb=>gd_of (c:=!(r9||(decide (((s_Marks.getD i3 default).lo)<0)))) (by first | exact hb | (rw [hb]; rfl) | simp_all) (B (decide (2000<((s_Marks.getD i3 default).hi)))))) ?_
  refine zM (B ((r9||(decide (((s_Marks.getD i3 default).lo)<0)))||(decide (2000<((s_Marks.getD i3 default).hi))))) rfl ?_
  refine g_val (!((r9||(decide (((s_Marks.getD i3 default).lo)<0)))||(decide (2000<((s_Marks.getD i3 default).hi))))) (gy_f rfl) (fun hg=>x_fa (a:=Pq am) (v:=Oq am 1) rfl (fa_blk (o:=0) Fd150_1 Sz54)) ?_
  refine g_val (!((r9||(decide (((s_Marks.getD i3 default).lo)<0)))||(decide (2000<((s_Marks.getD i3 default).hi))))) (gy_f rfl) (fun hg=>x_fa (a:=Oq am 1) (v:=Oq am 1) (gd_of (c:=!((r9||(decide (((s_Marks.getD i3 default).lo)<0)))||(decide (2000<((s_Marks.getD i3 default).hi))))) hg (Oq am 1)) (fa_blk (o:=1) Fd54_0 Sz3)) ?_
  refine g_val (!((r9||(decide (((s_Marks.getD i3 default).lo)<0)))||(decide (2000<((s_Marks.getD i3 default).hi))))) (gy_f rfl) (fun hg=>x_ld (p:=Oq am 1) (v:=I ((s_Marks.getD i3 default).lo)) (gd_of (c:=!((r9||(decide (((s_Marks.getD i3 default).lo)<0)))||(decide (2000<((s_Marks.getD i3 default).hi))))) hg (Oq am 1)) (ldb_sc Sc3 (H.bl 0) rfl)) ?_
  refine g_val (!((r9||(decide (((s_Marks.getD i3 default).lo)<0)))||(decide (2000<((s_Marks.getD i3 default).hi))))) (gy_f rfl) (fun hg=>x_fa (a:=Pq am) (v:=Oq am 1) rfl (fa_blk (o:=0) Fd150_1 Sz54)) ?_
  refine g_val (!((r9||(decide (((s_Marks.getD i3 default).lo)<0)))||(decide (2000<((s_Marks.getD i3 default).hi))))) (gy_f rfl) (fun hg=>x_fa (a:=Oq am 1) (v:=Oq am 2) (gd_of (c:=!((r9||(decide (((s_Marks.getD i3 default).lo)<0)))||(decide (2000<((s_Marks.getD i3 default).hi))))) hg (Oq am 1)) (fa_blk (o:=1) Fd54_1 Sz3)) ?_
  refine g_val (!((r9||(decide (((s_Marks.getD i3 default).lo)<0)))||(decide (2000<((s_Marks.getD i3 default).hi))))) (gy_f rfl) (fun hg=>x_ld (p:=Oq am 2) (v:=I ((s_Marks.getD i3 default).hi)) (gd_of (c:=!((r9||(decide (((s_Marks.getD i3 default).lo)<0)))||(decide (2000<((s_Marks.getD i3 default).hi))))) hg (Oq am 2)) (ldb_sc Sc3 (H.bl 0) rfl)) ?_
  refine g_val (!((r9||(decide (((s_Marks.getD i3 default).lo)<0)))||(decide (2000<((s_Marks.getD i3 default).hi))))) (gy_f rfl) (fun hg=>x_cmp (kd:=.i64) (a:=(s_Marks.getD i3 default).lo) (b:=(s_Marks.getD i3 default).hi) (r:=decide (((s_Marks.getD i3 default).hi)<((s_Marks.getD i3 default).lo))) (gd_of (c:=!((r9||(decide (((s_Marks.getD i3 default).lo)<0)))||(decide (2000<((s_Marks.getD i3 default).hi))))) hg (I ((s_Marks.getD i3 default).lo))) (gd_of (c:=!((r9||(decide (((s_Marks.getD i3 default).lo)<0)))||(decide (2000<((s_Marks.getD i3 default).hi))))) hg (I ((s_Marks.getD i3 default).hi))) rfl) ?_
  refine s_val (x_por (b:=((r9||(decide (((s_Marks.getD i3 default).lo)<0)))||(decide (2000<((s_Marks.getD i3 default).hi))))) (r:=decide (((s_Marks.getD i3 default).hi)<((s_Marks.getD i3 default).lo))) rfl rfl (fun hb=>gd_of (c:=!((r9||(decide (((s_Marks.getD i3 default).lo)<0)))||(decide (2000<((s_Marks.getD i3 default).hi))))) (by first | exact hb | (rw [hb]; rfl) | simp_all) (B (decide (((s_Marks.getD i3 default).hi)<((s_Marks.getD i3 default).lo)))))) ?_
  refine s_nil ?_
  refine W.cond (((r9||(decide (((s_Marks.getD i3 default).lo)<0)))||(decide (2000<((s_Marks.getD i3 default).hi))))||(decide (((s_Marks.getD i3 default).hi)<((s_Marks.getD i3 default).lo)))) rfl (fun bc=>?_) (fun bc=>?_)
  ·replace hM:=M.e_t hM bc
   refine W.seq ?_
   refine W.region rfl ?_
   refine zA (I 70) rfl ?_
   refine s_nil ?_
   refine W.ret ?_
   have cp:=M.e_inr hM bb
   subst cp
   replace hM:=bu
   try dsimp only at hM
   have aw:=M.e_pure hM
   exact ⟨_,resE_tmp rfl,⟨70,aw,rfl,(H.pk [])⟩⟩
  replace hM:=M.e_f hM bc
  refine W.skip ?_
  refine W.region rfl ?_
  refine zM (I (i3:Int)) rfl ?_
  refine zR (i3:Int) 1 ((i3:Int)+1) rfl rfl rfl (by omega) ?_
  refine zA (I ((i3:Int)+1)) rfl ?_
  refine s_nil ?_
  exact ⟨cf,cg,i3+1,_,upds_of _ _ ⟨rfl,rfl,trivial⟩,M.e_inl hM bb,(H.pk [1])⟩
 replace hM:=M.e_f hM aO
 simp only [qy1,qy2,qy3,qy4,qy5,qy6,ne_eq,qy7] at aO
 refine W.exit ?_
 have cq:=M.e_inr hM bb
 subst cq
 replace hM:=bu
 try dsimp only at hM
 refine W.seq ?_
 refine W.seq ?_
 refine W.region rfl ?_
 refine zA (I 0) rfl ?_
 refine s_nil ?_
 refine W.block ?_
 obtain ⟨cr,bf,bw⟩:=M.e_bind hM
 obtain ⟨aQ,bf⟩:=M.e_iter bf
 refine W.loop (fun m σ W=>∃ (i4:Nat) (ρ:Env),σ=upds ρ [(1,Pq ag),(9,I (i4:Int))]/\M.iterN (zbo s_Sections s_Reaches) m i4=some cr/\St w W [cBlk ag [aj,ax,ay] 81] R) ?_ ?_
 ·exact ⟨_,0,_,upds_of _ _ ⟨rfl,rfl,trivial⟩,bf,H⟩
 rintro dm σ dp ⟨i4,ρ,rfl,bx,H⟩
 obtain ⟨ct,cu,dq,hM,bh⟩:=M.e_iterN bx
 simp only [zbo] at hM
 clear bx
 refine W.seq ?_
 refine W.seq ?_
 refine W.region rfl ?_
 refine zM (I (i4:Int)) rfl ?_
 refine s_val (x_fa (a:=Pq ag) (v:=Oq ag 2) rfl (fa_blk (o:=0) Fd81_2 Sz79)) ?_
 refine s_val (x_ld (p:=Oq ag 2) (v:=ay) rfl (ldb_sc Sc79 (H.bl 0) rfl)) ?_
 have dr:=(aH).len_le
 refine s_val (x_lenS T79.und rfl aH) ?_
 refine zC (i4:Int) (s_Reaches.length:Int) (decide ((i4:Int)<(s_Reaches.length:Int))) rfl rfl rfl ?_
 refine s_nil ?_
 refine W.cond (decide ((i4:Int)<(s_Reaches.length:Int))) rfl (fun aP=>?_) (fun aP=>?_)
 ·replace hM:=M.e_t hM aP
  simp only [qy1,qy2,qy3,qy4,qy5,qy6,ne_eq,qy7] at aP
  refine W.skip ?_
  refine W.seq ?_
  refine W.block ?_
  refine W.seq ?_
  refine W.region rfl ?_
  refine s_val (x_fa (a:=Pq ag) (v:=Oq ag 2) rfl (fa_blk (o:=0) Fd81_2 Sz79)) ?_
  refine s_val (x_ld (p:=Oq ag 2) (v:=ay) rfl (ldb_sc Sc79 (H.bl 0) rfl)) ?_
  refine zM (I (i4:Int)) rfl ?_
  obtain ⟨cw,hM⟩:=M.e_grd hM
  simp only [Bool.and_eq_true,decide_eq_true_eq] at cw
  refine s_val (x_ix (a:=ay) (b:=I (i4:Int)) (v:=vat ay 5 (Int.toNat (i4:Int))) rfl rfl (Sl.ix (α:=Rch) T79.und T79.size aH (by omega) (by omega))) ?_
  refine s_val (x_ld (p:=vat ay 5 (Int.toNat (i4:Int))) (v:=.agg #[I ((s_Reaches.getD i4 default).up),I ((s_Reaches.getD i4 default).down),I ((s_Reaches.getD i4 default).lo),I ((s_Reaches.getD i4 default).hi),B ((s_Reaches.getD i4 default).narrow)]) rfl (ld_ag Ag151 Sz151 (At.mono (Rch_atA aH (i:=(i4:Int)) (by omega) (by omega)) (bA.at H)))) ?_
  refine t_alloc (cs:=[I 0,I 0,I 0,I 0,B false]) H Al151 rfl ?_
  intro ai dt H
  refine t_sw 0 0 [I ((s_Reaches.getD i4 default).up),I ((s_Reaches.getD i4 default).down),I ((s_Reaches.getD i4 default).lo),I ((s_Reaches.getD i4 default).hi),B ((s_Reaches.getD i4 default).narrow)] (.agg #[I ((s_Reaches.getD i4 default).up),I ((s_Reaches.getD i4 default).down),I ((s_Reaches.getD i4 default).lo),I ((s_Reaches.getD i4 default).hi),B ((s_Reaches.getD i4 default).narrow)]) H rfl rfl Sz151 rfl rfl rfl rfl ?_
  intro dv H
  refine s_nil ?_
  refine W.seq ?_
  refine W.region rfl ?_
  refine s_val (x_fa (a:=Pq ai) (v:=Pq ai) rfl (fa_blk (o:=0) Fd151_0 Sz3)) ?_
  refine s_val (x_ld (p:=Pq ai) (v:=I ((s_Reaches.getD i4 default).up)) rfl (ldb_sc Sc3 (H.bl 0) rfl)) ?_
  refine zC ((s_Reaches.getD i4 default).up) 0 (decide (((s_Reaches.getD i4 default).up)<0)) rfl rfl rfl ?_
  refine zM (B (decide (((s_Reaches.getD i4 default).up)<0))) rfl ?_
  refine g_val (!(decide (((s_Reaches.getD i4 default).up)<0))) (gy_f rfl) (fun hg=>x_fa (a:=Pq ai) (v:=Oq ai 1) rfl (fa_blk (o:=0) Fd151_1 Sz3)) ?_
  refine g_val (!(decide (((s_Reaches.getD i4 default).up)<0))) (gy_f rfl) (fun hg=>x_ld (p:=Oq ai 1) (v:=I ((s_Reaches.getD i4 default).down)) (gd_of (c:=!(decide (((s_Reaches.getD i4 default).up)<0))) hg (Oq ai 1)) (ldb_sc Sc3 (H.bl 0) rfl)) ?_
  refine g_val (!(decide (((s_Reaches.getD i4 default).up)<0))) (gy_f rfl) (fun hg=>x_fa (a:=Pq ai) (v:=Pq ai) rfl (fa_blk (o:=0) Fd151_0 Sz3)) ?_
  refine g_val (!(decide (((s_Reaches.getD i4 default).up)<0))) (gy_f rfl) (fun hg=>x_ld (p:=Pq ai) (v:=I ((s_Reaches.getD i4 default).up)) (gd_of (c:=!(decide (((s_Reaches.getD i4 default).up)<0))) hg (Pq ai)) (ldb_sc Sc3 (H.bl 0) rfl)) ?_
  refine g_val (!(decide (((s_Reaches.getD i4 default).up)<0))) (gy_f rfl) (fun hg=>x_cmp (kd:=.i64) (a:=(s_Reaches.getD i4 default).down) (b:=(s_Reaches.getD i4 default).up) (r:=decide (((s_Reaches.getD i4 default).down)<=((s_Reaches.getD i4 default).up))) (gd_of (c:=!(decide (((s_Reaches.getD i4 default).up)<0))) hg (I ((s_Reaches.getD i4 default).down))) (gd_of (c:=!(decide (((s_Reaches.getD i4 default).up)<0))) hg (I ((s_Reaches.getD i4 default).up))) rfl) ?_
  refine s_val (x_por (b:=decide (((s_Reaches.getD i4 default).up)<0)) (r:=decide (((s_Reaches.getD i4 default).down)<=((s_Reaches.getD i4 default).up))) rfl rfl (fun hb=>gd_of (c:=!(decide (((s_Reaches.getD i4 default).up)<0))) (by first | exact hb | (rw [hb]; rfl) | simp_all) (B (decide (((s_Reaches.getD i4 default).down)<=((s_Reaches.getD i4 default).up)))))) ?_
  refine zM (B ((decide (((s_Reaches.getD i4 default).up)<0))||(decide (((s_Reaches.getD i4 default).down)<=((s_Reaches.getD i4 default).up))))) rfl ?_
  refine g_val (!((decide (((s_Reaches.getD i4 default).up)<0))||(decide (((s_Reaches.getD i4 default).down)<=((s_Reaches.getD i4 default).up))))) (gy_f rfl) (fun hg=>x_fa (a:=Pq ai) (v:=Oq ai 1) rfl (fa_blk (o:=0) Fd151_1 Sz3)) ?_
  refine g_val (!((decide (((s_Reaches.getD i4 default).up)<0))||(decide (((s_Reaches.getD i4 default).down)<=((s_Reaches.getD i4 default).up))))) (gy_f rfl) (fun hg=>x_ld (p:=Oq ai 1) (v:=I ((s_Reaches.getD i4 default).down)) (gd_of (c:=!((decide (((s_Reaches.getD i4 default).up)<0))||(decide (((s_Reaches.getD i4 default).down)<=((s_Reaches.getD i4 default).up))))) hg (Oq ai 1)) (ldb_sc Sc3 (H.bl 0) rfl)) ?_
  refine g_val (!((decide (((s_Reaches.getD i4 default).up)<0))||(decide (((s_Reaches.getD i4 default).down)<=((s_Reaches.getD i4 default).up))))) (gy_f rfl) (fun hg=>x_fa (a:=Pq ag) (v:=Pq ag) rfl (fa_blk (o:=0) Fd81_0 Sz77)) ?_
  refine g_val (!((decide (((s_Reaches.getD i4 default).up)<0))||(decide (((s_Reaches.getD i4 default).down)<=((s_Reaches.getD i4 default).up))))) (gy_f rfl) (fun hg=>x_ld (p:=Pq ag) (v:=aj) (gd_of (c:=!((decide (((s_Reaches.getD i4 default).up)<0))||(decide (((s_Reaches.getD i4 default).down)<=((s_Reaches.getD i4 default).up))))) hg (Pq ag)) (ldb_sc Sc77 (H.bl 1) rfl)) ?_
  have dw:=(az).len_le
  refine g_val (!((decide (((s_Reaches.getD i4 default).up)<0))||(decide (((s_Reaches.getD i4 default).down)<=((s_Reaches.getD i4 default).up))))) (gy_f rfl) (fun hg=>x_lenS T77.und (gd_of (c:=!((decide (((s_Reaches.getD i4 default).up)<0))||(decide (((s_Reaches.getD i4 default).down)<=((s_Reaches.getD i4 default).up))))) hg (aj)) az) ?_
  refine g_val (!((decide (((s_Reaches.getD i4 default).up)<0))||(decide (((s_Reaches.getD i4 default).down)<=((s_Reaches.getD i4 default).up))))) (gy_f rfl) (fun hg=>x_cmp (kd:=.i64) (a:=(s_Reaches.getD i4 default).down) (b:=(s_Sections.length:Int)) (r:=decide ((s_Sections.length:Int)<=((s_Reaches.getD i4 default).down))) (gd_of (c:=!((decide (((s_Reaches.getD i4 default).up)<0))||(decide (((s_Reaches.getD i4 default).down)<=((s_Reaches.getD i4 default).up))))) hg (I ((s_Reaches.getD i4 default).down))) (gd_of (c:=!((decide (((s_Reaches.getD i4 default).up)<0))||(decide (((s_Reaches.getD i4 default).down)<=((s_Reaches.getD i4 default).up))))) hg (I (s_Sections.length:Int))) rfl) ?_
  refine s_val (x_por (b:=((decide (((s_Reaches.getD i4 default).up)<0))||(decide (((s_Reaches.getD i4 default).down)<=((s_Reaches.getD i4 default).up))))) (r:=decide ((s_Sections.length:Int)<=((s_Reaches.getD i4 default).down))) rfl rfl (fun hb=>gd_of (c:=!((decide (((s_Reaches.getD i4 default).up)<0))||(decide (((s_Reaches.getD i4 default).down)<=((s_Reaches.getD i4 default).up))))) (by first | exact hb | (rw [hb]; rfl) | simp_all) (B (decide ((s_Sections.length:Int)<=((s_Reaches.getD i4 default).down)))))) ?_
  refine zM (B (((decide (((s_Reaches.getD i4 default).up)<0))||(decide (((s_Reaches.getD i4 default).down)<=((s_Reaches.getD i4 default).up))))||(decide ((s_Sections.length:Int)<=((s_Reaches.getD i4 default).down))))) rfl ?_
  refine g_val (!(((decide (((s_Reaches.getD i4 default).up)<0))||(decide (((s_Reaches.getD i4 default).down)<=((s_Reaches.getD i4 default).up))))||(decide ((s_Sections.length:Int)<=((s_Reaches.getD i4 default).down))))) (gy_f rfl) (fun hg=>x_fa (a:=Pq ai) (v:=Oq ai 2) rfl (fa_blk (o:=0) Fd151_2 Sz54)) ?_
  refine g_val (!(((decide (((s_Reaches.getD i4 default).up)<0))||(decide (((s_Reaches.getD i4 default).down)<=((s_Reaches.getD i4 default).up))))||(decide ((s_Sections.length:Int)<=((s_Reaches.getD i4 default).down))))) (gy_f rfl) (fun hg=>x_fa (a:=Oq ai 2) (v:=Oq ai 2) (gd_of (c:=!(((decide (((s_Reaches.getD i4 default).up)<0))||(decide (((s_Reaches.getD i4 default).down)<=((s_Reaches.getD i4 default).up))))||(decide ((s_Sections.length:Int)<=((s_Reaches.getD i4 default).down))))) hg (Oq ai 2)) (fa_blk (o:=2) Fd54_0 Sz3)) ?_
  refine g_val (!(((decide (((s_Reaches.getD i4 default).up)<0))||(decide (((s_Reaches.getD i4 default).down)<=((s_Reaches.getD i4 default).up))))||(decide ((s_Sections.length:Int)<=((s_Reaches.getD i4 default).down))))) (gy_f rfl) (fun hg=>x_ld (p:=Oq ai 2) (v:=I ((s_Reaches.getD i4 default).lo)) (gd_of (c:=!(((decide (((s_Reaches.getD i4 default).up)<0))||(decide (((s_Reaches.getD i4 default).down)<=((s_Reaches.getD i4 default).up))))||(decide ((s_Sections.length:Int)<=((s_Reaches.getD i4 default).down))))) hg (Oq ai 2)) (ldb_sc Sc3 (H.bl 0) rfl)) ?_
  refine g_val (!(((decide (((s_Reaches.getD i4 default).up)<0))||(decide (((s_Reaches.getD i4 default).down)<=((s_Reaches.getD i4 default).up))))||(decide ((s_Sections.length:Int)<=((s_Reaches.getD i4 default).down))))) (gy_f rfl) (fun hg=>x_cmp (kd:=.i64) (a:=(s_Reaches.getD i4 default).lo) (b:=1) (r:=decide (((s_Reaches.getD i4 default).lo)<1)) (gd_of (c:=!(((decide (((s_Reaches.getD i4 default).up)<0))||(decide (((s_Reaches.getD i4 default).down)<=((s_Reaches.getD i4 default).up))))||(decide ((s_Sections.length:Int)<=((s_Reaches.getD i4 default).down))))) hg (I ((s_Reaches.getD i4 default).lo))) rfl rfl) ?_
  refine s_val (x_por (b:=(((decide (((s_Reaches.getD i4 default).up)<0))||(decide (((s_Reaches.getD i4 default).down)<=((s_Reaches.getD i4 default).up))))||(decide ((s_Sections.length:Int)<=((s_Reaches.getD i4 default).down))))) (r:=decide (((s_Reaches.getD i4 default).lo)<1)) rfl rfl (fun hb=>gd_of (c:=!(((decide (((s_Reaches.getD i4 default).up)<0))||(decide (((s_Reaches.getD i4 default).down)<=((s_Reaches.getD i4 default).up))))||(decide ((s_Sections.length:Int)<=((s_Reaches.getD i4 default).down))))) (by first | exact hb | (rw [hb]; rfl) | simp_all) (B (decide (((s_Reaches.getD i4 default).lo)<1))))) ?_
  refine zM (B ((((decide (((s_Reaches.getD i4 default).up)<0))||(decide (((s_Reaches.getD i4 default).down)<=((s_Reaches.getD i4 default).up))))||(decide ((s_Sections.length:Int)<=((s_Reaches.getD i4 default).down))))||(decide (((s_Reaches.getD i4 default).lo)<1)))) rfl ?_
  refine g_val (!((((decide (((s_Reaches.getD i4 default).up)<0))||(decide (((s_Reaches.getD i4 default).down)<=((s_Reaches.getD i4 default).up))))||(decide ((s_Sections.length:Int)<=((s_Reaches.getD i4 default).down))))||(decide (((s_Reaches.getD i4 default).lo)<1)))) (gy_f rfl) (fun hg=>x_fa (a:=Pq ai) (v:=Oq ai 2) rfl (fa_blk (o:=0) Fd151_2 Sz54)) ?_
  refine g_val (!((((decide (((s_Reaches.getD i4 default).up)<0))||(decide (((s_Reaches.getD i4 default).down)<=((s_Reaches.getD i4 default).up))))||(decide ((s_Sections.length:Int)<=((s_Reaches.getD i4 default).down))))||(decide (((s_Reaches.getD i4 default).lo)<1)))) (gy_f rfl) (fun hg=>x_fa (a:=Oq ai 2) (v:=Oq ai 3) (gd_of (c:=!((((decide (((s_Reaches.getD i4 default).up)<0))||(decide (((s_Reaches.getD i4 default).down)<=((s_Reaches.getD i4 default).up))))||(decide ((s_Sections.length:Int)<=((s_Reaches.getD i4 default).down))))||(decide (((s_Reaches.getD i4 default).lo)<1)))) hg (Oq ai 2)) (fa_blk (o:=2) Fd54_1 Sz3)) ?_
  refine g_val (!((((decide (((s_Reaches.getD i4 default).up)<0))||(decide (((s_Reaches.getD i4 default).down)<=((s_Reaches.getD i4 default).up))))||(decide ((s_Sections.length:Int)<=((s_Reaches.getD i4 default).down))))||(decide (((s_Reaches.getD i4 default).lo)<1)))) (gy_f rfl) (fun hg=>x_ld (p:=Oq ai 3) (v:=I ((s_Reaches.getD i4 default).hi)) (gd_of (c:=!((((decide (((s_Reaches.getD i4 default).up)<0))||(decide (((s_Reaches.getD i4 default).down)<=((s_Reaches.getD i4 default).up))))||(decide ((s_Sections.length:Int)<=((s_Reaches.getD i4 default).down))))||(decide (((s_Reaches.getD i4 default).lo)<1)))) hg (Oq ai 3)) (ldb_sc Sc3 (H.bl 0) rfl)) ?_
  refine g_val (!((((decide (((s_Reaches.getD i4 default).up)<0))||(decide (((s_Reaches.getD i4 default).down)<=((s_Reaches.getD i4 default).up))))||(decide ((s_Sections.length:Int)<=((s_Reaches.getD i4 default).down))))||(decide (((s_Reaches.getD i4 default).lo)<1)))) (gy_f rfl) (fun hg=>x_cmp (kd:=.i64) (a:=(s_Reaches.getD i4 default).hi) (b:=400) (r:=decide (400<((s_Reaches.getD i4 default).hi))) (gd_of (c:=!((((decide (((s_Reaches.getD i4 default).up)<0))||(decide (((s_Reaches.getD i4 default).down)<=((s_Reaches.getD i4 default).up))))||(decide ((s_Sections.length:Int)<=((s_Reaches.getD i4 default).down))))||(decide (((s_Reaches.getD i4 default).lo)<1)))) hg (I ((s_Reaches.getD i4 default).hi))) rfl rfl) ?_
  refine s_val (x_por (b:=((((decide (((s_Reaches.getD i4 default).up)<0))||(decide (((s_Reaches.getD i4 default).down)<=((s_Reaches.getD i4 default).up))))||(decide ((s_Sections.length:Int)<=((s_Reaches.getD i4 default).down))))||(decide (((s_Reaches.getD i4 default).lo)<1)))) (r:=decide (400<((s_Reaches.getD i4 default).hi))) rfl rfl (fun hb=>gd_of (c:=!((((decide (((s_Reaches.getD i4 default).up)<0))||(decide (((s_Reaches.getD i4 default).down)<=((s_Reaches.getD i4 default).up))))||(decide ((s_Sections.length:Int)<=((s_Reaches.getD i4 default).down))))||(decide (((s_Reaches.getD i4 default).lo)<1)))) (by first | exact hb | (rw [hb]; rfl) | simp_all) (B (decide (400<((s_Reaches.getD i4 default).hi)))))) ?_
  refine zM (B (((((decide (((s_Reaches.getD i4 default).up)<0))||(decide (((s_Reaches.getD i4 default).down)<=((s_Reaches.getD i4 default).up))))||(decide ((s_Sections.length:Int)<=((s_Reaches.getD i4 default).down))))||(decide (((s_Reaches.getD i4 default).lo)<1)))||(decide (400<((s_Reaches.getD i4 default).hi))))) rfl ?_
  refine g_val (!(((((decide (((s_Reaches.getD i4 default).up)<0))||(decide (((s_Reaches.getD i4 default).down)<=((s_Reaches.getD i4 default).up))))||(decide ((s_Sections.length:Int)<=((s_Reaches.getD i4 default).down))))||(decide (((s_Reaches.getD i4 default).lo)<1)))||(decide (400<((s_Reaches.getD i4 default).hi))))) (gy_f rfl) (fun hg=>x_fa (a:=Pq ai) (v:=Oq ai 2) rfl (fa_blk (o:=0) Fd151_2 Sz54)) ?_
  refine g_val (!(((((decide (((s_Reaches.getD i4 default).up)<0))||(decide (((s_Reaches.getD i4 default).down)<=((s_Reaches.getD i4 default).up))))||(decide ((s_Sections.length:Int)<=((s_Reaches.getD i4 default).down))))||(decide (((s_Reaches.getD i4 default).lo)<1)))||(decide (400<((s_Reaches.getD i4 default).hi))))) (gy_f rfl) (fun hg=>x_fa (a:=Oq ai 2) (v:=Oq ai 2) (gd_of (c:=!(((((decide (((s_Reaches.getD i4 default).up)<0))||(decide (((s_Reaches.getD i4 default).down)<=((s_Reaches.getD i4 default).up))))||(decide ((s_Sections.length:Int)<=((s_Reaches.getD i4 default).down))))||(decide (((s_Reaches.getD i4 default).lo)<1)))||(decide (400<((s_Reaches.getD i4 default).hi))))) hg (Oq ai 2)) (fa_blk (o:=2) Fd54_0 Sz3)) ?_
  refine g_val (!(((((decide (((s_Reaches.getD i4 default).up)<0))||(decide (((s_Reaches.getD i4 default).down)<=((s_Reaches.getD i4 default).up))))||(decide ((s_Sections.length:Int)<=((s_Reaches.getD i4 default).down))))||(decide (((s_Reaches.getD i4 default).lo)<1)))||(decide (400<((s_Reaches.getD i4 default).hi))))) (gy_f rfl) (fun hg=>x_ld (p:=Oq ai 2) (v:=I ((s_Reaches.getD i4 default).lo)) (gd_of (c:=!(((((decide (((s_Reaches.getD i4 default).up)<0))||(decide (((s_Reaches.getD i4 default).down)<=((s_Reaches.getD i4 default).up))))||(decide ((s_Sections.length:Int)<=((s_Reaches.getD i4 default).down))))||(decide (((s_Reaches.getD i4 default).lo)<1)))||(decide (400<((s_Reaches.getD i4 default).hi))))) hg (Oq ai 2)) (ldb_sc Sc3 (H.bl 0) rfl)) ?_
  refine g_val (!(((((decide (((s_Reaches.getD i4 default).up)<0))||(decide (((s_Reaches.getD i4 default).down)<=((s_Reaches.getD i4 default).up))))||(decide ((s_Sections.length:Int)<=((s_Reaches.getD i4 default).down))))||(decide (((s_Reaches.getD i4 default).lo)<1)))||(decide (400<((s_Reaches.getD i4 default).hi))))) (gy_f rfl) (fun hg=>x_fa (a:=Pq ai) (v:=Oq ai 2) rfl (fa_blk (o:=0) Fd151_2 Sz54)) ?_
  refine g_val (!(((((decide (((s_Reaches.getD i4 default).up)<0))||(decide (((s_Reaches.getD i4 default).down)<=((s_Reaches.getD i4 default).up))))||(decide ((s_Sections.length:Int)<=((s_Reaches.getD i4 default).down))))||(decide (((s_Reaches.getD i4 default).lo)<1)))||(decide (400<((s_Reaches.getD i4 default).hi))))) (gy_f rfl) (fun hg=>x_fa (a:=Oq ai 2) (v:=Oq ai 3) (gd_of (c:=!(((((decide (((s_Reaches.getD i4 default).up)<0))||(decide (((s_Reaches.getD i4 default).down)<=((s_Reaches.getD i4 default).up))))||(decide ((s_Sections.length:Int)<=((s_Reaches.getD i4 default).down))))||(decide (((s_Reaches.getD i4 default).lo)<1)))||(decide (400<((s_Reaches.getD i4 default).hi))))) hg (Oq ai 2)) (fa_blk (o:=2) Fd54_1 Sz3)) ?_
  refine g_val (!(((((decide (((s_Reaches.getD i4 default).up)<0))||(decide (((s_Reaches.getD i4 default).down)<=((s_Reaches.getD i4 default).up))))||(decide ((s_Sections.length:Int)<=((s_Reaches.getD i4 default).down))))||(decide (((s_Reaches.getD i4 default).lo)<1)))||(decide (400<((s_Reaches.getD i4 default).hi))))) (gy_f rfl) (fun hg=>x_ld (p:=Oq ai 3) (v:=I ((s_Reaches.getD i4 default).hi)) (gd_of (c:=!(((((decide (((s_Reaches.getD i4 default).up)<0))||(decide (((s_Reaches.getD i4 default).down)<=((s_Reaches.getD i4 default).up))))||(decide ((s_Sections.length:Int)<=((s_Reaches.getD i4 default).down))))||(decide (((s_Reaches.getD i4 default).lo)<1)))||(decide (400<((s_Reaches.getD i4 default).hi))))) hg (Oq ai 3)) (ldb_sc Sc3 (H.bl 0) rfl)) ?_
  refine g_val (!(((((decide (((s_Reaches.getD i4 default).up)<0))||(decide (((s_Reaches.getD i4 default).down)<=((s_Reaches.getD i4 default).up))))||(decide ((s_Sections.length:Int)<=((s_Reaches.getD i4 default).down))))||(decide (((s_Reaches.getD i4 default).lo)<1)))||(decide (400<((s_Reaches.getD i4 default).hi))))) (gy_f rfl) (fun hg=>x_cmp (kd:=.i64) (a:=(s_Reaches.getD i4 default).lo) (b:=(s_Reaches.getD i4 default).hi) (r:=decide (((s_Reaches.getD i4 default).hi)<((s_Reaches.getD i4 default).lo))) (gd_of (c:=!(((((decide (((s_Reaches.getD i4 default).up)<0))||(decide (((s_Reaches.getD i4 default).down)<=((s_Reaches.getD i4 default).up))))||(decide ((s_Sections.length:Int)<=((s_Reaches.getD i4 default).down))))||(decide (((s_Reaches.getD i4 default).lo)<1)))||(decide (400<((s_Reaches.getD i4 default).hi))))) hg (I ((s_Reaches.getD i4 default).lo))) (gd_of (c:=!(((((decide (((s_Reaches.getD i4 default).up)<0))||(decide (((s_Reaches.getD i4 default).down)<=((s_Reaches.getD i4 default).up))))||(decide ((s_Sections.length:Int)<=((s_Reaches.getD i4 default).down))))||(decide (((s_Reaches.getD i4 default).lo)<1)))||(decide (400<((s_Reaches.getD i4 default).hi))))) hg (I ((s_Reaches.getD i4 default).hi))) rfl) ?_
  refine s_val (x_por (b:=(((((decide (((s_Reaches.getD i4 default).up)<0))||(decide (((s_Reaches.getD i4 default).down)<=((s_Reaches.getD i4 default).up))))||(decide ((s_Sections.length:Int)<=((s_Reaches.getD i4 default).down))))||(decide (((s_Reaches.getD i4 default).lo)<1)))||(decide (400<((s_Reaches.getD i4 default).hi))))) (r:=decide (((s_Reaches.getD i4 default).hi)<((s_Reaches.getD i4 default).lo))) rfl rfl (fun hb=>gd_of (c:=!(((((decide (((s_Reaches.getD i4 default).up)<0))||(decide (((s_Reaches.getD i4 default).down)<=((s_Reaches.getD i4 default).up))))||(decide ((s_Sections.length:Int)<=((s_Reaches.getD i4 default).down))))||(decide (((s_Reaches.getD i4 default).lo)<1)))||(decide (400<((s_Reaches.getD i4 default).hi))))) (by first | exact hb | (rw [hb]; rfl) | simp_all) (B (decide (((s_Reaches.getD i4 default).hi)<((s_Reaches.getD i4 default).lo)))))) ?_
  refine s_nil ?_
  refine W.cond ((((((decide (((s_Reaches.getD i4 default).up)<0))||(decide (((s_Reaches.getD i4 default).down)<=((s_Reaches.getD i4 default).up))))||(decide ((s_Sections.length:Int)<=((s_Reaches.getD i4 default).down))))||(decide (((s_Reaches.getD i4 default).lo)<1)))||(decide (400<((s_Reaches.getD i4 default).hi))))||(decide (((s_Reaches.getD i4 default).hi)<((s_Reaches.getD i4 default).lo)))) rfl (fun bi=>?_) (fun bi=>?_)
  ·replace hM:=M.e_t hM bi
   refine W.seq ?_
   refine W.region rfl ?_
   refine zA (I 70) rfl ?_
   refine s_nil ?_
   refine W.ret ?_
   have cx:=M.e_inr hM bh
   subst cx
   replace hM:=bw
   try dsimp only at hM
   have aw:=M.e_pure hM
   exact ⟨_,resE_tmp rfl,⟨70,aw,rfl,(H.pk [])⟩⟩
  replace hM:=M.e_f hM bi
  refine W.skip ?_
  refine W.region rfl ?_
  refine zM (I (i4:Int)) rfl ?_
  refine zR (i4:Int) 1 ((i4:Int)+1) rfl rfl rfl (by omega) ?_
  refine zA (I ((i4:Int)+1)) rfl ?_
  refine s_nil ?_
  exact ⟨ct,cu,i4+1,_,upds_of _ _ ⟨rfl,rfl,trivial⟩,M.e_inl hM bh,(H.pk [1])⟩
 replace hM:=M.e_f hM aP
 simp only [qy1,qy2,qy3,qy4,qy5,qy6,ne_eq,qy7] at aP
 refine W.exit ?_
 have cy:=M.e_inr hM bh
 subst cy
 replace hM:=bw
 try dsimp only at hM
 refine W.seq ?_
 refine W.region rfl ?_
 refine zA (I 0) rfl ?_
 refine s_nil ?_
 refine W.ret ?_
 have aw:=M.e_pure hM
 exact ⟨_,resE_tmp rfl,⟨0,aw,rfl,(H.pk [])⟩⟩

def zb4 (s_Sections:List Sect) (s_Marks:List Mrk) (s_Reaches:List Rch) (aa:Int) (stage:Int):M (Int × Int) :=
  M.bind (zad s_Sections s_Marks s_Reaches) fun x_=>match x_ with
  | (.inl r1)=>(
  bif r1 != 0 then (
  M.pure (0,r1))
  else (
  M.fail))
  | (.inr ab)=>(
  bif ab != 0 then (
  M.fail)
  else (
  M.bind (zab aa 0 ((s_Sections.length:Int)-1)) fun r2 =>
  bif !r2 then (
  M.pure (0,2))
  else (
  M.bind (zab stage 0 2000) fun r3 =>
  bif !r3 then (
  M.pure (0,4))
  else (
  M.bind (zaa s_Sections s_Marks s_Reaches (⟨(aa:Int),(stage:Int)⟩:Spot)) fun r4 =>
  M.pure (r4,0)))))
theorem zd9 {R:List Chunk} {aw:Cells} {ae:Value} {ax:Cells} {ag:Value} {ay:Cells} {ai:Value} (s_Sections:List Sect) (s_Marks:List Mrk) (s_Reaches:List Rch) (ab:Int) (stage:Int) (az:Reads R aw) (am:Sl aw ae s_Sections) (aA:Reads R ax) (aB:Sl ax ag s_Marks) (aC:Reads R ay) (aD:Sl ay ai s_Reaches) {r:(Int × Int)} (hM:(zb4 s_Sections s_Marks s_Reaches ab stage).Ends r) (w:World) (H:St w w [] R):Ret Tryz.prog 28 #[.agg #[ae,ag,ai],I ab,I stage] w fun v w'=>∃ (y0:Int) (y1:Int),(y0,y1)=r/\v = .tuple #[I y0,I y1]/\St w w' [] R:=by
 refine ret_of_W Tryz.func28 rfl rfl rfl ?_
 refine W.seq ?_
 refine W.region rfl ?_
 refine t_box (v:=.agg #[ae,ag,ai]) (cs:=[ae,ag,ai]) H rfl rfl ?_
 intro ao aN H
 refine zA (I 0) rfl ?_
 refine zA (I 0) rfl ?_
 refine s_nil ?_
 refine W.seq ?_
 refine W.region rfl ?_
 refine s_val (x_ld (p:=Pq ao) (v:=.agg #[ae,ag,ai]) rfl (ldb_ag (ds:=[ae,ag,ai]) Ag27 Sz27 (H.bl 0) rfl rfl)) ?_
 obtain ⟨aO,aE,hM⟩:=M.e_bind hM
 refine s_call cf49 [.agg #[ae,ag,ai]] rfl (zap s_Sections s_Marks s_Reaches (az.app _) am (aA.app _) aB (aC.app _) aD aE _ (H.gt 1)) ?_
 rintro vq aP (⟨r1,aF,hvq,aa⟩ | ⟨ac,aj,aQ,aG,hvq,aa⟩)
 ·subst aF
  subst vq
  try dsimp only at hM
  replace H:=H.bk aa
  clear aa
  refine zM (.tuple #[.pointer none,I r1]) rfl ?_
  refine zX [.pointer none,I r1] (.pointer none) rfl rfl ?_
  refine zX [.pointer none,I r1] (I r1) rfl rfl ?_
  refine zA (.pointer none) rfl ?_
  refine zA (I r1) rfl ?_
  refine s_nil ?_
  refine W.seq ?_
  refine W.block ?_
  refine W.seq ?_
  refine W.region rfl ?_
  refine zM (I r1) rfl ?_
  refine zC r1 0 (r1 != 0) rfl rfl rfl ?_
  refine zA (B (r1 != 0)) rfl ?_
  refine s_nil ?_
  refine W.cond (r1 != 0) rfl (fun ap=>?_) (fun ap=>?_)
  ·replace hM:=M.e_t hM ap
   simp only [qy1,qy2,qy3,qy4,qy5,qy6,ne_eq,qy7] at ap
   refine W.seq ?_
   refine W.region rfl ?_
   refine zM (I r1) rfl ?_
   refine zA (I 0) rfl ?_
   refine zA (I r1) rfl ?_
   refine s_nil ?_
   refine W.ret ?_
   have ak:=M.e_pure hM
   exact ⟨_,resE_tmp2 rfl,⟨0,r1,ak,rfl,(H.pk [])⟩⟩
  replace hM:=M.e_f hM ap
  exact (M.e_fail hM).elim
 subst aG
 subst vq
 try dsimp only at hM
 replace H:=H.bk aa
 clear aa
 refine zM (.tuple #[Pq aj,I ac]) rfl ?_
 refine zX [Pq aj,I ac] (Pq aj) rfl rfl ?_
 refine zX [Pq aj,I ac] (I ac) rfl rfl ?_
 refine zA (Pq aj) rfl ?_
 refine zA (I ac) rfl ?_
 refine s_nil ?_
 refine W.seq ?_
 refine W.block ?_
 refine W.seq ?_
 refine W.region rfl ?_
 refine zM (I ac) rfl ?_
 refine zC ac 0 (ac != 0) rfl rfl rfl ?_
 refine zA (B (ac != 0)) rfl ?_
 refine s_nil ?_
 refine W.cond (ac != 0) rfl (fun aq=>?_) (fun aq=>?_)
 ·replace hM:=M.e_t hM aq
  exact (M.e_fail hM).elim
 replace hM:=M.e_f hM aq
 simp only [qy1,qy2,qy3,qy4,qy5,qy6,ne_eq,qy7] at aq
 refine W.seq ?_
 refine W.region rfl ?_
 refine zM (I ab) rfl ?_
 refine s_val (x_fa (a:=Pq ao) (v:=Pq ao) rfl (fa_blk (o:=0) Fd27_0 Sz23)) ?_
 refine s_val (x_ld (p:=Pq ao) (v:=ae) rfl (ldb_sc Sc23 (H.bl 2) rfl)) ?_
 have aR:=(am).len_le
 refine s_val (x_lenS T23.und rfl am) ?_
 refine zR (s_Sections.length:Int) 1 ((s_Sections.length:Int)-1) rfl rfl rfl (by omega) ?_
 obtain ⟨aS,aH,hM⟩:=M.e_bind hM
 refine s_call cf70 [I ab,I 0,I ((s_Sections.length:Int)-1)] rfl (zac ab 0 ((s_Sections.length:Int)-1) aH _ (H.gt 3)) ?_
 rintro vq aT ⟨r2,aI,hvq,aa⟩
 subst aI
 subst vq
 try dsimp only at hM
 replace H:=H.bk aa
 clear aa
 refine s_val (x_not (b:=r2) rfl) ?_
 refine zA (B (!r2)) rfl ?_
 refine s_nil ?_
 refine W.cond (!r2) rfl (fun au=>?_) (fun au=>?_)
 ·replace hM:=M.e_t hM au
  refine W.seq ?_
  refine W.region rfl ?_
  refine zA (I 0) rfl ?_
  refine zA (I 2) rfl ?_
  refine s_nil ?_
  replace H:=H.pk []
  refine W.ret ?_
  have ak:=M.e_pure hM
  exact ⟨_,resE_tmp2 rfl,⟨0,2,ak,rfl,H⟩⟩
 replace hM:=M.e_f hM au
 refine W.seq ?_
 refine W.region rfl ?_
 refine zM (I stage) rfl ?_
 obtain ⟨aU,aJ,hM⟩:=M.e_bind hM
 refine s_call cf70 [I stage,I 0,I 2000] rfl (zac stage 0 2000 aJ _ (H.gt 3)) ?_
 rintro vq aV ⟨r3,aK,hvq,aa⟩
 subst aK
 subst vq
 try dsimp only at hM
 replace H:=H.bk aa
 clear aa
 refine s_val (x_not (b:=r3) rfl) ?_
 refine zA (B (!r3)) rfl ?_
 refine s_nil ?_
 refine W.cond (!r3) rfl (fun av=>?_) (fun av=>?_)
 ·replace hM:=M.e_t hM av
  refine W.seq ?_
  refine W.region rfl ?_
  refine zA (I 0) rfl ?_
  refine zA (I 4) rfl ?_
  refine s_nil ?_
  replace H:=H.pk []
  refine W.ret ?_
  have ak:=M.e_pure hM
  exact ⟨_,resE_tmp2 rfl,⟨0,4,ak,rfl,H⟩⟩
 replace hM:=M.e_f hM av
 refine W.skip ?_
 refine W.seq ?_
 refine W.region rfl ?_
 refine zM (Pq aj) rfl ?_
 refine zM (I ab) rfl ?_
 refine zM (I stage) rfl ?_
 refine s_val (x_bld (ps:=[(0,I ab),(1,I stage)]) (zs:=[I 0,I 0]) (L':=[I ab,I stage]) rfl Tryz.underlying160 Al160 rfl (Bd160 Tryz.underlying160) (.cons (cs:=[I ab]) rfl rfl rfl rfl rfl<|.cons (cs:=[I stage]) rfl rfl rfl rfl rfl<|.nil)) ?_
 obtain ⟨aW,aL,hM⟩:=M.e_bind hM
 refine s_call cf83 [Pq aj,.agg #[I ab,I stage]] rfl (zcq s_Sections s_Marks s_Reaches (⟨(ab:Int),(stage:Int)⟩:Spot) (az.app _) am (aA.app _) aB (aC.app _) aD (Has.here (k:=0) rfl) aL _ ((H.pk [1,0,2]).gt 2)) ?_
 rintro vq aX ⟨r4,aM,hvq,aa⟩
 subst aM
 subst vq
 try dsimp only at hM
 replace H:=H.pk [1,0,2] |>.bk aa
 clear aa
 refine zA (I r4) rfl ?_
 refine zA (I 0) rfl ?_
 refine s_nil ?_
 replace H:=H.pk []
 refine W.ret ?_
 have ak:=M.e_pure hM
 exact ⟨_,resE_tmp2 rfl,⟨r4,0,ak,rfl,H⟩⟩

def zbK (x:Sect) (stage:Int):(Int × Nat)->M ((Int × Nat) ⊕ Int):=fun (n,k) =>
  bif decide ((k:Int)<(x.rows.length:Int)) then (
  M.grd (decide ((k:Int)<(x.rows.length:Int))) <|
  bif decide (((x.rows.getD k default).stage)<=stage) then (
  M.grd ((!(decide (((k:Int)+1)<(x.rows.length:Int)))||(decide ((0:Int)<=((k:Int)+1))&&decide (((k:Int)+1)<(x.rows.length:Int))))) <|
  bif ((decide (((k:Int)+1)<(x.rows.length:Int)))&&(decide (stage<((x.rows.getD (Int.toNat ((k:Int)+1)) default).stage)))) then (
  M.grd (decide ((0:Int)<=((k:Int)+1))&&decide (((k:Int)+1)<(x.rows.length:Int))) <|
  M.grd (decide ((-9223372036854775808:Int)<=(((x.rows.getD (Int.toNat ((k:Int)+1)) default).carry)-((x.rows.getD k default).carry)))&&decide ((((x.rows.getD (Int.toNat ((k:Int)+1)) default).carry)-((x.rows.getD k default).carry))<=(9223372036854775807:Int))) <|
  M.grd (decide ((-9223372036854775808:Int)<=(stage-((x.rows.getD k default).stage)))&&decide ((stage-((x.rows.getD k default).stage))<=(9223372036854775807:Int))) <|
  M.grd (decide ((-9223372036854775808:Int)<=((((x.rows.getD (Int.toNat ((k:Int)+1)) default).carry)-((x.rows.getD k default).carry))*(stage-((x.rows.getD k default).stage))))&&decide (((((x.rows.getD (Int.toNat ((k:Int)+1)) default).carry)-((x.rows.getD k default).carry))*(stage-((x.rows.getD k default).stage)))<=(9223372036854775807:Int))) <|
  M.grd (decide ((-9223372036854775808:Int)<=(((x.rows.getD (Int.toNat ((k:Int)+1)) default).stage)-((x.rows.getD k default).stage)))&&decide ((((x.rows.getD (Int.toNat ((k:Int)+1)) default).stage)-((x.rows.getD k default).stage))<=(9223372036854775807:Int))) <|
  M.grd (decide (0<=((((x.rows.getD (Int.toNat ((k:Int)+1)) default).carry)-((x.rows.getD k default).carry))*(stage-((x.rows.getD k default).stage))))&&decide (((((x.rows.getD (Int.toNat ((k:Int)+1)) default).carry)-((x.rows.getD k default).carry))*(stage-((x.rows.getD k default).stage)))<=(9223372036854775807:Int))&&decide ((0:Int)<(((x.rows.getD (Int.toNat ((k:Int)+1)) default).stage)-((x.rows.getD k default).stage)))) <|
  M.grd (decide ((-9223372036854775808:Int)<=(((x.rows.getD k default).carry)+(((((x.rows.getD (Int.toNat ((k:Int)+1)) default).carry)-((x.rows.getD k default).carry))*(stage-((x.rows.getD k default).stage))) / (((x.rows.getD (Int.toNat ((k:Int)+1)) default).stage)-((x.rows.getD k default).stage)))))&&decide ((((x.rows.getD k default).carry)+(((((x.rows.getD (Int.toNat ((k:Int)+1)) default).carry)-((x.rows.getD k default).carry))*(stage-((x.rows.getD k default).stage))) / (((x.rows.getD (Int.toNat ((k:Int)+1)) default).stage)-((x.rows.getD k default).stage))))<=(9223372036854775807:Int))) <|
  M.pure (.inl (((x.rows.getD k default).carry)+(((((x.rows.getD (Int.toNat ((k:Int)+1)) default).carry)-((x.rows.getD k default).carry))*(stage-((x.rows.getD k default).stage))) / (((x.rows.getD (Int.toNat ((k:Int)+1)) default).stage)-((x.rows.getD k default).stage))),k+1)))
  else (
  M.pure (.inl ((x.rows.getD k default).carry,k+1))))
  else (
  M.pure (.inl (n,k+1))))
  else (
  M.pure (.inr n))
def zcf (x:Sect) (stage:Int):M Int :=
  M.bind (M.iter (zbK x stage) (0,0)) fun n2 =>
  M.pure n2
theorem zdS {R:List Chunk} {aw:Cells} {aa:Value} (x:Sect) (stage:Int) (aj:Reads R aw) (ac:Sl aw aa x.rows) {r:Int} (hM:(zcf x stage).Ends r) (w:World) (H:St w w [] R):Ret Tryz.prog 84 #[.agg #[I x.place,aa],I stage] w fun v w'=>∃ (y0:Int),y0=r/\v=I y0/\St w w' [] R:=by
 refine ret_of_W Tryz.func84 rfl rfl rfl ?_
 refine W.seq ?_
 refine W.region rfl ?_
 refine t_box (v:=.agg #[I x.place,aa]) (cs:=[I x.place,aa]) H rfl rfl ?_
 intro ab aK H
 refine zA (I 0) rfl ?_
 refine s_nil ?_
 refine W.seq ?_
 refine W.region rfl ?_
 refine zA (I 0) rfl ?_
 refine s_nil ?_
 refine W.seq ?_
 refine W.seq ?_
 refine W.region rfl ?_
 refine zA (I 0) rfl ?_
 refine s_nil ?_
 refine W.block ?_
 obtain ⟨ay,ap,az⟩:=M.e_bind hM
 obtain ⟨aL,ap⟩:=M.e_iter ap
 refine W.loop (fun m σ W=>∃ (n:Int) (k:Nat) (ρ:Env),σ=upds ρ [(1,I stage),(2,Pq ab),(5,I n),(6,I (k:Int))]/\M.iterN (zbK x stage) m (n,k)=some ay/\St w W [cBlk ab [I x.place,aa] 148] R) ?_ ?_
 ·exact ⟨_,0,0,_,upds_of _ _ ⟨rfl,rfl,rfl,rfl,trivial⟩,ap,H⟩
 rintro aM σ aN ⟨n,k,ρ,rfl,ax,H⟩
 obtain ⟨aq,au,aO,hM,ao⟩:=M.e_iterN ax
 simp only [zbK] at hM
 clear ax
 refine W.seq ?_
 refine W.seq ?_
 refine W.region rfl ?_
 refine zM (I (k:Int)) rfl ?_
 refine s_val (x_fa (a:=Pq ab) (v:=Oq ab 1) rfl (fa_blk (o:=0) Fd148_1 Sz146)) ?_
 refine s_val (x_ld (p:=Oq ab 1) (v:=aa) rfl (ldb_sc Sc146 (H.bl 0) rfl)) ?_
 have aP:=(ac).len_le
 refine s_val (x_lenS T146.und rfl ac) ?_
 refine zC (k:Int) (x.rows.length:Int) (decide ((k:Int)<(x.rows.length:Int))) rfl rfl rfl ?_
 refine s_nil ?_
 refine W.cond (decide ((k:Int)<(x.rows.length:Int))) rfl (fun ak=>?_) (fun ak=>?_)
 ·replace hM:=M.e_t hM ak
  simp only [qy1,qy2,qy3,qy4,qy5,qy6,ne_eq,qy7] at ak
  refine W.skip ?_
  refine W.seq ?_
  refine W.block ?_
  refine W.seq ?_
  refine W.region rfl ?_
  refine s_val (x_fa (a:=Pq ab) (v:=Oq ab 1) rfl (fa_blk (o:=0) Fd148_1 Sz146)) ?_
  refine s_val (x_ld (p:=Oq ab 1) (v:=aa) rfl (ldb_sc Sc146 (H.bl 0) rfl)) ?_
  refine zM (I (k:Int)) rfl ?_
  obtain ⟨aA,hM⟩:=M.e_grd hM
  simp only [Bool.and_eq_true,decide_eq_true_eq] at aA
  refine s_val (x_ix (a:=aa) (b:=I (k:Int)) (v:=vat aa 2 (Int.toNat (k:Int))) rfl rfl (Sl.ix (α:=FRow) T146.und T146.size ac (by omega) (by omega))) ?_
  refine s_val (x_fa (a:=vat aa 2 (Int.toNat (k:Int))) (v:=fat (vat aa 2 (Int.toNat (k:Int))) 0) rfl (fa_pl Fd149_0 Sz3 (Sl.pl (i:=(k:Int)) ac (by omega) (by omega)))) ?_
  refine s_val (x_ld (p:=fat (vat aa 2 (Int.toNat (k:Int))) 0) (v:=I ((x.rows.getD k default).stage)) rfl (ld_sc Sc3 (At.mono (FRow_at0 ac (i:=(k:Int)) (by omega) (by omega)) (aj.at H)))) ?_
  refine zM (I stage) rfl ?_
  refine zC ((x.rows.getD k default).stage) stage (decide (((x.rows.getD k default).stage)<=stage)) rfl rfl rfl ?_
  refine s_nil ?_
  refine W.cond (decide (((x.rows.getD k default).stage)<=stage)) rfl (fun am=>?_) (fun am=>?_)
  ·replace hM:=M.e_t hM am
   simp only [qy1,qy2,qy3,qy4,qy5,qy6,ne_eq,qy7] at am
   refine W.seq ?_
   refine W.region rfl ?_
   refine s_val (x_fa (a:=Pq ab) (v:=Oq ab 1) rfl (fa_blk (o:=0) Fd148_1 Sz146)) ?_
   refine s_val (x_ld (p:=Oq ab 1) (v:=aa) rfl (ldb_sc Sc146 (H.bl 0) rfl)) ?_
   refine zM (I (k:Int)) rfl ?_
   refine s_val (x_ix (a:=aa) (b:=I (k:Int)) (v:=vat aa 2 (Int.toNat (k:Int))) rfl rfl (Sl.ix (α:=FRow) T146.und T146.size ac (by omega) (by omega))) ?_
   refine s_val (x_fa (a:=vat aa 2 (Int.toNat (k:Int))) (v:=fat (vat aa 2 (Int.toNat (k:Int))) 1) rfl (fa_pl Fd149_1 Sz3 (Sl.pl (i:=(k:Int)) ac (by omega) (by omega)))) ?_
   refine s_val (x_ld (p:=fat (vat aa 2 (Int.toNat (k:Int))) 1) (v:=I ((x.rows.getD k default).carry)) rfl (ld_sc Sc3 (At.mono (FRow_at1 ac (i:=(k:Int)) (by omega) (by omega)) (aj.at H)))) ?_
   refine zA (I ((x.rows.getD k default).carry)) rfl ?_
   refine s_nil ?_
   refine W.seq ?_
   refine W.region rfl ?_
   refine zM (I (k:Int)) rfl ?_
   refine zR (k:Int) 1 ((k:Int)+1) rfl rfl rfl (by omega) ?_
   refine s_val (x_fa (a:=Pq ab) (v:=Oq ab 1) rfl (fa_blk (o:=0) Fd148_1 Sz146)) ?_
   refine s_val (x_ld (p:=Oq ab 1) (v:=aa) rfl (ldb_sc Sc146 (H.bl 0) rfl)) ?_
   have aQ:=(ac).len_le
   refine s_val (x_lenS T146.und rfl ac) ?_
   refine zC ((k:Int)+1) (x.rows.length:Int) (decide (((k:Int)+1)<(x.rows.length:Int))) rfl rfl rfl ?_
   refine zM (B (decide (((k:Int)+1)<(x.rows.length:Int)))) rfl ?_
   refine g_val (decide (((k:Int)+1)<(x.rows.length:Int))) (gy_t rfl) (fun hg=>x_fa (a:=Pq ab) (v:=Oq ab 1) rfl (fa_blk (o:=0) Fd148_1 Sz146)) ?_
   refine g_val (decide (((k:Int)+1)<(x.rows.length:Int))) (gy_t rfl) (fun hg=>x_ld (p:=Oq ab 1) (v:=aa) (gd_of (c:=decide (((k:Int)+1)<(x.rows.length:Int))) hg (Oq ab 1)) (ldb_sc Sc146 (H.bl 0) rfl)) ?_
   refine g_val (decide (((k:Int)+1)<(x.rows.length:Int))) (gy_t rfl) (fun hg=>x_mv (v:=I (k:Int)) rfl) ?_
   refine g_val (decide (((k:Int)+1)<(x.rows.length:Int))) (gy_t rfl) (fun hg=>x_ari (a:=(k:Int)) (b:=1) (r:=(k:Int)+1) (gd_of (c:=decide (((k:Int)+1)<(x.rows.length:Int))) hg (I (k:Int))) rfl rfl (by first | omega | (have ag:=hg; simp at ag; omega))) ?_
   obtain ⟨ai,hM⟩:=M.e_grd hM
   replace ai:=M.imp_of ai
   simp only [Bool.and_eq_true,decide_eq_true_eq] at ai
   refine g_val (decide (((k:Int)+1)<(x.rows.length:Int))) (gy_t rfl) (fun hg=>x_ix (a:=aa) (b:=I ((k:Int)+1)) (v:=vat aa 2 (Int.toNat ((k:Int)+1))) (gd_of (c:=decide (((k:Int)+1)<(x.rows.length:Int))) hg (aa)) (gd_of (c:=decide (((k:Int)+1)<(x.rows.length:Int))) hg (I ((k:Int)+1))) (Sl.ix (α:=FRow) T146.und T146.size ac (by have ae:=ai.resolve_left (by rw [hg]; decide); first | exact ae | exact ae.1 | exact ae.2 | omega | (have ag:=hg; simp at ag; omega)) (by have ae:=ai.resolve_left (by rw [hg]; decide); first | exact ae | exact ae.1 | exact ae.2 | omega | (have ag:=hg; simp at ag; omega)))) ?_
   refine g_val (decide (((k:Int)+1)<(x.rows.length:Int))) (gy_t rfl) (fun hg=>x_fa (a:=vat aa 2 (Int.toNat ((k:Int)+1))) (v:=fat (vat aa 2 (Int.toNat ((k:Int)+1))) 0) (gd_of (c:=decide (((k:Int)+1)<(x.rows.length:Int))) hg (vat aa 2 (Int.toNat ((k:Int)+1)))) (fa_pl Fd149_0 Sz3 (Sl.pl (i:=(k:Int)+1) ac (by have ae:=ai.resolve_left (by rw [hg]; decide); first | exact ae | exact ae.1 | exact ae.2 | omega | (have ag:=hg; simp at ag; omega)) (by have ae:=ai.resolve_left (by rw [hg]; decide); first | exact ae | exact ae.1 | exact ae.2 | omega | (have ag:=hg; simp at ag; omega))))) ?_
   refine g_val (decide (((k:Int)+1)<(x.rows.length:Int))) (gy_t rfl) (fun hg=>x_ld (p:=fat (vat aa 2 (Int.toNat ((k:Int)+1))) 0) (v:=I ((x.rows.getD (Int.toNat ((k:Int)+1)) default).stage)) (gd_of (c:=decide (((k:Int)+1)<(x.rows.length:Int))) hg (fat (vat aa 2 (Int.toNat ((k:Int)+1))) 0)) (ld_sc Sc3 (At.mono (FRow_at0 ac (i:=(k:Int)+1) (by have ae:=ai.resolve_left (by rw [hg]; decide); first | exact ae | exact ae.1 | exact ae.2 | omega | (have ag:=hg; simp at ag; omega)) (by have ae:=ai.resolve_left (by rw [hg]; decide); first | exact ae | exact ae.1 | exact ae.2 | omega | (have ag:=hg; simp at ag; omega))) (aj.at H)))) ?_
   refine g_val (decide (((k:Int)+1)<(x.rows.length:Int))) (gy_t rfl) (fun hg=>x_mv (v:=I stage) rfl) ?_
   refine g_val (decide (((k:Int)+1)<(x.rows.length:Int))) (gy_t rfl) (fun hg=>x_cmp (kd:=.i64) (a:=(x.rows.getD (Int.toNat ((k:Int)+1)) default).stage) (b:=stage) (r:=decide (stage<((x.rows.getD (Int.toNat ((k:Int)+1)) default).stage))) (gd_of (c:=decide (((k:Int)+1)<(x.rows.length:Int))) hg (I ((x.rows.getD (Int.toNat ((k:Int)+1)) default).stage))) (gd_of (c:=decide (((k:Int)+1)<(x.rows.length:Int))) hg (I stage)) rfl) ?_
   refine s_val (x_pand (b:=decide (((k:Int)+1)<(x.rows.length:Int))) (r:=decide (stage<((x.rows.getD (Int.toNat ((k:Int)+1)) default).stage))) rfl (fun hb=>gd_of (c:=decide (((k:Int)+1)<(x.rows.length:Int))) (by first | exact hb | (rw [hb]; rfl) | simp_all) (B (decide (stage<((x.rows.getD (Int.toNat ((k:Int)+1)) default).stage))))) rfl) ?_
   refine s_nil ?_
   refine W.cond ((decide (((k:Int)+1)<(x.rows.length:Int)))&&(decide (stage<((x.rows.getD (Int.toNat ((k:Int)+1)) default).stage)))) rfl (fun av=>?_) (fun av=>?_)
   ·replace hM:=M.e_t hM av
    refine W.draw (fun W=>St w W [cBlk ab [I x.place,aa] 148] R) [(0,true),(1,true),(2,true),(3,true),(4,true),(5,true),(6,true),(7,true),(8,true),(9,true),(10,true),(11,true),(12,true),(13,true),(14,true),(15,true),(16,true),(17,true),(18,true),(19,true),(20,true),(21,true),(22,true),(23,true),(24,true),(25,true),(26,true),(27,true),(28,true),(29,true),(30,true),(31,true),(32,true),(33,true),(34,true),(35,true)] mixed (by decide +kernel) rfl ?_
    intro aR ag
    replace H:=H.ext ag
    clear ag
    refine ⟨(H.pk [0]),?_⟩
    refine d_q rfl (fun w' H=>x_mv (v:=I ((x.rows.getD k default).carry)) rfl) ?_
    refine d_q rfl (fun w' H=>x_fa (a:=Pq ab) (v:=Oq ab 1) rfl (fa_blk (o:=0) Fd148_1 Sz146)) ?_
    refine d_q rfl (fun w' H=>x_ld (p:=Oq ab 1) (v:=aa) rfl (ldb_sc Sc146 (H.bl 0) rfl)) ?_
    refine d_q rfl (fun w' H=>x_mv (v:=I (k:Int)) rfl) ?_
    refine d_q rfl (fun w' H=>x_ari (a:=(k:Int)) (b:=1) (r:=(k:Int)+1) rfl rfl rfl (by omega)) ?_
    obtain ⟨aB,hM⟩:=M.e_grd hM
    simp only [Bool.and_eq_true,decide_eq_true_eq] at aB
    refine d_q rfl (fun w' H=>x_ix (a:=aa) (b:=I ((k:Int)+1)) (v:=vat aa 2 (Int.toNat ((k:Int)+1))) rfl rfl (Sl.ix (α:=FRow) T146.und T146.size ac (by omega) (by omega))) ?_
    refine d_q rfl (fun w' H=>x_fa (a:=vat aa 2 (Int.toNat ((k:Int)+1))) (v:=fat (vat aa 2 (Int.toNat ((k:Int)+1))) 1) rfl (fa_pl Fd149_1 Sz3 (Sl.pl (i:=(k:Int)+1) ac (by omega) (by omega)))) ?_
    refine d_q rfl (fun w' H=>x_ld (p:=fat (vat aa 2 (Int.toNat ((k:Int)+1))) 1) (v:=I ((x.rows.getD (Int.toNat ((k:Int)+1)) default).carry)) rfl (ld_sc Sc3 (At.mono (FRow_at1 ac (i:=(k:Int)+1) (by omega) (by omega)) (aj.at H)))) ?_
    refine d_q rfl (fun w' H=>x_mv (v:=I ((x.rows.getD k default).carry)) rfl) ?_
    obtain ⟨aC,hM⟩:=M.e_grd hM
    simp only [Bool.and_eq_true,decide_eq_true_eq] at aC
    refine d_q rfl (fun w' H=>x_ari (a:=(x.rows.getD (Int.toNat ((k:Int)+1)) default).carry) (b:=(x.rows.getD k default).carry) (r:=((x.rows.getD (Int.toNat ((k:Int)+1)) default).carry)-((x.rows.getD k default).carry)) rfl rfl rfl (by omega)) ?_
    refine d_q rfl (fun w' H=>x_mv (v:=I stage) rfl) ?_
    refine d_q rfl (fun w' H=>x_fa (a:=Pq ab) (v:=Oq ab 1) rfl (fa_blk (o:=0) Fd148_1 Sz146)) ?_
    refine d_q rfl (fun w' H=>x_ld (p:=Oq ab 1) (v:=aa) rfl (ldb_sc Sc146 (H.bl 0) rfl)) ?_
    refine d_q rfl (fun w' H=>x_mv (v:=I (k:Int)) rfl) ?_
    refine d_q rfl (fun w' H=>x_ix (a:=aa) (b:=I (k:Int)) (v:=vat aa 2 (Int.toNat (k:Int))) rfl rfl (Sl.ix (α:=FRow) T146.und T146.size ac (by omega) (by omega))) ?_
    refine d_q rfl (fun w' H=>x_fa (a:=vat aa 2 (Int.toNat (k:Int))) (v:=fat (vat aa 2 (Int.toNat (k:Int))) 0) rfl (fa_pl Fd149_0 Sz3 (Sl.pl (i:=(k:Int)) ac (by omega) (by omega)))) ?_
    refine d_q rfl (fun w' H=>x_ld (p:=fat (vat aa 2 (Int.toNat (k:Int))) 0) (v:=I ((x.rows.getD k default).stage)) rfl (ld_sc Sc3 (At.mono (FRow_at0 ac (i:=(k:Int)) (by omega) (by omega)) (aj.at H)))) ?_
    obtain ⟨aD,hM⟩:=M.e_grd hM
    simp only [Bool.and_eq_true,decide_eq_true_eq] at aD
    refine d_q rfl (fun w' H=>x_ari (a:=stage) (b:=(x.rows.getD k default).stage) (r:=stage-((x.rows.getD k default).stage)) rfl rfl rfl (by omega)) ?_
    obtain ⟨aE,hM⟩:=M.e_grd hM
    simp only [Bool.and_eq_true,decide_eq_true_eq] at aE
    refine d_q rfl (fun w' H=>x_ari (a:=((x.rows.getD (Int.toNat ((k:Int)+1)) default).carry)-((x.rows.getD k default).carry)) (b:=stage-((x.rows.getD k default).stage)) (r:=(((x.rows.getD (Int.toNat ((k:Int)+1)) default).carry)-((x.rows.getD k default).carry))*(stage-((x.rows.getD k default).stage))) rfl rfl rfl (by omega)) ?_
    refine d_q rfl (fun w' H=>x_fa (a:=Pq ab) (v:=Oq ab 1) rfl (fa_blk (o:=0) Fd148_1 Sz146)) ?_
    refine d_q rfl (fun w' H=>x_ld (p:=Oq ab 1) (v:=aa) rfl (ldb_sc Sc146 (H.bl 0) rfl)) ?_
    refine d_q rfl (fun w' H=>x_mv (v:=I (k:Int)) rfl) ?_
    refine d_q rfl (fun w' H=>x_ari (a:=(k:Int)) (b:=1) (r:=(k:Int)+1) rfl rfl rfl (by omega)) ?_
    refine d_q rfl (fun w' H=>x_ix (a:=aa) (b:=I ((k:Int)+1)) (v:=vat aa 2 (Int.toNat ((k:Int)+1))) rfl rfl (Sl.ix (α:=FRow) T146.und T146.size ac (by omega) (by omega))) ?_
    refine d_q rfl (fun w' H=>x_fa (a:=vat aa 2 (Int.toNat ((k:Int)+1))) (v:=fat (vat aa 2 (Int.toNat ((k:Int)+1))) 0) rfl (fa_pl Fd149_0 Sz3 (Sl.pl (i:=(k:Int)+1) ac (by omega) (by omega)))) ?_
    refine d_q rfl (fun w' H=>x_ld (p:=fat (vat aa 2 (Int.toNat ((k:Int)+1))) 0) (v:=I ((x.rows.getD (Int.toNat ((k:Int)+1)) default).stage)) rfl (ld_sc Sc3 (At.mono (FRow_at0 ac (i:=(k:Int)+1) (by omega) (by omega)) (aj.at H)))) ?_
    refine d_q rfl (fun w' H=>x_fa (a:=Pq ab) (v:=Oq ab 1) rfl (fa_blk (o:=0) Fd148_1 Sz146)) ?_
    refine d_q rfl (fun w' H=>x_ld (p:=Oq ab 1) (v:=aa) rfl (ldb_sc Sc146 (H.bl 0) rfl)) ?_
    refine d_q rfl (fun w' H=>x_mv (v:=I (k:Int)) rfl) ?_
    refine d_q rfl (fun w' H=>x_ix (a:=aa) (b:=I (k:Int)) (v:=vat aa 2 (Int.toNat (k:Int))) rfl rfl (Sl.ix (α:=FRow) T146.und T146.size ac (by omega) (by omega))) ?_
    refine d_q rfl (fun w' H=>x_fa (a:=vat aa 2 (Int.toNat (k:Int))) (v:=fat (vat aa 2 (Int.toNat (k:Int))) 0) rfl (fa_pl Fd149_0 Sz3 (Sl.pl (i:=(k:Int)) ac (by omega) (by omega)))) ?_
    refine d_q rfl (fun w' H=>x_ld (p:=fat (vat aa 2 (Int.toNat (k:Int))) 0) (v:=I ((x.rows.getD k default).stage)) rfl (ld_sc Sc3 (At.mono (FRow_at0 ac (i:=(k:Int)) (by omega) (by omega)) (aj.at H)))) ?_
    obtain ⟨aF,hM⟩:=M.e_grd hM
    simp only [Bool.and_eq_true,decide_eq_true_eq] at aF
    refine d_q rfl (fun w' H=>x_ari (a:=(x.rows.getD (Int.toNat ((k:Int)+1)) default).stage) (b:=(x.rows.getD k default).stage) (r:=((x.rows.getD (Int.toNat ((k:Int)+1)) default).stage)-((x.rows.getD k default).stage)) rfl rfl rfl (by omega)) ?_
    obtain ⟨aG,hM⟩:=M.e_grd hM
    simp only [Bool.and_eq_true,decide_eq_true_eq] at aG
    refine d_q rfl (fun w' H=>x_quo (a:=(((x.rows.getD (Int.toNat ((k:Int)+1)) default).carry)-((x.rows.getD k default).carry))*(stage-((x.rows.getD k default).stage))) (b:=((x.rows.getD (Int.toNat ((k:Int)+1)) default).stage)-((x.rows.getD k default).stage)) rfl rfl (by omega)) ?_
    obtain ⟨aH,hM⟩:=M.e_grd hM
    simp only [Bool.and_eq_true,decide_eq_true_eq] at aH
    refine d_q rfl (fun w' H=>x_ari (a:=(x.rows.getD k default).carry) (b:=((((x.rows.getD (Int.toNat ((k:Int)+1)) default).carry)-((x.rows.getD k default).carry))*(stage-((x.rows.getD k default).stage))) / (((x.rows.getD (Int.toNat ((k:Int)+1)) default).stage)-((x.rows.getD k default).stage))) (r:=((x.rows.getD k default).carry)+(((((x.rows.getD (Int.toNat ((k:Int)+1)) default).carry)-((x.rows.getD k default).carry))*(stage-((x.rows.getD k default).stage))) / (((x.rows.getD (Int.toNat ((k:Int)+1)) default).stage)-((x.rows.getD k default).stage)))) rfl rfl rfl (by omega)) ?_
    refine d_q rfl (fun w' H=>x_as (v:=I (((x.rows.getD k default).carry)+(((((x.rows.getD (Int.toNat ((k:Int)+1)) default).carry)-((x.rows.getD k default).carry))*(stage-((x.rows.getD k default).stage))) / (((x.rows.getD (Int.toNat ((k:Int)+1)) default).stage)-((x.rows.getD k default).stage))))) rfl) ?_
    refine d_nil ?_
    refine W.region rfl ?_
    refine zM (I (k:Int)) rfl ?_
    refine zR (k:Int) 1 ((k:Int)+1) rfl rfl rfl (by omega) ?_
    refine zA (I ((k:Int)+1)) rfl ?_
    refine s_nil ?_
    exact ⟨aq,au,((x.rows.getD k default).carry)+(((((x.rows.getD (Int.toNat ((k:Int)+1)) default).carry)-((x.rows.getD k default).carry))*(stage-((x.rows.getD k default).stage))) / (((x.rows.getD (Int.toNat ((k:Int)+1)) default).stage)-((x.rows.getD k default).stage))),k+1,_,upds_of _ _ ⟨rfl,rfl,rfl,rfl,trivial⟩,M.e_inl hM ao,H⟩
   replace hM:=M.e_f hM av
   refine W.skip ?_
   refine W.region rfl ?_
   refine zM (I (k:Int)) rfl ?_
   refine zR (k:Int) 1 ((k:Int)+1) rfl rfl rfl (by omega) ?_
   refine zA (I ((k:Int)+1)) rfl ?_
   refine s_nil ?_
   exact ⟨aq,au,(x.rows.getD k default).carry,k+1,_,upds_of _ _ ⟨rfl,rfl,rfl,rfl,trivial⟩,M.e_inl hM ao,H⟩
  replace hM:=M.e_f hM am
  simp only [qy1,qy2,qy3,qy4,qy5,qy6,ne_eq,qy7] at am
  refine W.skip ?_
  refine W.region rfl ?_
  refine zM (I (k:Int)) rfl ?_
  refine zR (k:Int) 1 ((k:Int)+1) rfl rfl rfl (by omega) ?_
  refine zA (I ((k:Int)+1)) rfl ?_
  refine s_nil ?_
  exact ⟨aq,au,n,k+1,_,upds_of _ _ ⟨rfl,rfl,rfl,rfl,trivial⟩,M.e_inl hM ao,H⟩
 replace hM:=M.e_f hM ak
 simp only [qy1,qy2,qy3,qy4,qy5,qy6,ne_eq,qy7] at ak
 refine W.exit ?_
 have aI:=M.e_inr hM ao
 subst aI
 replace hM:=az
 try dsimp only at hM
 refine W.seq ?_
 refine W.region rfl ?_
 refine zM (I n) rfl ?_
 refine zA (I n) rfl ?_
 refine s_nil ?_
 refine W.ret ?_
 have aJ:=M.e_pure hM
 exact ⟨_,resE_tmp rfl,⟨n,aJ,rfl,(H.pk [])⟩⟩

def zbS (s_Sections:List Sect) (s_Marks:List Mrk) (s_Reaches:List Rch) (aa:Int) (stage:Int):M (Int × Int) :=
  M.bind (zal s_Sections s_Marks s_Reaches) fun r2 =>
  bif r2 != 0 then (
  M.pure (0,r2))
  else (
  M.bind (zae aa 0 ((s_Sections.length:Int)-1)) fun r3 =>
  bif r3 then (
  M.pure (0,2))
  else (
  M.bind (zae stage 0 2000) fun r4 =>
  bif r4 then (
  M.pure (0,4))
  else (
  M.grd (decide ((0:Int)<=aa)&&decide (aa<(s_Sections.length:Int))) <|
  M.bind (zcf (s_Sections.getD (Int.toNat aa) default) stage) fun r5 =>
  M.pure (r5,0))))
theorem zec {R:List Chunk} {aw:Cells} {ab:Value} {ax:Cells} {ae:Value} {ay:Cells} {ag:Value} (s_Sections:List Sect) (s_Marks:List Mrk) (s_Reaches:List Rch) (aa:Int) (stage:Int) (ap:Reads R aw) (ak:Sl aw ab s_Sections) (az:Reads R ax) (aA:Sl ax ae s_Marks) (aB:Reads R ay) (aC:Sl ay ag s_Reaches) {r:(Int × Int)} (hM:(zbS s_Sections s_Marks s_Reaches aa stage).Ends r) (w:World) (H:St w w [] R):Ret Tryz.prog 29 #[.agg #[ab,ae,ag],I aa,I stage] w fun v w'=>∃ (y0:Int) (y1:Int),(y0,y1)=r/\v = .tuple #[I y0,I y1]/\St w w' [] R:=by
 refine ret_of_W Tryz.func29 rfl rfl rfl ?_
 refine W.seq ?_
 refine W.region rfl ?_
 refine t_box (v:=.agg #[ab,ae,ag]) (cs:=[ab,ae,ag]) H rfl rfl ?_
 intro ai aN H
 refine zA (I 0) rfl ?_
 refine zA (I 0) rfl ?_
 refine s_nil ?_
 refine W.seq ?_
 refine W.seq ?_
 refine W.region rfl ?_
 refine s_val (x_ld (p:=Pq ai) (v:=.agg #[ab,ae,ag]) rfl (ldb_ag (ds:=[ab,ae,ag]) Ag81 Sz81 (H.bl 0) rfl rfl)) ?_
 obtain ⟨aO,aD,hM⟩:=M.e_bind hM
 refine s_call cf27 [.agg #[ab,ae,ag]] rfl (zbg s_Sections s_Marks s_Reaches (ap.app _) ak (az.app _) aA (aB.app _) aC aD _ (H.gt 1)) ?_
 rintro vq aP ⟨r2,aE,hvq,ac⟩
 subst aE
 subst vq
 try dsimp only at hM
 replace H:=H.bk ac
 clear ac
 refine zA (I r2) rfl ?_
 refine s_nil ?_
 refine W.seq ?_
 refine W.region rfl ?_
 refine zM (I r2) rfl ?_
 refine zC r2 0 (r2 != 0) rfl rfl rfl ?_
 refine s_nil ?_
 refine W.cond (r2 != 0) rfl (fun am=>?_) (fun am=>?_)
 ·replace hM:=M.e_t hM am
  simp only [qy1,qy2,qy3,qy4,qy5,qy6,ne_eq,qy7] at am
  refine W.seq ?_
  refine W.region rfl ?_
  refine zM (I r2) rfl ?_
  refine zA (I 0) rfl ?_
  refine zA (I r2) rfl ?_
  refine s_nil ?_
  refine W.ret ?_
  have aj:=M.e_pure hM
  exact ⟨_,resE_tmp2 rfl,⟨0,r2,aj,rfl,(H.pk [])⟩⟩
 replace hM:=M.e_f hM am
 simp only [qy1,qy2,qy3,qy4,qy5,qy6,ne_eq,qy7] at am
 refine W.skip ?_
 refine W.seq ?_
 refine W.seq ?_
 refine W.region rfl ?_
 refine zM (I aa) rfl ?_
 refine s_val (x_fa (a:=Pq ai) (v:=Pq ai) rfl (fa_blk (o:=0) Fd81_0 Sz77)) ?_
 refine s_val (x_ld (p:=Pq ai) (v:=ab) rfl (ldb_sc Sc77 (H.bl 0) rfl)) ?_
 have aQ:=(ak).len_le
 refine s_val (x_lenS T77.und rfl ak) ?_
 refine zR (s_Sections.length:Int) 1 ((s_Sections.length:Int)-1) rfl rfl rfl (by omega) ?_
 obtain ⟨aR,aF,hM⟩:=M.e_bind hM
 refine s_call cf82 [I aa,I 0,I ((s_Sections.length:Int)-1)] rfl (zaf aa 0 ((s_Sections.length:Int)-1) aF _ (H.gt 1)) ?_
 rintro vq aS ⟨r3,aG,hvq,ac⟩
 subst aG
 subst vq
 try dsimp only at hM
 replace H:=H.bk ac
 clear ac
 refine s_nil ?_
 refine W.cond r3 rfl (fun aq=>?_) (fun aq=>?_)
 ·replace hM:=M.e_t hM aq
  refine W.seq ?_
  refine W.region rfl ?_
  refine zA (I 0) rfl ?_
  refine zA (I 2) rfl ?_
  refine s_nil ?_
  refine W.ret ?_
  have aj:=M.e_pure hM
  exact ⟨_,resE_tmp2 rfl,⟨0,2,aj,rfl,(H.pk [])⟩⟩
 replace hM:=M.e_f hM aq
 refine W.skip ?_
 refine W.seq ?_
 refine W.seq ?_
 refine W.region rfl ?_
 refine zM (I stage) rfl ?_
 obtain ⟨aT,aH,hM⟩:=M.e_bind hM
 refine s_call cf82 [I stage,I 0,I 2000] rfl (zaf stage 0 2000 aH _ (H.gt 1)) ?_
 rintro vq aU ⟨r4,aI,hvq,ac⟩
 subst aI
 subst vq
 try dsimp only at hM
 replace H:=H.bk ac
 clear ac
 refine s_nil ?_
 refine W.cond r4 rfl (fun au=>?_) (fun au=>?_)
 ·replace hM:=M.e_t hM au
  refine W.seq ?_
  refine W.region rfl ?_
  refine zA (I 0) rfl ?_
  refine zA (I 4) rfl ?_
  refine s_nil ?_
  refine W.ret ?_
  have aj:=M.e_pure hM
  exact ⟨_,resE_tmp2 rfl,⟨0,4,aj,rfl,(H.pk [])⟩⟩
 replace hM:=M.e_f hM au
 refine W.skip ?_
 refine W.seq ?_
 refine W.region rfl ?_
 refine s_val (x_fa (a:=Pq ai) (v:=Pq ai) rfl (fa_blk (o:=0) Fd81_0 Sz77)) ?_
 refine s_val (x_ld (p:=Pq ai) (v:=ab) rfl (ldb_sc Sc77 (H.bl 0) rfl)) ?_
 refine zM (I aa) rfl ?_
 obtain ⟨aJ,hM⟩:=M.e_grd hM
 simp only [Bool.and_eq_true,decide_eq_true_eq] at aJ
 refine s_val (x_ix (a:=ab) (b:=I aa) (v:=vat ab 2 (Int.toNat aa)) rfl rfl (Sl.ix (α:=Sect) T77.und T77.size ak (by omega) (by omega))) ?_
 obtain ⟨av,aK,ao⟩:=Sect_atA ak (i:=aa) (by omega) (by omega)
 replace ao:Sl _ av (s_Sections.getD (Int.toNat aa) default).rows:=ao
 have aV:=ao.len_le
 refine s_val (x_ld (p:=vat ab 2 (Int.toNat aa)) (v:=.agg #[I ((s_Sections.getD (Int.toNat aa) default).place),av]) rfl (ld_ag Ag148 Sz148 (At.mono aK (ap.at H)))) ?_
 refine zM (I stage) rfl ?_
 obtain ⟨aW,aL,hM⟩:=M.e_bind hM
 refine s_call cf84 [.agg #[I ((s_Sections.getD (Int.toNat aa) default).place),av],I stage] rfl (zdS (s_Sections.getD (Int.toNat aa) default) stage (ap.app _) ao aL _ (H.gt 1)) ?_
 rintro vq aX ⟨r5,aM,hvq,ac⟩
 subst aM
 subst vq
 try dsimp only at hM
 replace H:=H.bk ac
 clear ac
 refine zA (I r5) rfl ?_
 refine zA (I 0) rfl ?_
 refine s_nil ?_
 refine W.ret ?_
 have aj:=M.e_pure hM
 exact ⟨_,resE_tmp2 rfl,⟨r5,0,aj,rfl,(H.pk [])⟩⟩

def zaU (a:Mrk) (b:Mrk):M Bool :=
  M.pure (((decide (a.place<=b.place))&&(decide (a.hi<b.lo)))||((decide (b.place<=a.place))&&(decide (b.hi<a.lo))))
theorem zcD {R:List Chunk}  (a:Mrk) (b:Mrk)  {r:Bool} (hM:(zaU a b).Ends r) (w:World) (H:St w w [] R):Ret Tryz.prog 85 #[.agg #[I a.place,I a.lo,I a.hi],.agg #[I b.place,I b.lo,I b.hi]] w fun v w'=>∃ (y0:Bool),y0=r/\v=B y0/\St w w' [] R:=by
 refine ret_of_W Tryz.func85 rfl rfl rfl ?_
 refine W.seq ?_
 refine W.region rfl ?_
 refine t_box (v:=.agg #[I a.place,I a.lo,I a.hi]) (cs:=[I a.place,I a.lo,I a.hi]) H rfl rfl ?_
 intro aa ae H
 refine t_box (v:=.agg #[I b.place,I b.lo,I b.hi]) (cs:=[I b.place,I b.lo,I b.hi]) H rfl rfl ?_
 intro ab ag H
 refine zA (B false) rfl ?_
 refine s_nil ?_
 refine W.seq ?_
 refine W.region rfl ?_
 refine s_val (x_fa (a:=Pq aa) (v:=Pq aa) rfl (fa_blk (o:=0) Fd150_0 Sz3)) ?_
 refine s_val (x_ld (p:=Pq aa) (v:=I a.place) rfl (ldb_sc Sc3 (H.bl 1) rfl)) ?_
 refine s_val (x_fa (a:=Pq ab) (v:=Pq ab) rfl (fa_blk (o:=0) Fd150_0 Sz3)) ?_
 refine s_val (x_ld (p:=Pq ab) (v:=I b.place) rfl (ldb_sc Sc3 (H.bl 0) rfl)) ?_
 refine zC a.place b.place (decide (a.place<=b.place)) rfl rfl rfl ?_
 refine zM (B (decide (a.place<=b.place))) rfl ?_
 refine g_val (decide (a.place<=b.place)) (gy_t rfl) (fun hg=>x_fa (a:=Pq aa) (v:=Oq aa 1) rfl (fa_blk (o:=0) Fd150_1 Sz54)) ?_
 refine g_val (decide (a.place<=b.place)) (gy_t rfl) (fun hg=>x_fa (a:=Oq aa 1) (v:=Oq aa 2) (gd_of (c:=decide (a.place<=b.place)) hg (Oq aa 1)) (fa_blk (o:=1) Fd54_1 Sz3)) ?_
 refine g_val (decide (a.place<=b.place)) (gy_t rfl) (fun hg=>x_ld (p:=Oq aa 2) (v:=I a.hi) (gd_of (c:=decide (a.place<=b.place)) hg (Oq aa 2)) (ldb_sc Sc3 (H.bl 1) rfl)) ?_
 refine g_val (decide (a.place<=b.place)) (gy_t rfl) (fun hg=>x_fa (a:=Pq ab) (v:=Oq ab 1) rfl (fa_blk (o:=0) Fd150_1 Sz54)) ?_
 refine g_val (decide (a.place<=b.place)) (gy_t rfl) (fun hg=>x_fa (a:=Oq ab 1) (v:=Oq ab 1) (gd_of (c:=decide (a.place<=b.place)) hg (Oq ab 1)) (fa_blk (o:=1) Fd54_0 Sz3)) ?_
 refine g_val (decide (a.place<=b.place)) (gy_t rfl) (fun hg=>x_ld (p:=Oq ab 1) (v:=I b.lo) (gd_of (c:=decide (a.place<=b.place)) hg (Oq ab 1)) (ldb_sc Sc3 (H.bl 0) rfl)) ?_
 refine g_val (decide (a.place<=b.place)) (gy_t rfl) (fun hg=>x_cmp (kd:=.i64) (a:=a.hi) (b:=b.lo) (r:=decide (a.hi<b.lo)) (gd_of (c:=decide (a.place<=b.place)) hg (I a.hi)) (gd_of (c:=decide (a.place<=b.place)) hg (I b.lo)) rfl) ?_
 refine s_val (x_pand (b:=decide (a.place<=b.place)) (r:=decide (a.hi<b.lo)) rfl (fun hb=>gd_of (c:=decide (a.place<=b.place)) (by first | exact hb | (rw [hb]; rfl) | simp_all) (B (decide (a.hi<b.lo)))) rfl) ?_
 refine zM (B ((decide (a.place<=b.place))&&(decide (a.hi<b.lo)))) rfl ?_
 refine g_val (!((decide (a.place<=b.place))&&(decide (a.hi<b.lo)))) (gy_f rfl) (fun hg=>x_fa (a:=Pq ab) (v:=Pq ab) rfl (fa_blk (o:=0) Fd150_0 Sz3)) ?_
 refine g_val (!((decide (a.place<=b.place))&&(decide (a.hi<b.lo)))) (gy_f rfl) (fun hg=>x_ld (p:=Pq ab) (v:=I b.place) (gd_of (c:=!((decide (a.place<=b.place))&&(decide (a.hi<b.lo)))) hg (Pq ab)) (ldb_sc Sc3 (H.bl 0) rfl)) ?_
 refine g_val (!((decide (a.place<=b.place))&&(decide (a.hi<b.lo)))) (gy_f rfl) (fun hg=>x_fa (a:=Pq aa) (v:=Pq aa) rfl (fa_blk (o:=0) Fd150_0 Sz3)) ?_
 refine g_val (!((decide (a.place<=b.place))&&(decide (a.hi<b.lo)))) (gy_f rfl) (fun hg=>x_ld (p:=Pq aa) (v:=I a.place) (gd_of (c:=!((decide (a.place<=b.place))&&(decide (a.hi<b.lo)))) hg (Pq aa)) (ldb_sc Sc3 (H.bl 1) rfl)) ?_
 refine g_val (!((decide (a.place<=b.place))&&(decide (a.hi<b.lo)))) (gy_f rfl) (fun hg=>x_cmp (kd:=.i64) (a:=b.place) (b:=a.place) (r:=decide (b.place<=a.place)) (gd_of (c:=!((decide (a.place<=b.place))&&(decide (a.hi<b.lo)))) hg (I b.place)) (gd_of (c:=!((decide (a.place<=b.place))&&(decide (a.hi<b.lo)))) hg (I a.place)) rfl) ?_
 refine g_val (!((decide (a.place<=b.place))&&(decide (a.hi<b.lo)))) (gy_f rfl) (fun hg=>x_mv (v:=B (decide (b.place<=a.place))) (gd_of (c:=!((decide (a.place<=b.place))&&(decide (a.hi<b.lo)))) hg (B (decide (b.place<=a.place))))) ?_
 refine g_val ((!((decide (a.place<=b.place))&&(decide (a.hi<b.lo))))&&(decide (b.place<=a.place))) (gy_gt rfl rfl) (fun hg=>x_fa (a:=Pq ab) (v:=Oq ab 1) rfl (fa_blk (o:=0) Fd150_1 Sz54)) ?_
 refine g_val ((!((decide (a.place<=b.place))&&(decide (a.hi<b.lo))))&&(decide (b.place<=a.place))) (gy_gt rfl rfl) (fun hg=>x_fa (a:=Oq ab 1) (v:=Oq ab 2) (gd_of (c:=((!((decide (a.place<=b.place))&&(decide (a.hi<b.lo))))&&(decide (b.place<=a.place)))) hg (Oq ab 1)) (fa_blk (o:=1) Fd54_1 Sz3)) ?_
 refine g_val ((!((decide (a.place<=b.place))&&(decide (a.hi<b.lo))))&&(decide (b.place<=a.place))) (gy_gt rfl rfl) (fun hg=>x_ld (p:=Oq ab 2) (v:=I b.hi) (gd_of (c:=((!((decide (a.place<=b.place))&&(decide (a.hi<b.lo))))&&(decide (b.place<=a.place)))) hg (Oq ab 2)) (ldb_sc Sc3 (H.bl 0) rfl)) ?_
 refine g_val ((!((decide (a.place<=b.place))&&(decide (a.hi<b.lo))))&&(decide (b.place<=a.place))) (gy_gt rfl rfl) (fun hg=>x_fa (a:=Pq aa) (v:=Oq aa 1) rfl (fa_blk (o:=0) Fd150_1 Sz54)) ?_
 refine g_val ((!((decide (a.place<=b.place))&&(decide (a.hi<b.lo))))&&(decide (b.place<=a.place))) (gy_gt rfl rfl) (fun hg=>x_fa (a:=Oq aa 1) (v:=Oq aa 1) (gd_of (c:=((!((decide (a.place<=b.place))&&(decide (a.hi<b.lo))))&&(decide (b.place<=a.place)))) hg (Oq aa 1)) (fa_blk (o:=1) Fd54_0 Sz3)) ?_
 refine g_val ((!((decide (a.place<=b.place))&&(decide (a.hi<b.lo))))&&(decide (b.place<=a.place))) (gy_gt rfl rfl) (fun hg=>x_ld (p:=Oq aa 1) (v:=I a.lo) (gd_of (c:=((!((decide (a.place<=b.place))&&(decide (a.hi<b.lo))))&&(decide (b.place<=a.place)))) hg (Oq aa 1)) (ldb_sc Sc3 (H.bl 1) rfl)) ?_
 refine g_val ((!((decide (a.place<=b.place))&&(decide (a.hi<b.lo))))&&(decide (b.place<=a.place))) (gy_gt rfl rfl) (fun hg=>x_cmp (kd:=.i64) (a:=b.hi) (b:=a.lo) (r:=decide (b.hi<a.lo)) (gd_of (c:=((!((decide (a.place<=b.place))&&(decide (a.hi<b.lo))))&&(decide (b.place<=a.place)))) hg (I b.hi)) (gd_of (c:=((!((decide (a.place<=b.place))&&(decide (a.hi<b.lo))))&&(decide (b.place<=a.place)))) hg (I a.lo)) rfl) ?_
 refine g_val (!((decide (a.place<=b.place))&&(decide (a.hi<b.lo)))) (gy_f rfl) (fun hg=>x_pand (b:=decide (b.place<=a.place)) (r:=decide (b.hi<a.lo)) (gd_of (c:=!((decide (a.place<=b.place))&&(decide (a.hi<b.lo)))) hg (B (decide (b.place<=a.place)))) (fun hb=>gd_of (c:=((!((decide (a.place<=b.place))&&(decide (a.hi<b.lo))))&&(decide (b.place<=a.place)))) (by first | exact hb | (rw [hb]; rfl) | simp_all) (B (decide (b.hi<a.lo)))) rfl) ?_
 refine s_val (x_por (b:=((decide (a.place<=b.place))&&(decide (a.hi<b.lo)))) (r:=((decide (b.place<=a.place))&&(decide (b.hi<a.lo)))) rfl rfl (fun hb=>gd_of (c:=!((decide (a.place<=b.place))&&(decide (a.hi<b.lo)))) (by first | exact hb | (rw [hb]; rfl) | simp_all) (B ((decide (b.place<=a.place))&&(decide (b.hi<a.lo)))))) ?_
 refine zA (B (((decide (a.place<=b.place))&&(decide (a.hi<b.lo)))||((decide (b.place<=a.place))&&(decide (b.hi<a.lo))))) rfl ?_
 refine s_nil ?_
 replace H:=H.pk []
 refine W.ret ?_
 have ac:=M.e_pure hM
 exact ⟨_,resE_tmp rfl,⟨(((decide (a.place<=b.place))&&(decide (a.hi<b.lo)))||((decide (b.place<=a.place))&&(decide (b.hi<a.lo)))),ac,rfl,H⟩⟩

def zbW (s_Sections:List Sect) (s_Marks:List Mrk) (s_Reaches:List Rch) (a:Int) (b:Int):M (Bool × Int) :=
  M.bind (zal s_Sections s_Marks s_Reaches) fun r2 =>
  bif r2 != 0 then (
  M.pure (false,r2))
  else (
  M.bind (zae a 0 ((s_Marks.length:Int)-1)) fun r3 =>
  M.bind (M.opt (!r3) (zae b 0 ((s_Marks.length:Int)-1)) false) fun r4 =>
  bif (r3||r4) then (
  M.pure (false,2))
  else (
  M.grd (decide ((0:Int)<=a)&&decide (a<(s_Marks.length:Int))) <|
  M.grd (decide ((0:Int)<=b)&&decide (b<(s_Marks.length:Int))) <|
  M.bind (zaU (s_Marks.getD (Int.toNat a) default) (s_Marks.getD (Int.toNat b) default)) fun r5 =>
  M.pure (r5,0)))
theorem zdU {R:List Chunk} {aq:Cells} {ae:Value} {au:Cells} {aa:Value} {av:Cells} {ag:Value} (s_Sections:List Sect) (s_Marks:List Mrk) (s_Reaches:List Rch) (a:Int) (b:Int) (aw:Reads R aq) (ax:Sl aq ae s_Sections) (ao:Reads R au) (ac:Sl au aa s_Marks) (ay:Reads R av) (az:Sl av ag s_Reaches) {r:(Bool × Int)} (hM:(zbW s_Sections s_Marks s_Reaches a b).Ends r) (w:World) (H:St w w [] R):Ret Tryz.prog 31 #[.agg #[ae,aa,ag],I a,I b] w fun v w'=>∃ (y0:Bool) (y1:Int),(y0,y1)=r/\v = .tuple #[B y0,I y1]/\St w w' [] R:=by
 refine ret_of_W Tryz.func31 rfl rfl rfl ?_
 refine W.seq ?_
 refine W.region rfl ?_
 refine t_box (v:=.agg #[ae,aa,ag]) (cs:=[ae,aa,ag]) H rfl rfl ?_
 intro ab aK H
 refine zA (B false) rfl ?_
 refine zA (I 0) rfl ?_
 refine s_nil ?_
 refine W.seq ?_
 refine W.seq ?_
 refine W.region rfl ?_
 refine s_val (x_ld (p:=Pq ab) (v:=.agg #[ae,aa,ag]) rfl (ldb_ag (ds:=[ae,aa,ag]) Ag81 Sz81 (H.bl 0) rfl rfl)) ?_
 obtain ⟨aL,aA,hM⟩:=M.e_bind hM
 refine s_call cf27 [.agg #[ae,aa,ag]] rfl (zbg s_Sections s_Marks s_Reaches (aw.app _) ax (ao.app _) ac (ay.app _) az aA _ (H.gt 1)) ?_
 rintro vq aM ⟨r2,aB,hvq,ai⟩
 subst aB
 subst vq
 try dsimp only at hM
 replace H:=H.bk ai
 clear ai
 refine zA (I r2) rfl ?_
 refine s_nil ?_
 refine W.seq ?_
 refine W.region rfl ?_
 refine zM (I r2) rfl ?_
 refine zC r2 0 (r2 != 0) rfl rfl rfl ?_
 refine s_nil ?_
 refine W.cond (r2 != 0) rfl (fun ak=>?_) (fun ak=>?_)
 ·replace hM:=M.e_t hM ak
  simp only [qy1,qy2,qy3,qy4,qy5,qy6,ne_eq,qy7] at ak
  refine W.seq ?_
  refine W.region rfl ?_
  refine zM (I r2) rfl ?_
  refine zA (B false) rfl ?_
  refine zA (I r2) rfl ?_
  refine s_nil ?_
  refine W.ret ?_
  have aj:=M.e_pure hM
  exact ⟨_,resE_tmp2 rfl,⟨false,r2,aj,rfl,(H.pk [])⟩⟩
 replace hM:=M.e_f hM ak
 simp only [qy1,qy2,qy3,qy4,qy5,qy6,ne_eq,qy7] at ak
 refine W.skip ?_
 refine W.seq ?_
 refine W.seq ?_
 refine W.region rfl ?_
 refine zM (I a) rfl ?_
 refine s_val (x_fa (a:=Pq ab) (v:=Oq ab 1) rfl (fa_blk (o:=0) Fd81_1 Sz78)) ?_
 refine s_val (x_ld (p:=Oq ab 1) (v:=aa) rfl (ldb_sc Sc78 (H.bl 0) rfl)) ?_
 have aN:=(ac).len_le
 refine s_val (x_lenS T78.und rfl ac) ?_
 refine zR (s_Marks.length:Int) 1 ((s_Marks.length:Int)-1) rfl rfl rfl (by omega) ?_
 obtain ⟨aO,aC,hM⟩:=M.e_bind hM
 refine s_call cf82 [I a,I 0,I ((s_Marks.length:Int)-1)] rfl (zaf a 0 ((s_Marks.length:Int)-1) aC _ (H.gt 1)) ?_
 rintro vq aP ⟨r3,aD,hvq,ai⟩
 subst aD
 subst vq
 try dsimp only at hM
 replace H:=H.bk ai
 clear ai
 refine zM (B r3) rfl ?_
 refine g_val (!r3) (gy_f rfl) (fun hg=>x_mv (v:=I b) rfl) ?_
 refine g_val (!r3) (gy_f rfl) (fun hg=>x_fa (a:=Pq ab) (v:=Oq ab 1) rfl (fa_blk (o:=0) Fd81_1 Sz78)) ?_
 refine g_val (!r3) (gy_f rfl) (fun hg=>x_ld (p:=Oq ab 1) (v:=aa) (gd_of (c:=!r3) hg (Oq ab 1)) (ldb_sc Sc78 (H.bl 0) rfl)) ?_
 have aQ:=(ac).len_le
 refine g_val (!r3) (gy_f rfl) (fun hg=>x_lenS T78.und (gd_of (c:=!r3) hg (aa)) ac) ?_
 refine g_val (!r3) (gy_f rfl) (fun hg=>x_ari (a:=(s_Marks.length:Int)) (b:=1) (r:=(s_Marks.length:Int)-1) (gd_of (c:=!r3) hg (I (s_Marks.length:Int))) rfl rfl (by first | omega | (have am:=hg; simp at am; omega))) ?_
 obtain ⟨r4,aE,hM⟩:=M.e_bind hM
 refine t_gcall (!r3) (gy_f rfl) cf82 (B r4) (fun _=>[I b,I 0,I ((s_Marks.length:Int)-1)]) (fun hg=>lst3 (gd_of (c:=!r3) hg (I b)) rfl (gd_of (c:=!r3) hg (I ((s_Marks.length:Int)-1)))) H (fun hg=>(zaf b 0 ((s_Marks.length:Int)-1) (M.e_opt aE hg) _ (H.give (A:=[]) rfl)).mono fun v_ w_ ⟨y_,aj,aF,H_⟩=>by subst aj; exact ⟨aF,H.via H_⟩) ?_
 intro aR H
 refine s_val (x_por (b:=r3) (r:=r4) rfl rfl (fun hb=>gd_of (c:=!r3) (by first | exact hb | (rw [hb]; rfl) | simp_all) (B r4))) ?_
 refine s_nil ?_
 refine W.cond (r3||r4) rfl (fun ap=>?_) (fun ap=>?_)
 ·replace hM:=M.e_t hM ap
  refine W.seq ?_
  refine W.region rfl ?_
  refine zA (B false) rfl ?_
  refine zA (I 2) rfl ?_
  refine s_nil ?_
  refine W.ret ?_
  have aj:=M.e_pure hM
  exact ⟨_,resE_tmp2 rfl,⟨false,2,aj,rfl,(H.pk [])⟩⟩
 replace hM:=M.e_f hM ap
 refine W.skip ?_
 refine W.seq ?_
 refine W.draw (fun W=>St w W [cBlk ab [ae,aa,ag] 81] R) [(0,true),(1,true),(2,true),(3,true),(4,true),(5,true),(6,true),(7,true),(8,true),(9,true),(10,false),(11,true),(12,true)] mixed (by decide +kernel) rfl ?_
 intro aS am
 replace H:=H.ext am
 clear am
 refine ⟨(H.pk [0]),?_⟩
 refine d_q rfl (fun w' H=>x_fa (a:=Pq ab) (v:=Oq ab 1) rfl (fa_blk (o:=0) Fd81_1 Sz78)) ?_
 refine d_q rfl (fun w' H=>x_ld (p:=Oq ab 1) (v:=aa) rfl (ldb_sc Sc78 (H.bl 0) rfl)) ?_
 refine d_q rfl (fun w' H=>x_mv (v:=I a) rfl) ?_
 obtain ⟨aG,hM⟩:=M.e_grd hM
 simp only [Bool.and_eq_true,decide_eq_true_eq] at aG
 refine d_q rfl (fun w' H=>x_ix (a:=aa) (b:=I a) (v:=vat aa 3 (Int.toNat a)) rfl rfl (Sl.ix (α:=Mrk) T78.und T78.size ac (by omega) (by omega))) ?_
 refine d_q rfl (fun w' H=>x_ld (p:=vat aa 3 (Int.toNat a)) (v:=.agg #[I ((s_Marks.getD (Int.toNat a) default).place),I ((s_Marks.getD (Int.toNat a) default).lo),I ((s_Marks.getD (Int.toNat a) default).hi)]) rfl (ld_ag Ag150 Sz150 (At.mono (Mrk_atA ac (i:=a) (by omega) (by omega)) (ao.at H)))) ?_
 refine d_q rfl (fun w' H=>x_fa (a:=Pq ab) (v:=Oq ab 1) rfl (fa_blk (o:=0) Fd81_1 Sz78)) ?_
 refine d_q rfl (fun w' H=>x_ld (p:=Oq ab 1) (v:=aa) rfl (ldb_sc Sc78 (H.bl 0) rfl)) ?_
 refine d_q rfl (fun w' H=>x_mv (v:=I b) rfl) ?_
 obtain ⟨aH,hM⟩:=M.e_grd hM
 simp only [Bool.and_eq_true,decide_eq_true_eq] at aH
 refine d_q rfl (fun w' H=>x_ix (a:=aa) (b:=I b) (v:=vat aa 3 (Int.toNat b)) rfl rfl (Sl.ix (α:=Mrk) T78.und T78.size ac (by omega) (by omega))) ?_
 refine d_q rfl (fun w' H=>x_ld (p:=vat aa 3 (Int.toNat b)) (v:=.agg #[I ((s_Marks.getD (Int.toNat b) default).place),I ((s_Marks.getD (Int.toNat b) default).lo),I ((s_Marks.getD (Int.toNat b) default).hi)]) rfl (ld_ag Ag150 Sz150 (At.mono (Mrk_atA ac (i:=b) (by omega) (by omega)) (ao.at H)))) ?_
 refine d_l rfl ?_
 obtain ⟨aT,aI,hM⟩:=M.e_bind hM
 refine s_call cf85 [.agg #[I ((s_Marks.getD (Int.toNat a) default).place),I ((s_Marks.getD (Int.toNat a) default).lo),I ((s_Marks.getD (Int.toNat a) default).hi)],.agg #[I ((s_Marks.getD (Int.toNat b) default).place),I ((s_Marks.getD (Int.toNat b) default).lo),I ((s_Marks.getD (Int.toNat b) default).hi)]] rfl (zcD (s_Marks.getD (Int.toNat a) default) (s_Marks.getD (Int.toNat b) default) aI _ (H.gt 1)) ?_
 rintro vq aU ⟨r5,aJ,hvq,ai⟩
 subst aJ
 subst vq
 try dsimp only at hM
 replace H:=H.bk ai
 clear ai
 refine s_nil ⟨(H.pk [0]),?_⟩
 refine d_q rfl (fun w' H=>x_as (v:=B r5) rfl) ?_
 refine d_q rfl (fun w' H=>x_as (v:=I 0) rfl) ?_
 refine d_nil ?_
 refine W.ret ?_
 have aj:=M.e_pure hM
 exact ⟨_,resE_tmp2 rfl,⟨r5,0,aj,rfl,(H.pk [])⟩⟩

def zbz (s_Marks:List Mrk) (marks:List Int) (i:Nat):Nat->M (Nat ⊕ (Unit ⊕ Unit)):=fun k =>
  bif decide ((k:Int)<(i:Int)) then (
  M.grd (decide ((i:Int)<(marks.length:Int))) <|
  M.grd (decide ((0:Int)<=(marks.getD i 0))&&decide ((marks.getD i 0)<(s_Marks.length:Int))) <|
  M.grd (decide ((k:Int)<(marks.length:Int))) <|
  M.grd (decide ((0:Int)<=(marks.getD k 0))&&decide ((marks.getD k 0)<(s_Marks.length:Int))) <|
  M.bind (zaU (s_Marks.getD (Int.toNat (marks.getD i 0)) default) (s_Marks.getD (Int.toNat (marks.getD k 0)) default)) fun r2 =>
  bif r2 then (
  M.pure (.inr (.inl ())))
  else (
  M.pure (.inl (k+1))))
  else (
  M.pure (.inr (.inr ())))
def zbh (s_Marks:List Mrk) (marks:List Int):Nat->M (Nat ⊕ (Unit ⊕ Unit)):=fun i =>
  bif decide ((i:Int)<(marks.length:Int)) then (
  M.bind (M.iter (zbz s_Marks marks i) 0) fun x_=>match x_ with
  | (.inl (_:Unit))=>(
  M.pure (.inr (.inl ())))
  | (.inr (_:Unit))=>(
  M.pure (.inl (i+1))))
  else (
  M.pure (.inr (.inr ())))
def zbr (s_Sections:List Sect) (s_Marks:List Mrk) (s_Reaches:List Rch) (marks:List Int):M Bool :=
  M.bind (M.iter (zbh s_Marks marks) 0) fun x_=>match x_ with
  | (.inl (_:Unit))=>(
  M.pure false)
  | (.inr (_:Unit))=>(
  M.pure true)
theorem zdc {R:List Chunk} {ax:Cells} {ae:Value} {ay:Cells} {aa:Value} {az:Cells} {ag:Value} {aA:Cells} {ab:Value} (s_Sections:List Sect) (s_Marks:List Mrk) (s_Reaches:List Rch) (marks:List Int) (a6:Reads R ax) (a7:Sl ax ae s_Sections) (aB:Reads R ay) (am:Sl ay aa s_Marks) (a8:Reads R az) (ba:Sl az ag s_Reaches) (aC:Reads R aA) (ai:Sl aA ab marks) {r:Bool} (hM:(zbr s_Sections s_Marks s_Reaches marks).Ends r) (w:World) (H:St w w [] R):Ret Tryz.prog 34 #[.agg #[ae,aa,ag],ab] w fun v w'=>∃ (y0:Bool),y0=r/\v=B y0/\St w w' [] R:=by
 refine ret_of_W Tryz.func34 rfl rfl rfl ?_
 refine W.seq ?_
 refine W.region rfl ?_
 refine t_box (v:=.agg #[ae,aa,ag]) (cs:=[ae,aa,ag]) H rfl rfl ?_
 intro ac bb H
 refine zA (B false) rfl ?_
 refine s_nil ?_
 refine W.seq ?_
 refine W.seq ?_
 refine W.region rfl ?_
 refine zA (I 0) rfl ?_
 refine s_nil ?_
 refine W.block ?_
 obtain ⟨aJ,ao,aD⟩:=M.e_bind hM
 obtain ⟨aK,ao⟩:=M.e_iter ao
 refine W.loop (fun m σ W=>∃ (i:Nat) (ρ:Env),σ=upds ρ [(1,ab),(2,Pq ac),(5,I (i:Int))]/\M.iterN (zbh s_Marks marks) m i=some aJ/\St w W [cBlk ac [ae,aa,ag] 81] R) ?_ ?_
 ·exact ⟨_,0,_,upds_of _ _ ⟨rfl,rfl,rfl,trivial⟩,ao,H⟩
 rintro bc σ bf ⟨i,ρ,rfl,aE,H⟩
 obtain ⟨aL,aM,bh,hM,ap⟩:=M.e_iterN aE
 simp only [zbh] at hM
 clear aE
 refine W.seq ?_
 refine W.seq ?_
 refine W.region rfl ?_
 refine zM (I (i:Int)) rfl ?_
 refine zM ab rfl ?_
 have bi:=(ai).len_le
 refine s_val (x_lenS T28.und rfl ai) ?_
 refine zC (i:Int) (marks.length:Int) (decide ((i:Int)<(marks.length:Int))) rfl rfl rfl ?_
 refine s_nil ?_
 refine W.cond (decide ((i:Int)<(marks.length:Int))) rfl (fun aj=>?_) (fun aj=>?_)
 ·replace hM:=M.e_t hM aj
  simp only [qy1,qy2,qy3,qy4,qy5,qy6,ne_eq,qy7] at aj
  refine W.skip ?_
  refine W.seq ?_
  refine W.block ?_
  refine W.seq ?_
  refine W.region rfl ?_
  refine zA (I 0) rfl ?_
  refine s_nil ?_
  refine W.block ?_
  obtain ⟨aN,aq,aF⟩:=M.e_bind hM
  obtain ⟨aK,aq⟩:=M.e_iter aq
  refine W.loop (fun m σ W=>∃ (k:Nat) (ρ:Env),σ=upds ρ [(1,ab),(2,Pq ac),(5,I (i:Int)),(6,I (k:Int))]/\M.iterN (zbz s_Marks marks i) m k=some aN/\St w W [cBlk ac [ae,aa,ag] 81] R) ?_ ?_
  ·exact ⟨_,0,_,upds_of _ _ ⟨rfl,rfl,rfl,rfl,trivial⟩,aq,H⟩
  rintro bj σ bm ⟨k,ρ,rfl,aG,H⟩
  obtain ⟨aO,aP,bn,hM,au⟩:=M.e_iterN aG
  simp only [zbz] at hM
  clear aG
  refine W.seq ?_
  refine W.seq ?_
  refine W.region rfl ?_
  refine zM (I (k:Int)) rfl ?_
  refine zM (I (i:Int)) rfl ?_
  refine zC (k:Int) (i:Int) (decide ((k:Int)<(i:Int))) rfl rfl rfl ?_
  refine s_nil ?_
  refine W.cond (decide ((k:Int)<(i:Int))) rfl (fun ak=>?_) (fun ak=>?_)
  ·replace hM:=M.e_t hM ak
   simp only [qy1,qy2,qy3,qy4,qy5,qy6,ne_eq,qy7] at ak
   refine W.skip ?_
   refine W.seq ?_
   refine W.block ?_
   refine W.seq ?_
   refine W.draw (fun W=>St w W [cBlk ac [ae,aa,ag] 81] R) [(0,true),(1,true),(2,true),(3,true),(4,true),(5,true),(6,true),(7,true),(8,true),(9,true),(10,true),(11,true),(12,true),(13,true),(14,true),(15,true),(16,false)] mixed (by decide +kernel) rfl ?_
   intro bo aH
   replace H:=H.ext aH
   clear aH
   refine ⟨(H.pk [0]),?_⟩
   refine d_q rfl (fun w' H=>x_fa (a:=Pq ac) (v:=Oq ac 1) rfl (fa_blk (o:=0) Fd81_1 Sz78)) ?_
   refine d_q rfl (fun w' H=>x_ld (p:=Oq ac 1) (v:=aa) rfl (ldb_sc Sc78 (H.bl 0) rfl)) ?_
   refine d_q rfl (fun w' H=>x_mv (v:=ab) rfl) ?_
   refine d_q rfl (fun w' H=>x_mv (v:=I (i:Int)) rfl) ?_
   obtain ⟨aQ,hM⟩:=M.e_grd hM
   simp only [Bool.and_eq_true,decide_eq_true_eq] at aQ
   refine d_q rfl (fun w' H=>x_ix (a:=ab) (b:=I (i:Int)) (v:=vat ab 1 (Int.toNat (i:Int))) rfl rfl (Sl.ix (α:=Int) T28.und T28.size ai (by omega) (by omega))) ?_
   refine d_q rfl (fun w' H=>x_ld (p:=vat ab 1 (Int.toNat (i:Int))) (v:=I (marks.getD i 0)) rfl (ld_sc Sc3 (At.mono (Int_at ai (i:=(i:Int)) (by omega) (by omega)) (aC.at H)))) ?_
   obtain ⟨aR,hM⟩:=M.e_grd hM
   simp only [Bool.and_eq_true,decide_eq_true_eq] at aR
   refine d_q rfl (fun w' H=>x_ix (a:=aa) (b:=I (marks.getD i 0)) (v:=vat aa 3 (Int.toNat (marks.getD i 0))) rfl rfl (Sl.ix (α:=Mrk) T78.und T78.size am (by omega) (by omega))) ?_
   refine d_q rfl (fun w' H=>x_ld (p:=vat aa 3 (Int.toNat (marks.getD i 0))) (v:=.agg #[I ((s_Marks.getD (Int.toNat (marks.getD i 0)) default).place),I ((s_Marks.getD (Int.toNat (marks.getD i 0)) default).lo),I ((s_Marks.getD (Int.toNat (marks.getD i 0)) default).hi)]) rfl (ld_ag Ag150 Sz150 (At.mono (Mrk_atA am (i:=marks.getD i 0) (by omega) (by omega)) (aB.at H)))) ?_
   refine d_q rfl (fun w' H=>x_fa (a:=Pq ac) (v:=Oq ac 1) rfl (fa_blk (o:=0) Fd81_1 Sz78)) ?_
   refine d_q rfl (fun w' H=>x_ld (p:=Oq ac 1) (v:=aa) rfl (ldb_sc Sc78 (H.bl 0) rfl)) ?_
   refine d_q rfl (fun w' H=>x_mv (v:=ab) rfl) ?_
   refine d_q rfl (fun w' H=>x_mv (v:=I (k:Int)) rfl) ?_
   obtain ⟨aS,hM⟩:=M.e_grd hM
   simp only [Bool.and_eq_true,decide_eq_true_eq] at aS
   refine d_q rfl (fun w' H=>x_ix (a:=ab) (b:=I (k:Int)) (v:=vat ab 1 (Int.toNat (k:Int))) rfl rfl (Sl.ix (α:=Int) T28.und T28.size ai (by omega) (by omega))) ?_
   refine d_q rfl (fun w' H=>x_ld (p:=vat ab 1 (Int.toNat (k:Int))) (v:=I (marks.getD k 0)) rfl (ld_sc Sc3 (At.mono (Int_at ai (i:=(k:Int)) (by omega) (by omega)) (aC.at H)))) ?_
   obtain ⟨aT,hM⟩:=M.e_grd hM
   simp only [Bool.and_eq_true,decide_eq_true_eq] at aT
   refine d_q rfl (fun w' H=>x_ix (a:=aa) (b:=I (marks.getD k 0)) (v:=vat aa 3 (Int.toNat (marks.getD k 0))) rfl rfl (Sl.ix (α:=Mrk) T78.und T78.size am (by omega) (by omega))) ?_
   refine d_q rfl (fun w' H=>x_ld (p:=vat aa 3 (Int.toNat (marks.getD k 0))) (v:=.agg #[I ((s_Marks.getD (Int.toNat (marks.getD k 0)) default).place),I ((s_Marks.getD (Int.toNat (marks.getD k 0)) default).lo),I ((s_Marks.getD (Int.toNat (marks.getD k 0)) default).hi)]) rfl (ld_ag Ag150 Sz150 (At.mono (Mrk_atA am (i:=marks.getD k 0) (by omega) (by omega)) (aB.at H)))) ?_
   refine d_l rfl ?_
   obtain ⟨bp,aU,hM⟩:=M.e_bind hM
   refine s_call cf85 [.agg #[I ((s_Marks.getD (Int.toNat (marks.getD i 0)) default).place),I ((s_Marks.getD (Int.toNat (marks.getD i 0)) default).lo),I ((s_Marks.getD (Int.toNat (marks.getD i 0)) default).hi)],.agg #[I ((s_Marks.getD (Int.toNat (marks.getD k 0)) default).place),I ((s_Marks.getD (Int.toNat (marks.getD k 0)) default).lo),I ((s_Marks.getD (Int.toNat (marks.getD k 0)) default).hi)]] rfl (zcD (s_Marks.getD (Int.toNat (marks.getD i 0)) default) (s_Marks.getD (Int.toNat (marks.getD k 0)) default) aU _ (H.gt 1)) ?_
   rintro vq bq ⟨r2,aV,hvq,aI⟩
   subst aV
   subst vq
   try dsimp only at hM
   replace H:=H.bk aI
   clear aI
   refine s_nil ⟨(H.pk [0]),?_⟩
   refine d_nil ?_
   refine W.cond r2 rfl (fun av=>?_) (fun av=>?_)
   ·replace hM:=M.e_t hM av
    refine W.seq ?_
    refine W.region rfl ?_
    refine zA (B false) rfl ?_
    refine s_nil ?_
    refine W.ret ?_
    have aW:=M.e_inr hM au
    subst aW
    replace hM:=aF
    try dsimp only at hM
    have aX:=M.e_inr hM ap
    subst aX
    replace hM:=aD
    try dsimp only at hM
    have aw:=M.e_pure hM
    exact ⟨_,resE_tmp rfl,⟨false,aw,rfl,(H.pk [])⟩⟩
   replace hM:=M.e_f hM av
   refine W.skip ?_
   refine W.region rfl ?_
   refine zM (I (k:Int)) rfl ?_
   refine zR (k:Int) 1 ((k:Int)+1) rfl rfl rfl (by omega) ?_
   refine zA (I ((k:Int)+1)) rfl ?_
   refine s_nil ?_
   exact ⟨aO,aP,k+1,_,upds_of _ _ ⟨rfl,rfl,rfl,rfl,trivial⟩,M.e_inl hM au,H⟩
  replace hM:=M.e_f hM ak
  simp only [qy1,qy2,qy3,qy4,qy5,qy6,ne_eq,qy7] at ak
  refine W.exit ?_
  have aY:=M.e_inr hM au
  subst aY
  replace hM:=aF
  try dsimp only at hM
  refine W.region rfl ?_
  refine zM (I (i:Int)) rfl ?_
  refine zR (i:Int) 1 ((i:Int)+1) rfl rfl rfl (by omega) ?_
  refine zA (I ((i:Int)+1)) rfl ?_
  refine s_nil ?_
  exact ⟨aL,aM,i+1,_,upds_of _ _ ⟨rfl,rfl,rfl,trivial⟩,M.e_inl hM ap,H⟩
 replace hM:=M.e_f hM aj
 simp only [qy1,qy2,qy3,qy4,qy5,qy6,ne_eq,qy7] at aj
 refine W.exit ?_
 have aZ:=M.e_inr hM ap
 subst aZ
 replace hM:=aD
 try dsimp only at hM
 refine W.seq ?_
 refine W.region rfl ?_
 refine zA (B true) rfl ?_
 refine s_nil ?_
 refine W.ret ?_
 have aw:=M.e_pure hM
 exact ⟨_,resE_tmp rfl,⟨true,aw,rfl,(H.pk [])⟩⟩

end Go.Proofs.YtlemgioaakecpaaGreat
end
