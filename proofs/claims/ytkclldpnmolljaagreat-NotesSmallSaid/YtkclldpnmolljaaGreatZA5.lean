/- Part 5 of the texts on which the proof rests. Conditions: none. -/
import Derived.Test.YtkclldpnmolljaaGreatZA4
set_option linter.unusedVariables false
set_option linter.unusedSimpArgs false
set_option linter.unusedSectionVars false
section
set_option maxRecDepth 100000
set_option maxHeartbeats 16000000
namespace Go.Proofs.YtkclldpnmolljaaGreat
open Go Go.Nm
attribute [local irreducible] gd execOp SL SLD SLT WR
theorem zfH {R:List Chunk}    {r:Bool} (hM:(zc3).Ends r) (w:World) (H:St w w [] R):Ret Tryz.prog 3 #[] w fun v w'=>∃ (y0:Bool),y0=r/\v=B y0/\St w w' [] R:=by
 refine ret_of_W Tryz.func3 rfl rfl rfl ?_;refine kg 7 ?_;refine t_bs (α:=Int) T22 [I (-2),I (-1),I 0,I 1,I 2,I 3,I 4,I 5,I 6,I 7,I 8,I 9,I 10,I 20,I 26,I 29,I 30,I 31,I 9999,I 10000,I 10001,I 999999,I 1000000,I 1000001,I 1000002,I 1000003,I 9223372036854775807,I (-9223372036854775808)] vl28 H rfl (.cons rfl (Flat.rep_enc _ (-2:Int))<|.cons rfl (Flat.rep_enc _ (-1:Int))<|.cons rfl (Flat.rep_enc _ (0:Int))<|.cons rfl (Flat.rep_enc _ (1:Int))<|.cons rfl (Flat.rep_enc _ (2:Int))<|.cons rfl (Flat.rep_enc _ (3:Int))<|.cons rfl (Flat.rep_enc _ (4:Int))<|.cons rfl (Flat.rep_enc _ (5:Int))<|.cons rfl (Flat.rep_enc _ (6:Int))<|.cons rfl (Flat.rep_enc _ (7:Int))<|.cons rfl (Flat.rep_enc _ (8:Int))<|.cons rfl (Flat.rep_enc _ (9:Int))<|.cons rfl (Flat.rep_enc _ (10:Int))<|.cons rfl (Flat.rep_enc _ (20:Int))<|.cons rfl (Flat.rep_enc _ (26:Int))<|.cons rfl (Flat.rep_enc _ (29:Int))<|.cons rfl (Flat.rep_enc _ (30:Int))<|.cons rfl (Flat.rep_enc _ (31:Int))<|.cons rfl (Flat.rep_enc _ (9999:Int))<|.cons rfl (Flat.rep_enc _ (10000:Int))<|.cons rfl (Flat.rep_enc _ (10001:Int))<|.cons rfl (Flat.rep_enc _ (999999:Int))<|.cons rfl (Flat.rep_enc _ (1000000:Int))<|.cons rfl (Flat.rep_enc _ (1000001:Int))<|.cons rfl (Flat.rep_enc _ (1000002:Int))<|.cons rfl (Flat.rep_enc _ (1000003:Int))<|.cons rfl (Flat.rep_enc _ (9223372036854775807:Int))<|.cons rfl (Flat.rep_enc _ (-9223372036854775808:Int))<|.nil) rfl rfl rfl ?_;intro bn xH H
 have xI:=((H.os 0)).len_le
 refine kg 4 ?_;obtain ⟨lX,gE,j1⟩:=M.e_bind hM
 obtain ⟨dh,gE⟩:=M.e_iter gE
 refine W.loop (fun m σ W=>∃ (s5:Nat) (ρ:Env),σ=upds ρ [(30,bn),(31,I ((vl28).length:Int)),(32,I (s5:Int))]/\M.iterN (zev) m s5=some lX/\St w W [cOwn (α:=Int) 3 bn (vl28)] R) ?_ ?_
 ·exact ⟨_,0,_,upds_of _ _ ⟨rfl,rfl,rfl,trivial⟩,gE,H⟩
 rintro xJ σ xK ⟨s5,ρ,rfl,j2,H⟩
 obtain ⟨lY,lZ,xL,hM,gF⟩:=M.e_iterN j2
 clear j2;refine kg 5 ?_
 refine W.cond (decide ((s5:Int)<((vl28).length:Int))) rfl (fun cv=>?_) (fun cv=>?_)
 ·replace hM:=M.e_t hM cv
  replace cv:=dI cv
  obtain ⟨xM,hM⟩:=M.e_gd hM;refine kg 14 ?_;obtain ⟨l0,gG,j3⟩:=M.e_bind hM
  obtain ⟨dh,gG⟩:=M.e_iter gG
  refine W.loop (fun m σ W=>∃ (s4:Nat) (ρ:Env),σ=upds ρ [(2,I ((vl28).getD s5 0)),(30,bn),(31,I ((vl28).length:Int)),(32,I (s5:Int)),(36,I (s4:Int))]/\M.iterN (zdf s5) m s4=some l0/\St w W [cOwn (α:=Int) 3 bn (vl28)] R) ?_ ?_
  ·exact ⟨_,0,_,upds_of _ _ ⟨rfl,rfl,rfl,rfl,rfl,trivial⟩,gG,H⟩
  rintro xN σ xO ⟨s4,ρ,rfl,j4,H⟩
  obtain ⟨ma,mb,mc,hM,gH⟩:=M.e_iterN j4
  clear j4;refine kg 5 ?_
  refine W.cond (decide ((s4:Int)<21)) rfl (fun cw=>?_) (fun cw=>?_)
  ·replace hM:=M.e_t hM cw
   replace cw:=dI cw
   refine kg 10 ?_;refine s_call cf4 [] rfl (zgv _ (H.gt 1)) ?_
   rintro aB xP ⟨bK,bL,bS,me,aw,ax,aq,au,av,ay,aY,aZ,aT,aU,aV,a0,aC⟩
   replace H:=H.bk aC;clear aC;refine t_bs (α:=Int) T22 [I 1,I 3,I 4] [(1:Int),(3:Int),(4:Int)] H rfl (.cons rfl (Flat.rep_enc _ (1:Int))<|.cons rfl (Flat.rep_enc _ (3:Int))<|.cons rfl (Flat.rep_enc _ (4:Int))<|.nil) rfl rfl rfl ?_;intro aL xQ H;refine t_alloc (cs:=[I 0]) H Al3 rfl ?_;intro cx xR H;refine t_alloc (cs:=[I 0]) H Al3 rfl ?_;intro cy xS H;refine kg 2 ?_;refine t_sw 1 0 [I 0] (I 0) H rfl rfl Sz3 rfl rfl rfl rfl ?_;intro xT H;refine t_sw 0 0 [I 5] (I 5) H rfl rfl Sz3 rfl rfl rfl rfl ?_;intro xU H;refine kg 3 ?_;refine s_val (x_bld (ps:=[(0,I 0),(1,I 3),(2,I 8)]) (zs:=[I 0,I 0,I 0]) (L':=[I 0,I 3,I 8]) rfl Tryz.underlying26 Al26 rfl (Bd26 Tryz.underlying26) (.cons (cs:=[I 0]) rfl rfl rfl rfl rfl<|.cons (cs:=[I 3]) rfl rfl rfl rfl rfl<|.cons (cs:=[I 8]) rfl rfl rfl rfl rfl<|.nil))<|s_val (x_bld (ps:=[(0,I 0),(1,I 2),(2,I 7)]) (zs:=[I 0,I 0,I 0]) (L':=[I 0,I 2,I 7]) rfl Tryz.underlying26 Al26 rfl (Bd26 Tryz.underlying26) (.cons (cs:=[I 0]) rfl rfl rfl rfl rfl<|.cons (cs:=[I 2]) rfl rfl rfl rfl rfl<|.cons (cs:=[I 7]) rfl rfl rfl rfl rfl<|.nil))<|s_val (x_bld (ps:=[(0,I 1),(2,I 9)]) (zs:=[I 0,I 0,I 0]) (L':=[I 1,I 0,I 9]) rfl Tryz.underlying26 Al26 rfl (Bd26 Tryz.underlying26) (.cons (cs:=[I 1]) rfl rfl rfl rfl rfl<|.cons (cs:=[I 9]) rfl rfl rfl rfl rfl<|.nil)) ?_;refine t_bs (α:=Note) T27 [.agg #[I 0,I 3,I 8],.agg #[I 0,I 2,I 7],.agg #[I 1,I 0,I 9]] [(⟨(0:Int),(3:Int),(8:Int)⟩:Note),(⟨(0:Int),(2:Int),(7:Int)⟩:Note),(⟨(1:Int),(0:Int),(9:Int)⟩:Note)] H rfl (.cons rfl (Flat.rep_enc _ (⟨(0:Int),(3:Int),(8:Int)⟩:Note))<|.cons rfl (Flat.rep_enc _ (⟨(0:Int),(2:Int),(7:Int)⟩:Note))<|.cons rfl (Flat.rep_enc _ (⟨(1:Int),(0:Int),(9:Int)⟩:Note))<|.nil) rfl rfl rfl ?_;intro al xV H;refine kg 4 ?_;refine s_val (x_bld (ps:=[(0,I 2),(1,I 26)]) (zs:=[I 0,I 0]) (L':=[I 2,I 26]) rfl Tryz.underlying29 Al29 rfl (Bd29 Tryz.underlying29) (.cons (cs:=[I 2]) rfl rfl rfl rfl rfl<|.cons (cs:=[I 26]) rfl rfl rfl rfl rfl<|.nil))<|s_val (x_bld (ps:=[(0,I 3),(1,I 10)]) (zs:=[I 0,I 0]) (L':=[I 3,I 10]) rfl Tryz.underlying29 Al29 rfl (Bd29 Tryz.underlying29) (.cons (cs:=[I 3]) rfl rfl rfl rfl rfl<|.cons (cs:=[I 10]) rfl rfl rfl rfl rfl<|.nil)) ?_;refine t_bs (α:=Pub) T30 [.agg #[I 2,I 26],.agg #[I 3,I 10]] [(⟨(2:Int),(26:Int)⟩:Pub),(⟨(3:Int),(10:Int)⟩:Pub)] H rfl (.cons rfl (Flat.rep_enc _ (⟨(2:Int),(26:Int)⟩:Pub))<|.cons rfl (Flat.rep_enc _ (⟨(3:Int),(10:Int)⟩:Pub))<|.nil) rfl rfl rfl ?_;intro aD xW H;refine kg 4 ?_;refine t_bs (α:=Int) T22 [I 0,I 1] [(0:Int),(1:Int)] H rfl (.cons rfl (Flat.rep_enc _ (0:Int))<|.cons rfl (Flat.rep_enc _ (1:Int))<|.nil) rfl rfl rfl ?_;intro aG xX H;refine t_bs (α:=Int) T22 [I 0,I 2,I 4,I 5] [(0:Int),(2:Int),(4:Int),(5:Int)] H rfl (.cons rfl (Flat.rep_enc _ (0:Int))<|.cons rfl (Flat.rep_enc _ (2:Int))<|.cons rfl (Flat.rep_enc _ (4:Int))<|.cons rfl (Flat.rep_enc _ (5:Int))<|.nil) rfl rfl rfl ?_;intro aM xY H;refine t_bs (α:=Int) T22 [I 2,I 3] [(2:Int),(3:Int)] H rfl (.cons rfl (Flat.rep_enc _ (2:Int))<|.cons rfl (Flat.rep_enc _ (3:Int))<|.nil) rfl rfl rfl ?_;intro aN xZ H;refine t_bs (α:=Int) T22 [I 1,I 2,I 4] [(1:Int),(2:Int),(4:Int)] H rfl (.cons rfl (Flat.rep_enc _ (1:Int))<|.cons rfl (Flat.rep_enc _ (2:Int))<|.cons rfl (Flat.rep_enc _ (4:Int))<|.nil) rfl rfl rfl ?_;intro bM x0 H;refine t_bs (α:=Int) T22 [I 1,I 3,I 4] [(1:Int),(3:Int),(4:Int)] H rfl (.cons rfl (Flat.rep_enc _ (1:Int))<|.cons rfl (Flat.rep_enc _ (3:Int))<|.cons rfl (Flat.rep_enc _ (4:Int))<|.nil) rfl rfl rfl ?_;intro bN x1 H
   obtain ⟨az,aQ⟩:∃ r:Raw 0,r.cs=[bM]:=⟨Raw.of [bM] rfl (by simp only [List.all_cons,List.all_nil,Bool.true_and,Bool.and_true,Sl.oc (H.os 1)]; try rfl),rfl⟩
   obtain ⟨aA,aR⟩:∃ r:Raw 0,r.cs=[bN]:=⟨Raw.of [bN] rfl (by simp only [List.all_cons,List.all_nil,Bool.true_and,Bool.and_true,Sl.oc (H.os 0)]; try rfl),rfl⟩
   refine t_bs (α:=Raw 0) T31 [bM,bN] [az,aA] H rfl (.cons (by rw [show (Flat.enc az:List Value)=az.cs from rfl,aQ]; exact Sl.cells (H.os 1)) (Flat.rep_enc _ _)<|.cons (by rw [show (Flat.enc aA:List Value)=aA.cs from rfl,aR]; exact Sl.cells (H.os 0)) (Flat.rep_enc _ _)<|.nil) rfl rfl rfl ?_;intro aO x2 H;replace H:=H.nf;refine t_alloc (cs:=[I 0]) H Al3 rfl ?_;intro cz x3 H;refine kg 3 ?_;refine t_sw 0 0 [I 4] (I 4) H rfl rfl Sz3 rfl rfl rfl rfl ?_;intro x5 H;refine kg 3 ?_;refine W.draw (fun W=>St w W [cBlk cz [I 4] 3,cOwn (α:=Raw 0) 22 aO ([az,aA]),cOwn (α:=Int) 3 bN ([(1:Int),(3:Int),(4:Int)]),cOwn (α:=Int) 3 bM ([(1:Int),(2:Int),(4:Int)]),cOwn (α:=Int) 3 aN ([(2:Int),(3:Int)]),cOwn (α:=Int) 3 aM ([(0:Int),(2:Int),(4:Int),(5:Int)]),cOwn (α:=Int) 3 aG ([(0:Int),(1:Int)]),cOwn (α:=Pub) 29 aD ([(⟨(2:Int),(26:Int)⟩:Pub),(⟨(3:Int),(10:Int)⟩:Pub)]),cOwn (α:=Note) 26 al ([(⟨(0:Int),(3:Int),(8:Int)⟩:Note),(⟨(0:Int),(2:Int),(7:Int)⟩:Note),(⟨(1:Int),(0:Int),(9:Int)⟩:Note)]),cBlk cy [I 5] 3,cBlk cx [I 0] 3,cOwn (α:=Int) 3 aL ([(1:Int),(3:Int),(4:Int)]),cOwn (α:=Raw 2) 34 aB ([aw,ax,aq,au,av,ay]),cOwn (α:=Int) 3 me ([(4:Int)]),cOwn (α:=Int) 3 bS ([(2:Int),(3:Int)]),cOwn (α:=Int) 3 bL ([(1:Int)]),cOwn (α:=Int) 3 bK ([(0:Int),(1:Int)]),cOwn (α:=Int) 3 bn (vl28)] R) [(0,true),(1,true),(2,true),(3,true),(4,true),(5,true),(6,true),(7,true),(8,true),(9,true),(10,true),(11,true),(12,true),(13,true),(14,true),(15,true),(16,true),(17,true),(18,true),(19,true),(20,true),(21,true),(22,true),(23,true),(24,true),(25,true),(26,true),(27,true),(28,true),(29,true),(30,true),(31,true),(32,true),(33,true),(34,true),(35,true),(36,true),(37,true),(38,true),(39,true),(40,true),(41,true),(42,true),(43,true),(44,true),(45,true),(46,true),(47,true),(48,true),(49,true),(50,true),(51,true),(52,true),(53,true),(54,true),(55,true),(56,true),(57,false),(58,true)] mixed (by decide +kernel) rfl ?_;intro x6 ag;replace H:=H.ext ag;clear ag
   refine ⟨(H.pk [0,1,2,3,4,5,6,7,8,9,10,11,12,13,14,15,16,17]),?_⟩
   obtain ⟨x7,hM⟩:=M.e_gd hM;refine kg 1 ?_;refine d_q rfl (fun w' H=>x_ix (v:=vat aB 3 (Int.toNat 2)) rfl rfl (Sl.ix (α:=Raw 2) T23.und T23.size (H.os 12) (by omega) (by first | omega | (simp only [List.length_cons,List.length_nil]; omega))))<|d_q rfl (fun w' H=>x_fa (v:=fat (vat aB 3 (Int.toNat 2)) 0) rfl (fa_pl Fd34_0 Sz22 (Sl.pl (i:=2) (H.os 12) (by omega) (by first | omega | (simp only [List.length_cons,List.length_nil]; omega)))))<|d_q rfl (fun w' H=>x_ld (v:=bK) rfl (ld_sc Sc22 (At.mono (At.fld (lz_at (i:=2) (k:=2) (r:=aq) (H.os 12) rfl rfl aT) 0 1) (H.ol 12)))) ?_;obtain ⟨x8,hM⟩:=M.e_gd hM;refine d_q rfl (fun w' H=>x_ix (v:=vat bK 1 (Int.toNat 0)) rfl rfl (Sl.ix (α:=Int) T22.und T22.size (H.os 16) (by omega) (by omega))) ?_;obtain ⟨ya,hM⟩:=M.e_gd hM;refine kg 1 ?_;refine d_q rfl (fun w' H=>x_ix (v:=vat aB 3 (Int.toNat 3)) rfl rfl (Sl.ix (α:=Raw 2) T23.und T23.size (H.os 12) (by omega) (by first | omega | (simp only [List.length_cons,List.length_nil]; omega))))<|d_q rfl (fun w' H=>x_fa (v:=fat (vat aB 3 (Int.toNat 3)) 0) rfl (fa_pl Fd34_0 Sz22 (Sl.pl (i:=3) (H.os 12) (by omega) (by first | omega | (simp only [List.length_cons,List.length_nil]; omega)))))<|d_q rfl (fun w' H=>x_ld (v:=bL) rfl (ld_sc Sc22 (At.mono (At.fld (lz_at (i:=3) (k:=3) (r:=au) (H.os 12) rfl rfl aU) 0 1) (H.ol 12)))) ?_;obtain ⟨yb,hM⟩:=M.e_gd hM;refine d_q rfl (fun w' H=>x_ix (v:=vat bL 1 (Int.toNat 0)) rfl rfl (Sl.ix (α:=Int) T22.und T22.size (H.os 15) (by omega) (by omega))) ?_;obtain ⟨yc,hM⟩:=M.e_gd hM;refine kg 1 ?_;refine d_q rfl (fun w' H=>x_ix (v:=vat aB 3 (Int.toNat 4)) rfl rfl (Sl.ix (α:=Raw 2) T23.und T23.size (H.os 12) (by omega) (by first | omega | (simp only [List.length_cons,List.length_nil]; omega))))<|d_q rfl (fun w' H=>x_fa (v:=fat (vat aB 3 (Int.toNat 4)) 0) rfl (fa_pl Fd34_0 Sz22 (Sl.pl (i:=4) (H.os 12) (by omega) (by first | omega | (simp only [List.length_cons,List.length_nil]; omega)))))<|d_q rfl (fun w' H=>x_ld (v:=bS) rfl (ld_sc Sc22 (At.mono (At.fld (lz_at (i:=4) (k:=4) (r:=av) (H.os 12) rfl rfl aV) 0 1) (H.ol 12)))) ?_;obtain ⟨yd,hM⟩:=M.e_gd hM;refine d_q rfl (fun w' H=>x_ix (v:=vat bS 1 (Int.toNat 1)) rfl rfl (Sl.ix (α:=Int) T22.und T22.size (H.os 14) (by omega) (by omega))) ?_;refine kg 1 ?_;refine d_q rfl (fun w' H=>x_ix (v:=vat aB 3 (Int.toNat 2)) rfl rfl (Sl.ix (α:=Raw 2) T23.und T23.size (H.os 12) (by omega) (by first | omega | (simp only [List.length_cons,List.length_nil]; omega))))<|d_q rfl (fun w' H=>x_fa (v:=fat (vat aB 3 (Int.toNat 2)) 1) rfl (fa_pl Fd34_1 Sz3 (Sl.pl (i:=2) (H.os 12) (by omega) (by first | omega | (simp only [List.length_cons,List.length_nil]; omega))))) ?_;refine kg 1 ?_;refine d_q rfl (fun w' H=>x_ix (v:=vat aB 3 (Int.toNat 3)) rfl rfl (Sl.ix (α:=Raw 2) T23.und T23.size (H.os 12) (by omega) (by first | omega | (simp only [List.length_cons,List.length_nil]; omega))))<|d_q rfl (fun w' H=>x_fa (v:=fat (vat aB 3 (Int.toNat 3)) 2) rfl (fa_pl Fd34_2 Sz3 (Sl.pl (i:=3) (H.os 12) (by omega) (by first | omega | (simp only [List.length_cons,List.length_nil]; omega)))))<|d_q rfl (fun w' H=>x_mv (v:=aL) rfl) ?_;obtain ⟨ye,hM⟩:=M.e_gd hM;refine d_q rfl (fun w' H=>x_ix (v:=vat aL 1 (Int.toNat 1)) rfl rfl (Sl.ix (α:=Int) T22.und T22.size (H.os 11) (by omega) (by omega)))<|d_q rfl (fun w' H=>x_mv (v:=al) rfl) ?_;obtain ⟨yf,hM⟩:=M.e_gd hM;refine d_q rfl (fun w' H=>x_ix (v:=vat al 3 (Int.toNat 0)) rfl rfl (Sl.ix (α:=Note) T27.und T27.size (H.os 8) (by omega) (by omega)))<|d_q rfl (fun w' H=>x_fa (v:=fat (vat al 3 (Int.toNat 0)) 0) rfl (fa_pl Fd26_0 Sz3 (Sl.pl (i:=0) (H.os 8) (by omega) (by omega))))<|d_q rfl (fun w' H=>x_mv (v:=al) rfl) ?_;obtain ⟨yg,hM⟩:=M.e_gd hM;refine d_q rfl (fun w' H=>x_ix (v:=vat al 3 (Int.toNat 1)) rfl rfl (Sl.ix (α:=Note) T27.und T27.size (H.os 8) (by omega) (by omega)))<|d_q rfl (fun w' H=>x_fa (v:=fat (vat al 3 (Int.toNat 1)) 1) rfl (fa_pl Fd26_1 Sz3 (Sl.pl (i:=1) (H.os 8) (by omega) (by omega))))<|d_q rfl (fun w' H=>x_mv (v:=al) rfl)<|d_q rfl (fun w' H=>x_ix (v:=vat al 3 (Int.toNat 0)) rfl rfl (Sl.ix (α:=Note) T27.und T27.size (H.os 8) (by omega) (by omega)))<|d_q rfl (fun w' H=>x_fa (v:=fat (vat al 3 (Int.toNat 0)) 2) rfl (fa_pl Fd26_2 Sz3 (Sl.pl (i:=0) (H.os 8) (by omega) (by omega))))<|d_q rfl (fun w' H=>x_mv (v:=al) rfl) ?_;obtain ⟨yh,hM⟩:=M.e_gd hM;refine d_q rfl (fun w' H=>x_ix (v:=vat al 3 (Int.toNat 2)) rfl rfl (Sl.ix (α:=Note) T27.und T27.size (H.os 8) (by omega) (by omega)))<|d_q rfl (fun w' H=>x_fa (v:=fat (vat al 3 (Int.toNat 2)) 2) rfl (fa_pl Fd26_2 Sz3 (Sl.pl (i:=2) (H.os 8) (by omega) (by omega))))<|d_q rfl (fun w' H=>x_mv (v:=aD) rfl) ?_;obtain ⟨yi,hM⟩:=M.e_gd hM;refine d_q rfl (fun w' H=>x_ix (v:=vat aD 2 (Int.toNat 0)) rfl rfl (Sl.ix (α:=Pub) T30.und T30.size (H.os 7) (by omega) (by omega)))<|d_q rfl (fun w' H=>x_fa (v:=fat (vat aD 2 (Int.toNat 0)) 0) rfl (fa_pl Fd29_0 Sz3 (Sl.pl (i:=0) (H.os 7) (by omega) (by omega))))<|d_q rfl (fun w' H=>x_mv (v:=aD) rfl) ?_;obtain ⟨yj,hM⟩:=M.e_gd hM;refine d_q rfl (fun w' H=>x_ix (v:=vat aD 2 (Int.toNat 1)) rfl rfl (Sl.ix (α:=Pub) T30.und T30.size (H.os 7) (by omega) (by omega)))<|d_q rfl (fun w' H=>x_fa (v:=fat (vat aD 2 (Int.toNat 1)) 1) rfl (fa_pl Fd29_1 Sz3 (Sl.pl (i:=1) (H.os 7) (by omega) (by omega))))<|d_q rfl (fun w' H=>x_mv (v:=aG) rfl)<|d_q rfl (fun w' H=>x_ix (v:=vat aG 1 (Int.toNat 0)) rfl rfl (Sl.ix (α:=Int) T22.und T22.size (H.os 6) (by omega) (by omega)))<|d_q rfl (fun w' H=>x_mv (v:=aG) rfl) ?_;obtain ⟨yk,hM⟩:=M.e_gd hM;refine d_q rfl (fun w' H=>x_ix (v:=vat aG 1 (Int.toNat 1)) rfl rfl (Sl.ix (α:=Int) T22.und T22.size (H.os 6) (by omega) (by omega)))<|d_q rfl (fun w' H=>x_mv (v:=aM) rfl) ?_;obtain ⟨yn,hM⟩:=M.e_gd hM;refine d_q rfl (fun w' H=>x_ix (v:=vat aM 1 (Int.toNat 2)) rfl rfl (Sl.ix (α:=Int) T22.und T22.size (H.os 5) (by omega) (by omega)))<|d_q rfl (fun w' H=>x_mv (v:=aN) rfl) ?_;obtain ⟨yo,hM⟩:=M.e_gd hM;refine d_q rfl (fun w' H=>x_ix (v:=vat aN 1 (Int.toNat 0)) rfl rfl (Sl.ix (α:=Int) T22.und T22.size (H.os 4) (by omega) (by omega)))<|d_q rfl (fun w' H=>x_mv (v:=aO) rfl) ?_;obtain ⟨yp,hM⟩:=M.e_gd hM;refine d_q rfl (fun w' H=>x_ix (v:=vat aO 1 (Int.toNat 0)) rfl rfl (Sl.ix (α:=Raw 0) T31.und T31.size (H.os 1) (by omega) (by first | omega | (simp only [List.length_cons,List.length_nil]; omega))))<|d_q rfl (fun w' H=>x_ld (v:=bM) rfl (ld_sc Sc22 (At.mono (lz_at (i:=0) (k:=0) (r:=az) (H.os 1) rfl rfl aQ) (H.ol 1)))) ?_;obtain ⟨yq,hM⟩:=M.e_gd hM;refine kg 1 ?_;refine d_q rfl (fun w' H=>x_mv (v:=aO) rfl) ?_;obtain ⟨yr,hM⟩:=M.e_gd hM;refine d_q rfl (fun w' H=>x_ix (v:=vat aO 1 (Int.toNat 1)) rfl rfl (Sl.ix (α:=Raw 0) T31.und T31.size (H.os 1) (by omega) (by first | omega | (simp only [List.length_cons,List.length_nil]; omega))))<|d_q rfl (fun w' H=>x_ld (v:=bN) rfl (ld_sc Sc22 (At.mono (lz_at (i:=1) (k:=1) (r:=aA) (H.os 1) rfl rfl aR) (H.ol 1)))) ?_;obtain ⟨yu,hM⟩:=M.e_gd hM;refine kg 1 ?_;refine d_l rfl ?_
   have dO:=ptE (Sl.pl (i:=0) (H.os 16) (by omega) (by omega))
   replace dO:PtV (vat bK 1 (Int.toNat 0)):=dO
   have dP:=ptE (Sl.pl (i:=0) (H.os 15) (by omega) (by omega))
   replace dP:PtV (vat bL 1 (Int.toNat 0)):=dP
   have dQ:=ptE (Sl.pl (i:=1) (H.os 14) (by omega) (by omega))
   replace dQ:PtV (vat bS 1 (Int.toNat 1)):=dQ
   have dR:=ptF (Sl.pl (i:=2) (H.os 12) (by omega) (by first | omega | (simp only [List.length_cons,List.length_nil]; omega))) (off:=1)
   replace dR:PtV (fat (vat aB 3 (Int.toNat 2)) 1):=dR
   have dS:=ptF (Sl.pl (i:=3) (H.os 12) (by omega) (by first | omega | (simp only [List.length_cons,List.length_nil]; omega))) (off:=2)
   replace dS:PtV (fat (vat aB 3 (Int.toNat 3)) 2):=dS
   have dT:=ptE (Sl.pl (i:=1) (H.os 11) (by omega) (by omega))
   replace dT:PtV (vat aL 1 (Int.toNat 1)):=dT
   have dU:=ptF (Sl.pl (i:=0) (H.os 8) (by omega) (by omega)) (off:=0)
   replace dU:PtV (fat (vat al 3 (Int.toNat 0)) 0):=dU
   have dV:=ptF (Sl.pl (i:=1) (H.os 8) (by omega) (by omega)) (off:=1)
   replace dV:PtV (fat (vat al 3 (Int.toNat 1)) 1):=dV
   have dW:=ptF (Sl.pl (i:=0) (H.os 8) (by omega) (by omega)) (off:=2)
   replace dW:PtV (fat (vat al 3 (Int.toNat 0)) 2):=dW
   have dX:=ptF (Sl.pl (i:=2) (H.os 8) (by omega) (by omega)) (off:=2)
   replace dX:PtV (fat (vat al 3 (Int.toNat 2)) 2):=dX
   have dY:=ptF (Sl.pl (i:=0) (H.os 7) (by omega) (by omega)) (off:=0)
   replace dY:PtV (fat (vat aD 2 (Int.toNat 0)) 0):=dY
   have dZ:=ptF (Sl.pl (i:=1) (H.os 7) (by omega) (by omega)) (off:=1)
   replace dZ:PtV (fat (vat aD 2 (Int.toNat 1)) 1):=dZ
   have d0:=ptE (Sl.pl (i:=0) (H.os 6) (by omega) (by omega))
   replace d0:PtV (vat aG 1 (Int.toNat 0)):=d0
   have d1:=ptE (Sl.pl (i:=1) (H.os 6) (by omega) (by omega))
   replace d1:PtV (vat aG 1 (Int.toNat 1)):=d1
   have d2:=ptE (Sl.pl (i:=2) (H.os 5) (by omega) (by omega))
   replace d2:PtV (vat aM 1 (Int.toNat 2)):=d2
   have d3:=ptE (Sl.pl (i:=0) (H.os 4) (by omega) (by omega))
   replace d3:PtV (vat aN 1 (Int.toNat 0)):=d3
   have d4:=ptE (Sl.pl (i:=1) (H.os 3) (by omega) (by omega))
   replace d4:PtV (vat bM 1 (Int.toNat 1)):=d4
   have d5:=ptE (Sl.pl (i:=0) (H.os 2) (by omega) (by omega))
   replace d5:PtV (vat bN 1 (Int.toNat 0)):=d5
   refine t_bs (α:=Raw 0) T35 [vat bK 1 (Int.toNat 0),vat bL 1 (Int.toNat 0),vat bS 1 (Int.toNat 1),fat (vat aB 3 (Int.toNat 2)) 1,fat (vat aB 3 (Int.toNat 3)) 2,vat aL 1 (Int.toNat 1),Pq cx,Pq cy,fat (vat al 3 (Int.toNat 0)) 0,fat (vat al 3 (Int.toNat 1)) 1,fat (vat al 3 (Int.toNat 0)) 2,fat (vat al 3 (Int.toNat 2)) 2,fat (vat aD 2 (Int.toNat 0)) 0,fat (vat aD 2 (Int.toNat 1)) 1,vat aG 1 (Int.toNat 0),vat aG 1 (Int.toNat 1),vat aM 1 (Int.toNat 2),vat aN 1 (Int.toNat 0),Pq cz,vat bM 1 (Int.toNat 1),vat bN 1 (Int.toNat 0)] [rawV (vat bK 1 (Int.toNat 0)) dO,rawV (vat bL 1 (Int.toNat 0)) dP,rawV (vat bS 1 (Int.toNat 1)) dQ,rawV (fat (vat aB 3 (Int.toNat 2)) 1) dR,rawV (fat (vat aB 3 (Int.toNat 3)) 2) dS,rawV (vat aL 1 (Int.toNat 1)) dT,rawV (Pq cx) (ptB _),rawV (Pq cy) (ptB _),rawV (fat (vat al 3 (Int.toNat 0)) 0) dU,rawV (fat (vat al 3 (Int.toNat 1)) 1) dV,rawV (fat (vat al 3 (Int.toNat 0)) 2) dW,rawV (fat (vat al 3 (Int.toNat 2)) 2) dX,rawV (fat (vat aD 2 (Int.toNat 0)) 0) dY,rawV (fat (vat aD 2 (Int.toNat 1)) 1) dZ,rawV (vat aG 1 (Int.toNat 0)) d0,rawV (vat aG 1 (Int.toNat 1)) d1,rawV (vat aM 1 (Int.toNat 2)) d2,rawV (vat aN 1 (Int.toNat 0)) d3,rawV (Pq cz) (ptB _),rawV (vat bM 1 (Int.toNat 1)) d4,rawV (vat bN 1 (Int.toNat 0)) d5] H rfl (.cons dO.1 rfl<|.cons dP.1 rfl<|.cons dQ.1 rfl<|.cons dR.1 rfl<|.cons dS.1 rfl<|.cons dT.1 rfl<|.cons (ptB _).1 rfl<|.cons (ptB _).1 rfl<|.cons dU.1 rfl<|.cons dV.1 rfl<|.cons dW.1 rfl<|.cons dX.1 rfl<|.cons dY.1 rfl<|.cons dZ.1 rfl<|.cons d0.1 rfl<|.cons d1.1 rfl<|.cons d2.1 rfl<|.cons d3.1 rfl<|.cons (ptB _).1 rfl<|.cons d4.1 rfl<|.cons d5.1 rfl<|.nil) rfl rfl rfl ?_;intro a4 yw H
   have a5:([rawV (vat bK 1 (Int.toNat 0)) dO,rawV (vat bL 1 (Int.toNat 0)) dP,rawV (vat bS 1 (Int.toNat 1)) dQ,rawV (fat (vat aB 3 (Int.toNat 2)) 1) dR,rawV (fat (vat aB 3 (Int.toNat 3)) 2) dS,rawV (vat aL 1 (Int.toNat 1)) dT,rawV (Pq cx) (ptB _),rawV (Pq cy) (ptB _),rawV (fat (vat al 3 (Int.toNat 0)) 0) dU,rawV (fat (vat al 3 (Int.toNat 1)) 1) dV,rawV (fat (vat al 3 (Int.toNat 0)) 2) dW,rawV (fat (vat al 3 (Int.toNat 2)) 2) dX,rawV (fat (vat aD 2 (Int.toNat 0)) 0) dY,rawV (fat (vat aD 2 (Int.toNat 1)) 1) dZ,rawV (vat aG 1 (Int.toNat 0)) d0,rawV (vat aG 1 (Int.toNat 1)) d1,rawV (vat aM 1 (Int.toNat 2)) d2,rawV (vat aN 1 (Int.toNat 0)) d3,rawV (Pq cz) (ptB _),rawV (vat bM 1 (Int.toNat 1)) d4,rawV (vat bN 1 (Int.toNat 0)) d5]:List (Raw 0)).length=21:=rfl
   have yx:=Sl.cells (H.os 0)
   have yy:=Sl.oc (H.os 0)
   have yz:=ownSl (H.get (k:=0) rfl)
   refine s_nil ⟨(H.pk [1,2,3,4,5,6,7,8,9,10,11,12,13,14,15,16,17,18]),?_⟩
   refine kg 2 ?_;refine W.seqJ (fun σ W=>∃ (l:List Work) (l2:List Int) (s:Int) (s2:Int) (l3:List Note) (l4:List Pub) (l5:List Int) (l6:List Int) (l7:List Int) (s3:Int) (l8:List (List Int)) (bG:Value) (d6:Value) (d7:Value) (d8:Value) (bT:Value) (di:Value) (dj:Value) (dk:Value) (gI:List (Raw 2)) (B_l:Base) (gJ:List (Raw 0)) (B_l8:Base) (ρ:Env),σ=upds ρ [(2,I ((vl28).getD s5 0)),(3,I (s4:Int)),(4,bG),(5,d6),(6,Pq cx),(7,Pq cy),(8,d7),(9,d8),(10,bT),(11,di),(12,dj),(13,Pq cz),(14,dk),(30,bn),(31,I ((vl28).length:Int)),(32,I (s5:Int)),(36,I (s4:Int))]/\(zaa s4 l l2 s s2 l3 l4 l5 l6 l7 s3 l8).Ends mc/\St w W [cRo B_l,cRo B_l8,cBlk cz [I s3] 3,cOwn (α:=Raw 0) 22 dk gJ,cOwn (α:=Int) 3 dj l7,cOwn (α:=Int) 3 di l6,cOwn (α:=Int) 3 bT l5,cOwn (α:=Pub) 29 d8 l4,cOwn (α:=Note) 26 d7 l3,cBlk cy [I s2] 3,cBlk cx [I s] 3,cOwn (α:=Int) 3 d6 l2,cOwn (α:=Raw 2) 34 bG gI,cOwn (α:=Int) 3 bn (vl28)] R/\RepR (α:=Work) B_l.cells gI l/\RepR (α:=List Int) B_l8.cells gJ l8) ?_ ?_
   ·skip
    refine W.byc ((s4:Int)==0) (fun e6=>?_) (fun e6=>?_)
    ·replace hM:=M.e_t hM e6
     have mf:(s4:Int)=0:=eq_of_beq e6
     obtain ⟨yA,hM⟩:=M.e_gd hM;refine kg 3 ?_;refine s_val (x_ix (v:=vat a4 1 (Int.toNat (s4:Int))) rfl rfl (Sl.ix (α:=Raw 0) T35.und T35.size (H.os 0) (by omega) (by have a6:=a5; omega)))<|s_val (x_ld (v:=vat bK 1 (Int.toNat 0)) rfl (ld_sc Sc32 (At.mono (raw_at (i:=(s4:Int)) (k:=0) (H.os 0) mf rfl) (H.ol 0)))) ?_;refine kg 1 ?_;refine s_val (x_ncE (p:=vat bK 1 (Int.toNat 0)) rfl (Sl.pl (i:=0) (H.os 17) (by omega) (by omega))) ?_;refine t_ost (k:=17) (i:=0) (l:=[(0:Int),(1:Int)]) (l':=([(0:Int),(1:Int)]).set 0 ((vl28).getD s5 0:Int)) (val:=I ((vl28).getD s5 0)) H rfl Sz3 (by omega) (by omega) ((vl28).getD s5 0:Int) rfl rfl rfl rfl rfl ?_;intro yB H;replace H:=H.nf;refine s_nil ?_
     obtain ⟨a7,H⟩:=H.emptyE
     obtain ⟨a8,H,mg⟩:=H.freezeE (k:=5) rfl
     replace H:=H.nf
     have d9:=mg
     obtain ⟨a9,H,yC,mh⟩:=H.joinE (i:=0) (j:=5) rfl rfl
     replace d9:=d9.mono mh
     obtain ⟨ba,H,mi⟩:=H.freezeE (k:=5) rfl
     replace H:=H.nf
     have gK:=mi
     obtain ⟨aj,H,mj,ml⟩:=H.joinE (i:=0) (j:=5) rfl rfl
     replace d9:=d9.mono mj
     replace gK:=gK.mono ml
     have mm:RepR (α:=List Int) aj.cells [az,aA] [[(1:Int),(2:Int),(4:Int)],[(1:Int),(3:Int),(4:Int)]]:=.cons (by rw [aQ]; exact ⟨_,rfl,d9⟩)<|.cons (by rw [aR]; exact ⟨_,rfl,gK⟩)<|.nil
     obtain ⟨bb,H⟩:=H.emptyE
     obtain ⟨bc,H,mn⟩:=H.freezeE (k:=21) rfl
     replace H:=H.nf
     have bU:=mn
     obtain ⟨bf,H,yD,mo⟩:=H.joinE (i:=0) (j:=21) rfl rfl
     replace bU:=bU.mono mo
     obtain ⟨bg,H,mq⟩:=H.freezeE (k:=21) rfl
     replace H:=H.nf
     have cA:=mq
     obtain ⟨bh,H,mr,ms⟩:=H.joinE (i:=0) (j:=21) rfl rfl
     replace bU:=bU.mono mr
     replace cA:=cA.mono ms
     obtain ⟨bi,H,mt⟩:=H.freezeE (k:=21) rfl
     replace H:=H.nf
     have ea:=mt
     obtain ⟨bj,H,j5,mu⟩:=H.joinE (i:=0) (j:=21) rfl rfl
     replace bU:=bU.mono j5
     replace cA:=cA.mono j5
     replace ea:=ea.mono mu
     obtain ⟨bm,H,mv⟩:=H.freezeE (k:=21) rfl
     replace H:=H.nf
     have gL:=mv
     obtain ⟨ak,H,gM,mw⟩:=H.joinE (i:=0) (j:=21) rfl rfl
     replace bU:=bU.mono gM
     replace cA:=cA.mono gM
     replace ea:=ea.mono gM
     replace gL:=gL.mono mw
     have my:RepR (α:=Work) ak.cells [aw,ax,aq,au,av,ay] [(⟨([]),(1:Int),(5:Int)⟩:Work),(⟨([]),(1:Int),(6:Int)⟩:Work),(⟨(([(0:Int),(1:Int)]).set 0 ((vl28).getD s5 0:Int)),(1:Int),(10:Int)⟩:Work),(⟨([(1:Int)]),(1:Int),(30:Int)⟩:Work),(⟨([(2:Int),(3:Int)]),(1:Int),(20:Int)⟩:Work),(⟨([(4:Int)]),(1:Int),(1:Int)⟩:Work)]:=.cons (by rw [aY]; exact ⟨_,rfl,(Sl.nil _)⟩)<|.cons (by rw [aZ]; exact ⟨_,rfl,(Sl.nil _)⟩)<|.cons (by rw [aT]; exact ⟨_,rfl,bU⟩)<|.cons (by rw [aU]; exact ⟨_,rfl,cA⟩)<|.cons (by rw [aV]; exact ⟨_,rfl,ea⟩)<|.cons (by rw [a0]; exact ⟨_,rfl,gL⟩)<|.nil
     exact ⟨[(⟨([]),(1:Int),(5:Int)⟩:Work),(⟨([]),(1:Int),(6:Int)⟩:Work),(⟨(([(0:Int),(1:Int)]).set 0 ((vl28).getD s5 0:Int)),(1:Int),(10:Int)⟩:Work),(⟨([(1:Int)]),(1:Int),(30:Int)⟩:Work),(⟨([(2:Int),(3:Int)]),(1:Int),(20:Int)⟩:Work),(⟨([(4:Int)]),(1:Int),(1:Int)⟩:Work)],[(1:Int),(3:Int),(4:Int)],0,5,[(⟨(0:Int),(3:Int),(8:Int)⟩:Note),(⟨(0:Int),(2:Int),(7:Int)⟩:Note),(⟨(1:Int),(0:Int),(9:Int)⟩:Note)],[(⟨(2:Int),(26:Int)⟩:Pub),(⟨(3:Int),(10:Int)⟩:Pub)],[(0:Int),(1:Int)],[(0:Int),(2:Int),(4:Int),(5:Int)],[(2:Int),(3:Int)],4,[[(1:Int),(2:Int),(4:Int)],[(1:Int),(3:Int),(4:Int)]],aB,aL,al,aD,aG,aM,aN,aO,[aw,ax,aq,au,av,ay],ak,[az,aA],aj,_,upds_of _ _ ⟨rfl,rfl,rfl,rfl,rfl,rfl,rfl,rfl,rfl,rfl,rfl,rfl,rfl,rfl,rfl,rfl,rfl,trivial⟩,hM,(H.pk [0,5,9,10,13,14,15,16,17,18,19,20,21,26]),my,mm⟩
    replace hM:=M.e_f hM e6
    refine W.byc ((s4:Int)==1) (fun e7=>?_) (fun e7=>?_)
    ·replace hM:=M.e_t hM e7
     have mz:(s4:Int)=1:=eq_of_beq e7
     obtain ⟨yE,hM⟩:=M.e_gd hM;refine kg 3 ?_;refine s_val (x_ix (v:=vat a4 1 (Int.toNat (s4:Int))) rfl rfl (Sl.ix (α:=Raw 0) T35.und T35.size (H.os 0) (by omega) (by have a6:=a5; omega)))<|s_val (x_ld (v:=vat bL 1 (Int.toNat 0)) rfl (ld_sc Sc32 (At.mono (raw_at (i:=(s4:Int)) (k:=1) (H.os 0) mz rfl) (H.ol 0)))) ?_;refine kg 1 ?_;refine s_val (x_ncE (p:=vat bL 1 (Int.toNat 0)) rfl (Sl.pl (i:=0) (H.os 16) (by omega) (by omega))) ?_;refine t_ost (k:=16) (i:=0) (l:=[(1:Int)]) (l':=([(1:Int)]).set 0 ((vl28).getD s5 0:Int)) (val:=I ((vl28).getD s5 0)) H rfl Sz3 (by omega) (by omega) ((vl28).getD s5 0:Int) rfl rfl rfl rfl rfl ?_;intro yF H;replace H:=H.nf;refine s_nil ?_
     obtain ⟨a7,H⟩:=H.emptyE
     obtain ⟨a8,H,mC⟩:=H.freezeE (k:=5) rfl
     replace H:=H.nf
     have eb:=mC
     obtain ⟨a9,H,yG,mD⟩:=H.joinE (i:=0) (j:=5) rfl rfl
     replace eb:=eb.mono mD
     obtain ⟨ba,H,mE⟩:=H.freezeE (k:=5) rfl
     replace H:=H.nf
     have gN:=mE
     obtain ⟨aj,H,mF,mG⟩:=H.joinE (i:=0) (j:=5) rfl rfl
     replace eb:=eb.mono mF
     replace gN:=gN.mono mG
     have mH:RepR (α:=List Int) aj.cells [az,aA] [[(1:Int),(2:Int),(4:Int)],[(1:Int),(3:Int),(4:Int)]]:=.cons (by rw [aQ]; exact ⟨_,rfl,eb⟩)<|.cons (by rw [aR]; exact ⟨_,rfl,gN⟩)<|.nil
     obtain ⟨bb,H⟩:=H.emptyE
     obtain ⟨bc,H,mI⟩:=H.freezeE (k:=21) rfl
     replace H:=H.nf
     have bV:=mI
     obtain ⟨bf,H,yH,mJ⟩:=H.joinE (i:=0) (j:=21) rfl rfl
     replace bV:=bV.mono mJ
     obtain ⟨bg,H,mK⟩:=H.freezeE (k:=21) rfl
     replace H:=H.nf
     have cB:=mK
     obtain ⟨bh,H,mL,mM⟩:=H.joinE (i:=0) (j:=21) rfl rfl
     replace bV:=bV.mono mL
     replace cB:=cB.mono mM
     obtain ⟨bi,H,mN⟩:=H.freezeE (k:=21) rfl
     replace H:=H.nf
     have ec:=mN
     obtain ⟨bj,H,j6,mO⟩:=H.joinE (i:=0) (j:=21) rfl rfl
     replace bV:=bV.mono j6
     replace cB:=cB.mono j6
     replace ec:=ec.mono mO
     obtain ⟨bm,H,mP⟩:=H.freezeE (k:=21) rfl
     replace H:=H.nf
     have gO:=mP
     obtain ⟨ak,H,gP,mQ⟩:=H.joinE (i:=0) (j:=21) rfl rfl
     replace bV:=bV.mono gP
     replace cB:=cB.mono gP
     replace ec:=ec.mono gP
     replace gO:=gO.mono mQ
     have mR:RepR (α:=Work) ak.cells [aw,ax,aq,au,av,ay] [(⟨([]),(1:Int),(5:Int)⟩:Work),(⟨([]),(1:Int),(6:Int)⟩:Work),(⟨([(0:Int),(1:Int)]),(1:Int),(10:Int)⟩:Work),(⟨(([(1:Int)]).set 0 ((vl28).getD s5 0:Int)),(1:Int),(30:Int)⟩:Work),(⟨([(2:Int),(3:Int)]),(1:Int),(20:Int)⟩:Work),(⟨([(4:Int)]),(1:Int),(1:Int)⟩:Work)]:=.cons (by rw [aY]; exact ⟨_,rfl,(Sl.nil _)⟩)<|.cons (by rw [aZ]; exact ⟨_,rfl,(Sl.nil _)⟩)<|.cons (by rw [aT]; exact ⟨_,rfl,bV⟩)<|.cons (by rw [aU]; exact ⟨_,rfl,cB⟩)<|.cons (by rw [aV]; exact ⟨_,rfl,ec⟩)<|.cons (by rw [a0]; exact ⟨_,rfl,gO⟩)<|.nil
     exact ⟨[(⟨([]),(1:Int),(5:Int)⟩:Work),(⟨([]),(1:Int),(6:Int)⟩:Work),(⟨([(0:Int),(1:Int)]),(1:Int),(10:Int)⟩:Work),(⟨(([(1:Int)]).set 0 ((vl28).getD s5 0:Int)),(1:Int),(30:Int)⟩:Work),(⟨([(2:Int),(3:Int)]),(1:Int),(20:Int)⟩:Work),(⟨([(4:Int)]),(1:Int),(1:Int)⟩:Work)],[(1:Int),(3:Int),(4:Int)],0,5,[(⟨(0:Int),(3:Int),(8:Int)⟩:Note),(⟨(0:Int),(2:Int),(7:Int)⟩:Note),(⟨(1:Int),(0:Int),(9:Int)⟩:Note)],[(⟨(2:Int),(26:Int)⟩:Pub),(⟨(3:Int),(10:Int)⟩:Pub)],[(0:Int),(1:Int)],[(0:Int),(2:Int),(4:Int),(5:Int)],[(2:Int),(3:Int)],4,[[(1:Int),(2:Int),(4:Int)],[(1:Int),(3:Int),(4:Int)]],aB,aL,al,aD,aG,aM,aN,aO,[aw,ax,aq,au,av,ay],ak,[az,aA],aj,_,upds_of _ _ ⟨rfl,rfl,rfl,rfl,rfl,rfl,rfl,rfl,rfl,rfl,rfl,rfl,rfl,rfl,rfl,rfl,rfl,trivial⟩,hM,(H.pk [0,5,9,10,13,14,15,16,17,18,19,20,21,26]),mR,mH⟩
    replace hM:=M.e_f hM e7
    refine W.byc ((s4:Int)==2) (fun e8=>?_) (fun e8=>?_)
    ·replace hM:=M.e_t hM e8
     have mS:(s4:Int)=2:=eq_of_beq e8
     obtain ⟨yI,hM⟩:=M.e_gd hM;refine kg 3 ?_;refine s_val (x_ix (v:=vat a4 1 (Int.toNat (s4:Int))) rfl rfl (Sl.ix (α:=Raw 0) T35.und T35.size (H.os 0) (by omega) (by have a6:=a5; omega)))<|s_val (x_ld (v:=vat bS 1 (Int.toNat 1)) rfl (ld_sc Sc32 (At.mono (raw_at (i:=(s4:Int)) (k:=2) (H.os 0) mS rfl) (H.ol 0)))) ?_;refine kg 1 ?_;refine s_val (x_ncE (p:=vat bS 1 (Int.toNat 1)) rfl (Sl.pl (i:=1) (H.os 15) (by omega) (by omega))) ?_;refine t_ost (k:=15) (i:=1) (l:=[(2:Int),(3:Int)]) (l':=([(2:Int),(3:Int)]).set 1 ((vl28).getD s5 0:Int)) (val:=I ((vl28).getD s5 0)) H rfl Sz3 (by omega) (by omega) ((vl28).getD s5 0:Int) rfl rfl rfl rfl rfl ?_;intro yK H;replace H:=H.nf;refine s_nil ?_
     obtain ⟨a7,H⟩:=H.emptyE
     obtain ⟨a8,H,mT⟩:=H.freezeE (k:=5) rfl
     replace H:=H.nf
     have ed:=mT
     obtain ⟨a9,H,yL,mU⟩:=H.joinE (i:=0) (j:=5) rfl rfl
     replace ed:=ed.mono mU
     obtain ⟨ba,H,mV⟩:=H.freezeE (k:=5) rfl
     replace H:=H.nf
     have gQ:=mV
     obtain ⟨aj,H,mW,mX⟩:=H.joinE (i:=0) (j:=5) rfl rfl
     replace ed:=ed.mono mW
     replace gQ:=gQ.mono mX
     have mY:RepR (α:=List Int) aj.cells [az,aA] [[(1:Int),(2:Int),(4:Int)],[(1:Int),(3:Int),(4:Int)]]:=.cons (by rw [aQ]; exact ⟨_,rfl,ed⟩)<|.cons (by rw [aR]; exact ⟨_,rfl,gQ⟩)<|.nil
     obtain ⟨bb,H⟩:=H.emptyE
     obtain ⟨bc,H,mZ⟩:=H.freezeE (k:=21) rfl
     replace H:=H.nf
     have bW:=mZ
     obtain ⟨bf,H,yM,m0⟩:=H.joinE (i:=0) (j:=21) rfl rfl
     replace bW:=bW.mono m0
     obtain ⟨bg,H,m1⟩:=H.freezeE (k:=21) rfl
     replace H:=H.nf
     have cC:=m1
     obtain ⟨bh,H,m4,m5⟩:=H.joinE (i:=0) (j:=21) rfl rfl
     replace bW:=bW.mono m4
     replace cC:=cC.mono m5
     obtain ⟨bi,H,m6⟩:=H.freezeE (k:=21) rfl
     replace H:=H.nf
     have ee:=m6
     obtain ⟨bj,H,j7,m7⟩:=H.joinE (i:=0) (j:=21) rfl rfl
     replace bW:=bW.mono j7
     replace cC:=cC.mono j7
     replace ee:=ee.mono m7
     obtain ⟨bm,H,m8⟩:=H.freezeE (k:=21) rfl
     replace H:=H.nf
     have gR:=m8
     obtain ⟨ak,H,gS,m9⟩:=H.joinE (i:=0) (j:=21) rfl rfl
     replace bW:=bW.mono gS
     replace cC:=cC.mono gS
     replace ee:=ee.mono gS
     replace gR:=gR.mono m9
     have na:RepR (α:=Work) ak.cells [aw,ax,aq,au,av,ay] [(⟨([]),(1:Int),(5:Int)⟩:Work),(⟨([]),(1:Int),(6:Int)⟩:Work),(⟨([(0:Int),(1:Int)]),(1:Int),(10:Int)⟩:Work),(⟨([(1:Int)]),(1:Int),(30:Int)⟩:Work),(⟨(([(2:Int),(3:Int)]).set 1 ((vl28).getD s5 0:Int)),(1:Int),(20:Int)⟩:Work),(⟨([(4:Int)]),(1:Int),(1:Int)⟩:Work)]:=.cons (by rw [aY]; exact ⟨_,rfl,(Sl.nil _)⟩)<|.cons (by rw [aZ]; exact ⟨_,rfl,(Sl.nil _)⟩)<|.cons (by rw [aT]; exact ⟨_,rfl,bW⟩)<|.cons (by rw [aU]; exact ⟨_,rfl,cC⟩)<|.cons (by rw [aV]; exact ⟨_,rfl,ee⟩)<|.cons (by rw [a0]; exact ⟨_,rfl,gR⟩)<|.nil
     exact ⟨[(⟨([]),(1:Int),(5:Int)⟩:Work),(⟨([]),(1:Int),(6:Int)⟩:Work),(⟨([(0:Int),(1:Int)]),(1:Int),(10:Int)⟩:Work),(⟨([(1:Int)]),(1:Int),(30:Int)⟩:Work),(⟨(([(2:Int),(3:Int)]).set 1 ((vl28).getD s5 0:Int)),(1:Int),(20:Int)⟩:Work),(⟨([(4:Int)]),(1:Int),(1:Int)⟩:Work)],[(1:Int),(3:Int),(4:Int)],0,5,[(⟨(0:Int),(3:Int),(8:Int)⟩:Note),(⟨(0:Int),(2:Int),(7:Int)⟩:Note),(⟨(1:Int),(0:Int),(9:Int)⟩:Note)],[(⟨(2:Int),(26:Int)⟩:Pub),(⟨(3:Int),(10:Int)⟩:Pub)],[(0:Int),(1:Int)],[(0:Int),(2:Int),(4:Int),(5:Int)],[(2:Int),(3:Int)],4,[[(1:Int),(2:Int),(4:Int)],[(1:Int),(3:Int),(4:Int)]],aB,aL,al,aD,aG,aM,aN,aO,[aw,ax,aq,au,av,ay],ak,[az,aA],aj,_,upds_of _ _ ⟨rfl,rfl,rfl,rfl,rfl,rfl,rfl,rfl,rfl,rfl,rfl,rfl,rfl,rfl,rfl,rfl,rfl,trivial⟩,hM,(H.pk [0,5,9,10,13,14,15,16,17,18,19,20,21,26]),na,mY⟩
    replace hM:=M.e_f hM e8
    refine W.byc ((s4:Int)==3) (fun e9=>?_) (fun e9=>?_)
    ·replace hM:=M.e_t hM e9
     have nc:(s4:Int)=3:=eq_of_beq e9
     obtain ⟨yN,hM⟩:=M.e_gd hM;refine kg 3 ?_;refine s_val (x_ix (v:=vat a4 1 (Int.toNat (s4:Int))) rfl rfl (Sl.ix (α:=Raw 0) T35.und T35.size (H.os 0) (by omega) (by have a6:=a5; omega)))<|s_val (x_ld (v:=fat (vat aB 3 (Int.toNat 2)) 1) rfl (ld_sc Sc32 (At.mono (raw_at (i:=(s4:Int)) (k:=3) (H.os 0) nc rfl) (H.ol 0)))) ?_;refine kg 1 ?_;refine s_val (x_ncE (p:=fat (vat aB 3 (Int.toNat 2)) 1) rfl (ptr_fat (Sl.pl (i:=2) (H.os 13) (by omega) (by omega)))) ?_
     obtain ⟨dl,j8⟩:∃ r:Raw 2,r.cs=[bK,I ((vl28).getD s5 0),I 10]:=⟨Raw.of [bK,I ((vl28).getD s5 0),I 10] rfl (by simp only [List.all_cons,List.all_nil,Bool.true_and,Bool.and_true,Sl.oc (H.os 17)]; try rfl),rfl⟩
     refine t_fst (α:=Raw 2) (k:=13) (i:=2) (off:=1) (l:=[aw,ax,aq,au,av,ay]) (l':=[aw,ax,dl,au,av,ay]) (val:=I ((vl28).getD s5 0)) H rfl Sz3 (by omega) (by first | omega | (simp only [List.length_cons,List.length_nil]; omega)) (aq) (dl) rfl rfl rfl [I ((vl28).getD s5 0)] rfl rfl rfl rfl (by rw [show (Flat.enc dl:List Value)=dl.cs from rfl,j8,show (Flat.enc aq:List Value)=aq.cs from rfl,aT]; rfl) rfl rfl ?_;intro yO H;replace H:=H.nf;refine s_nil ?_
     obtain ⟨a7,H⟩:=H.emptyE
     obtain ⟨a8,H,nd⟩:=H.freezeE (k:=5) rfl
     replace H:=H.nf
     have ef:=nd
     obtain ⟨a9,H,yP,ng⟩:=H.joinE (i:=0) (j:=5) rfl rfl
     replace ef:=ef.mono ng
     obtain ⟨ba,H,nh⟩:=H.freezeE (k:=5) rfl
     replace H:=H.nf
     have gT:=nh
     obtain ⟨aj,H,ni,nj⟩:=H.joinE (i:=0) (j:=5) rfl rfl
     replace ef:=ef.mono ni
     replace gT:=gT.mono nj
     have nk:RepR (α:=List Int) aj.cells [az,aA] [[(1:Int),(2:Int),(4:Int)],[(1:Int),(3:Int),(4:Int)]]:=.cons (by rw [aQ]; exact ⟨_,rfl,ef⟩)<|.cons (by rw [aR]; exact ⟨_,rfl,gT⟩)<|.nil
     obtain ⟨bb,H⟩:=H.emptyE
     obtain ⟨bc,H,nl⟩:=H.freezeE (k:=21) rfl
     replace H:=H.nf
     have bX:=nl
     obtain ⟨bf,H,yQ,nm⟩:=H.joinE (i:=0) (j:=21) rfl rfl
     replace bX:=bX.mono nm
     obtain ⟨bg,H,nn⟩:=H.freezeE (k:=21) rfl
     replace H:=H.nf
     have cD:=nn
     obtain ⟨bh,H,np,nq⟩:=H.joinE (i:=0) (j:=21) rfl rfl
     replace bX:=bX.mono np
     replace cD:=cD.mono nq
     obtain ⟨bi,H,nr⟩:=H.freezeE (k:=21) rfl
     replace H:=H.nf
     have eg:=nr
     obtain ⟨bj,H,j9,ns⟩:=H.joinE (i:=0) (j:=21) rfl rfl
     replace bX:=bX.mono j9
     replace cD:=cD.mono j9
     replace eg:=eg.mono ns
     obtain ⟨bm,H,nt⟩:=H.freezeE (k:=21) rfl
     replace H:=H.nf
     have gU:=nt
     obtain ⟨ak,H,gV,nu⟩:=H.joinE (i:=0) (j:=21) rfl rfl
     replace bX:=bX.mono gV
     replace cD:=cD.mono gV
     replace eg:=eg.mono gV
     replace gU:=gU.mono nu
     have nv:RepR (α:=Work) ak.cells [aw,ax,dl,au,av,ay] [(⟨([]),(1:Int),(5:Int)⟩:Work),(⟨([]),(1:Int),(6:Int)⟩:Work),(⟨([(0:Int),(1:Int)]),((vl28).getD s5 0:Int),(10:Int)⟩:Work),(⟨([(1:Int)]),(1:Int),(30:Int)⟩:Work),(⟨([(2:Int),(3:Int)]),(1:Int),(20:Int)⟩:Work),(⟨([(4:Int)]),(1:Int),(1:Int)⟩:Work)]:=.cons (by rw [aY]; exact ⟨_,rfl,(Sl.nil _)⟩)<|.cons (by rw [aZ]; exact ⟨_,rfl,(Sl.nil _)⟩)<|.cons (by rw [j8]; exact ⟨_,rfl,bX⟩)<|.cons (by rw [aU]; exact ⟨_,rfl,cD⟩)<|.cons (by rw [aV]; exact ⟨_,rfl,eg⟩)<|.cons (by rw [a0]; exact ⟨_,rfl,gU⟩)<|.nil
     exact ⟨[(⟨([]),(1:Int),(5:Int)⟩:Work),(⟨([]),(1:Int),(6:Int)⟩:Work),(⟨([(0:Int),(1:Int)]),((vl28).getD s5 0:Int),(10:Int)⟩:Work),(⟨([(1:Int)]),(1:Int),(30:Int)⟩:Work),(⟨([(2:Int),(3:Int)]),(1:Int),(20:Int)⟩:Work),(⟨([(4:Int)]),(1:Int),(1:Int)⟩:Work)],[(1:Int),(3:Int),(4:Int)],0,5,[(⟨(0:Int),(3:Int),(8:Int)⟩:Note),(⟨(0:Int),(2:Int),(7:Int)⟩:Note),(⟨(1:Int),(0:Int),(9:Int)⟩:Note)],[(⟨(2:Int),(26:Int)⟩:Pub),(⟨(3:Int),(10:Int)⟩:Pub)],[(0:Int),(1:Int)],[(0:Int),(2:Int),(4:Int),(5:Int)],[(2:Int),(3:Int)],4,[[(1:Int),(2:Int),(4:Int)],[(1:Int),(3:Int),(4:Int)]],aB,aL,al,aD,aG,aM,aN,aO,[aw,ax,dl,au,av,ay],ak,[az,aA],aj,_,upds_of _ _ ⟨rfl,rfl,rfl,rfl,rfl,rfl,rfl,rfl,rfl,rfl,rfl,rfl,rfl,rfl,rfl,rfl,rfl,trivial⟩,hM,(H.pk [0,5,9,10,13,14,15,16,17,18,19,20,21,26]),nv,nk⟩
    replace hM:=M.e_f hM e9
    refine W.byc ((s4:Int)==4) (fun fa=>?_) (fun fa=>?_)
    ·replace hM:=M.e_t hM fa
     have nw:(s4:Int)=4:=eq_of_beq fa
     obtain ⟨yR,hM⟩:=M.e_gd hM;refine kg 3 ?_;refine s_val (x_ix (v:=vat a4 1 (Int.toNat (s4:Int))) rfl rfl (Sl.ix (α:=Raw 0) T35.und T35.size (H.os 0) (by omega) (by have a6:=a5; omega)))<|s_val (x_ld (v:=fat (vat aB 3 (Int.toNat 3)) 2) rfl (ld_sc Sc32 (At.mono (raw_at (i:=(s4:Int)) (k:=4) (H.os 0) nw rfl) (H.ol 0)))) ?_;refine kg 1 ?_;refine s_val (x_ncE (p:=fat (vat aB 3 (Int.toNat 3)) 2) rfl (ptr_fat (Sl.pl (i:=3) (H.os 13) (by omega) (by omega)))) ?_
     obtain ⟨dm,ka⟩:∃ r:Raw 2,r.cs=[bL,I 1,I ((vl28).getD s5 0)]:=⟨Raw.of [bL,I 1,I ((vl28).getD s5 0)] rfl (by simp only [List.all_cons,List.all_nil,Bool.true_and,Bool.and_true,Sl.oc (H.os 16)]; try rfl),rfl⟩
     refine t_fst (α:=Raw 2) (k:=13) (i:=3) (off:=2) (l:=[aw,ax,aq,au,av,ay]) (l':=[aw,ax,aq,dm,av,ay]) (val:=I ((vl28).getD s5 0)) H rfl Sz3 (by omega) (by first | omega | (simp only [List.length_cons,List.length_nil]; omega)) (au) (dm) rfl rfl rfl [I ((vl28).getD s5 0)] rfl rfl rfl rfl (by rw [show (Flat.enc dm:List Value)=dm.cs from rfl,ka,show (Flat.enc au:List Value)=au.cs from rfl,aU]; rfl) rfl rfl ?_;intro yS H;replace H:=H.nf;refine s_nil ?_
     obtain ⟨a7,H⟩:=H.emptyE
     obtain ⟨a8,H,ny⟩:=H.freezeE (k:=5) rfl
     replace H:=H.nf
     have eh:=ny
     obtain ⟨a9,H,yT,nz⟩:=H.joinE (i:=0) (j:=5) rfl rfl
     replace eh:=eh.mono nz
     obtain ⟨ba,H,nA⟩:=H.freezeE (k:=5) rfl
     replace H:=H.nf
     have gW:=nA
     obtain ⟨aj,H,nB,nC⟩:=H.joinE (i:=0) (j:=5) rfl rfl
     replace eh:=eh.mono nB
     replace gW:=gW.mono nC
     have nD:RepR (α:=List Int) aj.cells [az,aA] [[(1:Int),(2:Int),(4:Int)],[(1:Int),(3:Int),(4:Int)]]:=.cons (by rw [aQ]; exact ⟨_,rfl,eh⟩)<|.cons (by rw [aR]; exact ⟨_,rfl,gW⟩)<|.nil
     obtain ⟨bb,H⟩:=H.emptyE
     obtain ⟨bc,H,nE⟩:=H.freezeE (k:=21) rfl
     replace H:=H.nf
     have bY:=nE
     obtain ⟨bf,H,yU,nF⟩:=H.joinE (i:=0) (j:=21) rfl rfl
     replace bY:=bY.mono nF
     obtain ⟨bg,H,nG⟩:=H.freezeE (k:=21) rfl
     replace H:=H.nf
     have cE:=nG
     obtain ⟨bh,H,nH,nI⟩:=H.joinE (i:=0) (j:=21) rfl rfl
     replace bY:=bY.mono nH
     replace cE:=cE.mono nI
     obtain ⟨bi,H,nJ⟩:=H.freezeE (k:=21) rfl
     replace H:=H.nf
     have ei:=nJ
     obtain ⟨bj,H,kb,nK⟩:=H.joinE (i:=0) (j:=21) rfl rfl
     replace bY:=bY.mono kb
     replace cE:=cE.mono kb
     replace ei:=ei.mono nK
     obtain ⟨bm,H,nL⟩:=H.freezeE (k:=21) rfl
     replace H:=H.nf
     have gX:=nL
     obtain ⟨ak,H,gY,nM⟩:=H.joinE (i:=0) (j:=21) rfl rfl
     replace bY:=bY.mono gY
     replace cE:=cE.mono gY
     replace ei:=ei.mono gY
     replace gX:=gX.mono nM
     have nN:RepR (α:=Work) ak.cells [aw,ax,aq,dm,av,ay] [(⟨([]),(1:Int),(5:Int)⟩:Work),(⟨([]),(1:Int),(6:Int)⟩:Work),(⟨([(0:Int),(1:Int)]),(1:Int),(10:Int)⟩:Work),(⟨([(1:Int)]),(1:Int),((vl28).getD s5 0:Int)⟩:Work),(⟨([(2:Int),(3:Int)]),(1:Int),(20:Int)⟩:Work),(⟨([(4:Int)]),(1:Int),(1:Int)⟩:Work)]:=.cons (by rw [aY]; exact ⟨_,rfl,(Sl.nil _)⟩)<|.cons (by rw [aZ]; exact ⟨_,rfl,(Sl.nil _)⟩)<|.cons (by rw [aT]; exact ⟨_,rfl,bY⟩)<|.cons (by rw [ka]; exact ⟨_,rfl,cE⟩)<|.cons (by rw [aV]; exact ⟨_,rfl,ei⟩)<|.cons (by rw [a0]; exact ⟨_,rfl,gX⟩)<|.nil
     exact ⟨[(⟨([]),(1:Int),(5:Int)⟩:Work),(⟨([]),(1:Int),(6:Int)⟩:Work),(⟨([(0:Int),(1:Int)]),(1:Int),(10:Int)⟩:Work),(⟨([(1:Int)]),(1:Int),((vl28).getD s5 0:Int)⟩:Work),(⟨([(2:Int),(3:Int)]),(1:Int),(20:Int)⟩:Work),(⟨([(4:Int)]),(1:Int),(1:Int)⟩:Work)],[(1:Int),(3:Int),(4:Int)],0,5,[(⟨(0:Int),(3:Int),(8:Int)⟩:Note),(⟨(0:Int),(2:Int),(7:Int)⟩:Note),(⟨(1:Int),(0:Int),(9:Int)⟩:Note)],[(⟨(2:Int),(26:Int)⟩:Pub),(⟨(3:Int),(10:Int)⟩:Pub)],[(0:Int),(1:Int)],[(0:Int),(2:Int),(4:Int),(5:Int)],[(2:Int),(3:Int)],4,[[(1:Int),(2:Int),(4:Int)],[(1:Int),(3:Int),(4:Int)]],aB,aL,al,aD,aG,aM,aN,aO,[aw,ax,aq,dm,av,ay],ak,[az,aA],aj,_,upds_of _ _ ⟨rfl,rfl,rfl,rfl,rfl,rfl,rfl,rfl,rfl,rfl,rfl,rfl,rfl,rfl,rfl,rfl,rfl,trivial⟩,hM,(H.pk [0,5,9,10,13,14,15,16,17,18,19,20,21,26]),nN,nD⟩
    replace hM:=M.e_f hM fa
    refine W.byc ((s4:Int)==5) (fun fb=>?_) (fun fb=>?_)
    ·replace hM:=M.e_t hM fb
     have nO:(s4:Int)=5:=eq_of_beq fb
     obtain ⟨yV,hM⟩:=M.e_gd hM;refine kg 3 ?_;refine s_val (x_ix (v:=vat a4 1 (Int.toNat (s4:Int))) rfl rfl (Sl.ix (α:=Raw 0) T35.und T35.size (H.os 0) (by omega) (by have a6:=a5; omega)))<|s_val (x_ld (v:=vat aL 1 (Int.toNat 1)) rfl (ld_sc Sc32 (At.mono (raw_at (i:=(s4:Int)) (k:=5) (H.os 0) nO rfl) (H.ol 0)))) ?_;refine kg 1 ?_;refine s_val (x_ncE (p:=vat aL 1 (Int.toNat 1)) rfl (Sl.pl (i:=1) (H.os 12) (by omega) (by omega))) ?_;refine t_ost (k:=12) (i:=1) (l:=[(1:Int),(3:Int),(4:Int)]) (l':=([(1:Int),(3:Int),(4:Int)]).set 1 ((vl28).getD s5 0:Int)) (val:=I ((vl28).getD s5 0)) H rfl Sz3 (by omega) (by omega) ((vl28).getD s5 0:Int) rfl rfl rfl rfl rfl ?_;intro yW H;replace H:=H.nf;refine s_nil ?_
     obtain ⟨a7,H⟩:=H.emptyE
     obtain ⟨a8,H,nP⟩:=H.freezeE (k:=5) rfl
     replace H:=H.nf
     have ej:=nP
     obtain ⟨a9,H,yX,nQ⟩:=H.joinE (i:=0) (j:=5) rfl rfl
     replace ej:=ej.mono nQ
     obtain ⟨ba,H,nR⟩:=H.freezeE (k:=5) rfl
     replace H:=H.nf
     have gZ:=nR
     obtain ⟨aj,H,nS,nT⟩:=H.joinE (i:=0) (j:=5) rfl rfl
     replace ej:=ej.mono nS
     replace gZ:=gZ.mono nT
     have nU:RepR (α:=List Int) aj.cells [az,aA] [[(1:Int),(2:Int),(4:Int)],[(1:Int),(3:Int),(4:Int)]]:=.cons (by rw [aQ]; exact ⟨_,rfl,ej⟩)<|.cons (by rw [aR]; exact ⟨_,rfl,gZ⟩)<|.nil
     obtain ⟨bb,H⟩:=H.emptyE
     obtain ⟨bc,H,nV⟩:=H.freezeE (k:=21) rfl
     replace H:=H.nf
     have bZ:=nV
     obtain ⟨bf,H,yY,nW⟩:=H.joinE (i:=0) (j:=21) rfl rfl
     replace bZ:=bZ.mono nW
     obtain ⟨bg,H,nX⟩:=H.freezeE (k:=21) rfl
     replace H:=H.nf
     have cF:=nX
     obtain ⟨bh,H,nY,nZ⟩:=H.joinE (i:=0) (j:=21) rfl rfl
     replace bZ:=bZ.mono nY
     replace cF:=cF.mono nZ
     obtain ⟨bi,H,n0⟩:=H.freezeE (k:=21) rfl
     replace H:=H.nf
     have ek:=n0
     obtain ⟨bj,H,kc,n3⟩:=H.joinE (i:=0) (j:=21) rfl rfl
     replace bZ:=bZ.mono kc
     replace cF:=cF.mono kc
     replace ek:=ek.mono n3
     obtain ⟨bm,H,n4⟩:=H.freezeE (k:=21) rfl
     replace H:=H.nf
     have g0:=n4
     obtain ⟨ak,H,g3,n5⟩:=H.joinE (i:=0) (j:=21) rfl rfl
     replace bZ:=bZ.mono g3
     replace cF:=cF.mono g3
     replace ek:=ek.mono g3
     replace g0:=g0.mono n5
     have n6:RepR (α:=Work) ak.cells [aw,ax,aq,au,av,ay] [(⟨([]),(1:Int),(5:Int)⟩:Work),(⟨([]),(1:Int),(6:Int)⟩:Work),(⟨([(0:Int),(1:Int)]),(1:Int),(10:Int)⟩:Work),(⟨([(1:Int)]),(1:Int),(30:Int)⟩:Work),(⟨([(2:Int),(3:Int)]),(1:Int),(20:Int)⟩:Work),(⟨([(4:Int)]),(1:Int),(1:Int)⟩:Work)]:=.cons (by rw [aY]; exact ⟨_,rfl,(Sl.nil _)⟩)<|.cons (by rw [aZ]; exact ⟨_,rfl,(Sl.nil _)⟩)<|.cons (by rw [aT]; exact ⟨_,rfl,bZ⟩)<|.cons (by rw [aU]; exact ⟨_,rfl,cF⟩)<|.cons (by rw [aV]; exact ⟨_,rfl,ek⟩)<|.cons (by rw [a0]; exact ⟨_,rfl,g0⟩)<|.nil
     exact ⟨[(⟨([]),(1:Int),(5:Int)⟩:Work),(⟨([]),(1:Int),(6:Int)⟩:Work),(⟨([(0:Int),(1:Int)]),(1:Int),(10:Int)⟩:Work),(⟨([(1:Int)]),(1:Int),(30:Int)⟩:Work),(⟨([(2:Int),(3:Int)]),(1:Int),(20:Int)⟩:Work),(⟨([(4:Int)]),(1:Int),(1:Int)⟩:Work)],([(1:Int),(3:Int),(4:Int)]).set 1 ((vl28).getD s5 0:Int),0,5,[(⟨(0:Int),(3:Int),(8:Int)⟩:Note),(⟨(0:Int),(2:Int),(7:Int)⟩:Note),(⟨(1:Int),(0:Int),(9:Int)⟩:Note)],[(⟨(2:Int),(26:Int)⟩:Pub),(⟨(3:Int),(10:Int)⟩:Pub)],[(0:Int),(1:Int)],[(0:Int),(2:Int),(4:Int),(5:Int)],[(2:Int),(3:Int)],4,[[(1:Int),(2:Int),(4:Int)],[(1:Int),(3:Int),(4:Int)]],aB,aL,al,aD,aG,aM,aN,aO,[aw,ax,aq,au,av,ay],ak,[az,aA],aj,_,upds_of _ _ ⟨rfl,rfl,rfl,rfl,rfl,rfl,rfl,rfl,rfl,rfl,rfl,rfl,rfl,rfl,rfl,rfl,rfl,trivial⟩,hM,(H.pk [0,5,9,10,13,14,15,16,17,18,19,20,21,26]),n6,nU⟩
    replace hM:=M.e_f hM fb
    refine W.byc ((s4:Int)==6) (fun fd=>?_) (fun fd=>?_)
    ·replace hM:=M.e_t hM fd
     have n7:(s4:Int)=6:=eq_of_beq fd
     obtain ⟨yZ,hM⟩:=M.e_gd hM;refine kg 3 ?_;refine s_val (x_ix (v:=vat a4 1 (Int.toNat (s4:Int))) rfl rfl (Sl.ix (α:=Raw 0) T35.und T35.size (H.os 0) (by omega) (by have a6:=a5; omega)))<|s_val (x_ld (v:=Pq cx) rfl (ld_sc Sc32 (At.mono (raw_at (i:=(s4:Int)) (k:=6) (H.os 0) n7 rfl) (H.ol 0)))) ?_;refine kg 2 ?_;refine t_sw 11 0 [I ((vl28).getD s5 0)] (I ((vl28).getD s5 0)) H rfl rfl Sz3 rfl rfl rfl rfl ?_;intro y4 H;refine s_nil ?_
     obtain ⟨a7,H⟩:=H.emptyE
     obtain ⟨a8,H,n8⟩:=H.freezeE (k:=5) rfl
     replace H:=H.nf
     have el:=n8
     obtain ⟨a9,H,y5,n9⟩:=H.joinE (i:=0) (j:=5) rfl rfl
     replace el:=el.mono n9
     obtain ⟨ba,H,oa⟩:=H.freezeE (k:=5) rfl
     replace H:=H.nf
     have g4:=oa
     obtain ⟨aj,H,ob,od⟩:=H.joinE (i:=0) (j:=5) rfl rfl
     replace el:=el.mono ob
     replace g4:=g4.mono od
     have oe:RepR (α:=List Int) aj.cells [az,aA] [[(1:Int),(2:Int),(4:Int)],[(1:Int),(3:Int),(4:Int)]]:=.cons (by rw [aQ]; exact ⟨_,rfl,el⟩)<|.cons (by rw [aR]; exact ⟨_,rfl,g4⟩)<|.nil
     obtain ⟨bb,H⟩:=H.emptyE
     obtain ⟨bc,H,og⟩:=H.freezeE (k:=21) rfl
     replace H:=H.nf
     have b0:=og
     obtain ⟨bf,H,y6,oh⟩:=H.joinE (i:=0) (j:=21) rfl rfl
     replace b0:=b0.mono oh
     obtain ⟨bg,H,om⟩:=H.freezeE (k:=21) rfl
     replace H:=H.nf
     have cG:=om
     obtain ⟨bh,H,oo,oq⟩:=H.joinE (i:=0) (j:=21) rfl rfl
     replace b0:=b0.mono oo
     replace cG:=cG.mono oq
     obtain ⟨bi,H,ot⟩:=H.freezeE (k:=21) rfl
     replace H:=H.nf
     have em:=ot
     obtain ⟨bj,H,ke,ou⟩:=H.joinE (i:=0) (j:=21) rfl rfl
     replace b0:=b0.mono ke
     replace cG:=cG.mono ke
     replace em:=em.mono ou
     obtain ⟨bm,H,ov⟩:=H.freezeE (k:=21) rfl
     replace H:=H.nf
     have g5:=ov
     obtain ⟨ak,H,g6,ow⟩:=H.joinE (i:=0) (j:=21) rfl rfl
     replace b0:=b0.mono g6
     replace cG:=cG.mono g6
     replace em:=em.mono g6
     replace g5:=g5.mono ow
     have ox:RepR (α:=Work) ak.cells [aw,ax,aq,au,av,ay] [(⟨([]),(1:Int),(5:Int)⟩:Work),(⟨([]),(1:Int),(6:Int)⟩:Work),(⟨([(0:Int),(1:Int)]),(1:Int),(10:Int)⟩:Work),(⟨([(1:Int)]),(1:Int),(30:Int)⟩:Work),(⟨([(2:Int),(3:Int)]),(1:Int),(20:Int)⟩:Work),(⟨([(4:Int)]),(1:Int),(1:Int)⟩:Work)]:=.cons (by rw [aY]; exact ⟨_,rfl,(Sl.nil _)⟩)<|.cons (by rw [aZ]; exact ⟨_,rfl,(Sl.nil _)⟩)<|.cons (by rw [aT]; exact ⟨_,rfl,b0⟩)<|.cons (by rw [aU]; exact ⟨_,rfl,cG⟩)<|.cons (by rw [aV]; exact ⟨_,rfl,em⟩)<|.cons (by rw [a0]; exact ⟨_,rfl,g5⟩)<|.nil
     exact ⟨[(⟨([]),(1:Int),(5:Int)⟩:Work),(⟨([]),(1:Int),(6:Int)⟩:Work),(⟨([(0:Int),(1:Int)]),(1:Int),(10:Int)⟩:Work),(⟨([(1:Int)]),(1:Int),(30:Int)⟩:Work),(⟨([(2:Int),(3:Int)]),(1:Int),(20:Int)⟩:Work),(⟨([(4:Int)]),(1:Int),(1:Int)⟩:Work)],[(1:Int),(3:Int),(4:Int)],(vl28).getD s5 0,5,[(⟨(0:Int),(3:Int),(8:Int)⟩:Note),(⟨(0:Int),(2:Int),(7:Int)⟩:Note),(⟨(1:Int),(0:Int),(9:Int)⟩:Note)],[(⟨(2:Int),(26:Int)⟩:Pub),(⟨(3:Int),(10:Int)⟩:Pub)],[(0:Int),(1:Int)],[(0:Int),(2:Int),(4:Int),(5:Int)],[(2:Int),(3:Int)],4,[[(1:Int),(2:Int),(4:Int)],[(1:Int),(3:Int),(4:Int)]],aB,aL,al,aD,aG,aM,aN,aO,[aw,ax,aq,au,av,ay],ak,[az,aA],aj,_,upds_of _ _ ⟨rfl,rfl,rfl,rfl,rfl,rfl,rfl,rfl,rfl,rfl,rfl,rfl,rfl,rfl,rfl,rfl,rfl,trivial⟩,hM,(H.pk [0,5,9,10,13,14,15,16,17,18,19,20,21,26]),ox,oe⟩
    replace hM:=M.e_f hM fd
    refine W.byc ((s4:Int)==7) (fun fe=>?_) (fun fe=>?_)
    ·replace hM:=M.e_t hM fe
     have oy:(s4:Int)=7:=eq_of_beq fe
     obtain ⟨y7,hM⟩:=M.e_gd hM;refine kg 3 ?_;refine s_val (x_ix (v:=vat a4 1 (Int.toNat (s4:Int))) rfl rfl (Sl.ix (α:=Raw 0) T35.und T35.size (H.os 0) (by omega) (by have a6:=a5; omega)))<|s_val (x_ld (v:=Pq cy) rfl (ld_sc Sc32 (At.mono (raw_at (i:=(s4:Int)) (k:=7) (H.os 0) oy rfl) (H.ol 0)))) ?_;refine kg 2 ?_;refine t_sw 10 0 [I ((vl28).getD s5 0)] (I ((vl28).getD s5 0)) H rfl rfl Sz3 rfl rfl rfl rfl ?_;intro y8 H;refine s_nil ?_
     obtain ⟨a7,H⟩:=H.emptyE
     obtain ⟨a8,H,oz⟩:=H.freezeE (k:=5) rfl
     replace H:=H.nf
     have eo:=oz
     obtain ⟨a9,H,y9,oA⟩:=H.joinE (i:=0) (j:=5) rfl rfl
     replace eo:=eo.mono oA
     obtain ⟨ba,H,oB⟩:=H.freezeE (k:=5) rfl
     replace H:=H.nf
     have g7:=oB
     obtain ⟨aj,H,oC,oD⟩:=H.joinE (i:=0) (j:=5) rfl rfl
     replace eo:=eo.mono oC
     replace g7:=g7.mono oD
     have oE:RepR (α:=List Int) aj.cells [az,aA] [[(1:Int),(2:Int),(4:Int)],[(1:Int),(3:Int),(4:Int)]]:=.cons (by rw [aQ]; exact ⟨_,rfl,eo⟩)<|.cons (by rw [aR]; exact ⟨_,rfl,g7⟩)<|.nil
     obtain ⟨bb,H⟩:=H.emptyE
     obtain ⟨bc,H,oF⟩:=H.freezeE (k:=21) rfl
     replace H:=H.nf
     have b4:=oF
     obtain ⟨bf,H,za,oG⟩:=H.joinE (i:=0) (j:=21) rfl rfl
     replace b4:=b4.mono oG
     obtain ⟨bg,H,oH⟩:=H.freezeE (k:=21) rfl
     replace H:=H.nf
     have cH:=oH
     obtain ⟨bh,H,oI,oJ⟩:=H.joinE (i:=0) (j:=21) rfl rfl
     replace b4:=b4.mono oI
     replace cH:=cH.mono oJ
     obtain ⟨bi,H,oK⟩:=H.freezeE (k:=21) rfl
     replace H:=H.nf
     have ep:=oK
     obtain ⟨bj,H,kh,oL⟩:=H.joinE (i:=0) (j:=21) rfl rfl
     replace b4:=b4.mono kh
     replace cH:=cH.mono kh
     replace ep:=ep.mono oL
     obtain ⟨bm,H,oM⟩:=H.freezeE (k:=21) rfl
     replace H:=H.nf
     have g8:=oM
     obtain ⟨ak,H,g9,oN⟩:=H.joinE (i:=0) (j:=21) rfl rfl
     replace b4:=b4.mono g9
     replace cH:=cH.mono g9
     replace ep:=ep.mono g9
     replace g8:=g8.mono oN
     have oO:RepR (α:=Work) ak.cells [aw,ax,aq,au,av,ay] [(⟨([]),(1:Int),(5:Int)⟩:Work),(⟨([]),(1:Int),(6:Int)⟩:Work),(⟨([(0:Int),(1:Int)]),(1:Int),(10:Int)⟩:Work),(⟨([(1:Int)]),(1:Int),(30:Int)⟩:Work),(⟨([(2:Int),(3:Int)]),(1:Int),(20:Int)⟩:Work),(⟨([(4:Int)]),(1:Int),(1:Int)⟩:Work)]:=.cons (by rw [aY]; exact ⟨_,rfl,(Sl.nil _)⟩)<|.cons (by rw [aZ]; exact ⟨_,rfl,(Sl.nil _)⟩)<|.cons (by rw [aT]; exact ⟨_,rfl,b4⟩)<|.cons (by rw [aU]; exact ⟨_,rfl,cH⟩)<|.cons (by rw [aV]; exact ⟨_,rfl,ep⟩)<|.cons (by rw [a0]; exact ⟨_,rfl,g8⟩)<|.nil
     exact ⟨[(⟨([]),(1:Int),(5:Int)⟩:Work),(⟨([]),(1:Int),(6:Int)⟩:Work),(⟨([(0:Int),(1:Int)]),(1:Int),(10:Int)⟩:Work),(⟨([(1:Int)]),(1:Int),(30:Int)⟩:Work),(⟨([(2:Int),(3:Int)]),(1:Int),(20:Int)⟩:Work),(⟨([(4:Int)]),(1:Int),(1:Int)⟩:Work)],[(1:Int),(3:Int),(4:Int)],0,(vl28).getD s5 0,[(⟨(0:Int),(3:Int),(8:Int)⟩:Note),(⟨(0:Int),(2:Int),(7:Int)⟩:Note),(⟨(1:Int),(0:Int),(9:Int)⟩:Note)],[(⟨(2:Int),(26:Int)⟩:Pub),(⟨(3:Int),(10:Int)⟩:Pub)],[(0:Int),(1:Int)],[(0:Int),(2:Int),(4:Int),(5:Int)],[(2:Int),(3:Int)],4,[[(1:Int),(2:Int),(4:Int)],[(1:Int),(3:Int),(4:Int)]],aB,aL,al,aD,aG,aM,aN,aO,[aw,ax,aq,au,av,ay],ak,[az,aA],aj,_,upds_of _ _ ⟨rfl,rfl,rfl,rfl,rfl,rfl,rfl,rfl,rfl,rfl,rfl,rfl,rfl,rfl,rfl,rfl,rfl,trivial⟩,hM,(H.pk [0,5,9,10,13,14,15,16,17,18,19,20,21,26]),oO,oE⟩
    replace hM:=M.e_f hM fe
    refine W.byc ((s4:Int)==8) (fun ff=>?_) (fun ff=>?_)
    ·replace hM:=M.e_t hM ff
     have oP:(s4:Int)=8:=eq_of_beq ff
     obtain ⟨zb,hM⟩:=M.e_gd hM;refine kg 3 ?_;refine s_val (x_ix (v:=vat a4 1 (Int.toNat (s4:Int))) rfl rfl (Sl.ix (α:=Raw 0) T35.und T35.size (H.os 0) (by omega) (by have a6:=a5; omega)))<|s_val (x_ld (v:=fat (vat al 3 (Int.toNat 0)) 0) rfl (ld_sc Sc32 (At.mono (raw_at (i:=(s4:Int)) (k:=8) (H.os 0) oP rfl) (H.ol 0)))) ?_;refine kg 1 ?_;refine s_val (x_ncE (p:=fat (vat al 3 (Int.toNat 0)) 0) rfl (ptr_fat (Sl.pl (i:=0) (H.os 9) (by omega) (by omega)))) ?_;refine t_fst (α:=Note) (k:=9) (i:=0) (off:=0) (l:=[(⟨(0:Int),(3:Int),(8:Int)⟩:Note),(⟨(0:Int),(2:Int),(7:Int)⟩:Note),(⟨(1:Int),(0:Int),(9:Int)⟩:Note)]) (l':=([(⟨(0:Int),(3:Int),(8:Int)⟩:Note),(⟨(0:Int),(2:Int),(7:Int)⟩:Note),(⟨(1:Int),(0:Int),(9:Int)⟩:Note)]).set 0 ({ (([(⟨(0:Int),(3:Int),(8:Int)⟩:Note),(⟨(0:Int),(2:Int),(7:Int)⟩:Note),(⟨(1:Int),(0:Int),(9:Int)⟩:Note)]).getD 0 default) with work:=(vl28).getD s5 0 })) (val:=I ((vl28).getD s5 0)) H rfl Sz3 (by omega) (by omega) (([(⟨(0:Int),(3:Int),(8:Int)⟩:Note),(⟨(0:Int),(2:Int),(7:Int)⟩:Note),(⟨(1:Int),(0:Int),(9:Int)⟩:Note)]).getD 0 default) ({ (([(⟨(0:Int),(3:Int),(8:Int)⟩:Note),(⟨(0:Int),(2:Int),(7:Int)⟩:Note),(⟨(1:Int),(0:Int),(9:Int)⟩:Note)]).getD 0 default) with work:=(vl28).getD s5 0 }) (getD_some _ (by omega) _) rfl rfl [I ((vl28).getD s5 0)] rfl rfl rfl rfl rfl rfl rfl ?_;intro zc H;replace H:=H.nf
     have zd:(([(⟨(0:Int),(3:Int),(8:Int)⟩:Note),(⟨(0:Int),(2:Int),(7:Int)⟩:Note),(⟨(1:Int),(0:Int),(9:Int)⟩:Note)]).set 0 ({ (([(⟨(0:Int),(3:Int),(8:Int)⟩:Note),(⟨(0:Int),(2:Int),(7:Int)⟩:Note),(⟨(1:Int),(0:Int),(9:Int)⟩:Note)]).getD 0 default) with work:=(vl28).getD s5 0 })).length=([(⟨(0:Int),(3:Int),(8:Int)⟩:Note),(⟨(0:Int),(2:Int),(7:Int)⟩:Note),(⟨(1:Int),(0:Int),(9:Int)⟩:Note)]).length:=List.length_set
     refine s_nil ?_
     obtain ⟨a7,H⟩:=H.emptyE
     obtain ⟨a8,H,oQ⟩:=H.freezeE (k:=5) rfl
     replace H:=H.nf
     have eq:=oQ
     obtain ⟨a9,H,ze,oR⟩:=H.joinE (i:=0) (j:=5) rfl rfl
     replace eq:=eq.mono oR
     obtain ⟨ba,H,oS⟩:=H.freezeE (k:=5) rfl
     replace H:=H.nf
     have hG:=oS
     obtain ⟨aj,H,oT,oU⟩:=H.joinE (i:=0) (j:=5) rfl rfl
     replace eq:=eq.mono oT
     replace hG:=hG.mono oU
     have oV:RepR (α:=List Int) aj.cells [az,aA] [[(1:Int),(2:Int),(4:Int)],[(1:Int),(3:Int),(4:Int)]]:=.cons (by rw [aQ]; exact ⟨_,rfl,eq⟩)<|.cons (by rw [aR]; exact ⟨_,rfl,hG⟩)<|.nil
     obtain ⟨bb,H⟩:=H.emptyE
     obtain ⟨bc,H,oW⟩:=H.freezeE (k:=21) rfl
     replace H:=H.nf
     have b5:=oW
     obtain ⟨bf,H,zf,oX⟩:=H.joinE (i:=0) (j:=21) rfl rfl
     replace b5:=b5.mono oX
     obtain ⟨bg,H,oY⟩:=H.freezeE (k:=21) rfl
     replace H:=H.nf
     have cI:=oY
     obtain ⟨bh,H,oZ,o0⟩:=H.joinE (i:=0) (j:=21) rfl rfl
     replace b5:=b5.mono oZ
     replace cI:=cI.mono o0
     obtain ⟨bi,H,o1⟩:=H.freezeE (k:=21) rfl
     replace H:=H.nf
     have er:=o1
     obtain ⟨bj,H,ki,o4⟩:=H.joinE (i:=0) (j:=21) rfl rfl
     replace b5:=b5.mono ki
     replace cI:=cI.mono ki
     replace er:=er.mono o4
     obtain ⟨bm,H,o5⟩:=H.freezeE (k:=21) rfl
     replace H:=H.nf
     have hH:=o5
     obtain ⟨ak,H,hJ,o6⟩:=H.joinE (i:=0) (j:=21) rfl rfl
     replace b5:=b5.mono hJ
     replace cI:=cI.mono hJ
     replace er:=er.mono hJ
     replace hH:=hH.mono o6
     have o7:RepR (α:=Work) ak.cells [aw,ax,aq,au,av,ay] [(⟨([]),(1:Int),(5:Int)⟩:Work),(⟨([]),(1:Int),(6:Int)⟩:Work),(⟨([(0:Int),(1:Int)]),(1:Int),(10:Int)⟩:Work),(⟨([(1:Int)]),(1:Int),(30:Int)⟩:Work),(⟨([(2:Int),(3:Int)]),(1:Int),(20:Int)⟩:Work),(⟨([(4:Int)]),(1:Int),(1:Int)⟩:Work)]:=.cons (by rw [aY]; exact ⟨_,rfl,(Sl.nil _)⟩)<|.cons (by rw [aZ]; exact ⟨_,rfl,(Sl.nil _)⟩)<|.cons (by rw [aT]; exact ⟨_,rfl,b5⟩)<|.cons (by rw [aU]; exact ⟨_,rfl,cI⟩)<|.cons (by rw [aV]; exact ⟨_,rfl,er⟩)<|.cons (by rw [a0]; exact ⟨_,rfl,hH⟩)<|.nil
     exact ⟨[(⟨([]),(1:Int),(5:Int)⟩:Work),(⟨([]),(1:Int),(6:Int)⟩:Work),(⟨([(0:Int),(1:Int)]),(1:Int),(10:Int)⟩:Work),(⟨([(1:Int)]),(1:Int),(30:Int)⟩:Work),(⟨([(2:Int),(3:Int)]),(1:Int),(20:Int)⟩:Work),(⟨([(4:Int)]),(1:Int),(1:Int)⟩:Work)],[(1:Int),(3:Int),(4:Int)],0,5,([(⟨(0:Int),(3:Int),(8:Int)⟩:Note),(⟨(0:Int),(2:Int),(7:Int)⟩:Note),(⟨(1:Int),(0:Int),(9:Int)⟩:Note)]).set 0 ({ (([(⟨(0:Int),(3:Int),(8:Int)⟩:Note),(⟨(0:Int),(2:Int),(7:Int)⟩:Note),(⟨(1:Int),(0:Int),(9:Int)⟩:Note)]).getD 0 default) with work:=(vl28).getD s5 0 }),[(⟨(2:Int),(26:Int)⟩:Pub),(⟨(3:Int),(10:Int)⟩:Pub)],[(0:Int),(1:Int)],[(0:Int),(2:Int),(4:Int),(5:Int)],[(2:Int),(3:Int)],4,[[(1:Int),(2:Int),(4:Int)],[(1:Int),(3:Int),(4:Int)]],aB,aL,al,aD,aG,aM,aN,aO,[aw,ax,aq,au,av,ay],ak,[az,aA],aj,_,upds_of _ _ ⟨rfl,rfl,rfl,rfl,rfl,rfl,rfl,rfl,rfl,rfl,rfl,rfl,rfl,rfl,rfl,rfl,rfl,trivial⟩,hM,(H.pk [0,5,9,10,13,14,15,16,17,18,19,20,21,26]),o7,oV⟩
    replace hM:=M.e_f hM ff
    refine W.byc ((s4:Int)==9) (fun fg=>?_) (fun fg=>?_)
    ·replace hM:=M.e_t hM fg
     have o8:(s4:Int)=9:=eq_of_beq fg
     obtain ⟨zg,hM⟩:=M.e_gd hM;refine kg 3 ?_;refine s_val (x_ix (v:=vat a4 1 (Int.toNat (s4:Int))) rfl rfl (Sl.ix (α:=Raw 0) T35.und T35.size (H.os 0) (by omega) (by have a6:=a5; omega)))<|s_val (x_ld (v:=fat (vat al 3 (Int.toNat 1)) 1) rfl (ld_sc Sc32 (At.mono (raw_at (i:=(s4:Int)) (k:=9) (H.os 0) o8 rfl) (H.ol 0)))) ?_;refine kg 1 ?_;refine s_val (x_ncE (p:=fat (vat al 3 (Int.toNat 1)) 1) rfl (ptr_fat (Sl.pl (i:=1) (H.os 9) (by omega) (by omega)))) ?_;refine t_fst (α:=Note) (k:=9) (i:=1) (off:=1) (l:=[(⟨(0:Int),(3:Int),(8:Int)⟩:Note),(⟨(0:Int),(2:Int),(7:Int)⟩:Note),(⟨(1:Int),(0:Int),(9:Int)⟩:Note)]) (l':=([(⟨(0:Int),(3:Int),(8:Int)⟩:Note),(⟨(0:Int),(2:Int),(7:Int)⟩:Note),(⟨(1:Int),(0:Int),(9:Int)⟩:Note)]).set 1 ({ (([(⟨(0:Int),(3:Int),(8:Int)⟩:Note),(⟨(0:Int),(2:Int),(7:Int)⟩:Note),(⟨(1:Int),(0:Int),(9:Int)⟩:Note)]).getD 1 default) with version:=(vl28).getD s5 0 })) (val:=I ((vl28).getD s5 0)) H rfl Sz3 (by omega) (by omega) (([(⟨(0:Int),(3:Int),(8:Int)⟩:Note),(⟨(0:Int),(2:Int),(7:Int)⟩:Note),(⟨(1:Int),(0:Int),(9:Int)⟩:Note)]).getD 1 default) ({ (([(⟨(0:Int),(3:Int),(8:Int)⟩:Note),(⟨(0:Int),(2:Int),(7:Int)⟩:Note),(⟨(1:Int),(0:Int),(9:Int)⟩:Note)]).getD 1 default) with version:=(vl28).getD s5 0 }) (getD_some _ (by omega) _) rfl rfl [I ((vl28).getD s5 0)] rfl rfl rfl rfl rfl rfl rfl ?_;intro zh H;replace H:=H.nf
     have zi:(([(⟨(0:Int),(3:Int),(8:Int)⟩:Note),(⟨(0:Int),(2:Int),(7:Int)⟩:Note),(⟨(1:Int),(0:Int),(9:Int)⟩:Note)]).set 1 ({ (([(⟨(0:Int),(3:Int),(8:Int)⟩:Note),(⟨(0:Int),(2:Int),(7:Int)⟩:Note),(⟨(1:Int),(0:Int),(9:Int)⟩:Note)]).getD 1 default) with version:=(vl28).getD s5 0 })).length=([(⟨(0:Int),(3:Int),(8:Int)⟩:Note),(⟨(0:Int),(2:Int),(7:Int)⟩:Note),(⟨(1:Int),(0:Int),(9:Int)⟩:Note)]).length:=List.length_set
     refine s_nil ?_
     obtain ⟨a7,H⟩:=H.emptyE
     obtain ⟨a8,H,o9⟩:=H.freezeE (k:=5) rfl
     replace H:=H.nf
     have eu:=o9
     obtain ⟨a9,H,zj,pa⟩:=H.joinE (i:=0) (j:=5) rfl rfl
     replace eu:=eu.mono pa
     obtain ⟨ba,H,pb⟩:=H.freezeE (k:=5) rfl
     replace H:=H.nf
     have hN:=pb
     obtain ⟨aj,H,pc,pe⟩:=H.joinE (i:=0) (j:=5) rfl rfl
     replace eu:=eu.mono pc
     replace hN:=hN.mono pe
     have pf:RepR (α:=List Int) aj.cells [az,aA] [[(1:Int),(2:Int),(4:Int)],[(1:Int),(3:Int),(4:Int)]]:=.cons (by rw [aQ]; exact ⟨_,rfl,eu⟩)<|.cons (by rw [aR]; exact ⟨_,rfl,hN⟩)<|.nil
     obtain ⟨bb,H⟩:=H.emptyE
     obtain ⟨bc,H,pg⟩:=H.freezeE (k:=21) rfl
     replace H:=H.nf
     have b6:=pg
     obtain ⟨bf,H,zk,ph⟩:=H.joinE (i:=0) (j:=21) rfl rfl
     replace b6:=b6.mono ph
     obtain ⟨bg,H,pi⟩:=H.freezeE (k:=21) rfl
     replace H:=H.nf
     have cJ:=pi
     obtain ⟨bh,H,pj,pm⟩:=H.joinE (i:=0) (j:=21) rfl rfl
     replace b6:=b6.mono pj
     replace cJ:=cJ.mono pm
     obtain ⟨bi,H,pn⟩:=H.freezeE (k:=21) rfl
     replace H:=H.nf
     have ew:=pn
     obtain ⟨bj,H,kj,po⟩:=H.joinE (i:=0) (j:=21) rfl rfl
     replace b6:=b6.mono kj
     replace cJ:=cJ.mono kj
     replace ew:=ew.mono po
     obtain ⟨bm,H,pp⟩:=H.freezeE (k:=21) rfl
     replace H:=H.nf
     have hO:=pp
     obtain ⟨ak,H,hP,pq⟩:=H.joinE (i:=0) (j:=21) rfl rfl
     replace b6:=b6.mono hP
     replace cJ:=cJ.mono hP
     replace ew:=ew.mono hP
     replace hO:=hO.mono pq
     have pr:RepR (α:=Work) ak.cells [aw,ax,aq,au,av,ay] [(⟨([]),(1:Int),(5:Int)⟩:Work),(⟨([]),(1:Int),(6:Int)⟩:Work),(⟨([(0:Int),(1:Int)]),(1:Int),(10:Int)⟩:Work),(⟨([(1:Int)]),(1:Int),(30:Int)⟩:Work),(⟨([(2:Int),(3:Int)]),(1:Int),(20:Int)⟩:Work),(⟨([(4:Int)]),(1:Int),(1:Int)⟩:Work)]:=.cons (by rw [aY]; exact ⟨_,rfl,(Sl.nil _)⟩)<|.cons (by rw [aZ]; exact ⟨_,rfl,(Sl.nil _)⟩)<|.cons (by rw [aT]; exact ⟨_,rfl,b6⟩)<|.cons (by rw [aU]; exact ⟨_,rfl,cJ⟩)<|.cons (by rw [aV]; exact ⟨_,rfl,ew⟩)<|.cons (by rw [a0]; exact ⟨_,rfl,hO⟩)<|.nil
     exact ⟨[(⟨([]),(1:Int),(5:Int)⟩:Work),(⟨([]),(1:Int),(6:Int)⟩:Work),(⟨([(0:Int),(1:Int)]),(1:Int),(10:Int)⟩:Work),(⟨([(1:Int)]),(1:Int),(30:Int)⟩:Work),(⟨([(2:Int),(3:Int)]),(1:Int),(20:Int)⟩:Work),(⟨([(4:Int)]),(1:Int),(1:Int)⟩:Work)],[(1:Int),(3:Int),(4:Int)],0,5,([(⟨(0:Int),(3:Int),(8:Int)⟩:Note),(⟨(0:Int),(2:Int),(7:Int)⟩:Note),(⟨(1:Int),(0:Int),(9:Int)⟩:Note)]).set 1 ({ (([(⟨(0:Int),(3:Int),(8:Int)⟩:Note),(⟨(0:Int),(2:Int),(7:Int)⟩:Note),(⟨(1:Int),(0:Int),(9:Int)⟩:Note)]).getD 1 default) with version:=(vl28).getD s5 0 }),[(⟨(2:Int),(26:Int)⟩:Pub),(⟨(3:Int),(10:Int)⟩:Pub)],[(0:Int),(1:Int)],[(0:Int),(2:Int),(4:Int),(5:Int)],[(2:Int),(3:Int)],4,[[(1:Int),(2:Int),(4:Int)],[(1:Int),(3:Int),(4:Int)]],aB,aL,al,aD,aG,aM,aN,aO,[aw,ax,aq,au,av,ay],ak,[az,aA],aj,_,upds_of _ _ ⟨rfl,rfl,rfl,rfl,rfl,rfl,rfl,rfl,rfl,rfl,rfl,rfl,rfl,rfl,rfl,rfl,rfl,trivial⟩,hM,(H.pk [0,5,9,10,13,14,15,16,17,18,19,20,21,26]),pr,pf⟩
    replace hM:=M.e_f hM fg
    refine W.byc ((s4:Int)==10) (fun fh=>?_) (fun fh=>?_)
    ·replace hM:=M.e_t hM fh
     have pt:(s4:Int)=10:=eq_of_beq fh
     obtain ⟨zl,hM⟩:=M.e_gd hM;refine kg 3 ?_;refine s_val (x_ix (v:=vat a4 1 (Int.toNat (s4:Int))) rfl rfl (Sl.ix (α:=Raw 0) T35.und T35.size (H.os 0) (by omega) (by have a6:=a5; omega)))<|s_val (x_ld (v:=fat (vat al 3 (Int.toNat 0)) 2) rfl (ld_sc Sc32 (At.mono (raw_at (i:=(s4:Int)) (k:=10) (H.os 0) pt rfl) (H.ol 0)))) ?_;refine kg 1 ?_;refine s_val (x_ncE (p:=fat (vat al 3 (Int.toNat 0)) 2) rfl (ptr_fat (Sl.pl (i:=0) (H.os 9) (by omega) (by omega)))) ?_;refine t_fst (α:=Note) (k:=9) (i:=0) (off:=2) (l:=[(⟨(0:Int),(3:Int),(8:Int)⟩:Note),(⟨(0:Int),(2:Int),(7:Int)⟩:Note),(⟨(1:Int),(0:Int),(9:Int)⟩:Note)]) (l':=([(⟨(0:Int),(3:Int),(8:Int)⟩:Note),(⟨(0:Int),(2:Int),(7:Int)⟩:Note),(⟨(1:Int),(0:Int),(9:Int)⟩:Note)]).set 0 ({ (([(⟨(0:Int),(3:Int),(8:Int)⟩:Note),(⟨(0:Int),(2:Int),(7:Int)⟩:Note),(⟨(1:Int),(0:Int),(9:Int)⟩:Note)]).getD 0 default) with value:=(vl28).getD s5 0 })) (val:=I ((vl28).getD s5 0)) H rfl Sz3 (by omega) (by omega) (([(⟨(0:Int),(3:Int),(8:Int)⟩:Note),(⟨(0:Int),(2:Int),(7:Int)⟩:Note),(⟨(1:Int),(0:Int),(9:Int)⟩:Note)]).getD 0 default) ({ (([(⟨(0:Int),(3:Int),(8:Int)⟩:Note),(⟨(0:Int),(2:Int),(7:Int)⟩:Note),(⟨(1:Int),(0:Int),(9:Int)⟩:Note)]).getD 0 default) with value:=(vl28).getD s5 0 }) (getD_some _ (by omega) _) rfl rfl [I ((vl28).getD s5 0)] rfl rfl rfl rfl rfl rfl rfl ?_;intro zm H;replace H:=H.nf
     have zn:(([(⟨(0:Int),(3:Int),(8:Int)⟩:Note),(⟨(0:Int),(2:Int),(7:Int)⟩:Note),(⟨(1:Int),(0:Int),(9:Int)⟩:Note)]).set 0 ({ (([(⟨(0:Int),(3:Int),(8:Int)⟩:Note),(⟨(0:Int),(2:Int),(7:Int)⟩:Note),(⟨(1:Int),(0:Int),(9:Int)⟩:Note)]).getD 0 default) with value:=(vl28).getD s5 0 })).length=([(⟨(0:Int),(3:Int),(8:Int)⟩:Note),(⟨(0:Int),(2:Int),(7:Int)⟩:Note),(⟨(1:Int),(0:Int),(9:Int)⟩:Note)]).length:=List.length_set
     refine s_nil ?_
     obtain ⟨a7,H⟩:=H.emptyE
     obtain ⟨a8,H,pu⟩:=H.freezeE (k:=5) rfl
     replace H:=H.nf
     have ey:=pu
     obtain ⟨a9,H,zo,pv⟩:=H.joinE (i:=0) (j:=5) rfl rfl
     replace ey:=ey.mono pv
     obtain ⟨ba,H,pw⟩:=H.freezeE (k:=5) rfl
     replace H:=H.nf
     have hX:=pw
     obtain ⟨aj,H,px,py⟩:=H.joinE (i:=0) (j:=5) rfl rfl
     replace ey:=ey.mono px
     replace hX:=hX.mono py
     have pz:RepR (α:=List Int) aj.cells [az,aA] [[(1:Int),(2:Int),(4:Int)],[(1:Int),(3:Int),(4:Int)]]:=.cons (by rw [aQ]; exact ⟨_,rfl,ey⟩)<|.cons (by rw [aR]; exact ⟨_,rfl,hX⟩)<|.nil
     obtain ⟨bb,H⟩:=H.emptyE
     obtain ⟨bc,H,pA⟩:=H.freezeE (k:=21) rfl
     replace H:=H.nf
     have b7:=pA
     obtain ⟨bf,H,zp,pB⟩:=H.joinE (i:=0) (j:=21) rfl rfl
     replace b7:=b7.mono pB
     obtain ⟨bg,H,pC⟩:=H.freezeE (k:=21) rfl
     replace H:=H.nf
     have cK:=pC
     obtain ⟨bh,H,pD,pE⟩:=H.joinE (i:=0) (j:=21) rfl rfl
     replace b7:=b7.mono pD
     replace cK:=cK.mono pE
     obtain ⟨bi,H,pF⟩:=H.freezeE (k:=21) rfl
     replace H:=H.nf
     have ez:=pF
     obtain ⟨bj,H,kl,pG⟩:=H.joinE (i:=0) (j:=21) rfl rfl
     replace b7:=b7.mono kl
     replace cK:=cK.mono kl
     replace ez:=ez.mono pG
     obtain ⟨bm,H,pH⟩:=H.freezeE (k:=21) rfl
     replace H:=H.nf
     have hZ:=pH
     obtain ⟨ak,H,h7,pI⟩:=H.joinE (i:=0) (j:=21) rfl rfl
     replace b7:=b7.mono h7
     replace cK:=cK.mono h7
     replace ez:=ez.mono h7
     replace hZ:=hZ.mono pI
     have pJ:RepR (α:=Work) ak.cells [aw,ax,aq,au,av,ay] [(⟨([]),(1:Int),(5:Int)⟩:Work),(⟨([]),(1:Int),(6:Int)⟩:Work),(⟨([(0:Int),(1:Int)]),(1:Int),(10:Int)⟩:Work),(⟨([(1:Int)]),(1:Int),(30:Int)⟩:Work),(⟨([(2:Int),(3:Int)]),(1:Int),(20:Int)⟩:Work),(⟨([(4:Int)]),(1:Int),(1:Int)⟩:Work)]:=.cons (by rw [aY]; exact ⟨_,rfl,(Sl.nil _)⟩)<|.cons (by rw [aZ]; exact ⟨_,rfl,(Sl.nil _)⟩)<|.cons (by rw [aT]; exact ⟨_,rfl,b7⟩)<|.cons (by rw [aU]; exact ⟨_,rfl,cK⟩)<|.cons (by rw [aV]; exact ⟨_,rfl,ez⟩)<|.cons (by rw [a0]; exact ⟨_,rfl,hZ⟩)<|.nil
     exact ⟨[(⟨([]),(1:Int),(5:Int)⟩:Work),(⟨([]),(1:Int),(6:Int)⟩:Work),(⟨([(0:Int),(1:Int)]),(1:Int),(10:Int)⟩:Work),(⟨([(1:Int)]),(1:Int),(30:Int)⟩:Work),(⟨([(2:Int),(3:Int)]),(1:Int),(20:Int)⟩:Work),(⟨([(4:Int)]),(1:Int),(1:Int)⟩:Work)],[(1:Int),(3:Int),(4:Int)],0,5,([(⟨(0:Int),(3:Int),(8:Int)⟩:Note),(⟨(0:Int),(2:Int),(7:Int)⟩:Note),(⟨(1:Int),(0:Int),(9:Int)⟩:Note)]).set 0 ({ (([(⟨(0:Int),(3:Int),(8:Int)⟩:Note),(⟨(0:Int),(2:Int),(7:Int)⟩:Note),(⟨(1:Int),(0:Int),(9:Int)⟩:Note)]).getD 0 default) with value:=(vl28).getD s5 0 }),[(⟨(2:Int),(26:Int)⟩:Pub),(⟨(3:Int),(10:Int)⟩:Pub)],[(0:Int),(1:Int)],[(0:Int),(2:Int),(4:Int),(5:Int)],[(2:Int),(3:Int)],4,[[(1:Int),(2:Int),(4:Int)],[(1:Int),(3:Int),(4:Int)]],aB,aL,al,aD,aG,aM,aN,aO,[aw,ax,aq,au,av,ay],ak,[az,aA],aj,_,upds_of _ _ ⟨rfl,rfl,rfl,rfl,rfl,rfl,rfl,rfl,rfl,rfl,rfl,rfl,rfl,rfl,rfl,rfl,rfl,trivial⟩,hM,(H.pk [0,5,9,10,13,14,15,16,17,18,19,20,21,26]),pJ,pz⟩
    replace hM:=M.e_f hM fh
    refine W.byc ((s4:Int)==11) (fun fi=>?_) (fun fi=>?_)
    ·replace hM:=M.e_t hM fi
     have pK:(s4:Int)=11:=eq_of_beq fi
     obtain ⟨zq,hM⟩:=M.e_gd hM;refine kg 3 ?_;refine s_val (x_ix (v:=vat a4 1 (Int.toNat (s4:Int))) rfl rfl (Sl.ix (α:=Raw 0) T35.und T35.size (H.os 0) (by omega) (by have a6:=a5; omega)))<|s_val (x_ld (v:=fat (vat al 3 (Int.toNat 2)) 2) rfl (ld_sc Sc32 (At.mono (raw_at (i:=(s4:Int)) (k:=11) (H.os 0) pK rfl) (H.ol 0)))) ?_;refine kg 1 ?_;refine s_val (x_ncE (p:=fat (vat al 3 (Int.toNat 2)) 2) rfl (ptr_fat (Sl.pl (i:=2) (H.os 9) (by omega) (by omega)))) ?_;refine t_fst (α:=Note) (k:=9) (i:=2) (off:=2) (l:=[(⟨(0:Int),(3:Int),(8:Int)⟩:Note),(⟨(0:Int),(2:Int),(7:Int)⟩:Note),(⟨(1:Int),(0:Int),(9:Int)⟩:Note)]) (l':=([(⟨(0:Int),(3:Int),(8:Int)⟩:Note),(⟨(0:Int),(2:Int),(7:Int)⟩:Note),(⟨(1:Int),(0:Int),(9:Int)⟩:Note)]).set 2 ({ (([(⟨(0:Int),(3:Int),(8:Int)⟩:Note),(⟨(0:Int),(2:Int),(7:Int)⟩:Note),(⟨(1:Int),(0:Int),(9:Int)⟩:Note)]).getD 2 default) with value:=(vl28).getD s5 0 })) (val:=I ((vl28).getD s5 0)) H rfl Sz3 (by omega) (by omega) (([(⟨(0:Int),(3:Int),(8:Int)⟩:Note),(⟨(0:Int),(2:Int),(7:Int)⟩:Note),(⟨(1:Int),(0:Int),(9:Int)⟩:Note)]).getD 2 default) ({ (([(⟨(0:Int),(3:Int),(8:Int)⟩:Note),(⟨(0:Int),(2:Int),(7:Int)⟩:Note),(⟨(1:Int),(0:Int),(9:Int)⟩:Note)]).getD 2 default) with value:=(vl28).getD s5 0 }) (getD_some _ (by omega) _) rfl rfl [I ((vl28).getD s5 0)] rfl rfl rfl rfl rfl rfl rfl ?_;intro zr H;replace H:=H.nf
     have zt:(([(⟨(0:Int),(3:Int),(8:Int)⟩:Note),(⟨(0:Int),(2:Int),(7:Int)⟩:Note),(⟨(1:Int),(0:Int),(9:Int)⟩:Note)]).set 2 ({ (([(⟨(0:Int),(3:Int),(8:Int)⟩:Note),(⟨(0:Int),(2:Int),(7:Int)⟩:Note),(⟨(1:Int),(0:Int),(9:Int)⟩:Note)]).getD 2 default) with value:=(vl28).getD s5 0 })).length=([(⟨(0:Int),(3:Int),(8:Int)⟩:Note),(⟨(0:Int),(2:Int),(7:Int)⟩:Note),(⟨(1:Int),(0:Int),(9:Int)⟩:Note)]).length:=List.length_set
     refine s_nil ?_
     obtain ⟨a7,H⟩:=H.emptyE
     obtain ⟨a8,H,pL⟩:=H.freezeE (k:=5) rfl
     replace H:=H.nf
     have eA:=pL
     obtain ⟨a9,H,zu,pM⟩:=H.joinE (i:=0) (j:=5) rfl rfl
     replace eA:=eA.mono pM
     obtain ⟨ba,H,pN⟩:=H.freezeE (k:=5) rfl
     replace H:=H.nf
     have h8:=pN
     obtain ⟨aj,H,pO,pP⟩:=H.joinE (i:=0) (j:=5) rfl rfl
     replace eA:=eA.mono pO
     replace h8:=h8.mono pP
     have pQ:RepR (α:=List Int) aj.cells [az,aA] [[(1:Int),(2:Int),(4:Int)],[(1:Int),(3:Int),(4:Int)]]:=.cons (by rw [aQ]; exact ⟨_,rfl,eA⟩)<|.cons (by rw [aR]; exact ⟨_,rfl,h8⟩)<|.nil
     obtain ⟨bb,H⟩:=H.emptyE
     obtain ⟨bc,H,pR⟩:=H.freezeE (k:=21) rfl
     replace H:=H.nf
     have b8:=pR
     obtain ⟨bf,H,zv,pS⟩:=H.joinE (i:=0) (j:=21) rfl rfl
     replace b8:=b8.mono pS
     obtain ⟨bg,H,pT⟩:=H.freezeE (k:=21) rfl
     replace H:=H.nf
     have cL:=pT
     obtain ⟨bh,H,pU,pV⟩:=H.joinE (i:=0) (j:=21) rfl rfl
     replace b8:=b8.mono pU
     replace cL:=cL.mono pV
     obtain ⟨bi,H,pW⟩:=H.freezeE (k:=21) rfl
     replace H:=H.nf
     have eB:=pW
     obtain ⟨bj,H,km,pX⟩:=H.joinE (i:=0) (j:=21) rfl rfl
     replace b8:=b8.mono km
     replace cL:=cL.mono km
     replace eB:=eB.mono pX
     obtain ⟨bm,H,pY⟩:=H.freezeE (k:=21) rfl
     replace H:=H.nf
     have h9:=pY
     obtain ⟨ak,H,ia,pZ⟩:=H.joinE (i:=0) (j:=21) rfl rfl
     replace b8:=b8.mono ia
     replace cL:=cL.mono ia
     replace eB:=eB.mono ia
     replace h9:=h9.mono pZ
     have p0:RepR (α:=Work) ak.cells [aw,ax,aq,au,av,ay] [(⟨([]),(1:Int),(5:Int)⟩:Work),(⟨([]),(1:Int),(6:Int)⟩:Work),(⟨([(0:Int),(1:Int)]),(1:Int),(10:Int)⟩:Work),(⟨([(1:Int)]),(1:Int),(30:Int)⟩:Work),(⟨([(2:Int),(3:Int)]),(1:Int),(20:Int)⟩:Work),(⟨([(4:Int)]),(1:Int),(1:Int)⟩:Work)]:=.cons (by rw [aY]; exact ⟨_,rfl,(Sl.nil _)⟩)<|.cons (by rw [aZ]; exact ⟨_,rfl,(Sl.nil _)⟩)<|.cons (by rw [aT]; exact ⟨_,rfl,b8⟩)<|.cons (by rw [aU]; exact ⟨_,rfl,cL⟩)<|.cons (by rw [aV]; exact ⟨_,rfl,eB⟩)<|.cons (by rw [a0]; exact ⟨_,rfl,h9⟩)<|.nil
     exact ⟨[(⟨([]),(1:Int),(5:Int)⟩:Work),(⟨([]),(1:Int),(6:Int)⟩:Work),(⟨([(0:Int),(1:Int)]),(1:Int),(10:Int)⟩:Work),(⟨([(1:Int)]),(1:Int),(30:Int)⟩:Work),(⟨([(2:Int),(3:Int)]),(1:Int),(20:Int)⟩:Work),(⟨([(4:Int)]),(1:Int),(1:Int)⟩:Work)],[(1:Int),(3:Int),(4:Int)],0,5,([(⟨(0:Int),(3:Int),(8:Int)⟩:Note),(⟨(0:Int),(2:Int),(7:Int)⟩:Note),(⟨(1:Int),(0:Int),(9:Int)⟩:Note)]).set 2 ({ (([(⟨(0:Int),(3:Int),(8:Int)⟩:Note),(⟨(0:Int),(2:Int),(7:Int)⟩:Note),(⟨(1:Int),(0:Int),(9:Int)⟩:Note)]).getD 2 default) with value:=(vl28).getD s5 0 }),[(⟨(2:Int),(26:Int)⟩:Pub),(⟨(3:Int),(10:Int)⟩:Pub)],[(0:Int),(1:Int)],[(0:Int),(2:Int),(4:Int),(5:Int)],[(2:Int),(3:Int)],4,[[(1:Int),(2:Int),(4:Int)],[(1:Int),(3:Int),(4:Int)]],aB,aL,al,aD,aG,aM,aN,aO,[aw,ax,aq,au,av,ay],ak,[az,aA],aj,_,upds_of _ _ ⟨rfl,rfl,rfl,rfl,rfl,rfl,rfl,rfl,rfl,rfl,rfl,rfl,rfl,rfl,rfl,rfl,rfl,trivial⟩,hM,(H.pk [0,5,9,10,13,14,15,16,17,18,19,20,21,26]),p0,pQ⟩
    replace hM:=M.e_f hM fi
    refine W.byc ((s4:Int)==12) (fun fj=>?_) (fun fj=>?_)
    ·replace hM:=M.e_t hM fj
     have p1:(s4:Int)=12:=eq_of_beq fj
     obtain ⟨zw,hM⟩:=M.e_gd hM;refine kg 3 ?_;refine s_val (x_ix (v:=vat a4 1 (Int.toNat (s4:Int))) rfl rfl (Sl.ix (α:=Raw 0) T35.und T35.size (H.os 0) (by omega) (by have a6:=a5; omega)))<|s_val (x_ld (v:=fat (vat aD 2 (Int.toNat 0)) 0) rfl (ld_sc Sc32 (At.mono (raw_at (i:=(s4:Int)) (k:=12) (H.os 0) p1 rfl) (H.ol 0)))) ?_;refine kg 1 ?_;refine s_val (x_ncE (p:=fat (vat aD 2 (Int.toNat 0)) 0) rfl (ptr_fat (Sl.pl (i:=0) (H.os 8) (by omega) (by omega)))) ?_;refine t_fst (α:=Pub) (k:=8) (i:=0) (off:=0) (l:=[(⟨(2:Int),(26:Int)⟩:Pub),(⟨(3:Int),(10:Int)⟩:Pub)]) (l':=([(⟨(2:Int),(26:Int)⟩:Pub),(⟨(3:Int),(10:Int)⟩:Pub)]).set 0 ({ (([(⟨(2:Int),(26:Int)⟩:Pub),(⟨(3:Int),(10:Int)⟩:Pub)]).getD 0 default) with work:=(vl28).getD s5 0 })) (val:=I ((vl28).getD s5 0)) H rfl Sz3 (by omega) (by omega) (([(⟨(2:Int),(26:Int)⟩:Pub),(⟨(3:Int),(10:Int)⟩:Pub)]).getD 0 default) ({ (([(⟨(2:Int),(26:Int)⟩:Pub),(⟨(3:Int),(10:Int)⟩:Pub)]).getD 0 default) with work:=(vl28).getD s5 0 }) (getD_some _ (by omega) _) rfl rfl [I ((vl28).getD s5 0)] rfl rfl rfl rfl rfl rfl rfl ?_;intro zx H;replace H:=H.nf
     have zy:(([(⟨(2:Int),(26:Int)⟩:Pub),(⟨(3:Int),(10:Int)⟩:Pub)]).set 0 ({ (([(⟨(2:Int),(26:Int)⟩:Pub),(⟨(3:Int),(10:Int)⟩:Pub)]).getD 0 default) with work:=(vl28).getD s5 0 })).length=([(⟨(2:Int),(26:Int)⟩:Pub),(⟨(3:Int),(10:Int)⟩:Pub)]).length:=List.length_set
     refine s_nil ?_
     obtain ⟨a7,H⟩:=H.emptyE
     obtain ⟨a8,H,p2⟩:=H.freezeE (k:=5) rfl
     replace H:=H.nf
     have eC:=p2
     obtain ⟨a9,H,zz,p3⟩:=H.joinE (i:=0) (j:=5) rfl rfl
     replace eC:=eC.mono p3
     obtain ⟨ba,H,p4⟩:=H.freezeE (k:=5) rfl
     replace H:=H.nf
     have ib:=p4
     obtain ⟨aj,H,p5,p6⟩:=H.joinE (i:=0) (j:=5) rfl rfl
     replace eC:=eC.mono p5
     replace ib:=ib.mono p6
     have p7:RepR (α:=List Int) aj.cells [az,aA] [[(1:Int),(2:Int),(4:Int)],[(1:Int),(3:Int),(4:Int)]]:=.cons (by rw [aQ]; exact ⟨_,rfl,eC⟩)<|.cons (by rw [aR]; exact ⟨_,rfl,ib⟩)<|.nil
     obtain ⟨bb,H⟩:=H.emptyE
     obtain ⟨bc,H,p8⟩:=H.freezeE (k:=21) rfl
     replace H:=H.nf
     have b9:=p8
     obtain ⟨bf,H,zB,p9⟩:=H.joinE (i:=0) (j:=21) rfl rfl
     replace b9:=b9.mono p9
     obtain ⟨bg,H,qa⟩:=H.freezeE (k:=21) rfl
     replace H:=H.nf
     have cM:=qa
     obtain ⟨bh,H,qb,qc⟩:=H.joinE (i:=0) (j:=21) rfl rfl
     replace b9:=b9.mono qb
     replace cM:=cM.mono qc
     obtain ⟨bi,H,qd⟩:=H.freezeE (k:=21) rfl
     replace H:=H.nf
     have eD:=qd
     obtain ⟨bj,H,kn,qe⟩:=H.joinE (i:=0) (j:=21) rfl rfl
     replace b9:=b9.mono kn
     replace cM:=cM.mono kn
     replace eD:=eD.mono qe
     obtain ⟨bm,H,qf⟩:=H.freezeE (k:=21) rfl
     replace H:=H.nf
     have ic:=qf
     obtain ⟨ak,H,ie,qg⟩:=H.joinE (i:=0) (j:=21) rfl rfl
     replace b9:=b9.mono ie
     replace cM:=cM.mono ie
     replace eD:=eD.mono ie
     replace ic:=ic.mono qg
     have qh:RepR (α:=Work) ak.cells [aw,ax,aq,au,av,ay] [(⟨([]),(1:Int),(5:Int)⟩:Work),(⟨([]),(1:Int),(6:Int)⟩:Work),(⟨([(0:Int),(1:Int)]),(1:Int),(10:Int)⟩:Work),(⟨([(1:Int)]),(1:Int),(30:Int)⟩:Work),(⟨([(2:Int),(3:Int)]),(1:Int),(20:Int)⟩:Work),(⟨([(4:Int)]),(1:Int),(1:Int)⟩:Work)]:=.cons (by rw [aY]; exact ⟨_,rfl,(Sl.nil _)⟩)<|.cons (by rw [aZ]; exact ⟨_,rfl,(Sl.nil _)⟩)<|.cons (by rw [aT]; exact ⟨_,rfl,b9⟩)<|.cons (by rw [aU]; exact ⟨_,rfl,cM⟩)<|.cons (by rw [aV]; exact ⟨_,rfl,eD⟩)<|.cons (by rw [a0]; exact ⟨_,rfl,ic⟩)<|.nil
     exact ⟨[(⟨([]),(1:Int),(5:Int)⟩:Work),(⟨([]),(1:Int),(6:Int)⟩:Work),(⟨([(0:Int),(1:Int)]),(1:Int),(10:Int)⟩:Work),(⟨([(1:Int)]),(1:Int),(30:Int)⟩:Work),(⟨([(2:Int),(3:Int)]),(1:Int),(20:Int)⟩:Work),(⟨([(4:Int)]),(1:Int),(1:Int)⟩:Work)],[(1:Int),(3:Int),(4:Int)],0,5,[(⟨(0:Int),(3:Int),(8:Int)⟩:Note),(⟨(0:Int),(2:Int),(7:Int)⟩:Note),(⟨(1:Int),(0:Int),(9:Int)⟩:Note)],([(⟨(2:Int),(26:Int)⟩:Pub),(⟨(3:Int),(10:Int)⟩:Pub)]).set 0 ({ (([(⟨(2:Int),(26:Int)⟩:Pub),(⟨(3:Int),(10:Int)⟩:Pub)]).getD 0 default) with work:=(vl28).getD s5 0 }),[(0:Int),(1:Int)],[(0:Int),(2:Int),(4:Int),(5:Int)],[(2:Int),(3:Int)],4,[[(1:Int),(2:Int),(4:Int)],[(1:Int),(3:Int),(4:Int)]],aB,aL,al,aD,aG,aM,aN,aO,[aw,ax,aq,au,av,ay],ak,[az,aA],aj,_,upds_of _ _ ⟨rfl,rfl,rfl,rfl,rfl,rfl,rfl,rfl,rfl,rfl,rfl,rfl,rfl,rfl,rfl,rfl,rfl,trivial⟩,hM,(H.pk [0,5,9,10,13,14,15,16,17,18,19,20,21,26]),qh,p7⟩
    replace hM:=M.e_f hM fj
    refine W.byc ((s4:Int)==13) (fun fk=>?_) (fun fk=>?_)
    ·replace hM:=M.e_t hM fk
     have qi:(s4:Int)=13:=eq_of_beq fk
     obtain ⟨zC,hM⟩:=M.e_gd hM;refine kg 3 ?_;refine s_val (x_ix (v:=vat a4 1 (Int.toNat (s4:Int))) rfl rfl (Sl.ix (α:=Raw 0) T35.und T35.size (H.os 0) (by omega) (by have a6:=a5; omega)))<|s_val (x_ld (v:=fat (vat aD 2 (Int.toNat 1)) 1) rfl (ld_sc Sc32 (At.mono (raw_at (i:=(s4:Int)) (k:=13) (H.os 0) qi rfl) (H.ol 0)))) ?_;refine kg 1 ?_;refine s_val (x_ncE (p:=fat (vat aD 2 (Int.toNat 1)) 1) rfl (ptr_fat (Sl.pl (i:=1) (H.os 8) (by omega) (by omega)))) ?_;refine t_fst (α:=Pub) (k:=8) (i:=1) (off:=1) (l:=[(⟨(2:Int),(26:Int)⟩:Pub),(⟨(3:Int),(10:Int)⟩:Pub)]) (l':=([(⟨(2:Int),(26:Int)⟩:Pub),(⟨(3:Int),(10:Int)⟩:Pub)]).set 1 ({ (([(⟨(2:Int),(26:Int)⟩:Pub),(⟨(3:Int),(10:Int)⟩:Pub)]).getD 1 default) with value:=(vl28).getD s5 0 })) (val:=I ((vl28).getD s5 0)) H rfl Sz3 (by omega) (by omega) (([(⟨(2:Int),(26:Int)⟩:Pub),(⟨(3:Int),(10:Int)⟩:Pub)]).getD 1 default) ({ (([(⟨(2:Int),(26:Int)⟩:Pub),(⟨(3:Int),(10:Int)⟩:Pub)]).getD 1 default) with value:=(vl28).getD s5 0 }) (getD_some _ (by omega) _) rfl rfl [I ((vl28).getD s5 0)] rfl rfl rfl rfl rfl rfl rfl ?_;intro zD H;replace H:=H.nf
     have zE:(([(⟨(2:Int),(26:Int)⟩:Pub),(⟨(3:Int),(10:Int)⟩:Pub)]).set 1 ({ (([(⟨(2:Int),(26:Int)⟩:Pub),(⟨(3:Int),(10:Int)⟩:Pub)]).getD 1 default) with value:=(vl28).getD s5 0 })).length=([(⟨(2:Int),(26:Int)⟩:Pub),(⟨(3:Int),(10:Int)⟩:Pub)]).length:=List.length_set
     refine s_nil ?_
     obtain ⟨a7,H⟩:=H.emptyE
     obtain ⟨a8,H,qj⟩:=H.freezeE (k:=5) rfl
     replace H:=H.nf
     have eE:=qj
     obtain ⟨a9,H,zF,qk⟩:=H.joinE (i:=0) (j:=5) rfl rfl
     replace eE:=eE.mono qk
     obtain ⟨ba,H,ql⟩:=H.freezeE (k:=5) rfl
     replace H:=H.nf
     have ig:=ql
     obtain ⟨aj,H,qm,qn⟩:=H.joinE (i:=0) (j:=5) rfl rfl
     replace eE:=eE.mono qm
     replace ig:=ig.mono qn
     have qo:RepR (α:=List Int) aj.cells [az,aA] [[(1:Int),(2:Int),(4:Int)],[(1:Int),(3:Int),(4:Int)]]:=.cons (by rw [aQ]; exact ⟨_,rfl,eE⟩)<|.cons (by rw [aR]; exact ⟨_,rfl,ig⟩)<|.nil
     obtain ⟨bb,H⟩:=H.emptyE
     obtain ⟨bc,H,qp⟩:=H.freezeE (k:=21) rfl
     replace H:=H.nf
     have ca:=qp
     obtain ⟨bf,H,zG,qq⟩:=H.joinE (i:=0) (j:=21) rfl rfl
     replace ca:=ca.mono qq
     obtain ⟨bg,H,qr⟩:=H.freezeE (k:=21) rfl
     replace H:=H.nf
     have cN:=qr
     obtain ⟨bh,H,qs,qt⟩:=H.joinE (i:=0) (j:=21) rfl rfl
     replace ca:=ca.mono qs
     replace cN:=cN.mono qt
     obtain ⟨bi,H,qu⟩:=H.freezeE (k:=21) rfl
     replace H:=H.nf
     have eF:=qu
     obtain ⟨bj,H,ko,qv⟩:=H.joinE (i:=0) (j:=21) rfl rfl
     replace ca:=ca.mono ko
     replace cN:=cN.mono ko
     replace eF:=eF.mono qv
     obtain ⟨bm,H,qw⟩:=H.freezeE (k:=21) rfl
     replace H:=H.nf
     have ii:=qw
     obtain ⟨ak,H,ij,qx⟩:=H.joinE (i:=0) (j:=21) rfl rfl
     replace ca:=ca.mono ij
     replace cN:=cN.mono ij
     replace eF:=eF.mono ij
     replace ii:=ii.mono qx
     have qy:RepR (α:=Work) ak.cells [aw,ax,aq,au,av,ay] [(⟨([]),(1:Int),(5:Int)⟩:Work),(⟨([]),(1:Int),(6:Int)⟩:Work),(⟨([(0:Int),(1:Int)]),(1:Int),(10:Int)⟩:Work),(⟨([(1:Int)]),(1:Int),(30:Int)⟩:Work),(⟨([(2:Int),(3:Int)]),(1:Int),(20:Int)⟩:Work),(⟨([(4:Int)]),(1:Int),(1:Int)⟩:Work)]:=.cons (by rw [aY]; exact ⟨_,rfl,(Sl.nil _)⟩)<|.cons (by rw [aZ]; exact ⟨_,rfl,(Sl.nil _)⟩)<|.cons (by rw [aT]; exact ⟨_,rfl,ca⟩)<|.cons (by rw [aU]; exact ⟨_,rfl,cN⟩)<|.cons (by rw [aV]; exact ⟨_,rfl,eF⟩)<|.cons (by rw [a0]; exact ⟨_,rfl,ii⟩)<|.nil
     exact ⟨[(⟨([]),(1:Int),(5:Int)⟩:Work),(⟨([]),(1:Int),(6:Int)⟩:Work),(⟨([(0:Int),(1:Int)]),(1:Int),(10:Int)⟩:Work),(⟨([(1:Int)]),(1:Int),(30:Int)⟩:Work),(⟨([(2:Int),(3:Int)]),(1:Int),(20:Int)⟩:Work),(⟨([(4:Int)]),(1:Int),(1:Int)⟩:Work)],[(1:Int),(3:Int),(4:Int)],0,5,[(⟨(0:Int),(3:Int),(8:Int)⟩:Note),(⟨(0:Int),(2:Int),(7:Int)⟩:Note),(⟨(1:Int),(0:Int),(9:Int)⟩:Note)],([(⟨(2:Int),(26:Int)⟩:Pub),(⟨(3:Int),(10:Int)⟩:Pub)]).set 1 ({ (([(⟨(2:Int),(26:Int)⟩:Pub),(⟨(3:Int),(10:Int)⟩:Pub)]).getD 1 default) with value:=(vl28).getD s5 0 }),[(0:Int),(1:Int)],[(0:Int),(2:Int),(4:Int),(5:Int)],[(2:Int),(3:Int)],4,[[(1:Int),(2:Int),(4:Int)],[(1:Int),(3:Int),(4:Int)]],aB,aL,al,aD,aG,aM,aN,aO,[aw,ax,aq,au,av,ay],ak,[az,aA],aj,_,upds_of _ _ ⟨rfl,rfl,rfl,rfl,rfl,rfl,rfl,rfl,rfl,rfl,rfl,rfl,rfl,rfl,rfl,rfl,rfl,trivial⟩,hM,(H.pk [0,5,9,10,13,14,15,16,17,18,19,20,21,26]),qy,qo⟩
    replace hM:=M.e_f hM fk
    refine W.byc ((s4:Int)==14) (fun fl=>?_) (fun fl=>?_)
    ·replace hM:=M.e_t hM fl
     have qz:(s4:Int)=14:=eq_of_beq fl
     obtain ⟨zH,hM⟩:=M.e_gd hM;refine kg 3 ?_;refine s_val (x_ix (v:=vat a4 1 (Int.toNat (s4:Int))) rfl rfl (Sl.ix (α:=Raw 0) T35.und T35.size (H.os 0) (by omega) (by have a6:=a5; omega)))<|s_val (x_ld (v:=vat aG 1 (Int.toNat 0)) rfl (ld_sc Sc32 (At.mono (raw_at (i:=(s4:Int)) (k:=14) (H.os 0) qz rfl) (H.ol 0)))) ?_;refine kg 1 ?_;refine s_val (x_ncE (p:=vat aG 1 (Int.toNat 0)) rfl (Sl.pl (i:=0) (H.os 7) (by omega) (by omega))) ?_;refine t_ost (k:=7) (i:=0) (l:=[(0:Int),(1:Int)]) (l':=([(0:Int),(1:Int)]).set 0 ((vl28).getD s5 0:Int)) (val:=I ((vl28).getD s5 0)) H rfl Sz3 (by omega) (by omega) ((vl28).getD s5 0:Int) rfl rfl rfl rfl rfl ?_;intro zI H;replace H:=H.nf;refine s_nil ?_
     obtain ⟨a7,H⟩:=H.emptyE
     obtain ⟨a8,H,qA⟩:=H.freezeE (k:=5) rfl
     replace H:=H.nf
     have eG:=qA
     obtain ⟨a9,H,zJ,qB⟩:=H.joinE (i:=0) (j:=5) rfl rfl
     replace eG:=eG.mono qB
     obtain ⟨ba,H,qC⟩:=H.freezeE (k:=5) rfl
     replace H:=H.nf
     have ik:=qC
     obtain ⟨aj,H,qD,qE⟩:=H.joinE (i:=0) (j:=5) rfl rfl
     replace eG:=eG.mono qD
     replace ik:=ik.mono qE
     have qF:RepR (α:=List Int) aj.cells [az,aA] [[(1:Int),(2:Int),(4:Int)],[(1:Int),(3:Int),(4:Int)]]:=.cons (by rw [aQ]; exact ⟨_,rfl,eG⟩)<|.cons (by rw [aR]; exact ⟨_,rfl,ik⟩)<|.nil
     obtain ⟨bb,H⟩:=H.emptyE
     obtain ⟨bc,H,qG⟩:=H.freezeE (k:=21) rfl
     replace H:=H.nf
     have cb:=qG
     obtain ⟨bf,H,zK,qH⟩:=H.joinE (i:=0) (j:=21) rfl rfl
     replace cb:=cb.mono qH
     obtain ⟨bg,H,qI⟩:=H.freezeE (k:=21) rfl
     replace H:=H.nf
     have cO:=qI
     obtain ⟨bh,H,qJ,qK⟩:=H.joinE (i:=0) (j:=21) rfl rfl
     replace cb:=cb.mono qJ
     replace cO:=cO.mono qK
     obtain ⟨bi,H,qL⟩:=H.freezeE (k:=21) rfl
     replace H:=H.nf
     have eH:=qL
     obtain ⟨bj,H,kq,qM⟩:=H.joinE (i:=0) (j:=21) rfl rfl
     replace cb:=cb.mono kq
     replace cO:=cO.mono kq
     replace eH:=eH.mono qM
     obtain ⟨bm,H,qN⟩:=H.freezeE (k:=21) rfl
     replace H:=H.nf
     have il:=qN
     obtain ⟨ak,H,im,qO⟩:=H.joinE (i:=0) (j:=21) rfl rfl
     replace cb:=cb.mono im
     replace cO:=cO.mono im
     replace eH:=eH.mono im
     replace il:=il.mono qO
     have qP:RepR (α:=Work) ak.cells [aw,ax,aq,au,av,ay] [(⟨([]),(1:Int),(5:Int)⟩:Work),(⟨([]),(1:Int),(6:Int)⟩:Work),(⟨([(0:Int),(1:Int)]),(1:Int),(10:Int)⟩:Work),(⟨([(1:Int)]),(1:Int),(30:Int)⟩:Work),(⟨([(2:Int),(3:Int)]),(1:Int),(20:Int)⟩:Work),(⟨([(4:Int)]),(1:Int),(1:Int)⟩:Work)]:=.cons (by rw [aY]; exact ⟨_,rfl,(Sl.nil _)⟩)<|.cons (by rw [aZ]; exact ⟨_,rfl,(Sl.nil _)⟩)<|.cons (by rw [aT]; exact ⟨_,rfl,cb⟩)<|.cons (by rw [aU]; exact ⟨_,rfl,cO⟩)<|.cons (by rw [aV]; exact ⟨_,rfl,eH⟩)<|.cons (by rw [a0]; exact ⟨_,rfl,il⟩)<|.nil
     exact ⟨[(⟨([]),(1:Int),(5:Int)⟩:Work),(⟨([]),(1:Int),(6:Int)⟩:Work),(⟨([(0:Int),(1:Int)]),(1:Int),(10:Int)⟩:Work),(⟨([(1:Int)]),(1:Int),(30:Int)⟩:Work),(⟨([(2:Int),(3:Int)]),(1:Int),(20:Int)⟩:Work),(⟨([(4:Int)]),(1:Int),(1:Int)⟩:Work)],[(1:Int),(3:Int),(4:Int)],0,5,[(⟨(0:Int),(3:Int),(8:Int)⟩:Note),(⟨(0:Int),(2:Int),(7:Int)⟩:Note),(⟨(1:Int),(0:Int),(9:Int)⟩:Note)],[(⟨(2:Int),(26:Int)⟩:Pub),(⟨(3:Int),(10:Int)⟩:Pub)],([(0:Int),(1:Int)]).set 0 ((vl28).getD s5 0:Int),[(0:Int),(2:Int),(4:Int),(5:Int)],[(2:Int),(3:Int)],4,[[(1:Int),(2:Int),(4:Int)],[(1:Int),(3:Int),(4:Int)]],aB,aL,al,aD,aG,aM,aN,aO,[aw,ax,aq,au,av,ay],ak,[az,aA],aj,_,upds_of _ _ ⟨rfl,rfl,rfl,rfl,rfl,rfl,rfl,rfl,rfl,rfl,rfl,rfl,rfl,rfl,rfl,rfl,rfl,trivial⟩,hM,(H.pk [0,5,9,10,13,14,15,16,17,18,19,20,21,26]),qP,qF⟩
    replace hM:=M.e_f hM fl
    refine W.byc ((s4:Int)==15) (fun fm=>?_) (fun fm=>?_)
    ·replace hM:=M.e_t hM fm
     have qQ:(s4:Int)=15:=eq_of_beq fm
     obtain ⟨zL,hM⟩:=M.e_gd hM;refine kg 3 ?_;refine s_val (x_ix (v:=vat a4 1 (Int.toNat (s4:Int))) rfl rfl (Sl.ix (α:=Raw 0) T35.und T35.size (H.os 0) (by omega) (by have a6:=a5; omega)))<|s_val (x_ld (v:=vat aG 1 (Int.toNat 1)) rfl (ld_sc Sc32 (At.mono (raw_at (i:=(s4:Int)) (k:=15) (H.os 0) qQ rfl) (H.ol 0)))) ?_;refine kg 1 ?_;refine s_val (x_ncE (p:=vat aG 1 (Int.toNat 1)) rfl (Sl.pl (i:=1) (H.os 7) (by omega) (by omega))) ?_;refine t_ost (k:=7) (i:=1) (l:=[(0:Int),(1:Int)]) (l':=([(0:Int),(1:Int)]).set 1 ((vl28).getD s5 0:Int)) (val:=I ((vl28).getD s5 0)) H rfl Sz3 (by omega) (by omega) ((vl28).getD s5 0:Int) rfl rfl rfl rfl rfl ?_;intro zN H;replace H:=H.nf;refine s_nil ?_
     obtain ⟨a7,H⟩:=H.emptyE
     obtain ⟨a8,H,qR⟩:=H.freezeE (k:=5) rfl
     replace H:=H.nf
     have eI:=qR
     obtain ⟨a9,H,zO,qS⟩:=H.joinE (i:=0) (j:=5) rfl rfl
     replace eI:=eI.mono qS
     obtain ⟨ba,H,qT⟩:=H.freezeE (k:=5) rfl
     replace H:=H.nf
     have io:=qT
     obtain ⟨aj,H,qU,qV⟩:=H.joinE (i:=0) (j:=5) rfl rfl
     replace eI:=eI.mono qU
     replace io:=io.mono qV
     have qW:RepR (α:=List Int) aj.cells [az,aA] [[(1:Int),(2:Int),(4:Int)],[(1:Int),(3:Int),(4:Int)]]:=.cons (by rw [aQ]; exact ⟨_,rfl,eI⟩)<|.cons (by rw [aR]; exact ⟨_,rfl,io⟩)<|.nil
     obtain ⟨bb,H⟩:=H.emptyE
     obtain ⟨bc,H,qX⟩:=H.freezeE (k:=21) rfl
     replace H:=H.nf
     have cc:=qX
     obtain ⟨bf,H,zP,qY⟩:=H.joinE (i:=0) (j:=21) rfl rfl
     replace cc:=cc.mono qY
     obtain ⟨bg,H,qZ⟩:=H.freezeE (k:=21) rfl
     replace H:=H.nf
     have cP:=qZ
     obtain ⟨bh,H,q0,q1⟩:=H.joinE (i:=0) (j:=21) rfl rfl
     replace cc:=cc.mono q0
     replace cP:=cP.mono q1
     obtain ⟨bi,H,q2⟩:=H.freezeE (k:=21) rfl
     replace H:=H.nf
     have eJ:=q2
     obtain ⟨bj,H,kr,q3⟩:=H.joinE (i:=0) (j:=21) rfl rfl
     replace cc:=cc.mono kr
     replace cP:=cP.mono kr
     replace eJ:=eJ.mono q3
     obtain ⟨bm,H,q4⟩:=H.freezeE (k:=21) rfl
     replace H:=H.nf
     have ip:=q4
     obtain ⟨ak,H,iq,q5⟩:=H.joinE (i:=0) (j:=21) rfl rfl
     replace cc:=cc.mono iq
     replace cP:=cP.mono iq
     replace eJ:=eJ.mono iq
     replace ip:=ip.mono q5
     have q6:RepR (α:=Work) ak.cells [aw,ax,aq,au,av,ay] [(⟨([]),(1:Int),(5:Int)⟩:Work),(⟨([]),(1:Int),(6:Int)⟩:Work),(⟨([(0:Int),(1:Int)]),(1:Int),(10:Int)⟩:Work),(⟨([(1:Int)]),(1:Int),(30:Int)⟩:Work),(⟨([(2:Int),(3:Int)]),(1:Int),(20:Int)⟩:Work),(⟨([(4:Int)]),(1:Int),(1:Int)⟩:Work)]:=.cons (by rw [aY]; exact ⟨_,rfl,(Sl.nil _)⟩)<|.cons (by rw [aZ]; exact ⟨_,rfl,(Sl.nil _)⟩)<|.cons (by rw [aT]; exact ⟨_,rfl,cc⟩)<|.cons (by rw [aU]; exact ⟨_,rfl,cP⟩)<|.cons (by rw [aV]; exact ⟨_,rfl,eJ⟩)<|.cons (by rw [a0]; exact ⟨_,rfl,ip⟩)<|.nil
     exact ⟨[(⟨([]),(1:Int),(5:Int)⟩:Work),(⟨([]),(1:Int),(6:Int)⟩:Work),(⟨([(0:Int),(1:Int)]),(1:Int),(10:Int)⟩:Work),(⟨([(1:Int)]),(1:Int),(30:Int)⟩:Work),(⟨([(2:Int),(3:Int)]),(1:Int),(20:Int)⟩:Work),(⟨([(4:Int)]),(1:Int),(1:Int)⟩:Work)],[(1:Int),(3:Int),(4:Int)],0,5,[(⟨(0:Int),(3:Int),(8:Int)⟩:Note),(⟨(0:Int),(2:Int),(7:Int)⟩:Note),(⟨(1:Int),(0:Int),(9:Int)⟩:Note)],[(⟨(2:Int),(26:Int)⟩:Pub),(⟨(3:Int),(10:Int)⟩:Pub)],([(0:Int),(1:Int)]).set 1 ((vl28).getD s5 0:Int),[(0:Int),(2:Int),(4:Int),(5:Int)],[(2:Int),(3:Int)],4,[[(1:Int),(2:Int),(4:Int)],[(1:Int),(3:Int),(4:Int)]],aB,aL,al,aD,aG,aM,aN,aO,[aw,ax,aq,au,av,ay],ak,[az,aA],aj,_,upds_of _ _ ⟨rfl,rfl,rfl,rfl,rfl,rfl,rfl,rfl,rfl,rfl,rfl,rfl,rfl,rfl,rfl,rfl,rfl,trivial⟩,hM,(H.pk [0,5,9,10,13,14,15,16,17,18,19,20,21,26]),q6,qW⟩
    replace hM:=M.e_f hM fm
    refine W.byc ((s4:Int)==16) (fun fo=>?_) (fun fo=>?_)
    ·replace hM:=M.e_t hM fo
     have q7:(s4:Int)=16:=eq_of_beq fo
     obtain ⟨zQ,hM⟩:=M.e_gd hM;refine kg 3 ?_;refine s_val (x_ix (v:=vat a4 1 (Int.toNat (s4:Int))) rfl rfl (Sl.ix (α:=Raw 0) T35.und T35.size (H.os 0) (by omega) (by have a6:=a5; omega)))<|s_val (x_ld (v:=vat aM 1 (Int.toNat 2)) rfl (ld_sc Sc32 (At.mono (raw_at (i:=(s4:Int)) (k:=16) (H.os 0) q7 rfl) (H.ol 0)))) ?_;refine kg 1 ?_;refine s_val (x_ncE (p:=vat aM 1 (Int.toNat 2)) rfl (Sl.pl (i:=2) (H.os 6) (by omega) (by omega))) ?_;refine t_ost (k:=6) (i:=2) (l:=[(0:Int),(2:Int),(4:Int),(5:Int)]) (l':=([(0:Int),(2:Int),(4:Int),(5:Int)]).set 2 ((vl28).getD s5 0:Int)) (val:=I ((vl28).getD s5 0)) H rfl Sz3 (by omega) (by omega) ((vl28).getD s5 0:Int) rfl rfl rfl rfl rfl ?_;intro zR H;replace H:=H.nf;refine s_nil ?_
     obtain ⟨a7,H⟩:=H.emptyE
     obtain ⟨a8,H,q8⟩:=H.freezeE (k:=5) rfl
     replace H:=H.nf
     have eK:=q8
     obtain ⟨a9,H,zS,q9⟩:=H.joinE (i:=0) (j:=5) rfl rfl
     replace eK:=eK.mono q9
     obtain ⟨ba,H,ra⟩:=H.freezeE (k:=5) rfl
     replace H:=H.nf
     have ir:=ra
     obtain ⟨aj,H,rb,rc⟩:=H.joinE (i:=0) (j:=5) rfl rfl
     replace eK:=eK.mono rb
     replace ir:=ir.mono rc
     have rd:RepR (α:=List Int) aj.cells [az,aA] [[(1:Int),(2:Int),(4:Int)],[(1:Int),(3:Int),(4:Int)]]:=.cons (by rw [aQ]; exact ⟨_,rfl,eK⟩)<|.cons (by rw [aR]; exact ⟨_,rfl,ir⟩)<|.nil
     obtain ⟨bb,H⟩:=H.emptyE
     obtain ⟨bc,H,rf⟩:=H.freezeE (k:=21) rfl
     replace H:=H.nf
     have cd:=rf
     obtain ⟨bf,H,zT,rg⟩:=H.joinE (i:=0) (j:=21) rfl rfl
     replace cd:=cd.mono rg
     obtain ⟨bg,H,rh⟩:=H.freezeE (k:=21) rfl
     replace H:=H.nf
     have cQ:=rh
     obtain ⟨bh,H,ri,rj⟩:=H.joinE (i:=0) (j:=21) rfl rfl
     replace cd:=cd.mono ri
     replace cQ:=cQ.mono rj
     obtain ⟨bi,H,rk⟩:=H.freezeE (k:=21) rfl
     replace H:=H.nf
     have eL:=rk
     obtain ⟨bj,H,ks,rl⟩:=H.joinE (i:=0) (j:=21) rfl rfl
     replace cd:=cd.mono ks
     replace cQ:=cQ.mono ks
     replace eL:=eL.mono rl
     obtain ⟨bm,H,rm⟩:=H.freezeE (k:=21) rfl
     replace H:=H.nf
     have iu:=rm
     obtain ⟨ak,H,iv,rn⟩:=H.joinE (i:=0) (j:=21) rfl rfl
     replace cd:=cd.mono iv
     replace cQ:=cQ.mono iv
     replace eL:=eL.mono iv
     replace iu:=iu.mono rn
     have ro:RepR (α:=Work) ak.cells [aw,ax,aq,au,av,ay] [(⟨([]),(1:Int),(5:Int)⟩:Work),(⟨([]),(1:Int),(6:Int)⟩:Work),(⟨([(0:Int),(1:Int)]),(1:Int),(10:Int)⟩:Work),(⟨([(1:Int)]),(1:Int),(30:Int)⟩:Work),(⟨([(2:Int),(3:Int)]),(1:Int),(20:Int)⟩:Work),(⟨([(4:Int)]),(1:Int),(1:Int)⟩:Work)]:=.cons (by rw [aY]; exact ⟨_,rfl,(Sl.nil _)⟩)<|.cons (by rw [aZ]; exact ⟨_,rfl,(Sl.nil _)⟩)<|.cons (by rw [aT]; exact ⟨_,rfl,cd⟩)<|.cons (by rw [aU]; exact ⟨_,rfl,cQ⟩)<|.cons (by rw [aV]; exact ⟨_,rfl,eL⟩)<|.cons (by rw [a0]; exact ⟨_,rfl,iu⟩)<|.nil
     exact ⟨[(⟨([]),(1:Int),(5:Int)⟩:Work),(⟨([]),(1:Int),(6:Int)⟩:Work),(⟨([(0:Int),(1:Int)]),(1:Int),(10:Int)⟩:Work),(⟨([(1:Int)]),(1:Int),(30:Int)⟩:Work),(⟨([(2:Int),(3:Int)]),(1:Int),(20:Int)⟩:Work),(⟨([(4:Int)]),(1:Int),(1:Int)⟩:Work)],[(1:Int),(3:Int),(4:Int)],0,5,[(⟨(0:Int),(3:Int),(8:Int)⟩:Note),(⟨(0:Int),(2:Int),(7:Int)⟩:Note),(⟨(1:Int),(0:Int),(9:Int)⟩:Note)],[(⟨(2:Int),(26:Int)⟩:Pub),(⟨(3:Int),(10:Int)⟩:Pub)],[(0:Int),(1:Int)],([(0:Int),(2:Int),(4:Int),(5:Int)]).set 2 ((vl28).getD s5 0:Int),[(2:Int),(3:Int)],4,[[(1:Int),(2:Int),(4:Int)],[(1:Int),(3:Int),(4:Int)]],aB,aL,al,aD,aG,aM,aN,aO,[aw,ax,aq,au,av,ay],ak,[az,aA],aj,_,upds_of _ _ ⟨rfl,rfl,rfl,rfl,rfl,rfl,rfl,rfl,rfl,rfl,rfl,rfl,rfl,rfl,rfl,rfl,rfl,trivial⟩,hM,(H.pk [0,5,9,10,13,14,15,16,17,18,19,20,21,26]),ro,rd⟩
    replace hM:=M.e_f hM fo
    refine W.byc ((s4:Int)==17) (fun fp=>?_) (fun fp=>?_)
    ·replace hM:=M.e_t hM fp
     have rp:(s4:Int)=17:=eq_of_beq fp
     obtain ⟨zU,hM⟩:=M.e_gd hM;refine kg 3 ?_;refine s_val (x_ix (v:=vat a4 1 (Int.toNat (s4:Int))) rfl rfl (Sl.ix (α:=Raw 0) T35.und T35.size (H.os 0) (by omega) (by have a6:=a5; omega)))<|s_val (x_ld (v:=vat aN 1 (Int.toNat 0)) rfl (ld_sc Sc32 (At.mono (raw_at (i:=(s4:Int)) (k:=17) (H.os 0) rp rfl) (H.ol 0)))) ?_;refine kg 1 ?_;refine s_val (x_ncE (p:=vat aN 1 (Int.toNat 0)) rfl (Sl.pl (i:=0) (H.os 5) (by omega) (by omega))) ?_;refine t_ost (k:=5) (i:=0) (l:=[(2:Int),(3:Int)]) (l':=([(2:Int),(3:Int)]).set 0 ((vl28).getD s5 0:Int)) (val:=I ((vl28).getD s5 0)) H rfl Sz3 (by omega) (by omega) ((vl28).getD s5 0:Int) rfl rfl rfl rfl rfl ?_;intro zV H;replace H:=H.nf;refine s_nil ?_
     obtain ⟨a7,H⟩:=H.emptyE
     obtain ⟨a8,H,rq⟩:=H.freezeE (k:=5) rfl
     replace H:=H.nf
     have eM:=rq
     obtain ⟨a9,H,zW,rr⟩:=H.joinE (i:=0) (j:=5) rfl rfl
     replace eM:=eM.mono rr
     obtain ⟨ba,H,rt⟩:=H.freezeE (k:=5) rfl
     replace H:=H.nf
     have iw:=rt
     obtain ⟨aj,H,ru,rx⟩:=H.joinE (i:=0) (j:=5) rfl rfl
     replace eM:=eM.mono ru
     replace iw:=iw.mono rx
     have ry:RepR (α:=List Int) aj.cells [az,aA] [[(1:Int),(2:Int),(4:Int)],[(1:Int),(3:Int),(4:Int)]]:=.cons (by rw [aQ]; exact ⟨_,rfl,eM⟩)<|.cons (by rw [aR]; exact ⟨_,rfl,iw⟩)<|.nil
     obtain ⟨bb,H⟩:=H.emptyE
     obtain ⟨bc,H,rz⟩:=H.freezeE (k:=21) rfl
     replace H:=H.nf
     have ce:=rz
     obtain ⟨bf,H,zX,rA⟩:=H.joinE (i:=0) (j:=21) rfl rfl
     replace ce:=ce.mono rA
     obtain ⟨bg,H,rB⟩:=H.freezeE (k:=21) rfl
     replace H:=H.nf
     have cR:=rB
     obtain ⟨bh,H,rC,rD⟩:=H.joinE (i:=0) (j:=21) rfl rfl
     replace ce:=ce.mono rC
     replace cR:=cR.mono rD
     obtain ⟨bi,H,rE⟩:=H.freezeE (k:=21) rfl
     replace H:=H.nf
     have eN:=rE
     obtain ⟨bj,H,ku,rF⟩:=H.joinE (i:=0) (j:=21) rfl rfl
     replace ce:=ce.mono ku
     replace cR:=cR.mono ku
     replace eN:=eN.mono rF
     obtain ⟨bm,H,rG⟩:=H.freezeE (k:=21) rfl
     replace H:=H.nf
     have iy:=rG
     obtain ⟨ak,H,iz,rH⟩:=H.joinE (i:=0) (j:=21) rfl rfl
     replace ce:=ce.mono iz
     replace cR:=cR.mono iz
     replace eN:=eN.mono iz
     replace iy:=iy.mono rH
     have rI:RepR (α:=Work) ak.cells [aw,ax,aq,au,av,ay] [(⟨([]),(1:Int),(5:Int)⟩:Work),(⟨([]),(1:Int),(6:Int)⟩:Work),(⟨([(0:Int),(1:Int)]),(1:Int),(10:Int)⟩:Work),(⟨([(1:Int)]),(1:Int),(30:Int)⟩:Work),(⟨([(2:Int),(3:Int)]),(1:Int),(20:Int)⟩:Work),(⟨([(4:Int)]),(1:Int),(1:Int)⟩:Work)]:=.cons (by rw [aY]; exact ⟨_,rfl,(Sl.nil _)⟩)<|.cons (by rw [aZ]; exact ⟨_,rfl,(Sl.nil _)⟩)<|.cons (by rw [aT]; exact ⟨_,rfl,ce⟩)<|.cons (by rw [aU]; exact ⟨_,rfl,cR⟩)<|.cons (by rw [aV]; exact ⟨_,rfl,eN⟩)<|.cons (by rw [a0]; exact ⟨_,rfl,iy⟩)<|.nil
     exact ⟨[(⟨([]),(1:Int),(5:Int)⟩:Work),(⟨([]),(1:Int),(6:Int)⟩:Work),(⟨([(0:Int),(1:Int)]),(1:Int),(10:Int)⟩:Work),(⟨([(1:Int)]),(1:Int),(30:Int)⟩:Work),(⟨([(2:Int),(3:Int)]),(1:Int),(20:Int)⟩:Work),(⟨([(4:Int)]),(1:Int),(1:Int)⟩:Work)],[(1:Int),(3:Int),(4:Int)],0,5,[(⟨(0:Int),(3:Int),(8:Int)⟩:Note),(⟨(0:Int),(2:Int),(7:Int)⟩:Note),(⟨(1:Int),(0:Int),(9:Int)⟩:Note)],[(⟨(2:Int),(26:Int)⟩:Pub),(⟨(3:Int),(10:Int)⟩:Pub)],[(0:Int),(1:Int)],[(0:Int),(2:Int),(4:Int),(5:Int)],([(2:Int),(3:Int)]).set 0 ((vl28).getD s5 0:Int),4,[[(1:Int),(2:Int),(4:Int)],[(1:Int),(3:Int),(4:Int)]],aB,aL,al,aD,aG,aM,aN,aO,[aw,ax,aq,au,av,ay],ak,[az,aA],aj,_,upds_of _ _ ⟨rfl,rfl,rfl,rfl,rfl,rfl,rfl,rfl,rfl,rfl,rfl,rfl,rfl,rfl,rfl,rfl,rfl,trivial⟩,hM,(H.pk [0,5,9,10,13,14,15,16,17,18,19,20,21,26]),rI,ry⟩
    replace hM:=M.e_f hM fp
    refine W.byc ((s4:Int)==18) (fun fq=>?_) (fun fq=>?_)
    ·replace hM:=M.e_t hM fq
     have rJ:(s4:Int)=18:=eq_of_beq fq
     obtain ⟨zY,hM⟩:=M.e_gd hM;refine kg 3 ?_;refine s_val (x_ix (v:=vat a4 1 (Int.toNat (s4:Int))) rfl rfl (Sl.ix (α:=Raw 0) T35.und T35.size (H.os 0) (by omega) (by have a6:=a5; omega)))<|s_val (x_ld (v:=Pq cz) rfl (ld_sc Sc32 (At.mono (raw_at (i:=(s4:Int)) (k:=18) (H.os 0) rJ rfl) (H.ol 0)))) ?_;refine kg 2 ?_;refine t_sw 1 0 [I ((vl28).getD s5 0)] (I ((vl28).getD s5 0)) H rfl rfl Sz3 rfl rfl rfl rfl ?_;intro zZ H;refine s_nil ?_
     obtain ⟨a7,H⟩:=H.emptyE
     obtain ⟨a8,H,rK⟩:=H.freezeE (k:=5) rfl
     replace H:=H.nf
     have eO:=rK
     obtain ⟨a9,H,z0,rL⟩:=H.joinE (i:=0) (j:=5) rfl rfl
     replace eO:=eO.mono rL
     obtain ⟨ba,H,rM⟩:=H.freezeE (k:=5) rfl
     replace H:=H.nf
     have iA:=rM
     obtain ⟨aj,H,rN,rO⟩:=H.joinE (i:=0) (j:=5) rfl rfl
     replace eO:=eO.mono rN
     replace iA:=iA.mono rO
     have rP:RepR (α:=List Int) aj.cells [az,aA] [[(1:Int),(2:Int),(4:Int)],[(1:Int),(3:Int),(4:Int)]]:=.cons (by rw [aQ]; exact ⟨_,rfl,eO⟩)<|.cons (by rw [aR]; exact ⟨_,rfl,iA⟩)<|.nil
     obtain ⟨bb,H⟩:=H.emptyE
     obtain ⟨bc,H,rQ⟩:=H.freezeE (k:=21) rfl
     replace H:=H.nf
     have cf:=rQ
     obtain ⟨bf,H,z1,rR⟩:=H.joinE (i:=0) (j:=21) rfl rfl
     replace cf:=cf.mono rR
     obtain ⟨bg,H,rS⟩:=H.freezeE (k:=21) rfl
     replace H:=H.nf
     have cS:=rS
     obtain ⟨bh,H,rT,rU⟩:=H.joinE (i:=0) (j:=21) rfl rfl
     replace cf:=cf.mono rT
     replace cS:=cS.mono rU
     obtain ⟨bi,H,rV⟩:=H.freezeE (k:=21) rfl
     replace H:=H.nf
     have eP:=rV
     obtain ⟨bj,H,kv,rW⟩:=H.joinE (i:=0) (j:=21) rfl rfl
     replace cf:=cf.mono kv
     replace cS:=cS.mono kv
     replace eP:=eP.mono rW
     obtain ⟨bm,H,rX⟩:=H.freezeE (k:=21) rfl
     replace H:=H.nf
     have iB:=rX
     obtain ⟨ak,H,iC,rY⟩:=H.joinE (i:=0) (j:=21) rfl rfl
     replace cf:=cf.mono iC
     replace cS:=cS.mono iC
     replace eP:=eP.mono iC
     replace iB:=iB.mono rY
     have rZ:RepR (α:=Work) ak.cells [aw,ax,aq,au,av,ay] [(⟨([]),(1:Int),(5:Int)⟩:Work),(⟨([]),(1:Int),(6:Int)⟩:Work),(⟨([(0:Int),(1:Int)]),(1:Int),(10:Int)⟩:Work),(⟨([(1:Int)]),(1:Int),(30:Int)⟩:Work),(⟨([(2:Int),(3:Int)]),(1:Int),(20:Int)⟩:Work),(⟨([(4:Int)]),(1:Int),(1:Int)⟩:Work)]:=.cons (by rw [aY]; exact ⟨_,rfl,(Sl.nil _)⟩)<|.cons (by rw [aZ]; exact ⟨_,rfl,(Sl.nil _)⟩)<|.cons (by rw [aT]; exact ⟨_,rfl,cf⟩)<|.cons (by rw [aU]; exact ⟨_,rfl,cS⟩)<|.cons (by rw [aV]; exact ⟨_,rfl,eP⟩)<|.cons (by rw [a0]; exact ⟨_,rfl,iB⟩)<|.nil
     exact ⟨[(⟨([]),(1:Int),(5:Int)⟩:Work),(⟨([]),(1:Int),(6:Int)⟩:Work),(⟨([(0:Int),(1:Int)]),(1:Int),(10:Int)⟩:Work),(⟨([(1:Int)]),(1:Int),(30:Int)⟩:Work),(⟨([(2:Int),(3:Int)]),(1:Int),(20:Int)⟩:Work),(⟨([(4:Int)]),(1:Int),(1:Int)⟩:Work)],[(1:Int),(3:Int),(4:Int)],0,5,[(⟨(0:Int),(3:Int),(8:Int)⟩:Note),(⟨(0:Int),(2:Int),(7:Int)⟩:Note),(⟨(1:Int),(0:Int),(9:Int)⟩:Note)],[(⟨(2:Int),(26:Int)⟩:Pub),(⟨(3:Int),(10:Int)⟩:Pub)],[(0:Int),(1:Int)],[(0:Int),(2:Int),(4:Int),(5:Int)],[(2:Int),(3:Int)],(vl28).getD s5 0,[[(1:Int),(2:Int),(4:Int)],[(1:Int),(3:Int),(4:Int)]],aB,aL,al,aD,aG,aM,aN,aO,[aw,ax,aq,au,av,ay],ak,[az,aA],aj,_,upds_of _ _ ⟨rfl,rfl,rfl,rfl,rfl,rfl,rfl,rfl,rfl,rfl,rfl,rfl,rfl,rfl,rfl,rfl,rfl,trivial⟩,hM,(H.pk [0,5,9,10,13,14,15,16,17,18,19,20,21,26]),rZ,rP⟩
    replace hM:=M.e_f hM fq
    refine W.byc ((s4:Int)==19) (fun fu=>?_) (fun fu=>?_)
    ·replace hM:=M.e_t hM fu
     have sa:(s4:Int)=19:=eq_of_beq fu
     obtain ⟨z2,hM⟩:=M.e_gd hM;refine kg 3 ?_;refine s_val (x_ix (v:=vat a4 1 (Int.toNat (s4:Int))) rfl rfl (Sl.ix (α:=Raw 0) T35.und T35.size (H.os 0) (by omega) (by have a6:=a5; omega)))<|s_val (x_ld (v:=vat bM 1 (Int.toNat 1)) rfl (ld_sc Sc32 (At.mono (raw_at (i:=(s4:Int)) (k:=19) (H.os 0) sa rfl) (H.ol 0)))) ?_;refine kg 1 ?_;refine s_val (x_ncE (p:=vat bM 1 (Int.toNat 1)) rfl (Sl.pl (i:=1) (H.os 4) (by omega) (by omega))) ?_;refine t_ost (k:=4) (i:=1) (l:=[(1:Int),(2:Int),(4:Int)]) (l':=([(1:Int),(2:Int),(4:Int)]).set 1 ((vl28).getD s5 0:Int)) (val:=I ((vl28).getD s5 0)) H rfl Sz3 (by omega) (by omega) ((vl28).getD s5 0:Int) rfl rfl rfl rfl rfl ?_;intro z4 H;replace H:=H.nf;refine s_nil ?_
     obtain ⟨a7,H⟩:=H.emptyE
     obtain ⟨a8,H,sb⟩:=H.freezeE (k:=5) rfl
     replace H:=H.nf
     have eQ:=sb
     obtain ⟨a9,H,z5,sc⟩:=H.joinE (i:=0) (j:=5) rfl rfl
     replace eQ:=eQ.mono sc
     obtain ⟨ba,H,sd⟩:=H.freezeE (k:=5) rfl
     replace H:=H.nf
     have iD:=sd
     obtain ⟨aj,H,se,sf⟩:=H.joinE (i:=0) (j:=5) rfl rfl
     replace eQ:=eQ.mono se
     replace iD:=iD.mono sf
     have sh:RepR (α:=List Int) aj.cells [az,aA] [([(1:Int),(2:Int),(4:Int)]).set 1 ((vl28).getD s5 0:Int),[(1:Int),(3:Int),(4:Int)]]:=.cons (by rw [aQ]; exact ⟨_,rfl,eQ⟩)<|.cons (by rw [aR]; exact ⟨_,rfl,iD⟩)<|.nil
     obtain ⟨bb,H⟩:=H.emptyE
     obtain ⟨bc,H,si⟩:=H.freezeE (k:=21) rfl
     replace H:=H.nf
     have cg:=si
     obtain ⟨bf,H,z6,sj⟩:=H.joinE (i:=0) (j:=21) rfl rfl
     replace cg:=cg.mono sj
     obtain ⟨bg,H,sk⟩:=H.freezeE (k:=21) rfl
     replace H:=H.nf
     have cT:=sk
     obtain ⟨bh,H,sm,sn⟩:=H.joinE (i:=0) (j:=21) rfl rfl
     replace cg:=cg.mono sm
     replace cT:=cT.mono sn
     obtain ⟨bi,H,sq⟩:=H.freezeE (k:=21) rfl
     replace H:=H.nf
     have eR:=sq
     obtain ⟨bj,H,kw,sr⟩:=H.joinE (i:=0) (j:=21) rfl rfl
     replace cg:=cg.mono kw
     replace cT:=cT.mono kw
     replace eR:=eR.mono sr
     obtain ⟨bm,H,su⟩:=H.freezeE (k:=21) rfl
     replace H:=H.nf
     have iE:=su
     obtain ⟨ak,H,iF,sw⟩:=H.joinE (i:=0) (j:=21) rfl rfl
     replace cg:=cg.mono iF
     replace cT:=cT.mono iF
     replace eR:=eR.mono iF
     replace iE:=iE.mono sw
     have sx:RepR (α:=Work) ak.cells [aw,ax,aq,au,av,ay] [(⟨([]),(1:Int),(5:Int)⟩:Work),(⟨([]),(1:Int),(6:Int)⟩:Work),(⟨([(0:Int),(1:Int)]),(1:Int),(10:Int)⟩:Work),(⟨([(1:Int)]),(1:Int),(30:Int)⟩:Work),(⟨([(2:Int),(3:Int)]),(1:Int),(20:Int)⟩:Work),(⟨([(4:Int)]),(1:Int),(1:Int)⟩:Work)]:=.cons (by rw [aY]; exact ⟨_,rfl,(Sl.nil _)⟩)<|.cons (by rw [aZ]; exact ⟨_,rfl,(Sl.nil _)⟩)<|.cons (by rw [aT]; exact ⟨_,rfl,cg⟩)<|.cons (by rw [aU]; exact ⟨_,rfl,cT⟩)<|.cons (by rw [aV]; exact ⟨_,rfl,eR⟩)<|.cons (by rw [a0]; exact ⟨_,rfl,iE⟩)<|.nil
     exact ⟨[(⟨([]),(1:Int),(5:Int)⟩:Work),(⟨([]),(1:Int),(6:Int)⟩:Work),(⟨([(0:Int),(1:Int)]),(1:Int),(10:Int)⟩:Work),(⟨([(1:Int)]),(1:Int),(30:Int)⟩:Work),(⟨([(2:Int),(3:Int)]),(1:Int),(20:Int)⟩:Work),(⟨([(4:Int)]),(1:Int),(1:Int)⟩:Work)],[(1:Int),(3:Int),(4:Int)],0,5,[(⟨(0:Int),(3:Int),(8:Int)⟩:Note),(⟨(0:Int),(2:Int),(7:Int)⟩:Note),(⟨(1:Int),(0:Int),(9:Int)⟩:Note)],[(⟨(2:Int),(26:Int)⟩:Pub),(⟨(3:Int),(10:Int)⟩:Pub)],[(0:Int),(1:Int)],[(0:Int),(2:Int),(4:Int),(5:Int)],[(2:Int),(3:Int)],4,[([(1:Int),(2:Int),(4:Int)]).set 1 ((vl28).getD s5 0:Int),[(1:Int),(3:Int),(4:Int)]],aB,aL,al,aD,aG,aM,aN,aO,[aw,ax,aq,au,av,ay],ak,[az,aA],aj,_,upds_of _ _ ⟨rfl,rfl,rfl,rfl,rfl,rfl,rfl,rfl,rfl,rfl,rfl,rfl,rfl,rfl,rfl,rfl,rfl,trivial⟩,hM,(H.pk [0,5,9,10,13,14,15,16,17,18,19,20,21,26]),sx,sh⟩
    replace hM:=M.e_f hM fu
    refine W.byc ((s4:Int)==20) (fun fv=>?_) (fun fv=>?_)
    ·replace hM:=M.e_t hM fv
     have sy:(s4:Int)=20:=eq_of_beq fv
     obtain ⟨z7,hM⟩:=M.e_gd hM;refine kg 3 ?_;refine s_val (x_ix (v:=vat a4 1 (Int.toNat (s4:Int))) rfl rfl (Sl.ix (α:=Raw 0) T35.und T35.size (H.os 0) (by omega) (by have a6:=a5; omega)))<|s_val (x_ld (v:=vat bN 1 (Int.toNat 0)) rfl (ld_sc Sc32 (At.mono (raw_at (i:=(s4:Int)) (k:=20) (H.os 0) sy rfl) (H.ol 0)))) ?_;refine kg 1 ?_;refine s_val (x_ncE (p:=vat bN 1 (Int.toNat 0)) rfl (Sl.pl (i:=0) (H.os 3) (by omega) (by omega))) ?_;refine t_ost (k:=3) (i:=0) (l:=[(1:Int),(3:Int),(4:Int)]) (l':=([(1:Int),(3:Int),(4:Int)]).set 0 ((vl28).getD s5 0:Int)) (val:=I ((vl28).getD s5 0)) H rfl Sz3 (by omega) (by omega) ((vl28).getD s5 0:Int) rfl rfl rfl rfl rfl ?_;intro z8 H;replace H:=H.nf;refine s_nil ?_
     obtain ⟨a7,H⟩:=H.emptyE
     obtain ⟨a8,H,sA⟩:=H.freezeE (k:=5) rfl
     replace H:=H.nf
     have eS:=sA
     obtain ⟨a9,H,z9,sB⟩:=H.joinE (i:=0) (j:=5) rfl rfl
     replace eS:=eS.mono sB
     obtain ⟨ba,H,sC⟩:=H.freezeE (k:=5) rfl
     replace H:=H.nf
     have iG:=sC
     obtain ⟨aj,H,sD,sE⟩:=H.joinE (i:=0) (j:=5) rfl rfl
     replace eS:=eS.mono sD
     replace iG:=iG.mono sE
     have sF:RepR (α:=List Int) aj.cells [az,aA] [[(1:Int),(2:Int),(4:Int)],([(1:Int),(3:Int),(4:Int)]).set 0 ((vl28).getD s5 0:Int)]:=.cons (by rw [aQ]; exact ⟨_,rfl,eS⟩)<|.cons (by rw [aR]; exact ⟨_,rfl,iG⟩)<|.nil
     obtain ⟨bb,H⟩:=H.emptyE
     obtain ⟨bc,H,sG⟩:=H.freezeE (k:=21) rfl
     replace H:=H.nf
     have ch:=sG
     obtain ⟨bf,H,Aa,sH⟩:=H.joinE (i:=0) (j:=21) rfl rfl
     replace ch:=ch.mono sH
     obtain ⟨bg,H,sI⟩:=H.freezeE (k:=21) rfl
     replace H:=H.nf
     have cU:=sI
     obtain ⟨bh,H,sJ,sK⟩:=H.joinE (i:=0) (j:=21) rfl rfl
     replace ch:=ch.mono sJ
     replace cU:=cU.mono sK
     obtain ⟨bi,H,sL⟩:=H.freezeE (k:=21) rfl
     replace H:=H.nf
     have eT:=sL
     obtain ⟨bj,H,kx,sM⟩:=H.joinE (i:=0) (j:=21) rfl rfl
     replace ch:=ch.mono kx
     replace cU:=cU.mono kx
     replace eT:=eT.mono sM
     obtain ⟨bm,H,sN⟩:=H.freezeE (k:=21) rfl
     replace H:=H.nf
     have iH:=sN
     obtain ⟨ak,H,iI,sO⟩:=H.joinE (i:=0) (j:=21) rfl rfl
     replace ch:=ch.mono iI
     replace cU:=cU.mono iI
     replace eT:=eT.mono iI
     replace iH:=iH.mono sO
     have sP:RepR (α:=Work) ak.cells [aw,ax,aq,au,av,ay] [(⟨([]),(1:Int),(5:Int)⟩:Work),(⟨([]),(1:Int),(6:Int)⟩:Work),(⟨([(0:Int),(1:Int)]),(1:Int),(10:Int)⟩:Work),(⟨([(1:Int)]),(1:Int),(30:Int)⟩:Work),(⟨([(2:Int),(3:Int)]),(1:Int),(20:Int)⟩:Work),(⟨([(4:Int)]),(1:Int),(1:Int)⟩:Work)]:=.cons (by rw [aY]; exact ⟨_,rfl,(Sl.nil _)⟩)<|.cons (by rw [aZ]; exact ⟨_,rfl,(Sl.nil _)⟩)<|.cons (by rw [aT]; exact ⟨_,rfl,ch⟩)<|.cons (by rw [aU]; exact ⟨_,rfl,cU⟩)<|.cons (by rw [aV]; exact ⟨_,rfl,eT⟩)<|.cons (by rw [a0]; exact ⟨_,rfl,iH⟩)<|.nil
     exact ⟨[(⟨([]),(1:Int),(5:Int)⟩:Work),(⟨([]),(1:Int),(6:Int)⟩:Work),(⟨([(0:Int),(1:Int)]),(1:Int),(10:Int)⟩:Work),(⟨([(1:Int)]),(1:Int),(30:Int)⟩:Work),(⟨([(2:Int),(3:Int)]),(1:Int),(20:Int)⟩:Work),(⟨([(4:Int)]),(1:Int),(1:Int)⟩:Work)],[(1:Int),(3:Int),(4:Int)],0,5,[(⟨(0:Int),(3:Int),(8:Int)⟩:Note),(⟨(0:Int),(2:Int),(7:Int)⟩:Note),(⟨(1:Int),(0:Int),(9:Int)⟩:Note)],[(⟨(2:Int),(26:Int)⟩:Pub),(⟨(3:Int),(10:Int)⟩:Pub)],[(0:Int),(1:Int)],[(0:Int),(2:Int),(4:Int),(5:Int)],[(2:Int),(3:Int)],4,[[(1:Int),(2:Int),(4:Int)],([(1:Int),(3:Int),(4:Int)]).set 0 ((vl28).getD s5 0:Int)],aB,aL,al,aD,aG,aM,aN,aO,[aw,ax,aq,au,av,ay],ak,[az,aA],aj,_,upds_of _ _ ⟨rfl,rfl,rfl,rfl,rfl,rfl,rfl,rfl,rfl,rfl,rfl,rfl,rfl,rfl,rfl,rfl,rfl,trivial⟩,hM,(H.pk [0,5,9,10,13,14,15,16,17,18,19,20,21,26]),sP,sF⟩
    replace hM:=M.e_f hM fv
    exact (M.e_fail hM).elim
   rintro _ Ab ⟨l,l2,s,s2,l3,l4,l5,l6,l7,s3,l8,bG,d6,d7,d8,bT,di,dj,dk,gI,B_l,gJ,B_l8,ρ,rfl,hM,H,fw,sQ⟩
   unfold zaa at hM
   refine kg 9 ?_;obtain ⟨r2,sR,hM⟩:=M.e_bind hM;refine t_gcall (decide ((s4:Int)<8)) (gy_t rfl) cf5 (B r2) (fun _=>[bG,d6,I s,I s2]) (fun hg=>lst4 (gd_of hg (bG)) (gd_of hg (d6)) (gd_of hg (I s)) (gd_of hg (I s2))) H (fun hg=>(zdK l l2 s s2 (Reads.sup (rdo 12) (Reads.of (k:=0) rfl roLe)) (rowSl rfl (H.get (k:=12) rfl) (roLe _ (H.get (k:=0) rfl)) fw) (rdo 11) (H.os 11) (M.e_opt sR hg) _ (H.give (A:=[]) rfl)).mono fun v_ w_ ⟨y_,ah,ai,H_⟩=>by subst ah; exact ⟨ai,H.via H_⟩) ?_;intro Ac H;refine kg 1 ?_;refine s_val (x_pand (b:=decide ((s4:Int)<8)) (r:=!r2) rfl (fun hb=>gd_of (c:=decide ((s4:Int)<8)) (by first | exact hb | (rw [hb]; rfl) | (rw [hg,hb]; rfl) | simp_all) (B (!r2))) rfl) ?_;refine kg 7 ?_;obtain ⟨r3,sS,hM⟩:=M.e_bind hM;refine t_gcall ((!((decide ((s4:Int)<8))&&(!r2)))&&(decide ((s4:Int)<14))) (gy_gt rfl rfl) cf6 (B r3) (fun _=>[bG,d7,d8]) (fun hg=>lst3 (gd_of hg (bG)) (gd_of hg (d7)) (gd_of hg (d8))) H (fun hg=>(zau l l3 l4 (Reads.sup (rdo 12) (Reads.of (k:=0) rfl roLe)) (rowSl rfl (H.get (k:=12) rfl) (roLe _ (H.get (k:=0) rfl)) fw) (rdo 8) (H.os 8) (rdo 7) (H.os 7) (M.e_opt sS hg) _ (H.give (A:=[]) rfl)).mono fun v_ w_ ⟨y_,ah,ai,H_⟩=>by subst ah; exact ⟨ai,H.via H_⟩) ?_;intro Ad H;refine kg 1 ?_;refine g_val (!((decide ((s4:Int)<8))&&(!r2))) (gy_f rfl) (fun hg=>x_pand (b:=decide ((s4:Int)<14)) (r:=!r3) (gd_of hg (B (decide ((s4:Int)<14)))) (fun hb=>gd_of (c:=((!((decide ((s4:Int)<8))&&(!r2)))&&(decide ((s4:Int)<14)))) (by first | exact hb | (rw [hb]; rfl) | (rw [hg,hb]; rfl) | simp_all) (B (!r3))) rfl)<|s_val (x_por (b:=((decide ((s4:Int)<8))&&(!r2))) (r:=((decide ((s4:Int)<14))&&(!r3))) rfl rfl (fun hb=>gd_of (c:=!((decide ((s4:Int)<8))&&(!r2))) (by first | exact hb | (rw [hb]; rfl) | (rw [hg,hb]; rfl) | simp_all) (B ((decide ((s4:Int)<14))&&(!r3)))))<|zM (B (((decide ((s4:Int)<8))&&(!r2))||((decide ((s4:Int)<14))&&(!r3)))) rfl<|g_val (!(((decide ((s4:Int)<8))&&(!r2))||((decide ((s4:Int)<14))&&(!r3)))) (gy_f rfl) (fun hg=>x_mv (v:=bG) rfl)<|g_val (!(((decide ((s4:Int)<8))&&(!r2))||((decide ((s4:Int)<14))&&(!r3)))) (gy_f rfl) (fun hg=>x_mv (v:=bT) rfl)<|g_val (!(((decide ((s4:Int)<8))&&(!r2))||((decide ((s4:Int)<14))&&(!r3)))) (gy_f rfl) (fun hg=>x_mv (v:=di) rfl) ?_;obtain ⟨r4,sT,hM⟩:=M.e_bind hM;refine t_gcall (!(((decide ((s4:Int)<8))&&(!r2))||((decide ((s4:Int)<14))&&(!r3)))) (gy_f rfl) cf7 (B r4) (fun _=>[bG,bT,di]) (fun hg=>lst3 (gd_of hg (bG)) (gd_of hg (bT)) (gd_of hg (di))) H (fun hg=>(zbn l l5 l6 (Reads.sup (rdo 12) (Reads.of (k:=0) rfl roLe)) (rowSl rfl (H.get (k:=12) rfl) (roLe _ (H.get (k:=0) rfl)) fw) (rdo 6) (H.os 6) (rdo 5) (H.os 5) (M.e_opt sT hg) _ (H.give (A:=[]) rfl)).mono fun v_ w_ ⟨y_,ah,ai,H_⟩=>by subst ah; exact ⟨ai,H.via H_⟩) ?_;intro Ae H;refine g_val (!(((decide ((s4:Int)<8))&&(!r2))||((decide ((s4:Int)<14))&&(!r3)))) (gy_f rfl) (fun hg=>x_not (b:=r4) (gd_of hg (B r4)))<|s_val (x_por (b:=(((decide ((s4:Int)<8))&&(!r2))||((decide ((s4:Int)<14))&&(!r3)))) (r:=!r4) rfl rfl (fun hb=>gd_of (c:=!(((decide ((s4:Int)<8))&&(!r2))||((decide ((s4:Int)<14))&&(!r3)))) (by first | exact hb | (rw [hb]; rfl) | (rw [hg,hb]; rfl) | simp_all) (B (!r4))))<|zM (B ((((decide ((s4:Int)<8))&&(!r2))||((decide ((s4:Int)<14))&&(!r3)))||(!r4))) rfl<|g_val (!((((decide ((s4:Int)<8))&&(!r2))||((decide ((s4:Int)<14))&&(!r3)))||(!r4))) (gy_f rfl) (fun hg=>x_mv (v:=bG) rfl)<|g_val (!((((decide ((s4:Int)<8))&&(!r2))||((decide ((s4:Int)<14))&&(!r3)))||(!r4))) (gy_f rfl) (fun hg=>x_mv (v:=bT) rfl)<|g_val (!((((decide ((s4:Int)<8))&&(!r2))||((decide ((s4:Int)<14))&&(!r3)))||(!r4))) (gy_f rfl) (fun hg=>x_ld (v:=I s3) rfl (ldb_sc Sc3 (H.bl 2) rfl))<|g_val (!((((decide ((s4:Int)<8))&&(!r2))||((decide ((s4:Int)<14))&&(!r3)))||(!r4))) (gy_f rfl) (fun hg=>x_mv (v:=dj) rfl)<|g_val (!((((decide ((s4:Int)<8))&&(!r2))||((decide ((s4:Int)<14))&&(!r3)))||(!r4))) (gy_f rfl) (fun hg=>x_mv (v:=dk) rfl) ?_;obtain ⟨r5,sU,hM⟩:=M.e_bind hM;refine t_gcall (!((((decide ((s4:Int)<8))&&(!r2))||((decide ((s4:Int)<14))&&(!r3)))||(!r4))) (gy_f rfl) cf8 (B r5) (fun _=>[bG,bT,I s3,dj,dk]) (fun hg=>lst5 (gd_of hg (bG)) (gd_of hg (bT)) (gd_of hg (I s3)) (gd_of hg (dj)) (gd_of hg (dk))) H (fun hg=>(zaf l l5 s3 l7 l8 (Reads.sup (rdo 12) (Reads.of (k:=0) rfl roLe)) (rowSl rfl (H.get (k:=12) rfl) (roLe _ (H.get (k:=0) rfl)) fw) (rdo 6) (H.os 6) (rdo 4) (H.os 4) (Reads.sup (rdo 3) (Reads.of (k:=1) rfl roLe)) (rowSl rfl (H.get (k:=3) rfl) (roLe _ (H.get (k:=1) rfl)) sQ) (M.e_opt sU hg) _ (H.give (A:=[]) rfl)).mono fun v_ w_ ⟨y_,ah,ai,H_⟩=>by subst ah; exact ⟨ai,H.via H_⟩) ?_;intro Af H;refine g_val (!((((decide ((s4:Int)<8))&&(!r2))||((decide ((s4:Int)<14))&&(!r3)))||(!r4))) (gy_f rfl) (fun hg=>x_not (b:=r5) (gd_of hg (B r5)))<|s_val (x_por (b:=((((decide ((s4:Int)<8))&&(!r2))||((decide ((s4:Int)<14))&&(!r3)))||(!r4))) (r:=!r5) rfl rfl (fun hb=>gd_of (c:=!((((decide ((s4:Int)<8))&&(!r2))||((decide ((s4:Int)<14))&&(!r3)))||(!r4))) (by first | exact hb | (rw [hb]; rfl) | (rw [hg,hb]; rfl) | simp_all) (B (!r5))))<|s_nil ?_;replace H:=H.pk [0,1,3,4,5,6,7,8,11,12,13]
   refine W.cond (((((decide ((s4:Int)<8))&&(!r2))||((decide ((s4:Int)<14))&&(!r3)))||(!r4))||(!r5)) rfl (fun iJ=>?_) (fun iJ=>?_)
   ·replace hM:=M.e_t hM iJ;refine kg 4 ?_;replace H:=H.pk [10];refine W.ret ?_
    have sV:=M.e_inr hM gH
    subst sV;replace hM:=j3;(try dsimp only at hM)
    have sW:=M.e_inr hM gF
    subst sW;replace hM:=j1;(try dsimp only at hM)
    have ah:=M.e_pure hM
    exact ⟨_,resE_tmp rfl,⟨false,ah,rfl,(H.pk [])⟩⟩
   replace hM:=M.e_f hM iJ;refine kg 5 ?_
   exact ⟨ma,mb,s4+1,_,upds_of _ _ ⟨rfl,rfl,rfl,rfl,rfl,trivial⟩,M.e_inl hM gH,(H.pk [10])⟩
  replace hM:=M.e_f hM cw
  replace cw:=dI cw
  refine W.exit ?_
  have sX:=M.e_inr hM gH
  subst sX;replace hM:=j3;(try dsimp only at hM);refine kg 4 ?_
  exact ⟨lY,lZ,s5+1,_,upds_of _ _ ⟨rfl,rfl,rfl,trivial⟩,M.e_inl hM gF,H⟩
 replace hM:=M.e_f hM cv
 replace cv:=dI cv
 refine W.exit ?_
 have sY:=M.e_inr hM gF
 subst sY;replace hM:=j1;(try dsimp only at hM);refine kg 6 ?_;obtain ⟨sZ,iK,fx⟩:=M.e_bind hM
 obtain ⟨dh,iK⟩:=M.e_iter iK
 refine W.loop (fun m σ W=>∃ (s8:Nat) (ρ:Env),σ=upds ρ [(157,I (s8:Int))]/\M.iterN (zd5) m s8=some sZ/\St w W [cOwn (α:=Int) 3 bn (vl28)] R) ?_ ?_
 ·exact ⟨_,0,_,upds_of _ _ ⟨rfl,trivial⟩,iK,H⟩
 rintro Ag σ Ah ⟨s8,ρ,rfl,ky,H⟩
 obtain ⟨kz,kA,kB,hM,dp⟩:=M.e_iterN ky
 clear ky;refine kg 5 ?_
 refine W.cond (decide ((s8:Int)<1500)) rfl (fun cV=>?_) (fun cV=>?_)
 ·replace hM:=M.e_t hM cV
  replace cV:=dI cV
  obtain ⟨Ai,hM⟩:=M.e_gd hM;refine kg 16 ?_;refine s_val (x_rem' (a:=(s8:Int)) (b:=4) rfl rfl (by omega)) ?_;obtain ⟨Aj,hM⟩:=M.e_gd hM;refine kg 4 ?_
  obtain ⟨kC,H⟩:=H.emptyE
  replace H:=H.nilOwn (α:=Raw 2) 34
  have s0:RepR (α:=Work) (n:=2) kC.cells [] []:=.nil
  obtain ⟨s1,iL,ta⟩:=M.e_bind hM
  obtain ⟨dh,iL⟩:=M.e_iter iL
  refine W.loop (fun m σ W=>∃ (s7:Nat) (ae:List Work) (am:Value) (bI:List (Raw 2)) (B_l12:Base) (ρ:Env),σ=upds ρ [(16,I (s8:Int)),(17,am),(157,I (s8:Int)),(162,I (2+((s8:Int) % 4))),(163,I (s7:Int))]/\M.iterN (zer s8) m (s7,ae)=some s1/\St w W [cOwn (α:=Raw 2) 34 am bI,cRo B_l12,cOwn (α:=Int) 3 bn (vl28)] R/\RepR (α:=Work) B_l12.cells bI ae) ?_ ?_
  ·exact ⟨_,0,[],(.slice none 0 0),[],kC,_,upds_of _ _ ⟨rfl,rfl,rfl,rfl,rfl,trivial⟩,iL,H,s0⟩
  rintro Ak σ Al ⟨s7,ae,am,bI,B_l12,ρ,rfl,kD,H,aH⟩
  obtain ⟨tb,tc,Am,hM,kE⟩:=M.e_iterN kD
  clear kD;refine kg 5 ?_
  refine W.cond (decide ((s7:Int)<(2+((s8:Int) % 4)))) rfl (fun cW=>?_) (fun cW=>?_)
  ·replace hM:=M.e_t hM cW
   replace cW:=dI cW
   refine kg 11 ?_;refine s_val (x_rem' (a:=(s8:Int)) (b:=5) rfl rfl (by omega)) ?_;obtain ⟨Ao,hM⟩:=M.e_gd hM;obtain ⟨Ap,hM⟩:=M.e_gd hM;obtain ⟨Aq,hM⟩:=M.e_gd hM;refine kg 4 ?_;refine s_val (x_rem' (a:=(s8:Int) / ((s7:Int)+2)) (b:=4) rfl rfl (by omega))<|s_val (x_bld (ps:=[(1,I ((s8:Int) % 5)),(2,I (((s8:Int) / ((s7:Int)+2)) % 4))]) (zs:=[.slice none 0 0,I 0,I 0]) (L':=[.slice none 0 0,I ((s8:Int) % 5),I (((s8:Int) / ((s7:Int)+2)) % 4)]) rfl Tryz.underlying34 Al34 rfl (Bd34 Tryz.underlying34) (.cons (cs:=[I ((s8:Int) % 5)]) rfl rfl rfl rfl rfl<|.cons (cs:=[I (((s8:Int) / ((s7:Int)+2)) % 4)]) rfl rfl rfl rfl rfl<|.nil)) ?_;refine t_alloc (cs:=[.slice none 0 0,I 0,I 0]) H Al34 rfl ?_;intro kF Ar H;refine t_sw 0 0 [.slice none 0 0,I ((s8:Int) % 5),I (((s8:Int) / ((s7:Int)+2)) % 4)] (.agg #[.slice none 0 0,I ((s8:Int) % 5),I (((s8:Int) / ((s7:Int)+2)) % 4)]) H rfl rfl Sz34 rfl rfl rfl rfl ?_;intro Au H;refine kg 7 ?_
   replace H:=H.nilOwn (α:=Int) 3
   obtain ⟨td,iM,te⟩:=M.e_bind hM
   obtain ⟨dh,iM⟩:=M.e_iter iM
   refine W.loop (fun m σ W=>∃ (s6:Nat) (l9:List Int) (cX:Value) (ρ:Env),σ=upds ρ [(16,I (s8:Int)),(17,am),(18,I (s7:Int)),(19,Pq kF),(157,I (s8:Int)),(162,I (2+((s8:Int) % 4))),(163,I (s7:Int)),(174,I (s6:Int))]/\M.iterN (zeA s8 s7) m (s6,l9)=some td/\St w W [cOwn (α:=Int) 3 cX l9,cBlk kF [cX,I ((s8:Int) % 5),I (((s8:Int) / ((s7:Int)+2)) % 4)] 34,cOwn (α:=Raw 2) 34 am bI,cRo B_l12,cOwn (α:=Int) 3 bn (vl28)] R) ?_ ?_
   ·exact ⟨_,0,[],(.slice none 0 0),_,upds_of _ _ ⟨rfl,rfl,rfl,rfl,rfl,rfl,rfl,rfl,trivial⟩,iM,H⟩
   rintro Av σ Aw ⟨s6,l9,cX,ρ,rfl,kG,H⟩
   obtain ⟨kH,kI,Ax,hM,iN⟩:=M.e_iterN kG
   clear kG;refine kg 5 ?_
   refine W.cond (decide ((s6:Int)<6)) rfl (fun cY=>?_) (fun cY=>?_)
   ·replace hM:=M.e_t hM cY
    replace cY:=dI cY
    refine kg 16 ?_;refine g_val ((s6:Int) != (s7:Int)) (gy_t rfl) (fun hg=>x_rem' (a:=(s8:Int)) (b:=4) (gd_of hg (I (s8:Int))) rfl (by first | omega | (have ag:=hg; simp at ag; omega))) ?_;refine kg 2 ?_;refine s_val (x_pand (b:=(s6:Int) != (s7:Int)) (r:=decide ((s6:Int)<(2+((s8:Int) % 4)))) rfl (fun hb=>gd_of (c:=(s6:Int) != (s7:Int)) (by first | exact hb | (rw [hb]; rfl) | (rw [hg,hb]; rfl) | simp_all) (B (decide ((s6:Int)<(2+((s8:Int) % 4)))))) rfl) ?_;refine kg 6 ?_;refine g_val ((((s6:Int) != (s7:Int))&&(decide ((s6:Int)<(2+((s8:Int) % 4)))))&&!(decide ((s6:Int)<(s7:Int)))) (gy_gf rfl rfl) (fun hg=>x_rem' (a:=(s8:Int)) (b:=7) (gd_of hg (I (s8:Int))) rfl (by first | omega | (have ag:=hg; simp at ag; omega))) ?_;refine kg 1 ?_;refine g_val (((s6:Int) != (s7:Int))&&(decide ((s6:Int)<(2+((s8:Int) % 4))))) (gy_t rfl) (fun hg=>x_por (b:=decide ((s6:Int)<(s7:Int))) (r:=((s8:Int) % 7)==0) (gd_of hg (B (decide ((s6:Int)<(s7:Int))))) rfl (fun hb=>gd_of (c:=((((s6:Int) != (s7:Int))&&(decide ((s6:Int)<(2+((s8:Int) % 4)))))&&!(decide ((s6:Int)<(s7:Int))))) (by first | exact hb | (rw [hb]; rfl) | (rw [hg,hb]; rfl) | simp_all) (B (((s8:Int) % 7)==0))))<|s_val (x_pand (b:=(((s6:Int) != (s7:Int))&&(decide ((s6:Int)<(2+((s8:Int) % 4)))))) (r:=((decide ((s6:Int)<(s7:Int)))||(((s8:Int) % 7)==0))) rfl (fun hb=>gd_of (c:=(((s6:Int) != (s7:Int))&&(decide ((s6:Int)<(2+((s8:Int) % 4)))))) (by first | exact hb | (rw [hb]; rfl) | (rw [hg,hb]; rfl) | simp_all) (B ((decide ((s6:Int)<(s7:Int)))||(((s8:Int) % 7)==0)))) rfl)<|zM (B ((((s6:Int) != (s7:Int))&&(decide ((s6:Int)<(2+((s8:Int) % 4)))))&&((decide ((s6:Int)<(s7:Int)))||(((s8:Int) % 7)==0)))) rfl<|g_val ((((s6:Int) != (s7:Int))&&(decide ((s6:Int)<(2+((s8:Int) % 4)))))&&((decide ((s6:Int)<(s7:Int)))||(((s8:Int) % 7)==0))) (gy_t rfl) (fun hg=>x_mv (v:=I (s8:Int)) rfl)<|g_val ((((s6:Int) != (s7:Int))&&(decide ((s6:Int)<(2+((s8:Int) % 4)))))&&((decide ((s6:Int)<(s7:Int)))||(((s8:Int) % 7)==0))) (gy_t rfl) (fun hg=>x_mv (v:=I (s7:Int)) rfl) ?_;obtain ⟨cq,hM⟩:=M.e_grd hM
    replace cq:=M.imp_of cq
    simp only [Bool.and_eq_true,decide_eq_true_eq] at cq
    refine g_val ((((s6:Int) != (s7:Int))&&(decide ((s6:Int)<(2+((s8:Int) % 4)))))&&((decide ((s6:Int)<(s7:Int)))||(((s8:Int) % 7)==0))) (gy_t rfl) (fun hg=>x_ari (r:=3*(s7:Int)) rfl (gd_of hg (I (s7:Int))) rfl (by have aa:=cq.resolve_left (by rw [hg]; decide); first | exact aa | exact aa.1 | exact aa.2 | omega | (have ag:=hg; simp at ag; omega)))<|g_val ((((s6:Int) != (s7:Int))&&(decide ((s6:Int)<(2+((s8:Int) % 4)))))&&((decide ((s6:Int)<(s7:Int)))||(((s8:Int) % 7)==0))) (gy_t rfl) (fun hg=>x_mv (v:=I (s6:Int)) rfl) ?_;obtain ⟨cZ,hM⟩:=M.e_grd hM
    replace cZ:=M.imp_of cZ
    simp only [Bool.and_eq_true,decide_eq_true_eq] at cZ
    refine g_val ((((s6:Int) != (s7:Int))&&(decide ((s6:Int)<(2+((s8:Int) % 4)))))&&((decide ((s6:Int)<(s7:Int)))||(((s8:Int) % 7)==0))) (gy_t rfl) (fun hg=>x_ari (r:=(3*(s7:Int))+(s6:Int)) (gd_of hg (I (3*(s7:Int)))) (gd_of hg (I (s6:Int))) rfl (by have aa:=cq.resolve_left (by rw [hg]; decide); have ab:=cZ.resolve_left (by rw [hg]; decide); first | exact aa | exact aa.1 | exact aa.2 | exact ab | exact ab.1 | exact ab.2 | omega | (have ag:=hg; simp at ag; omega))) ?_;obtain ⟨dq,hM⟩:=M.e_grd hM
    replace dq:=M.imp_of dq
    simp only [Bool.and_eq_true,decide_eq_true_eq] at dq
    refine g_val ((((s6:Int) != (s7:Int))&&(decide ((s6:Int)<(2+((s8:Int) % 4)))))&&((decide ((s6:Int)<(s7:Int)))||(((s8:Int) % 7)==0))) (gy_t rfl) (fun hg=>x_ari (r:=((3*(s7:Int))+(s6:Int))+1) (gd_of hg (I ((3*(s7:Int))+(s6:Int)))) rfl rfl (by have aa:=cq.resolve_left (by rw [hg]; decide); have ab:=cZ.resolve_left (by rw [hg]; decide); have ac:=dq.resolve_left (by rw [hg]; decide); first | exact aa | exact aa.1 | exact aa.2 | exact ab | exact ab.1 | exact ab.2 | exact ac | exact ac.1 | exact ac.2 | omega | (have ag:=hg; simp at ag; omega))) ?_;obtain ⟨eU,hM⟩:=M.e_grd hM
    replace eU:=M.imp_of eU
    simp only [Bool.and_eq_true,decide_eq_true_eq] at eU
    refine g_val ((((s6:Int) != (s7:Int))&&(decide ((s6:Int)<(2+((s8:Int) % 4)))))&&((decide ((s6:Int)<(s7:Int)))||(((s8:Int) % 7)==0))) (gy_t rfl) (fun hg=>x_quo (a:=(s8:Int)) (b:=((3*(s7:Int))+(s6:Int))+1) (gd_of hg (I (s8:Int))) (gd_of hg (I (((3*(s7:Int))+(s6:Int))+1))) (by have aa:=cq.resolve_left (by rw [hg]; decide); have ab:=cZ.resolve_left (by rw [hg]; decide); have ac:=dq.resolve_left (by rw [hg]; decide); have c0:=eU.resolve_left (by rw [hg]; decide); first | exact aa | exact aa.1 | exact aa.2 | exact ab | exact ab.1 | exact ab.2 | exact ac | exact ac.1 | exact ac.2 | exact c0 | exact c0.1 | exact c0.2 | omega | (have ag:=hg; simp at ag; omega))) ?_;obtain ⟨fy,hM⟩:=M.e_grd hM
    replace fy:=M.imp_of fy
    simp only [Bool.and_eq_true,decide_eq_true_eq] at fy
    refine g_val ((((s6:Int) != (s7:Int))&&(decide ((s6:Int)<(2+((s8:Int) % 4)))))&&((decide ((s6:Int)<(s7:Int)))||(((s8:Int) % 7)==0))) (gy_t rfl) (fun hg=>x_rem' (a:=(s8:Int) / (((3*(s7:Int))+(s6:Int))+1)) (b:=3) (gd_of hg (I ((s8:Int) / (((3*(s7:Int))+(s6:Int))+1)))) rfl (by have aa:=cq.resolve_left (by rw [hg]; decide); have ab:=cZ.resolve_left (by rw [hg]; decide); have ac:=dq.resolve_left (by rw [hg]; decide); have c0:=eU.resolve_left (by rw [hg]; decide); have iO:=fy.resolve_left (by rw [hg]; decide); first | exact aa | exact aa.1 | exact aa.2 | exact ab | exact ab.1 | exact ab.2 | exact ac | exact ac.1 | exact ac.2 | exact c0 | exact c0.1 | exact c0.2 | exact iO | exact iO.1 | exact iO.2 | omega | (have ag:=hg; simp at ag; omega)))<|g_val ((((s6:Int) != (s7:Int))&&(decide ((s6:Int)<(2+((s8:Int) % 4)))))&&((decide ((s6:Int)<(s7:Int)))||(((s8:Int) % 7)==0))) (gy_t rfl) (fun hg=>x_cmp (kd:=.i64) (r:=(((s8:Int) / (((3*(s7:Int))+(s6:Int))+1)) % 3)==0) (gd_of hg (I (((s8:Int) / (((3*(s7:Int))+(s6:Int))+1)) % 3))) rfl rfl)<|s_val (x_pand (b:=((((s6:Int) != (s7:Int))&&(decide ((s6:Int)<(2+((s8:Int) % 4)))))&&((decide ((s6:Int)<(s7:Int)))||(((s8:Int) % 7)==0)))) (r:=(((s8:Int) / (((3*(s7:Int))+(s6:Int))+1)) % 3)==0) rfl (fun hb=>gd_of (c:=((((s6:Int) != (s7:Int))&&(decide ((s6:Int)<(2+((s8:Int) % 4)))))&&((decide ((s6:Int)<(s7:Int)))||(((s8:Int) % 7)==0)))) (by first | exact hb | (rw [hb]; rfl) | (rw [hg,hb]; rfl) | simp_all) (B ((((s8:Int) / (((3*(s7:Int))+(s6:Int))+1)) % 3)==0))) rfl)<|s_nil ?_
    refine W.cond (((((s6:Int) != (s7:Int))&&(decide ((s6:Int)<(2+((s8:Int) % 4)))))&&((decide ((s6:Int)<(s7:Int)))||(((s8:Int) % 7)==0)))&&((((s8:Int) / (((3*(s7:Int))+(s6:Int))+1)) % 3)==0)) rfl (fun iP=>?_) (fun iP=>?_)
    ·replace hM:=M.e_t hM iP;refine kg 4 ?_;refine t_bs (α:=Int) T22 [I (s6:Int)] [(s6:Int)] H rfl (.cons rfl (Flat.rep_enc _ (s6:Int))<|.nil) rfl rfl rfl ?_;intro tf Ay H;obtain ⟨Az,hM⟩:=M.e_gd hM;refine t_app (α:=Int) (k:=1) (l:=l9) (l2:=[(s6:Int)]) (l':=l9++([(s6:Int)])) (vy:=tf) T22 rfl H rfl rfl rfl (H.os 0) (H.ol 0) (rfl) (by first | omega | (simp only [List.length_nil] at *; omega)) ?_;intro iQ AA H;replace H:=H.nf;refine kg 1 ?_;refine t_sw 2 0 [iQ] iQ H rfl rfl Sz22 (Sl.cells (H.os 1)) rfl rfl (by simp only [List.all_cons,List.all_nil,Bool.true_and,Bool.and_true,Sl.oc (H.os 1)]; try rfl) ?_;intro AB H;refine kg 5 ?_
     exact ⟨kH,kI,s6+1,l9++([(s6:Int)]),iQ,_,upds_of _ _ ⟨rfl,rfl,rfl,rfl,rfl,rfl,rfl,rfl,trivial⟩,M.e_inl hM iN,(H.pk [1,2,3,4,5])⟩
    replace hM:=M.e_f hM iP;refine kg 5 ?_
    exact ⟨kH,kI,s6+1,l9,cX,_,upds_of _ _ ⟨rfl,rfl,rfl,rfl,rfl,rfl,rfl,rfl,trivial⟩,M.e_inl hM iN,H⟩
   replace hM:=M.e_f hM cY
   replace cY:=dI cY
   refine W.exit ?_
   have tg:=M.e_inr hM iN
   subst tg;replace hM:=te;(try dsimp only at hM);refine kg 3 ?_
   obtain ⟨AC,H⟩:=H.emptyE
   obtain ⟨AD,H,th⟩:=H.freezeE (k:=1) rfl
   replace H:=H.nf
   have fA:=th
   obtain ⟨ti,H,AE,tj⟩:=H.joinE (i:=0) (j:=1) rfl rfl
   replace fA:=fA.mono tj
   obtain ⟨c3,kJ⟩:∃ r:Raw 2,r.cs=[cX,I ((s8:Int) % 5),I (((s8:Int) / ((s7:Int)+2)) % 4)]:=⟨Raw.of [cX,I ((s8:Int) % 5),I (((s8:Int) / ((s7:Int)+2)) % 4)] rfl (by simp only [List.all_cons,List.all_nil,Bool.true_and,Bool.and_true,Sl.oc fA]; try rfl),rfl⟩
   have tk:RepR (α:=Work) ti.cells [c3] [(⟨l9,((s8:Int) % 5:Int),(((s8:Int) / ((s7:Int)+2)) % 4:Int)⟩:Work)]:=.cons (by rw [kJ]; exact ⟨_,rfl,fA⟩)<|.nil
   refine t_bs (α:=Raw 2) T23 [.agg #[cX,I ((s8:Int) % 5),I (((s8:Int) / ((s7:Int)+2)) % 4)]] [c3] H rfl (.cons (by rw [show (Flat.enc c3:List Value)=c3.cs from rfl,kJ]; rfl) (Flat.rep_enc _ _)<|.nil) rfl rfl rfl ?_;intro tm AF H;replace H:=H.nf;obtain ⟨AG,hM⟩:=M.e_gd hM
   have fB:=tk
   obtain ⟨tn,H,tp,tq⟩:=H.joinE (i:=6) (j:=1) rfl rfl
   replace aH:=aH.mono tp
   replace fB:=fB.mono tq
   have tr:=aH.app fB
   refine t_app (α:=Raw 2) (k:=6) (l:=bI) (l2:=[c3]) (l':=bI++([c3])) (vy:=tm) T23 rfl H rfl rfl rfl (H.os 1) (H.ol 1) (rfl) (by have a_:=aH.len; have b_:=fB.len; (try simp only [List.length_nil] at *); first | omega | (rw [a_,b_]; omega)) ?_;intro tt AH H;replace H:=H.nf;refine kg 2 ?_;replace H:=H.pk [0,6,7,8];obtain ⟨AI,hM⟩:=M.e_gd hM;refine kg 4 ?_
   exact ⟨tb,tc,s7+1,ae++([(⟨l9,((s8:Int) % 5:Int),(((s8:Int) / ((s7:Int)+2)) % 4:Int)⟩:Work)]),tt,bI++([c3]),tn,_,upds_of _ _ ⟨rfl,rfl,rfl,rfl,rfl,trivial⟩,M.e_inl hM kE,(H.pk [1,0,3]),tr⟩
  replace hM:=M.e_f hM cW
  replace cW:=dI cW
  refine W.exit ?_
  have tu:=M.e_inr hM kE
  subst tu;replace hM:=ta;(try dsimp only at hM);refine kg 3 ?_;refine s_val (x_rem' (a:=(s8:Int)) (b:=3) rfl rfl (by omega)) ?_;refine kg 1 ?_;refine s_val (x_rem' (a:=(s8:Int)) (b:=7) rfl rfl (by omega))<|s_val (x_bld (ps:=[(0,I 0),(1,I ((s8:Int) % 3)),(2,I ((s8:Int) % 7))]) (zs:=[I 0,I 0,I 0]) (L':=[I 0,I ((s8:Int) % 3),I ((s8:Int) % 7)]) rfl Tryz.underlying26 Al26 rfl (Bd26 Tryz.underlying26) (.cons (cs:=[I 0]) rfl rfl rfl rfl rfl<|.cons (cs:=[I ((s8:Int) % 3)]) rfl rfl rfl rfl rfl<|.cons (cs:=[I ((s8:Int) % 7)]) rfl rfl rfl rfl rfl<|.nil)) ?_;refine kg 1 ?_;refine s_val (x_rem' (a:=(s8:Int)) (b:=3) rfl rfl (by omega)) ?_;obtain ⟨AJ,hM⟩:=M.e_gd hM;obtain ⟨AK,hM⟩:=M.e_gd hM;refine kg 2 ?_;refine s_val (x_rem' (a:=(s8:Int) / 3) (b:=3) rfl rfl (by omega)) ?_;obtain ⟨AL,hM⟩:=M.e_gd hM;refine kg 2 ?_;refine s_val (x_rem' (a:=(s8:Int) / 2) (b:=4) rfl rfl (by omega))<|s_val (x_bld (ps:=[(0,I ((s8:Int) % 3)),(1,I (((s8:Int) / 3) % 3)),(2,I (((s8:Int) / 2) % 4))]) (zs:=[I 0,I 0,I 0]) (L':=[I ((s8:Int) % 3),I (((s8:Int) / 3) % 3),I (((s8:Int) / 2) % 4)]) rfl Tryz.underlying26 Al26 rfl (Bd26 Tryz.underlying26) (.cons (cs:=[I ((s8:Int) % 3)]) rfl rfl rfl rfl rfl<|.cons (cs:=[I (((s8:Int) / 3) % 3)]) rfl rfl rfl rfl rfl<|.cons (cs:=[I (((s8:Int) / 2) % 4)]) rfl rfl rfl rfl rfl<|.nil))<|s_val (x_bld (ps:=[(0,I 0),(1,I 1),(2,I 5)]) (zs:=[I 0,I 0,I 0]) (L':=[I 0,I 1,I 5]) rfl Tryz.underlying26 Al26 rfl (Bd26 Tryz.underlying26) (.cons (cs:=[I 0]) rfl rfl rfl rfl rfl<|.cons (cs:=[I 1]) rfl rfl rfl rfl rfl<|.cons (cs:=[I 5]) rfl rfl rfl rfl rfl<|.nil)) ?_;refine t_bs (α:=Note) T27 [.agg #[I 0,I ((s8:Int) % 3),I ((s8:Int) % 7)],.agg #[I ((s8:Int) % 3),I (((s8:Int) / 3) % 3),I (((s8:Int) / 2) % 4)],.agg #[I 0,I 1,I 5]] [(⟨(0:Int),((s8:Int) % 3:Int),((s8:Int) % 7:Int)⟩:Note),(⟨((s8:Int) % 3:Int),(((s8:Int) / 3) % 3:Int),(((s8:Int) / 2) % 4:Int)⟩:Note),(⟨(0:Int),(1:Int),(5:Int)⟩:Note)] H rfl (.cons rfl (Flat.rep_enc _ (⟨(0:Int),((s8:Int) % 3:Int),((s8:Int) % 7:Int)⟩:Note))<|.cons rfl (Flat.rep_enc _ (⟨((s8:Int) % 3:Int),(((s8:Int) / 3) % 3:Int),(((s8:Int) / 2) % 4:Int)⟩:Note))<|.cons rfl (Flat.rep_enc _ (⟨(0:Int),(1:Int),(5:Int)⟩:Note))<|.nil) rfl rfl rfl ?_;intro c4 AM H;refine kg 7 ?_;refine s_val (x_rem' (a:=(s8:Int)) (b:=5) rfl rfl (by omega)) ?_;obtain ⟨AN,hM⟩:=M.e_gd hM;refine kg 2 ?_;refine s_val (x_rem' (a:=(s8:Int) / 5) (b:=5) rfl rfl (by omega)) ?_;refine kg 2 ?_;refine s_val (x_rem' (a:=(s8:Int) / 3) (b:=6) rfl rfl (by omega)) ?_;refine t_bs (α:=Int) T22 [I ((s8:Int) % 5),I (((s8:Int) / 5) % 5),I (((s8:Int) / 3) % 6)] [((s8:Int) % 5:Int),(((s8:Int) / 5) % 5:Int),(((s8:Int) / 3) % 6:Int)] H rfl (.cons rfl (Flat.rep_enc _ ((s8:Int) % 5:Int))<|.cons rfl (Flat.rep_enc _ (((s8:Int) / 5) % 5:Int))<|.cons rfl (Flat.rep_enc _ (((s8:Int) / 3) % 6:Int))<|.nil) rfl rfl rfl ?_;intro dr AO H;refine kg 1 ?_;refine s_val (x_rem' (a:=(s8:Int)) (b:=3) rfl rfl (by omega)) ?_;obtain ⟨AP,hM⟩:=M.e_gd hM;obtain ⟨AQ,hM⟩:=M.e_gd hM;refine kg 1 ?_
  obtain ⟨iR,tv,iS⟩:=sl_hi T22.und T22.size (H.os 0) (j:=1+((s8:Int) % 3)) (by omega) (by omega)
  replace iS:Sl _ iR (([((s8:Int) % 5:Int),(((s8:Int) / 5) % 5:Int),(((s8:Int) / 3) % 6:Int)]).take (Int.toNat (1+((s8:Int) % 3)))):=iS
  refine s_val (x_sl (v:=dr) (u:=iR) (lo':=none) (hi':=some (I (1+((s8:Int) % 3)))) (mx':=none) rfl rfl rfl rfl (tv _)) ?_;refine kg 1 ?_;refine s_val (x_rem' (a:=(s8:Int)) (b:=6) rfl rfl (by omega)) ?_;obtain ⟨AS,hM⟩:=M.e_gd hM;refine kg 2 ?_;refine s_val (x_rem' (a:=(s8:Int) / 6) (b:=6) rfl rfl (by omega)) ?_;obtain ⟨AT,tw,hM⟩:=M.e_bind hM;refine s_call cf5 [am,iR,I ((s8:Int) % 6),I (((s8:Int) / 6) % 6)] rfl (zdK ae (([((s8:Int) % 5:Int),(((s8:Int) / 5) % 5:Int),(((s8:Int) / 3) % 6:Int)]).take (Int.toNat (1+((s8:Int) % 3)))) ((s8:Int) % 6) (((s8:Int) / 6) % 6) (Reads.sup (rdo 2) (Reads.of (k:=3) rfl roLe)) (rowSl rfl (H.get (k:=2) rfl) (roLe _ (H.get (k:=3) rfl)) aH) (rdo 0) iS tw _ (H.gt 5)) ?_
  rintro vq AU ⟨r6,rfl,hvq,aC⟩
  subst vq;(try dsimp only at hM);replace H:=H.bk aC;clear aC;refine kg 5 ?_;refine g_val (!(!r6)) (gy_f rfl) (fun hg=>x_rem' (a:=(s8:Int)) (b:=4) (gd_of hg (I (s8:Int))) rfl (by first | omega | (have ag:=hg; simp at ag; omega))) ?_;refine kg 1 ?_;refine g_val (!(!r6)) (gy_f rfl) (fun hg=>x_rem' (a:=(s8:Int)) (b:=9) (gd_of hg (I (s8:Int))) rfl (by first | omega | (have ag:=hg; simp at ag; omega)))<|g_val (!(!r6)) (gy_f rfl) (fun hg=>x_bld (ps:=[(0,I ((s8:Int) % 4)),(1,I ((s8:Int) % 9))]) (zs:=[I 0,I 0]) (L':=[I ((s8:Int) % 4),I ((s8:Int) % 9)]) (by exact prs2 (gd_of hg (I ((s8:Int) % 4))) (gd_of hg (I ((s8:Int) % 9)))) Tryz.underlying29 Al29 rfl (Bd29 Tryz.underlying29) (.cons (cs:=[I ((s8:Int) % 4)]) rfl rfl rfl rfl rfl<|.cons (cs:=[I ((s8:Int) % 9)]) rfl rfl rfl rfl rfl<|.nil)) ?_;obtain ⟨fC,hM⟩:=M.e_grd hM
  replace fC:=M.imp_of fC
  simp only [Bool.and_eq_true,decide_eq_true_eq] at fC
  refine kg 2 ?_;refine g_val (!(!r6)) (gy_f rfl) (fun hg=>x_rem' (a:=(s8:Int) / 9) (b:=9) (gd_of hg (I ((s8:Int) / 9))) rfl (by have aa:=fC.resolve_left (by rw [hg]; decide); first | exact aa | exact aa.1 | exact aa.2 | omega | (have ag:=hg; simp at ag; omega)))<|g_val (!(!r6)) (gy_f rfl) (fun hg=>x_bld (ps:=[(0,I 1),(1,I (((s8:Int) / 9) % 9))]) (zs:=[I 0,I 0]) (L':=[I 1,I (((s8:Int) / 9) % 9)]) (by exact prs2 rfl (gd_of hg (I (((s8:Int) / 9) % 9)))) Tryz.underlying29 Al29 rfl (Bd29 Tryz.underlying29) (.cons (cs:=[I 1]) rfl rfl rfl rfl rfl<|.cons (cs:=[I (((s8:Int) / 9) % 9)]) rfl rfl rfl rfl rfl<|.nil)) ?_;refine t_gbs (α:=Pub) T30 (!(!r6)) (gy_f rfl) [.agg #[I ((s8:Int) % 4),I ((s8:Int) % 9)],.agg #[I 1,I (((s8:Int) / 9) % 9)]] [(⟨((s8:Int) % 4:Int),((s8:Int) % 9:Int)⟩:Pub),(⟨(1:Int),(((s8:Int) / 9) % 9:Int)⟩:Pub)] H (fun hg=>by exact prs2 (gd_of hg (.agg #[I ((s8:Int) % 4),I ((s8:Int) % 9)])) (gd_of hg (.agg #[I 1,I (((s8:Int) / 9) % 9)]))) (.cons rfl (Flat.rep_enc _ (⟨((s8:Int) % 4:Int),((s8:Int) % 9:Int)⟩:Pub))<|.cons rfl (Flat.rep_enc _ (⟨(1:Int),(((s8:Int) / 9) % 9:Int)⟩:Pub))<|.nil) rfl rfl rfl ?_;intro kK eV AV H tx;obtain ⟨r7,tz,hM⟩:=M.e_bind hM;refine t_gcall (!(!r6)) (gy_f rfl) cf6 (B r7) (fun _=>[am,c4,kK]) (fun hg=>lst3 (gd_of hg (am)) (gd_of hg (c4)) (gd_of hg (kK))) H (fun hg=>(zau ae ([(⟨(0:Int),((s8:Int) % 3:Int),((s8:Int) % 7:Int)⟩:Note),(⟨((s8:Int) % 3:Int),(((s8:Int) / 3) % 3:Int),(((s8:Int) / 2) % 4:Int)⟩:Note),(⟨(0:Int),(1:Int),(5:Int)⟩:Note)]) ([(⟨((s8:Int) % 4:Int),((s8:Int) % 9:Int)⟩:Pub),(⟨(1:Int),(((s8:Int) / 9) % 9:Int)⟩:Pub)]) (Reads.sup (rdo 3) (Reads.of (k:=4) rfl roLe)) (rowSl rfl (H.get (k:=3) rfl) (roLe _ (H.get (k:=4) rfl)) aH) (rdo 2) (H.os 2) (Reads.of (k:=0) rfl roLe) (tx hg) (M.e_opt tz hg) _ (H.give (A:=[]) rfl)).mono fun v_ w_ ⟨y_,ah,ai,H_⟩=>by subst ah; exact ⟨ai,H.via H_⟩) ?_;intro AW H;refine kg 1 ?_;refine s_val (x_por (b:=!r6) (r:=!r7) rfl rfl (fun hb=>gd_of (c:=!(!r6)) (by first | exact hb | (rw [hb]; rfl) | (rw [hg,hb]; rfl) | simp_all) (B (!r7))))<|s_nil ?_
  refine W.cond ((!r6)||(!r7)) rfl (fun iT=>?_) (fun iT=>?_)
  ·replace hM:=M.e_t hM iT;refine kg 4 ?_;replace H:=H.pk [5];refine W.ret ?_
   have tA:=M.e_inr hM dp
   subst tA;replace hM:=fx;(try dsimp only at hM)
   have ah:=M.e_pure hM
   exact ⟨_,resE_tmp rfl,⟨false,ah,rfl,(H.pk [])⟩⟩
  replace hM:=M.e_f hM iT;refine kg 2 ?_;refine W.drawT (fun W=>St w W [cRo eV,cOwn (α:=Int) 3 dr ([((s8:Int) % 5:Int),(((s8:Int) / 5) % 5:Int),(((s8:Int) / 3) % 6:Int)]),cOwn (α:=Note) 26 c4 ([(⟨(0:Int),((s8:Int) % 3:Int),((s8:Int) % 7:Int)⟩:Note),(⟨((s8:Int) % 3:Int),(((s8:Int) / 3) % 3:Int),(((s8:Int) / 2) % 4:Int)⟩:Note),(⟨(0:Int),(1:Int),(5:Int)⟩:Note)]),cOwn (α:=Raw 2) 34 am bI,cRo B_l12,cOwn (α:=Int) 3 bn (vl28)] R) (.q 0 (.q 1 (.q 2 (.q 4 (.q 5 (.q 6 (.q 7 (.q 10 (.q 11 (.q 12 (.q 13 (.q 14 (.q 15 (.l2 3 (.q 8 (.q 17 (.l 9 (.q 16 (.q 18 .nil))))) 9 (.q 16 (.l 3 (.q 8 (.q 17 (.q 18 .nil))))))))))))))))))) mixed (by decide +kernel) rfl ?_;intro AX ag;replace H:=H.ext ag;clear ag
  refine ⟨(H.pk [0,1,2,3,4,5]),?_⟩
  refine kg 1 ?_;refine t_q rfl (fun w' H=>x_rem' (a:=(s8:Int)) (b:=2) rfl rfl (by omega)) ?_;obtain ⟨AY,hM⟩:=M.e_gd hM;refine kg 3 ?_;refine t_q rfl (fun w' H=>x_rem' (a:=(s8:Int) / 2) (b:=2) rfl rfl (by omega)) ?_;obtain ⟨AZ,hM⟩:=M.e_gd hM;refine kg 2 ?_;refine t_q rfl (fun w' H=>x_rem' (a:=(s8:Int)) (b:=3) rfl rfl (by omega)) ?_;refine kg 2 ?_;refine t_q rfl (fun w' H=>x_rem' (a:=(s8:Int) / 3) (b:=4) rfl rfl (by omega)) ?_;obtain ⟨A0,hM⟩:=M.e_gd hM;obtain ⟨A1,hM⟩:=M.e_gd hM;obtain ⟨A2,hM⟩:=M.e_gd hM;refine kg 1 ?_;refine t_l2 rfl rfl ?_ ?_
  ·skip
   refine t_bs (α:=Int) T22 [I 0,I (1+((s8:Int) % 2))] [(0:Int),(1+((s8:Int) % 2):Int)] H rfl (.cons rfl (Flat.rep_enc _ (0:Int))<|.cons rfl (Flat.rep_enc _ (1+((s8:Int) % 2):Int))<|.nil) rfl rfl rfl ?_;intro iU A3 H
   have A4:=Sl.cells (H.os 0)
   have A5:=Sl.oc (H.os 0)
   have tB:=ownSl (H.get (k:=0) rfl)
   refine s_nil ⟨(H.pk [1,2,3,4,5,6]),?_⟩
   obtain ⟨bo,tC,bO⟩:=sl_hi T22.und T22.size tB (j:=1+(((s8:Int) / 2) % 2)) (by omega) (by omega)
   replace bO:Sl _ bo (([(0:Int),(1+((s8:Int) % 2):Int)]).take (Int.toNat (1+(((s8:Int) / 2) % 2)))):=bO
   refine t_q rfl (fun w' H=>x_sl (v:=iU) (u:=bo) (lo':=none) (hi':=some (I (1+(((s8:Int) / 2) % 2)))) (mx':=none) rfl rfl rfl rfl (tC _)) ?_;refine kg 1 ?_;refine t_l rfl ?_;refine t_bs (α:=Int) T22 [I 0,I 1,I 2,I 3,I 4] [(0:Int),(1:Int),(2:Int),(3:Int),(4:Int)] H rfl (.cons rfl (Flat.rep_enc _ (0:Int))<|.cons rfl (Flat.rep_enc _ (1:Int))<|.cons rfl (Flat.rep_enc _ (2:Int))<|.cons rfl (Flat.rep_enc _ (3:Int))<|.cons rfl (Flat.rep_enc _ (4:Int))<|.nil) rfl rfl rfl ?_;intro iV A6 H
   have A7:=Sl.cells (H.os 0)
   have A8:=Sl.oc (H.os 0)
   have tD:=ownSl (H.get (k:=0) rfl)
   refine s_nil ⟨(H.pk [2,3,4,5,6,7]),?_⟩
   obtain ⟨iW,tE,iX⟩:=sl_lohi T22.und T22.size tD (i:=(s8:Int) % 3) (j:=2+(((s8:Int) / 3) % 4)) (by omega) (by omega) (by omega)
   replace iX:Sl _ iW ((([(0:Int),(1:Int),(2:Int),(3:Int),(4:Int)]).take (Int.toNat (2+(((s8:Int) / 3) % 4)))).drop (Int.toNat ((s8:Int) % 3))):=iX
   refine t_q rfl (fun w' H=>x_sl (v:=iV) (u:=iW) (lo':=some (I ((s8:Int) % 3))) (hi':=some (I (2+(((s8:Int) / 3) % 4)))) (mx':=none) rfl rfl rfl rfl (tE _)) ?_;refine kg 2 ?_;refine W.seqJ (fun σ W=>∃ (r8:Bool) (r9:Bool) (ρ:Env),σ=upds ρ [(157,I (s8:Int)),(322,B ((!r8)||(!r9)))]/\(zaX s8 r8 r9).Ends kB/\St w W [cOwn (α:=Int) 3 iV ([(0:Int),(1:Int),(2:Int),(3:Int),(4:Int)]),cOwn (α:=Int) 3 iU ([(0:Int),(1+((s8:Int) % 2):Int)]),cRo eV,cOwn (α:=Int) 3 dr ([((s8:Int) % 5:Int),(((s8:Int) / 5) % 5:Int),(((s8:Int) / 3) % 6:Int)]),cOwn (α:=Note) 26 c4 ([(⟨(0:Int),((s8:Int) % 3:Int),((s8:Int) % 7:Int)⟩:Note),(⟨((s8:Int) % 3:Int),(((s8:Int) / 3) % 3:Int),(((s8:Int) / 2) % 4:Int)⟩:Note),(⟨(0:Int),(1:Int),(5:Int)⟩:Note)]),cOwn (α:=Raw 2) 34 am bI,cRo B_l12,cOwn (α:=Int) 3 bn (vl28)] R) ?_ ?_
   ·skip
    refine W.drawT (fun W=>St w W [cOwn (α:=Int) 3 iV ([(0:Int),(1:Int),(2:Int),(3:Int),(4:Int)]),cOwn (α:=Int) 3 iU ([(0:Int),(1+((s8:Int) % 2):Int)]),cRo eV,cOwn (α:=Int) 3 dr ([((s8:Int) % 5:Int),(((s8:Int) / 5) % 5:Int),(((s8:Int) / 3) % 6:Int)]),cOwn (α:=Note) 26 c4 ([(⟨(0:Int),((s8:Int) % 3:Int),((s8:Int) % 7:Int)⟩:Note),(⟨((s8:Int) % 3:Int),(((s8:Int) / 3) % 3:Int),(((s8:Int) / 2) % 4:Int)⟩:Note),(⟨(0:Int),(1:Int),(5:Int)⟩:Note)]),cOwn (α:=Raw 2) 34 am bI,cRo B_l12,cOwn (α:=Int) 3 bn (vl28)] R) (.q 0 (.q 1 (.q 2 (.l 3 (.q 4 (.q 5 (.q 6 (.q 7 (.q 8 (.q 9 (.q 10 (.q 11 (.q 12 (.q 13 (.q 15 (.q 16 (.q 18 (.q 19 (.q 20 (.q 22 (.q 23 (.q 24 (.q 27 (.q 28 (.l3 14 (.q 17 (.l2 21 (.l 25 (.l 26 (.q 29 (.l 30 (.q 31 (.q 32 .nil)))))) 25 (.l 21 (.l 26 (.q 29 (.l 30 (.q 31 (.q 32 .nil)))))))) 21 (.l2 14 (.q 17 (.l 25 (.l 26 (.q 29 (.l 30 (.q 31 (.q 32 .nil))))))) 25 (.l2 14 (.q 17 (.l 26 (.q 29 (.l 30 (.q 31 (.q 32 .nil)))))) 26 (.q 29 (.l 14 (.q 17 (.l 30 (.q 31 (.q 32 .nil)))))))) 25 (.l2 14 (.q 17 (.l 21 (.l 26 (.q 29 (.l 30 (.q 31 (.q 32 .nil))))))) 21 (.l2 14 (.q 17 (.l 26 (.q 29 (.l 30 (.q 31 (.q 32 .nil)))))) 26 (.q 29 (.l 14 (.q 17 (.l 30 (.q 31 (.q 32 .nil))))))))))))))))))))))))))))))))) mixed (by decide +kernel) rfl ?_;intro A9 ag;replace H:=H.ext ag;clear ag
    refine ⟨(H.pk [0,1,2,3,4,5,6,7]),?_⟩
    refine kg 3 ?_;refine t_l rfl ?_;obtain ⟨Ba,tF,hM⟩:=M.e_bind hM;refine s_call cf7 [am,bo,iW] rfl (zbn ae (([(0:Int),(1+((s8:Int) % 2):Int)]).take (Int.toNat (1+(((s8:Int) / 2) % 2)))) ((([(0:Int),(1:Int),(2:Int),(3:Int),(4:Int)]).take (Int.toNat (2+(((s8:Int) / 3) % 4)))).drop (Int.toNat ((s8:Int) % 3))) (Reads.sup (rdo 5) (Reads.of (k:=6) rfl roLe)) (rowSl rfl (H.get (k:=5) rfl) (roLe _ (H.get (k:=6) rfl)) aH) (rdo 1) bO (rdo 0) iX tF _ (H.gt 8)) ?_
    rintro vq Bb ⟨r8,rfl,hvq,aC⟩
    subst vq;(try dsimp only at hM);replace H:=H.bk aC;clear aC
    refine s_nil ⟨(H.pk [0,1,2,3,4,5,6,7]),?_⟩
    have Bc:=((rowSl rfl (H.get (k:=5) rfl) (roLe _ (H.get (k:=6) rfl)) aH)).len_le
    refine kg 5 ?_;refine t_qg (!(!r8)) rfl (gy_f rfl) (fun hg=>(fun w' H=>x_lenS T23.und (gd_of hg (am)) (rowSl rfl (H.get (k:=5) rfl) (roLe _ (H.get (k:=6) rfl)) aH))) ?_;refine kg 2 ?_;refine t_qg (!(!r8)) rfl (gy_f rfl) (fun hg=>(fun w' H=>x_rem' (a:=(s8:Int)) (b:=2) (gd_of hg (I (s8:Int))) rfl (by first | omega | (have ag:=hg; simp at ag; omega)))) ?_;obtain ⟨aI,hM⟩:=M.e_grd hM
    replace aI:=M.imp_of aI
    simp only [Bool.and_eq_true,decide_eq_true_eq] at aI
    refine kg 2 ?_;refine t_qg (!(!r8)) rfl (gy_f rfl) (fun hg=>(fun w' H=>x_rem' (a:=(s8:Int)) (b:=4) (gd_of hg (I (s8:Int))) rfl (by have aa:=aI.resolve_left (by rw [hg]; decide); first | exact aa | exact aa.1 | exact aa.2 | omega | (have ag:=hg; simp at ag; omega)))) ?_
    have Bd:=((rowSl rfl (H.get (k:=5) rfl) (roLe _ (H.get (k:=6) rfl)) aH)).len_le
    refine kg 1 ?_;refine t_qg (!(!r8)) rfl (gy_f rfl) (fun hg=>(fun w' H=>x_lenS T23.und (gd_of hg (am)) (rowSl rfl (H.get (k:=5) rfl) (roLe _ (H.get (k:=6) rfl)) aH))) ?_
    have Be:=((rowSl rfl (H.get (k:=5) rfl) (roLe _ (H.get (k:=6) rfl)) aH)).len_le
    refine kg 2 ?_;refine t_qg (!(!r8)) rfl (gy_f rfl) (fun hg=>(fun w' H=>x_lenS T23.und (gd_of hg (am)) (rowSl rfl (H.get (k:=5) rfl) (roLe _ (H.get (k:=6) rfl)) aH))) ?_;refine kg 2 ?_;refine t_qg (!(!r8)) rfl (gy_f rfl) (fun hg=>(fun w' H=>x_rem' (a:=(s8:Int)) (b:=3) (gd_of hg (I (s8:Int))) rfl (by have aa:=aI.resolve_left (by rw [hg]; decide); first | exact aa | exact aa.1 | exact aa.2 | omega | (have ag:=hg; simp at ag; omega)))) ?_;refine t_l3 rfl rfl rfl ?_ ?_ ?_
    ·skip
     refine t_gbs (α:=Int) T22 (!(!r8)) (gy_f rfl) [I 1,I 2,I 3] [(1:Int),(2:Int),(3:Int)] H (fun _=>rfl) (.cons rfl (Flat.rep_enc _ (1:Int))<|.cons rfl (Flat.rep_enc _ (2:Int))<|.cons rfl (Flat.rep_enc _ (3:Int))<|.nil) rfl rfl rfl ?_;intro kL bH Bf H tG
     refine s_nil ⟨(H.pk [1,2,3,4,5,6,7,8]),?_⟩
     obtain ⟨ci,hM⟩:=M.e_grd hM
     replace ci:=M.imp_of ci
     simp only [Bool.and_eq_true,decide_eq_true_eq] at ci
     obtain ⟨dt,tH,fD⟩:=gd_ex (c:=!(!r8)) fun hg=>sl_hi T22.und T22.size (tG hg) (j:=(s8:Int) % 4) (by have aa:=aI.resolve_left (by rw [hg]; decide); have ab:=ci.resolve_left (by rw [hg]; decide); first | exact aa | exact aa.1 | exact aa.2 | exact ab | exact ab.1 | exact ab.2 | omega | (have ag:=hg; simp at ag; omega)) (by have aa:=aI.resolve_left (by rw [hg]; decide); have ab:=ci.resolve_left (by rw [hg]; decide); first | exact aa | exact aa.1 | exact aa.2 | exact ab | exact ab.1 | exact ab.2 | omega | (have ag:=hg; simp at ag; omega))
     replace fD:(!(!r8))=true->Sl _ dt (([(1:Int),(2:Int),(3:Int)]).take (Int.toNat ((s8:Int) % 4))):=fD
     refine t_qg (!(!r8)) rfl (gy_f rfl) (fun hg=>(fun w' H=>x_sl (v:=kL) (u:=dt) (lo':=none) (hi':=some (I ((s8:Int) % 4))) (mx':=none) (gd_of hg (kL)) rfl (congrArg some (gd_of hg (I ((s8:Int) % 4)))) rfl (tH hg _))) ?_;obtain ⟨c6,hM⟩:=M.e_grd hM
     replace c6:=M.imp_of c6
     simp only [Bool.and_eq_true,decide_eq_true_eq] at c6
     refine t_l2 rfl rfl ?_ ?_
     ·skip
      refine t_gbs (α:=Int) T22 (!(!r8)) (gy_f rfl) [I 0,I ((ae.length:Int)-1)] [(0:Int),((ae.length:Int)-1:Int)] H (fun hg=>by exact prs2 rfl (gd_of hg (I ((ae.length:Int)-1)))) (.cons rfl (Flat.rep_enc _ (0:Int))<|.cons rfl (Flat.rep_enc _ ((ae.length:Int)-1:Int))<|.nil) rfl rfl rfl ?_
      intro tI cj Bg H tJ
      refine s_nil ⟨(H.pk [2,3,4,5,6,7,8,9]),?_⟩
      refine t_l rfl ?_;refine t_gbs (α:=Int) T22 (!(!r8)) (gy_f rfl) [I 0,I 2,I ((ae.length:Int)-1)] [(0:Int),(2:Int),((ae.length:Int)-1:Int)] H (fun hg=>by exact prs3 rfl rfl (gd_of hg (I ((ae.length:Int)-1)))) (.cons rfl (Flat.rep_enc _ (0:Int))<|.cons rfl (Flat.rep_enc _ (2:Int))<|.cons rfl (Flat.rep_enc _ ((ae.length:Int)-1:Int))<|.nil) rfl rfl rfl ?_;intro tK ck Bh H tL
      refine s_nil ⟨(H.pk [3,4,5,6,7,8,9,10]),?_⟩
      refine t_l rfl ?_;refine t_gbsL T31 (!(!r8)) (gy_f rfl) (k1:=1) (k2:=0) H rfl rfl (fun hg=>(tJ hg)) (fun hg=>(tL hg)) (fun hg=>by exact prs2 (gd_of hg (tI)) (gd_of hg (tK))) ?_;intro kM bw Bi H tM
      refine s_nil ⟨(H.pk [4,5,6,7,8,9,10,11]),?_⟩
      obtain ⟨fE,tN,iY⟩:=gd_ex (c:=!(!r8)) fun hg=>sl_hi T31.und T31.size (tM hg) (j:=(s8:Int) % 3) (by have aa:=aI.resolve_left (by rw [hg]; decide); have ab:=ci.resolve_left (by rw [hg]; decide); have ac:=c6.resolve_left (by rw [hg]; decide); first | exact aa | exact aa.1 | exact aa.2 | exact ab | exact ab.1 | exact ab.2 | exact ac | exact ac.1 | exact ac.2 | omega | (have ag:=hg; simp at ag; omega)) (by have aa:=aI.resolve_left (by rw [hg]; decide); have ab:=ci.resolve_left (by rw [hg]; decide); have ac:=c6.resolve_left (by rw [hg]; decide); first | exact aa | exact aa.1 | exact aa.2 | exact ab | exact ab.1 | exact ab.2 | exact ac | exact ac.1 | exact ac.2 | omega | (have ag:=hg; simp at ag; omega))
      replace iY:(!(!r8))=true->Sl _ fE (([[(0:Int),((ae.length:Int)-1:Int)],[(0:Int),(2:Int),((ae.length:Int)-1:Int)]]).take (Int.toNat ((s8:Int) % 3))):=iY
      refine t_qg (!(!r8)) rfl (gy_f rfl) (fun hg=>(fun w' H=>x_sl (v:=kM) (u:=fE) (lo':=none) (hi':=some (I ((s8:Int) % 3))) (mx':=none) (gd_of hg (kM)) rfl (congrArg some (gd_of hg (I ((s8:Int) % 3)))) rfl (tN hg _)))<|t_l rfl ?_;obtain ⟨r9,tO,hM⟩:=M.e_bind hM;refine t_gcall (!(!r8)) (gy_f rfl) cf8 (B r9) (fun _=>[am,bo,I (((ae.length:Int)-1)-((s8:Int) % 2)),dt,fE]) (fun hg=>lst5 (gd_of hg (am)) (gd_of hg (bo)) (gd_of hg (I (((ae.length:Int)-1)-((s8:Int) % 2)))) (gd_of hg (dt)) (gd_of hg (fE))) H (fun hg=>(zaf ae (([(0:Int),(1+((s8:Int) % 2):Int)]).take (Int.toNat (1+(((s8:Int) / 2) % 2)))) (((ae.length:Int)-1)-((s8:Int) % 2)) (([(1:Int),(2:Int),(3:Int)]).take (Int.toNat ((s8:Int) % 4))) (([[(0:Int),((ae.length:Int)-1:Int)],[(0:Int),(2:Int),((ae.length:Int)-1:Int)]]).take (Int.toNat ((s8:Int) % 3))) (Reads.sup (rdo 9) (Reads.of (k:=10) rfl roLe)) (rowSl rfl (H.get (k:=9) rfl) (roLe _ (H.get (k:=10) rfl)) aH) (rdo 5) bO (Reads.of (k:=3) rfl roLe) (fD hg) (Reads.of (k:=0) rfl roLe) (iY hg) (M.e_opt tO hg) _ (H.give (A:=[]) rfl)).mono fun v_ w_ ⟨y_,ah,ai,H_⟩=>by subst ah; exact ⟨ai,H.via H_⟩) ?_;intro Bj H
      refine s_nil ⟨(H.pk [4,5,6,7,8,9,10,11]),?_⟩
      refine kg 1 ?_;refine t_q rfl (fun w' H=>x_por (b:=!r8) (r:=!r9) rfl rfl (fun hb=>gd_of (c:=!(!r8)) (by first | exact hb | (rw [hb]; rfl) | (rw [hg,hb]; rfl) | simp_all) (B (!r9)))) ?_;refine t_nil ?_
      exact ⟨r8,r9,_,upds_of _ _ ⟨rfl,rfl,trivial⟩,hM,(H.pk [4,5,6,7,8,9,10,11])⟩
     skip
     refine t_gbs (α:=Int) T22 (!(!r8)) (gy_f rfl) [I 0,I 2,I ((ae.length:Int)-1)] [(0:Int),(2:Int),((ae.length:Int)-1:Int)] H (fun hg=>by exact prs3 rfl rfl (gd_of hg (I ((ae.length:Int)-1)))) (.cons rfl (Flat.rep_enc _ (0:Int))<|.cons rfl (Flat.rep_enc _ (2:Int))<|.cons rfl (Flat.rep_enc _ ((ae.length:Int)-1:Int))<|.nil) rfl rfl rfl ?_
     intro tP ck Bk H tQ
     refine s_nil ⟨(H.pk [2,3,4,5,6,7,8,9]),?_⟩
     refine t_l rfl ?_;refine t_gbs (α:=Int) T22 (!(!r8)) (gy_f rfl) [I 0,I ((ae.length:Int)-1)] [(0:Int),((ae.length:Int)-1:Int)] H (fun hg=>by exact prs2 rfl (gd_of hg (I ((ae.length:Int)-1)))) (.cons rfl (Flat.rep_enc _ (0:Int))<|.cons rfl (Flat.rep_enc _ ((ae.length:Int)-1:Int))<|.nil) rfl rfl rfl ?_;intro tR cj Bl H tS
     refine s_nil ⟨(H.pk [3,4,5,6,7,8,9,10]),?_⟩
     refine t_l rfl ?_;refine t_gbsL T31 (!(!r8)) (gy_f rfl) (k1:=0) (k2:=1) H rfl rfl (fun hg=>(tS hg)) (fun hg=>(tQ hg)) (fun hg=>by exact prs2 (gd_of hg (tR)) (gd_of hg (tP))) ?_;intro kN bw Bm H tT
     refine s_nil ⟨(H.pk [4,5,6,7,8,9,10,11]),?_⟩
     obtain ⟨fF,tU,iZ⟩:=gd_ex (c:=!(!r8)) fun hg=>sl_hi T31.und T31.size (tT hg) (j:=(s8:Int) % 3) (by have aa:=aI.resolve_left (by rw [hg]; decide); have ab:=ci.resolve_left (by rw [hg]; decide); have ac:=c6.resolve_left (by rw [hg]; decide); first | exact aa | exact aa.1 | exact aa.2 | exact ab | exact ab.1 | exact ab.2 | exact ac | exact ac.1 | exact ac.2 | omega | (have ag:=hg; simp at ag; omega)) (by have aa:=aI.resolve_left (by rw [hg]; decide); have ab:=ci.resolve_left (by rw [hg]; decide); have ac:=c6.resolve_left (by rw [hg]; decide); first | exact aa | exact aa.1 | exact aa.2 | exact ab | exact ab.1 | exact ab.2 | exact ac | exact ac.1 | exact ac.2 | omega | (have ag:=hg; simp at ag; omega))
     replace iZ:(!(!r8))=true->Sl _ fF (([[(0:Int),((ae.length:Int)-1:Int)],[(0:Int),(2:Int),((ae.length:Int)-1:Int)]]).take (Int.toNat ((s8:Int) % 3))):=iZ
     refine t_qg (!(!r8)) rfl (gy_f rfl) (fun hg=>(fun w' H=>x_sl (v:=kN) (u:=fF) (lo':=none) (hi':=some (I ((s8:Int) % 3))) (mx':=none) (gd_of hg (kN)) rfl (congrArg some (gd_of hg (I ((s8:Int) % 3)))) rfl (tU hg _)))<|t_l rfl ?_;obtain ⟨r9,tV,hM⟩:=M.e_bind hM;refine t_gcall (!(!r8)) (gy_f rfl) cf8 (B r9) (fun _=>[am,bo,I (((ae.length:Int)-1)-((s8:Int) % 2)),dt,fF]) (fun hg=>lst5 (gd_of hg (am)) (gd_of hg (bo)) (gd_of hg (I (((ae.length:Int)-1)-((s8:Int) % 2)))) (gd_of hg (dt)) (gd_of hg (fF))) H (fun hg=>(zaf ae (([(0:Int),(1+((s8:Int) % 2):Int)]).take (Int.toNat (1+(((s8:Int) / 2) % 2)))) (((ae.length:Int)-1)-((s8:Int) % 2)) (([(1:Int),(2:Int),(3:Int)]).take (Int.toNat ((s8:Int) % 4))) (([[(0:Int),((ae.length:Int)-1:Int)],[(0:Int),(2:Int),((ae.length:Int)-1:Int)]]).take (Int.toNat ((s8:Int) % 3))) (Reads.sup (rdo 9) (Reads.of (k:=10) rfl roLe)) (rowSl rfl (H.get (k:=9) rfl) (roLe _ (H.get (k:=10) rfl)) aH) (rdo 5) bO (Reads.of (k:=3) rfl roLe) (fD hg) (Reads.of (k:=0) rfl roLe) (iZ hg) (M.e_opt tV hg) _ (H.give (A:=[]) rfl)).mono fun v_ w_ ⟨y_,ah,ai,H_⟩=>by subst ah; exact ⟨ai,H.via H_⟩) ?_;intro Bn H
     refine s_nil ⟨(H.pk [4,5,6,7,8,9,10,11]),?_⟩
     refine kg 1 ?_;refine t_q rfl (fun w' H=>x_por (b:=!r8) (r:=!r9) rfl rfl (fun hb=>gd_of (c:=!(!r8)) (by first | exact hb | (rw [hb]; rfl) | (rw [hg,hb]; rfl) | simp_all) (B (!r9)))) ?_;refine t_nil ?_
     exact ⟨r8,r9,_,upds_of _ _ ⟨rfl,rfl,trivial⟩,hM,(H.pk [4,5,6,7,8,9,10,11])⟩
    ·skip
     refine t_gbs (α:=Int) T22 (!(!r8)) (gy_f rfl) [I 0,I ((ae.length:Int)-1)] [(0:Int),((ae.length:Int)-1:Int)] H (fun hg=>by exact prs2 rfl (gd_of hg (I ((ae.length:Int)-1)))) (.cons rfl (Flat.rep_enc _ (0:Int))<|.cons rfl (Flat.rep_enc _ ((ae.length:Int)-1:Int))<|.nil) rfl rfl rfl ?_
     intro i0 cj Bo H i1
     refine s_nil ⟨(H.pk [1,2,3,4,5,6,7,8]),?_⟩
     obtain ⟨bx,hM⟩:=M.e_grd hM
     replace bx:=M.imp_of bx
     simp only [Bool.and_eq_true,decide_eq_true_eq] at bx
     obtain ⟨bz,hM⟩:=M.e_grd hM
     replace bz:=M.imp_of bz
     simp only [Bool.and_eq_true,decide_eq_true_eq] at bz
     refine t_l2 rfl rfl ?_ ?_
     ·skip
      refine t_gbs (α:=Int) T22 (!(!r8)) (gy_f rfl) [I 1,I 2,I 3] [(1:Int),(2:Int),(3:Int)] H (fun _=>rfl) (.cons rfl (Flat.rep_enc _ (1:Int))<|.cons rfl (Flat.rep_enc _ (2:Int))<|.cons rfl (Flat.rep_enc _ (3:Int))<|.nil) rfl rfl rfl ?_;intro kO bH Bp H tW
      refine s_nil ⟨(H.pk [2,3,4,5,6,7,8,9]),?_⟩
      obtain ⟨fG,tX,i4⟩:=gd_ex (c:=!(!r8)) fun hg=>sl_hi T22.und T22.size (tW hg) (j:=(s8:Int) % 4) (by have aa:=aI.resolve_left (by rw [hg]; decide); have ab:=bx.resolve_left (by rw [hg]; decide); have ac:=bz.resolve_left (by rw [hg]; decide); first | exact aa | exact aa.1 | exact aa.2 | exact ab | exact ab.1 | exact ab.2 | exact ac | exact ac.1 | exact ac.2 | omega | (have ag:=hg; simp at ag; omega)) (by have aa:=aI.resolve_left (by rw [hg]; decide); have ab:=bx.resolve_left (by rw [hg]; decide); have ac:=bz.resolve_left (by rw [hg]; decide); first | exact aa | exact aa.1 | exact aa.2 | exact ab | exact ab.1 | exact ab.2 | exact ac | exact ac.1 | exact ac.2 | omega | (have ag:=hg; simp at ag; omega))
      replace i4:(!(!r8))=true->Sl _ fG (([(1:Int),(2:Int),(3:Int)]).take (Int.toNat ((s8:Int) % 4))):=i4
      refine t_qg (!(!r8)) rfl (gy_f rfl) (fun hg=>(fun w' H=>x_sl (v:=kO) (u:=fG) (lo':=none) (hi':=some (I ((s8:Int) % 4))) (mx':=none) (gd_of hg (kO)) rfl (congrArg some (gd_of hg (I ((s8:Int) % 4)))) rfl (tX hg _)))<|t_l rfl ?_;refine t_gbs (α:=Int) T22 (!(!r8)) (gy_f rfl) [I 0,I 2,I ((ae.length:Int)-1)] [(0:Int),(2:Int),((ae.length:Int)-1:Int)] H (fun hg=>by exact prs3 rfl rfl (gd_of hg (I ((ae.length:Int)-1)))) (.cons rfl (Flat.rep_enc _ (0:Int))<|.cons rfl (Flat.rep_enc _ (2:Int))<|.cons rfl (Flat.rep_enc _ ((ae.length:Int)-1:Int))<|.nil) rfl rfl rfl ?_;intro tY ck Bq H tZ
      refine s_nil ⟨(H.pk [3,4,5,6,7,8,9,10]),?_⟩
      refine t_l rfl ?_;refine t_gbsL T31 (!(!r8)) (gy_f rfl) (k1:=2) (k2:=0) H rfl rfl (fun hg=>(i1 hg)) (fun hg=>(tZ hg)) (fun hg=>by exact prs2 (gd_of hg (i0)) (gd_of hg (tY))) ?_;intro kP bw Br H t0
      refine s_nil ⟨(H.pk [4,5,6,7,8,9,10,11]),?_⟩
      obtain ⟨fH,t1,i5⟩:=gd_ex (c:=!(!r8)) fun hg=>sl_hi T31.und T31.size (t0 hg) (j:=(s8:Int) % 3) (by have aa:=aI.resolve_left (by rw [hg]; decide); have ab:=bx.resolve_left (by rw [hg]; decide); have ac:=bz.resolve_left (by rw [hg]; decide); first | exact aa | exact aa.1 | exact aa.2 | exact ab | exact ab.1 | exact ab.2 | exact ac | exact ac.1 | exact ac.2 | omega | (have ag:=hg; simp at ag; omega)) (by have aa:=aI.resolve_left (by rw [hg]; decide); have ab:=bx.resolve_left (by rw [hg]; decide); have ac:=bz.resolve_left (by rw [hg]; decide); first | exact aa | exact aa.1 | exact aa.2 | exact ab | exact ab.1 | exact ab.2 | exact ac | exact ac.1 | exact ac.2 | omega | (have ag:=hg; simp at ag; omega))
      replace i5:(!(!r8))=true->Sl _ fH (([[(0:Int),((ae.length:Int)-1:Int)],[(0:Int),(2:Int),((ae.length:Int)-1:Int)]]).take (Int.toNat ((s8:Int) % 3))):=i5
      refine t_qg (!(!r8)) rfl (gy_f rfl) (fun hg=>(fun w' H=>x_sl (v:=kP) (u:=fH) (lo':=none) (hi':=some (I ((s8:Int) % 3))) (mx':=none) (gd_of hg (kP)) rfl (congrArg some (gd_of hg (I ((s8:Int) % 3)))) rfl (t1 hg _)))<|t_l rfl ?_;obtain ⟨r9,t5,hM⟩:=M.e_bind hM;refine t_gcall (!(!r8)) (gy_f rfl) cf8 (B r9) (fun _=>[am,bo,I (((ae.length:Int)-1)-((s8:Int) % 2)),fG,fH]) (fun hg=>lst5 (gd_of hg (am)) (gd_of hg (bo)) (gd_of hg (I (((ae.length:Int)-1)-((s8:Int) % 2)))) (gd_of hg (fG)) (gd_of hg (fH))) H (fun hg=>(zaf ae (([(0:Int),(1+((s8:Int) % 2):Int)]).take (Int.toNat (1+(((s8:Int) / 2) % 2)))) (((ae.length:Int)-1)-((s8:Int) % 2)) (([(1:Int),(2:Int),(3:Int)]).take (Int.toNat ((s8:Int) % 4))) (([[(0:Int),((ae.length:Int)-1:Int)],[(0:Int),(2:Int),((ae.length:Int)-1:Int)]]).take (Int.toNat ((s8:Int) % 3))) (Reads.sup (rdo 9) (Reads.of (k:=10) rfl roLe)) (rowSl rfl (H.get (k:=9) rfl) (roLe _ (H.get (k:=10) rfl)) aH) (rdo 5) bO (Reads.of (k:=2) rfl roLe) (i4 hg) (Reads.of (k:=0) rfl roLe) (i5 hg) (M.e_opt t5 hg) _ (H.give (A:=[]) rfl)).mono fun v_ w_ ⟨y_,ah,ai,H_⟩=>by subst ah; exact ⟨ai,H.via H_⟩) ?_;intro Bs H
      refine s_nil ⟨(H.pk [4,5,6,7,8,9,10,11]),?_⟩
      refine kg 1 ?_;refine t_q rfl (fun w' H=>x_por (b:=!r8) (r:=!r9) rfl rfl (fun hb=>gd_of (c:=!(!r8)) (by first | exact hb | (rw [hb]; rfl) | (rw [hg,hb]; rfl) | simp_all) (B (!r9)))) ?_;refine t_nil ?_
      exact ⟨r8,r9,_,upds_of _ _ ⟨rfl,rfl,trivial⟩,hM,(H.pk [4,5,6,7,8,9,10,11])⟩
     skip
     refine t_gbs (α:=Int) T22 (!(!r8)) (gy_f rfl) [I 0,I 2,I ((ae.length:Int)-1)] [(0:Int),(2:Int),((ae.length:Int)-1:Int)] H (fun hg=>by exact prs3 rfl rfl (gd_of hg (I ((ae.length:Int)-1)))) (.cons rfl (Flat.rep_enc _ (0:Int))<|.cons rfl (Flat.rep_enc _ (2:Int))<|.cons rfl (Flat.rep_enc _ ((ae.length:Int)-1:Int))<|.nil) rfl rfl rfl ?_
     intro kQ ck Bt H kR
     refine s_nil ⟨(H.pk [2,3,4,5,6,7,8,9]),?_⟩
     refine t_l2 rfl rfl ?_ ?_
     ·skip
      refine t_gbs (α:=Int) T22 (!(!r8)) (gy_f rfl) [I 1,I 2,I 3] [(1:Int),(2:Int),(3:Int)] H (fun _=>rfl) (.cons rfl (Flat.rep_enc _ (1:Int))<|.cons rfl (Flat.rep_enc _ (2:Int))<|.cons rfl (Flat.rep_enc _ (3:Int))<|.nil) rfl rfl rfl ?_;intro kS bH Bu H t6
      refine s_nil ⟨(H.pk [3,4,5,6,7,8,9,10]),?_⟩
      obtain ⟨fI,t7,i6⟩:=gd_ex (c:=!(!r8)) fun hg=>sl_hi T22.und T22.size (t6 hg) (j:=(s8:Int) % 4) (by have aa:=aI.resolve_left (by rw [hg]; decide); have ab:=bx.resolve_left (by rw [hg]; decide); have ac:=bz.resolve_left (by rw [hg]; decide); first | exact aa | exact aa.1 | exact aa.2 | exact ab | exact ab.1 | exact ab.2 | exact ac | exact ac.1 | exact ac.2 | omega | (have ag:=hg; simp at ag; omega)) (by have aa:=aI.resolve_left (by rw [hg]; decide); have ab:=bx.resolve_left (by rw [hg]; decide); have ac:=bz.resolve_left (by rw [hg]; decide); first | exact aa | exact aa.1 | exact aa.2 | exact ab | exact ab.1 | exact ab.2 | exact ac | exact ac.1 | exact ac.2 | omega | (have ag:=hg; simp at ag; omega))
      replace i6:(!(!r8))=true->Sl _ fI (([(1:Int),(2:Int),(3:Int)]).take (Int.toNat ((s8:Int) % 4))):=i6
      refine t_qg (!(!r8)) rfl (gy_f rfl) (fun hg=>(fun w' H=>x_sl (v:=kS) (u:=fI) (lo':=none) (hi':=some (I ((s8:Int) % 4))) (mx':=none) (gd_of hg (kS)) rfl (congrArg some (gd_of hg (I ((s8:Int) % 4)))) rfl (t7 hg _)))<|t_l rfl ?_;refine t_gbsL T31 (!(!r8)) (gy_f rfl) (k1:=2) (k2:=1) H rfl rfl (fun hg=>(i1 hg)) (fun hg=>(kR hg)) (fun hg=>by exact prs2 (gd_of hg (i0)) (gd_of hg (kQ))) ?_;intro kT bw Bv H t8
      refine s_nil ⟨(H.pk [4,5,6,7,8,9,10,11]),?_⟩
      obtain ⟨fJ,t9,i7⟩:=gd_ex (c:=!(!r8)) fun hg=>sl_hi T31.und T31.size (t8 hg) (j:=(s8:Int) % 3) (by have aa:=aI.resolve_left (by rw [hg]; decide); have ab:=bx.resolve_left (by rw [hg]; decide); have ac:=bz.resolve_left (by rw [hg]; decide); first | exact aa | exact aa.1 | exact aa.2 | exact ab | exact ab.1 | exact ab.2 | exact ac | exact ac.1 | exact ac.2 | omega | (have ag:=hg; simp at ag; omega)) (by have aa:=aI.resolve_left (by rw [hg]; decide); have ab:=bx.resolve_left (by rw [hg]; decide); have ac:=bz.resolve_left (by rw [hg]; decide); first | exact aa | exact aa.1 | exact aa.2 | exact ab | exact ab.1 | exact ab.2 | exact ac | exact ac.1 | exact ac.2 | omega | (have ag:=hg; simp at ag; omega))
      replace i7:(!(!r8))=true->Sl _ fJ (([[(0:Int),((ae.length:Int)-1:Int)],[(0:Int),(2:Int),((ae.length:Int)-1:Int)]]).take (Int.toNat ((s8:Int) % 3))):=i7
      refine t_qg (!(!r8)) rfl (gy_f rfl) (fun hg=>(fun w' H=>x_sl (v:=kT) (u:=fJ) (lo':=none) (hi':=some (I ((s8:Int) % 3))) (mx':=none) (gd_of hg (kT)) rfl (congrArg some (gd_of hg (I ((s8:Int) % 3)))) rfl (t9 hg _)))<|t_l rfl ?_;obtain ⟨r9,ua,hM⟩:=M.e_bind hM;refine t_gcall (!(!r8)) (gy_f rfl) cf8 (B r9) (fun _=>[am,bo,I (((ae.length:Int)-1)-((s8:Int) % 2)),fI,fJ]) (fun hg=>lst5 (gd_of hg (am)) (gd_of hg (bo)) (gd_of hg (I (((ae.length:Int)-1)-((s8:Int) % 2)))) (gd_of hg (fI)) (gd_of hg (fJ))) H (fun hg=>(zaf ae (([(0:Int),(1+((s8:Int) % 2):Int)]).take (Int.toNat (1+(((s8:Int) / 2) % 2)))) (((ae.length:Int)-1)-((s8:Int) % 2)) (([(1:Int),(2:Int),(3:Int)]).take (Int.toNat ((s8:Int) % 4))) (([[(0:Int),((ae.length:Int)-1:Int)],[(0:Int),(2:Int),((ae.length:Int)-1:Int)]]).take (Int.toNat ((s8:Int) % 3))) (Reads.sup (rdo 9) (Reads.of (k:=10) rfl roLe)) (rowSl rfl (H.get (k:=9) rfl) (roLe _ (H.get (k:=10) rfl)) aH) (rdo 5) bO (Reads.of (k:=1) rfl roLe) (i6 hg) (Reads.of (k:=0) rfl roLe) (i7 hg) (M.e_opt ua hg) _ (H.give (A:=[]) rfl)).mono fun v_ w_ ⟨y_,ah,ai,H_⟩=>by subst ah; exact ⟨ai,H.via H_⟩) ?_;intro Bw H
      refine s_nil ⟨(H.pk [4,5,6,7,8,9,10,11]),?_⟩
      refine kg 1 ?_;refine t_q rfl (fun w' H=>x_por (b:=!r8) (r:=!r9) rfl rfl (fun hb=>gd_of (c:=!(!r8)) (by first | exact hb | (rw [hb]; rfl) | (rw [hg,hb]; rfl) | simp_all) (B (!r9)))) ?_;refine t_nil ?_
      exact ⟨r8,r9,_,upds_of _ _ ⟨rfl,rfl,trivial⟩,hM,(H.pk [4,5,6,7,8,9,10,11])⟩
     skip
     refine t_gbsL T31 (!(!r8)) (gy_f rfl) (k1:=1) (k2:=0) H rfl rfl (fun hg=>(i1 hg)) (fun hg=>(kR hg)) (fun hg=>by exact prs2 (gd_of hg (i0)) (gd_of hg (kQ))) ?_
     intro kU bw Bx H ub
     refine s_nil ⟨(H.pk [3,4,5,6,7,8,9,10]),?_⟩
     obtain ⟨fK,uc,i8⟩:=gd_ex (c:=!(!r8)) fun hg=>sl_hi T31.und T31.size (ub hg) (j:=(s8:Int) % 3) (by have aa:=aI.resolve_left (by rw [hg]; decide); have ab:=bx.resolve_left (by rw [hg]; decide); have ac:=bz.resolve_left (by rw [hg]; decide); first | exact aa | exact aa.1 | exact aa.2 | exact ab | exact ab.1 | exact ab.2 | exact ac | exact ac.1 | exact ac.2 | omega | (have ag:=hg; simp at ag; omega)) (by have aa:=aI.resolve_left (by rw [hg]; decide); have ab:=bx.resolve_left (by rw [hg]; decide); have ac:=bz.resolve_left (by rw [hg]; decide); first | exact aa | exact aa.1 | exact aa.2 | exact ab | exact ab.1 | exact ab.2 | exact ac | exact ac.1 | exact ac.2 | omega | (have ag:=hg; simp at ag; omega))
     replace i8:(!(!r8))=true->Sl _ fK (([[(0:Int),((ae.length:Int)-1:Int)],[(0:Int),(2:Int),((ae.length:Int)-1:Int)]]).take (Int.toNat ((s8:Int) % 3))):=i8
     refine t_qg (!(!r8)) rfl (gy_f rfl) (fun hg=>(fun w' H=>x_sl (v:=kU) (u:=fK) (lo':=none) (hi':=some (I ((s8:Int) % 3))) (mx':=none) (gd_of hg (kU)) rfl (congrArg some (gd_of hg (I ((s8:Int) % 3)))) rfl (uc hg _)))<|t_l rfl ?_;refine t_gbs (α:=Int) T22 (!(!r8)) (gy_f rfl) [I 1,I 2,I 3] [(1:Int),(2:Int),(3:Int)] H (fun _=>rfl) (.cons rfl (Flat.rep_enc _ (1:Int))<|.cons rfl (Flat.rep_enc _ (2:Int))<|.cons rfl (Flat.rep_enc _ (3:Int))<|.nil) rfl rfl rfl ?_;intro kV bH By H ud
     refine s_nil ⟨(H.pk [4,5,6,7,8,9,10,11]),?_⟩
     obtain ⟨fL,ue,i9⟩:=gd_ex (c:=!(!r8)) fun hg=>sl_hi T22.und T22.size (ud hg) (j:=(s8:Int) % 4) (by have aa:=aI.resolve_left (by rw [hg]; decide); have ab:=bx.resolve_left (by rw [hg]; decide); have ac:=bz.resolve_left (by rw [hg]; decide); first | exact aa | exact aa.1 | exact aa.2 | exact ab | exact ab.1 | exact ab.2 | exact ac | exact ac.1 | exact ac.2 | omega | (have ag:=hg; simp at ag; omega)) (by have aa:=aI.resolve_left (by rw [hg]; decide); have ab:=bx.resolve_left (by rw [hg]; decide); have ac:=bz.resolve_left (by rw [hg]; decide); first | exact aa | exact aa.1 | exact aa.2 | exact ab | exact ab.1 | exact ab.2 | exact ac | exact ac.1 | exact ac.2 | omega | (have ag:=hg; simp at ag; omega))
     replace i9:(!(!r8))=true->Sl _ fL (([(1:Int),(2:Int),(3:Int)]).take (Int.toNat ((s8:Int) % 4))):=i9
     refine t_qg (!(!r8)) rfl (gy_f rfl) (fun hg=>(fun w' H=>x_sl (v:=kV) (u:=fL) (lo':=none) (hi':=some (I ((s8:Int) % 4))) (mx':=none) (gd_of hg (kV)) rfl (congrArg some (gd_of hg (I ((s8:Int) % 4)))) rfl (ue hg _)))<|t_l rfl ?_;obtain ⟨r9,uf,hM⟩:=M.e_bind hM;refine t_gcall (!(!r8)) (gy_f rfl) cf8 (B r9) (fun _=>[am,bo,I (((ae.length:Int)-1)-((s8:Int) % 2)),fL,fK]) (fun hg=>lst5 (gd_of hg (am)) (gd_of hg (bo)) (gd_of hg (I (((ae.length:Int)-1)-((s8:Int) % 2)))) (gd_of hg (fL)) (gd_of hg (fK))) H (fun hg=>(zaf ae (([(0:Int),(1+((s8:Int) % 2):Int)]).take (Int.toNat (1+(((s8:Int) / 2) % 2)))) (((ae.length:Int)-1)-((s8:Int) % 2)) (([(1:Int),(2:Int),(3:Int)]).take (Int.toNat ((s8:Int) % 4))) (([[(0:Int),((ae.length:Int)-1:Int)],[(0:Int),(2:Int),((ae.length:Int)-1:Int)]]).take (Int.toNat ((s8:Int) % 3))) (Reads.sup (rdo 9) (Reads.of (k:=10) rfl roLe)) (rowSl rfl (H.get (k:=9) rfl) (roLe _ (H.get (k:=10) rfl)) aH) (rdo 5) bO (Reads.of (k:=0) rfl roLe) (i9 hg) (Reads.of (k:=1) rfl roLe) (i8 hg) (M.e_opt uf hg) _ (H.give (A:=[]) rfl)).mono fun v_ w_ ⟨y_,ah,ai,H_⟩=>by subst ah; exact ⟨ai,H.via H_⟩) ?_;intro Bz H
     refine s_nil ⟨(H.pk [4,5,6,7,8,9,10,11]),?_⟩
     refine kg 1 ?_;refine t_q rfl (fun w' H=>x_por (b:=!r8) (r:=!r9) rfl rfl (fun hb=>gd_of (c:=!(!r8)) (by first | exact hb | (rw [hb]; rfl) | (rw [hg,hb]; rfl) | simp_all) (B (!r9)))) ?_;refine t_nil ?_
     exact ⟨r8,r9,_,upds_of _ _ ⟨rfl,rfl,trivial⟩,hM,(H.pk [4,5,6,7,8,9,10,11])⟩
    skip
    refine t_gbs (α:=Int) T22 (!(!r8)) (gy_f rfl) [I 0,I 2,I ((ae.length:Int)-1)] [(0:Int),(2:Int),((ae.length:Int)-1:Int)] H (fun hg=>by exact prs3 rfl rfl (gd_of hg (I ((ae.length:Int)-1)))) (.cons rfl (Flat.rep_enc _ (0:Int))<|.cons rfl (Flat.rep_enc _ (2:Int))<|.cons rfl (Flat.rep_enc _ ((ae.length:Int)-1:Int))<|.nil) rfl rfl rfl ?_
    intro ja ck BA H jb
    refine s_nil ⟨(H.pk [1,2,3,4,5,6,7,8]),?_⟩
    obtain ⟨bA,hM⟩:=M.e_grd hM
    replace bA:=M.imp_of bA
    simp only [Bool.and_eq_true,decide_eq_true_eq] at bA
    obtain ⟨bB,hM⟩:=M.e_grd hM
    replace bB:=M.imp_of bB
    simp only [Bool.and_eq_true,decide_eq_true_eq] at bB
    refine t_l2 rfl rfl ?_ ?_
    ·skip
     refine t_gbs (α:=Int) T22 (!(!r8)) (gy_f rfl) [I 1,I 2,I 3] [(1:Int),(2:Int),(3:Int)] H (fun _=>rfl) (.cons rfl (Flat.rep_enc _ (1:Int))<|.cons rfl (Flat.rep_enc _ (2:Int))<|.cons rfl (Flat.rep_enc _ (3:Int))<|.nil) rfl rfl rfl ?_;intro kW bH BB H ug
     refine s_nil ⟨(H.pk [2,3,4,5,6,7,8,9]),?_⟩
     obtain ⟨fM,uh,jc⟩:=gd_ex (c:=!(!r8)) fun hg=>sl_hi T22.und T22.size (ug hg) (j:=(s8:Int) % 4) (by have aa:=aI.resolve_left (by rw [hg]; decide); have ab:=bA.resolve_left (by rw [hg]; decide); have ac:=bB.resolve_left (by rw [hg]; decide); first | exact aa | exact aa.1 | exact aa.2 | exact ab | exact ab.1 | exact ab.2 | exact ac | exact ac.1 | exact ac.2 | omega | (have ag:=hg; simp at ag; omega)) (by have aa:=aI.resolve_left (by rw [hg]; decide); have ab:=bA.resolve_left (by rw [hg]; decide); have ac:=bB.resolve_left (by rw [hg]; decide); first | exact aa | exact aa.1 | exact aa.2 | exact ab | exact ab.1 | exact ab.2 | exact ac | exact ac.1 | exact ac.2 | omega | (have ag:=hg; simp at ag; omega))
     replace jc:(!(!r8))=true->Sl _ fM (([(1:Int),(2:Int),(3:Int)]).take (Int.toNat ((s8:Int) % 4))):=jc
     refine t_qg (!(!r8)) rfl (gy_f rfl) (fun hg=>(fun w' H=>x_sl (v:=kW) (u:=fM) (lo':=none) (hi':=some (I ((s8:Int) % 4))) (mx':=none) (gd_of hg (kW)) rfl (congrArg some (gd_of hg (I ((s8:Int) % 4)))) rfl (uh hg _)))<|t_l rfl ?_;refine t_gbs (α:=Int) T22 (!(!r8)) (gy_f rfl) [I 0,I ((ae.length:Int)-1)] [(0:Int),((ae.length:Int)-1:Int)] H (fun hg=>by exact prs2 rfl (gd_of hg (I ((ae.length:Int)-1)))) (.cons rfl (Flat.rep_enc _ (0:Int))<|.cons rfl (Flat.rep_enc _ ((ae.length:Int)-1:Int))<|.nil) rfl rfl rfl ?_;intro ui cj BC H uj
     refine s_nil ⟨(H.pk [3,4,5,6,7,8,9,10]),?_⟩
     refine t_l rfl ?_;refine t_gbsL T31 (!(!r8)) (gy_f rfl) (k1:=0) (k2:=2) H rfl rfl (fun hg=>(uj hg)) (fun hg=>(jb hg)) (fun hg=>by exact prs2 (gd_of hg (ui)) (gd_of hg (ja))) ?_;intro kX bw BD H uk
     refine s_nil ⟨(H.pk [4,5,6,7,8,9,10,11]),?_⟩
     obtain ⟨fN,ul,jd⟩:=gd_ex (c:=!(!r8)) fun hg=>sl_hi T31.und T31.size (uk hg) (j:=(s8:Int) % 3) (by have aa:=aI.resolve_left (by rw [hg]; decide); have ab:=bA.resolve_left (by rw [hg]; decide); have ac:=bB.resolve_left (by rw [hg]; decide); first | exact aa | exact aa.1 | exact aa.2 | exact ab | exact ab.1 | exact ab.2 | exact ac | exact ac.1 | exact ac.2 | omega | (have ag:=hg; simp at ag; omega)) (by have aa:=aI.resolve_left (by rw [hg]; decide); have ab:=bA.resolve_left (by rw [hg]; decide); have ac:=bB.resolve_left (by rw [hg]; decide); first | exact aa | exact aa.1 | exact aa.2 | exact ab | exact ab.1 | exact ab.2 | exact ac | exact ac.1 | exact ac.2 | omega | (have ag:=hg; simp at ag; omega))
     replace jd:(!(!r8))=true->Sl _ fN (([[(0:Int),((ae.length:Int)-1:Int)],[(0:Int),(2:Int),((ae.length:Int)-1:Int)]]).take (Int.toNat ((s8:Int) % 3))):=jd
     refine t_qg (!(!r8)) rfl (gy_f rfl) (fun hg=>(fun w' H=>x_sl (v:=kX) (u:=fN) (lo':=none) (hi':=some (I ((s8:Int) % 3))) (mx':=none) (gd_of hg (kX)) rfl (congrArg some (gd_of hg (I ((s8:Int) % 3)))) rfl (ul hg _)))<|t_l rfl ?_;obtain ⟨r9,um,hM⟩:=M.e_bind hM;refine t_gcall (!(!r8)) (gy_f rfl) cf8 (B r9) (fun _=>[am,bo,I (((ae.length:Int)-1)-((s8:Int) % 2)),fM,fN]) (fun hg=>lst5 (gd_of hg (am)) (gd_of hg (bo)) (gd_of hg (I (((ae.length:Int)-1)-((s8:Int) % 2)))) (gd_of hg (fM)) (gd_of hg (fN))) H (fun hg=>(zaf ae (([(0:Int),(1+((s8:Int) % 2):Int)]).take (Int.toNat (1+(((s8:Int) / 2) % 2)))) (((ae.length:Int)-1)-((s8:Int) % 2)) (([(1:Int),(2:Int),(3:Int)]).take (Int.toNat ((s8:Int) % 4))) (([[(0:Int),((ae.length:Int)-1:Int)],[(0:Int),(2:Int),((ae.length:Int)-1:Int)]]).take (Int.toNat ((s8:Int) % 3))) (Reads.sup (rdo 9) (Reads.of (k:=10) rfl roLe)) (rowSl rfl (H.get (k:=9) rfl) (roLe _ (H.get (k:=10) rfl)) aH) (rdo 5) bO (Reads.of (k:=2) rfl roLe) (jc hg) (Reads.of (k:=0) rfl roLe) (jd hg) (M.e_opt um hg) _ (H.give (A:=[]) rfl)).mono fun v_ w_ ⟨y_,ah,ai,H_⟩=>by subst ah; exact ⟨ai,H.via H_⟩) ?_;intro BE H
     refine s_nil ⟨(H.pk [4,5,6,7,8,9,10,11]),?_⟩
     refine kg 1 ?_;refine t_q rfl (fun w' H=>x_por (b:=!r8) (r:=!r9) rfl rfl (fun hb=>gd_of (c:=!(!r8)) (by first | exact hb | (rw [hb]; rfl) | (rw [hg,hb]; rfl) | simp_all) (B (!r9)))) ?_;refine t_nil ?_
     exact ⟨r8,r9,_,upds_of _ _ ⟨rfl,rfl,trivial⟩,hM,(H.pk [4,5,6,7,8,9,10,11])⟩
    skip
    refine t_gbs (α:=Int) T22 (!(!r8)) (gy_f rfl) [I 0,I ((ae.length:Int)-1)] [(0:Int),((ae.length:Int)-1:Int)] H (fun hg=>by exact prs2 rfl (gd_of hg (I ((ae.length:Int)-1)))) (.cons rfl (Flat.rep_enc _ (0:Int))<|.cons rfl (Flat.rep_enc _ ((ae.length:Int)-1:Int))<|.nil) rfl rfl rfl ?_
    intro kY cj BF H kZ
    refine s_nil ⟨(H.pk [2,3,4,5,6,7,8,9]),?_⟩
    refine t_l2 rfl rfl ?_ ?_
    ·skip
     refine t_gbs (α:=Int) T22 (!(!r8)) (gy_f rfl) [I 1,I 2,I 3] [(1:Int),(2:Int),(3:Int)] H (fun _=>rfl) (.cons rfl (Flat.rep_enc _ (1:Int))<|.cons rfl (Flat.rep_enc _ (2:Int))<|.cons rfl (Flat.rep_enc _ (3:Int))<|.nil) rfl rfl rfl ?_;intro k4 bH BG H un
     refine s_nil ⟨(H.pk [3,4,5,6,7,8,9,10]),?_⟩
     obtain ⟨fO,uo,je⟩:=gd_ex (c:=!(!r8)) fun hg=>sl_hi T22.und T22.size (un hg) (j:=(s8:Int) % 4) (by have aa:=aI.resolve_left (by rw [hg]; decide); have ab:=bA.resolve_left (by rw [hg]; decide); have ac:=bB.resolve_left (by rw [hg]; decide); first | exact aa | exact aa.1 | exact aa.2 | exact ab | exact ab.1 | exact ab.2 | exact ac | exact ac.1 | exact ac.2 | omega | (have ag:=hg; simp at ag; omega)) (by have aa:=aI.resolve_left (by rw [hg]; decide); have ab:=bA.resolve_left (by rw [hg]; decide); have ac:=bB.resolve_left (by rw [hg]; decide); first | exact aa | exact aa.1 | exact aa.2 | exact ab | exact ab.1 | exact ab.2 | exact ac | exact ac.1 | exact ac.2 | omega | (have ag:=hg; simp at ag; omega))
     replace je:(!(!r8))=true->Sl _ fO (([(1:Int),(2:Int),(3:Int)]).take (Int.toNat ((s8:Int) % 4))):=je
     refine t_qg (!(!r8)) rfl (gy_f rfl) (fun hg=>(fun w' H=>x_sl (v:=k4) (u:=fO) (lo':=none) (hi':=some (I ((s8:Int) % 4))) (mx':=none) (gd_of hg (k4)) rfl (congrArg some (gd_of hg (I ((s8:Int) % 4)))) rfl (uo hg _)))<|t_l rfl ?_;refine t_gbsL T31 (!(!r8)) (gy_f rfl) (k1:=1) (k2:=2) H rfl rfl (fun hg=>(kZ hg)) (fun hg=>(jb hg)) (fun hg=>by exact prs2 (gd_of hg (kY)) (gd_of hg (ja))) ?_;intro k6 bw BH H uq
     refine s_nil ⟨(H.pk [4,5,6,7,8,9,10,11]),?_⟩
     obtain ⟨fP,ur,jf⟩:=gd_ex (c:=!(!r8)) fun hg=>sl_hi T31.und T31.size (uq hg) (j:=(s8:Int) % 3) (by have aa:=aI.resolve_left (by rw [hg]; decide); have ab:=bA.resolve_left (by rw [hg]; decide); have ac:=bB.resolve_left (by rw [hg]; decide); first | exact aa | exact aa.1 | exact aa.2 | exact ab | exact ab.1 | exact ab.2 | exact ac | exact ac.1 | exact ac.2 | omega | (have ag:=hg; simp at ag; omega)) (by have aa:=aI.resolve_left (by rw [hg]; decide); have ab:=bA.resolve_left (by rw [hg]; decide); have ac:=bB.resolve_left (by rw [hg]; decide); first | exact aa | exact aa.1 | exact aa.2 | exact ab | exact ab.1 | exact ab.2 | exact ac | exact ac.1 | exact ac.2 | omega | (have ag:=hg; simp at ag; omega))
     replace jf:(!(!r8))=true->Sl _ fP (([[(0:Int),((ae.length:Int)-1:Int)],[(0:Int),(2:Int),((ae.length:Int)-1:Int)]]).take (Int.toNat ((s8:Int) % 3))):=jf
     refine t_qg (!(!r8)) rfl (gy_f rfl) (fun hg=>(fun w' H=>x_sl (v:=k6) (u:=fP) (lo':=none) (hi':=some (I ((s8:Int) % 3))) (mx':=none) (gd_of hg (k6)) rfl (congrArg some (gd_of hg (I ((s8:Int) % 3)))) rfl (ur hg _)))<|t_l rfl ?_;obtain ⟨r9,ut,hM⟩:=M.e_bind hM;refine t_gcall (!(!r8)) (gy_f rfl) cf8 (B r9) (fun _=>[am,bo,I (((ae.length:Int)-1)-((s8:Int) % 2)),fO,fP]) (fun hg=>lst5 (gd_of hg (am)) (gd_of hg (bo)) (gd_of hg (I (((ae.length:Int)-1)-((s8:Int) % 2)))) (gd_of hg (fO)) (gd_of hg (fP))) H (fun hg=>(zaf ae (([(0:Int),(1+((s8:Int) % 2):Int)]).take (Int.toNat (1+(((s8:Int) / 2) % 2)))) (((ae.length:Int)-1)-((s8:Int) % 2)) (([(1:Int),(2:Int),(3:Int)]).take (Int.toNat ((s8:Int) % 4))) (([[(0:Int),((ae.length:Int)-1:Int)],[(0:Int),(2:Int),((ae.length:Int)-1:Int)]]).take (Int.toNat ((s8:Int) % 3))) (Reads.sup (rdo 9) (Reads.of (k:=10) rfl roLe)) (rowSl rfl (H.get (k:=9) rfl) (roLe _ (H.get (k:=10) rfl)) aH) (rdo 5) bO (Reads.of (k:=1) rfl roLe) (je hg) (Reads.of (k:=0) rfl roLe) (jf hg) (M.e_opt ut hg) _ (H.give (A:=[]) rfl)).mono fun v_ w_ ⟨y_,ah,ai,H_⟩=>by subst ah; exact ⟨ai,H.via H_⟩) ?_;intro BI H
     refine s_nil ⟨(H.pk [4,5,6,7,8,9,10,11]),?_⟩
     refine kg 1 ?_;refine t_q rfl (fun w' H=>x_por (b:=!r8) (r:=!r9) rfl rfl (fun hb=>gd_of (c:=!(!r8)) (by first | exact hb | (rw [hb]; rfl) | (rw [hg,hb]; rfl) | simp_all) (B (!r9)))) ?_;refine t_nil ?_
     exact ⟨r8,r9,_,upds_of _ _ ⟨rfl,rfl,trivial⟩,hM,(H.pk [4,5,6,7,8,9,10,11])⟩
    skip
    refine t_gbsL T31 (!(!r8)) (gy_f rfl) (k1:=0) (k2:=1) H rfl rfl (fun hg=>(kZ hg)) (fun hg=>(jb hg)) (fun hg=>by exact prs2 (gd_of hg (kY)) (gd_of hg (ja))) ?_
    intro k7 bw BJ H uu
    refine s_nil ⟨(H.pk [3,4,5,6,7,8,9,10]),?_⟩
    obtain ⟨fQ,uv,jg⟩:=gd_ex (c:=!(!r8)) fun hg=>sl_hi T31.und T31.size (uu hg) (j:=(s8:Int) % 3) (by have aa:=aI.resolve_left (by rw [hg]; decide); have ab:=bA.resolve_left (by rw [hg]; decide); have ac:=bB.resolve_left (by rw [hg]; decide); first | exact aa | exact aa.1 | exact aa.2 | exact ab | exact ab.1 | exact ab.2 | exact ac | exact ac.1 | exact ac.2 | omega | (have ag:=hg; simp at ag; omega)) (by have aa:=aI.resolve_left (by rw [hg]; decide); have ab:=bA.resolve_left (by rw [hg]; decide); have ac:=bB.resolve_left (by rw [hg]; decide); first | exact aa | exact aa.1 | exact aa.2 | exact ab | exact ab.1 | exact ab.2 | exact ac | exact ac.1 | exact ac.2 | omega | (have ag:=hg; simp at ag; omega))
    replace jg:(!(!r8))=true->Sl _ fQ (([[(0:Int),((ae.length:Int)-1:Int)],[(0:Int),(2:Int),((ae.length:Int)-1:Int)]]).take (Int.toNat ((s8:Int) % 3))):=jg
    refine t_qg (!(!r8)) rfl (gy_f rfl) (fun hg=>(fun w' H=>x_sl (v:=k7) (u:=fQ) (lo':=none) (hi':=some (I ((s8:Int) % 3))) (mx':=none) (gd_of hg (k7)) rfl (congrArg some (gd_of hg (I ((s8:Int) % 3)))) rfl (uv hg _)))<|t_l rfl ?_;refine t_gbs (α:=Int) T22 (!(!r8)) (gy_f rfl) [I 1,I 2,I 3] [(1:Int),(2:Int),(3:Int)] H (fun _=>rfl) (.cons rfl (Flat.rep_enc _ (1:Int))<|.cons rfl (Flat.rep_enc _ (2:Int))<|.cons rfl (Flat.rep_enc _ (3:Int))<|.nil) rfl rfl rfl ?_;intro k8 bH BK H uw
    refine s_nil ⟨(H.pk [4,5,6,7,8,9,10,11]),?_⟩
    obtain ⟨fR,ux,jh⟩:=gd_ex (c:=!(!r8)) fun hg=>sl_hi T22.und T22.size (uw hg) (j:=(s8:Int) % 4) (by have aa:=aI.resolve_left (by rw [hg]; decide); have ab:=bA.resolve_left (by rw [hg]; decide); have ac:=bB.resolve_left (by rw [hg]; decide); first | exact aa | exact aa.1 | exact aa.2 | exact ab | exact ab.1 | exact ab.2 | exact ac | exact ac.1 | exact ac.2 | omega | (have ag:=hg; simp at ag; omega)) (by have aa:=aI.resolve_left (by rw [hg]; decide); have ab:=bA.resolve_left (by rw [hg]; decide); have ac:=bB.resolve_left (by rw [hg]; decide); first | exact aa | exact aa.1 | exact aa.2 | exact ab | exact ab.1 | exact ab.2 | exact ac | exact ac.1 | exact ac.2 | omega | (have ag:=hg; simp at ag; omega))
    replace jh:(!(!r8))=true->Sl _ fR (([(1:Int),(2:Int),(3:Int)]).take (Int.toNat ((s8:Int) % 4))):=jh
    refine t_qg (!(!r8)) rfl (gy_f rfl) (fun hg=>(fun w' H=>x_sl (v:=k8) (u:=fR) (lo':=none) (hi':=some (I ((s8:Int) % 4))) (mx':=none) (gd_of hg (k8)) rfl (congrArg some (gd_of hg (I ((s8:Int) % 4)))) rfl (ux hg _)))<|t_l rfl ?_;obtain ⟨r9,uy,hM⟩:=M.e_bind hM;refine t_gcall (!(!r8)) (gy_f rfl) cf8 (B r9) (fun _=>[am,bo,I (((ae.length:Int)-1)-((s8:Int) % 2)),fR,fQ]) (fun hg=>lst5 (gd_of hg (am)) (gd_of hg (bo)) (gd_of hg (I (((ae.length:Int)-1)-((s8:Int) % 2)))) (gd_of hg (fR)) (gd_of hg (fQ))) H (fun hg=>(zaf ae (([(0:Int),(1+((s8:Int) % 2):Int)]).take (Int.toNat (1+(((s8:Int) / 2) % 2)))) (((ae.length:Int)-1)-((s8:Int) % 2)) (([(1:Int),(2:Int),(3:Int)]).take (Int.toNat ((s8:Int) % 4))) (([[(0:Int),((ae.length:Int)-1:Int)],[(0:Int),(2:Int),((ae.length:Int)-1:Int)]]).take (Int.toNat ((s8:Int) % 3))) (Reads.sup (rdo 9) (Reads.of (k:=10) rfl roLe)) (rowSl rfl (H.get (k:=9) rfl) (roLe _ (H.get (k:=10) rfl)) aH) (rdo 5) bO (Reads.of (k:=0) rfl roLe) (jh hg) (Reads.of (k:=1) rfl roLe) (jg hg) (M.e_opt uy hg) _ (H.give (A:=[]) rfl)).mono fun v_ w_ ⟨y_,ah,ai,H_⟩=>by subst ah; exact ⟨ai,H.via H_⟩) ?_;intro BL H
    refine s_nil ⟨(H.pk [4,5,6,7,8,9,10,11]),?_⟩
    refine kg 1 ?_;refine t_q rfl (fun w' H=>x_por (b:=!r8) (r:=!r9) rfl rfl (fun hb=>gd_of (c:=!(!r8)) (by first | exact hb | (rw [hb]; rfl) | (rw [hg,hb]; rfl) | simp_all) (B (!r9)))) ?_;refine t_nil ?_
    exact ⟨r8,r9,_,upds_of _ _ ⟨rfl,rfl,trivial⟩,hM,(H.pk [4,5,6,7,8,9,10,11])⟩
   rintro _ BM ⟨r8,r9,ρ,rfl,hM,H⟩
   unfold zaX at hM
   refine W.cond ((!r8)||(!r9)) rfl (fun ji=>?_) (fun ji=>?_)
   ·replace hM:=M.e_t hM ji;refine kg 4 ?_;replace H:=H.pk [7];refine W.ret ?_
    have uz:=M.e_inr hM dp
    subst uz;replace hM:=fx;(try dsimp only at hM)
    have ah:=M.e_pure hM
    exact ⟨_,resE_tmp rfl,⟨false,ah,rfl,(H.pk [])⟩⟩
   replace hM:=M.e_f hM ji;refine W.skip ?_;replace H:=H.pk [7];refine kg 4 ?_
   exact ⟨kz,kA,s8+1,_,upds_of _ _ ⟨rfl,trivial⟩,M.e_inl hM dp,H⟩
  skip
  refine t_bs (α:=Int) T22 [I 0,I 1,I 2,I 3,I 4] [(0:Int),(1:Int),(2:Int),(3:Int),(4:Int)] H rfl (.cons rfl (Flat.rep_enc _ (0:Int))<|.cons rfl (Flat.rep_enc _ (1:Int))<|.cons rfl (Flat.rep_enc _ (2:Int))<|.cons rfl (Flat.rep_enc _ (3:Int))<|.cons rfl (Flat.rep_enc _ (4:Int))<|.nil) rfl rfl rfl ?_;intro jj BN H
  have BO:=Sl.cells (H.os 0)
  have BP:=Sl.oc (H.os 0)
  have uA:=ownSl (H.get (k:=0) rfl)
  refine s_nil ⟨(H.pk [1,2,3,4,5,6]),?_⟩
  obtain ⟨jk,uB,jl⟩:=sl_lohi T22.und T22.size uA (i:=(s8:Int) % 3) (j:=2+(((s8:Int) / 3) % 4)) (by omega) (by omega) (by omega)
  replace jl:Sl _ jk ((([(0:Int),(1:Int),(2:Int),(3:Int),(4:Int)]).take (Int.toNat (2+(((s8:Int) / 3) % 4)))).drop (Int.toNat ((s8:Int) % 3))):=jl
  refine t_q rfl (fun w' H=>x_sl (v:=jj) (u:=jk) (lo':=some (I ((s8:Int) % 3))) (hi':=some (I (2+(((s8:Int) / 3) % 4)))) (mx':=none) rfl rfl rfl rfl (uB _))<|t_l rfl ?_;refine t_bs (α:=Int) T22 [I 0,I (1+((s8:Int) % 2))] [(0:Int),(1+((s8:Int) % 2):Int)] H rfl (.cons rfl (Flat.rep_enc _ (0:Int))<|.cons rfl (Flat.rep_enc _ (1+((s8:Int) % 2):Int))<|.nil) rfl rfl rfl ?_;intro jm BQ H
  have BR:=Sl.cells (H.os 0)
  have BS:=Sl.oc (H.os 0)
  have uC:=ownSl (H.get (k:=0) rfl)
  refine s_nil ⟨(H.pk [2,3,4,5,6,7]),?_⟩
  obtain ⟨bp,uD,bP⟩:=sl_hi T22.und T22.size uC (j:=1+(((s8:Int) / 2) % 2)) (by omega) (by omega)
  replace bP:Sl _ bp (([(0:Int),(1+((s8:Int) % 2):Int)]).take (Int.toNat (1+(((s8:Int) / 2) % 2)))):=bP
  refine t_q rfl (fun w' H=>x_sl (v:=jm) (u:=bp) (lo':=none) (hi':=some (I (1+(((s8:Int) / 2) % 2)))) (mx':=none) rfl rfl rfl rfl (uD _)) ?_;refine kg 3 ?_;refine W.seqJ (fun σ W=>∃ (r8:Bool) (r9:Bool) (ρ:Env),σ=upds ρ [(157,I (s8:Int)),(322,B ((!r8)||(!r9)))]/\(zaX s8 r8 r9).Ends kB/\St w W [cOwn (α:=Int) 3 jm ([(0:Int),(1+((s8:Int) % 2):Int)]),cOwn (α:=Int) 3 jj ([(0:Int),(1:Int),(2:Int),(3:Int),(4:Int)]),cRo eV,cOwn (α:=Int) 3 dr ([((s8:Int) % 5:Int),(((s8:Int) / 5) % 5:Int),(((s8:Int) / 3) % 6:Int)]),cOwn (α:=Note) 26 c4 ([(⟨(0:Int),((s8:Int) % 3:Int),((s8:Int) % 7:Int)⟩:Note),(⟨((s8:Int) % 3:Int),(((s8:Int) / 3) % 3:Int),(((s8:Int) / 2) % 4:Int)⟩:Note),(⟨(0:Int),(1:Int),(5:Int)⟩:Note)]),cOwn (α:=Raw 2) 34 am bI,cRo B_l12,cOwn (α:=Int) 3 bn (vl28)] R) ?_ ?_
  ·skip
   refine W.drawT (fun W=>St w W [cOwn (α:=Int) 3 jm ([(0:Int),(1+((s8:Int) % 2):Int)]),cOwn (α:=Int) 3 jj ([(0:Int),(1:Int),(2:Int),(3:Int),(4:Int)]),cRo eV,cOwn (α:=Int) 3 dr ([((s8:Int) % 5:Int),(((s8:Int) / 5) % 5:Int),(((s8:Int) / 3) % 6:Int)]),cOwn (α:=Note) 26 c4 ([(⟨(0:Int),((s8:Int) % 3:Int),((s8:Int) % 7:Int)⟩:Note),(⟨((s8:Int) % 3:Int),(((s8:Int) / 3) % 3:Int),(((s8:Int) / 2) % 4:Int)⟩:Note),(⟨(0:Int),(1:Int),(5:Int)⟩:Note)]),cOwn (α:=Raw 2) 34 am bI,cRo B_l12,cOwn (α:=Int) 3 bn (vl28)] R) (.q 0 (.q 1 (.q 2 (.l 3 (.q 4 (.q 5 (.q 6 (.q 7 (.q 8 (.q 9 (.q 10 (.q 11 (.q 12 (.q 13 (.q 15 (.q 16 (.q 18 (.q 19 (.q 20 (.q 22 (.q 23 (.q 24 (.q 27 (.q 28 (.l3 14 (.q 17 (.l2 21 (.l 25 (.l 26 (.q 29 (.l 30 (.q 31 (.q 32 .nil)))))) 25 (.l 21 (.l 26 (.q 29 (.l 30 (.q 31 (.q 32 .nil)))))))) 21 (.l2 14 (.q 17 (.l 25 (.l 26 (.q 29 (.l 30 (.q 31 (.q 32 .nil))))))) 25 (.l2 14 (.q 17 (.l 26 (.q 29 (.l 30 (.q 31 (.q 32 .nil)))))) 26 (.q 29 (.l 14 (.q 17 (.l 30 (.q 31 (.q 32 .nil)))))))) 25 (.l2 14 (.q 17 (.l 21 (.l 26 (.q 29 (.l 30 (.q 31 (.q 32 .nil))))))) 21 (.l2 14 (.q 17 (.l 26 (.q 29 (.l 30 (.q 31 (.q 32 .nil)))))) 26 (.q 29 (.l 14 (.q 17 (.l 30 (.q 31 (.q 32 .nil))))))))))))))))))))))))))))))))) mixed (by decide +kernel) rfl ?_;intro BU ag;replace H:=H.ext ag;clear ag
   refine ⟨(H.pk [0,1,2,3,4,5,6,7]),?_⟩
   refine kg 3 ?_;refine t_l rfl ?_;obtain ⟨BV,uE,hM⟩:=M.e_bind hM;refine s_call cf7 [am,bp,jk] rfl (zbn ae (([(0:Int),(1+((s8:Int) % 2):Int)]).take (Int.toNat (1+(((s8:Int) / 2) % 2)))) ((([(0:Int),(1:Int),(2:Int),(3:Int),(4:Int)]).take (Int.toNat (2+(((s8:Int) / 3) % 4)))).drop (Int.toNat ((s8:Int) % 3))) (Reads.sup (rdo 5) (Reads.of (k:=6) rfl roLe)) (rowSl rfl (H.get (k:=5) rfl) (roLe _ (H.get (k:=6) rfl)) aH) (rdo 0) bP (rdo 1) jl uE _ (H.gt 8)) ?_
   rintro vq BW ⟨r8,rfl,hvq,aC⟩
   subst vq;(try dsimp only at hM);replace H:=H.bk aC;clear aC
   refine s_nil ⟨(H.pk [0,1,2,3,4,5,6,7]),?_⟩
   have BX:=((rowSl rfl (H.get (k:=5) rfl) (roLe _ (H.get (k:=6) rfl)) aH)).len_le
   refine kg 5 ?_;refine t_qg (!(!r8)) rfl (gy_f rfl) (fun hg=>(fun w' H=>x_lenS T23.und (gd_of hg (am)) (rowSl rfl (H.get (k:=5) rfl) (roLe _ (H.get (k:=6) rfl)) aH))) ?_;refine kg 2 ?_;refine t_qg (!(!r8)) rfl (gy_f rfl) (fun hg=>(fun w' H=>x_rem' (a:=(s8:Int)) (b:=2) (gd_of hg (I (s8:Int))) rfl (by first | omega | (have ag:=hg; simp at ag; omega)))) ?_;obtain ⟨aJ,hM⟩:=M.e_grd hM
   replace aJ:=M.imp_of aJ
   simp only [Bool.and_eq_true,decide_eq_true_eq] at aJ
   refine kg 2 ?_;refine t_qg (!(!r8)) rfl (gy_f rfl) (fun hg=>(fun w' H=>x_rem' (a:=(s8:Int)) (b:=4) (gd_of hg (I (s8:Int))) rfl (by have aa:=aJ.resolve_left (by rw [hg]; decide); first | exact aa | exact aa.1 | exact aa.2 | omega | (have ag:=hg; simp at ag; omega)))) ?_
   have BY:=((rowSl rfl (H.get (k:=5) rfl) (roLe _ (H.get (k:=6) rfl)) aH)).len_le
   refine kg 1 ?_;refine t_qg (!(!r8)) rfl (gy_f rfl) (fun hg=>(fun w' H=>x_lenS T23.und (gd_of hg (am)) (rowSl rfl (H.get (k:=5) rfl) (roLe _ (H.get (k:=6) rfl)) aH))) ?_
   have BZ:=((rowSl rfl (H.get (k:=5) rfl) (roLe _ (H.get (k:=6) rfl)) aH)).len_le
   refine kg 2 ?_;refine t_qg (!(!r8)) rfl (gy_f rfl) (fun hg=>(fun w' H=>x_lenS T23.und (gd_of hg (am)) (rowSl rfl (H.get (k:=5) rfl) (roLe _ (H.get (k:=6) rfl)) aH))) ?_;refine kg 2 ?_;refine t_qg (!(!r8)) rfl (gy_f rfl) (fun hg=>(fun w' H=>x_rem' (a:=(s8:Int)) (b:=3) (gd_of hg (I (s8:Int))) rfl (by have aa:=aJ.resolve_left (by rw [hg]; decide); first | exact aa | exact aa.1 | exact aa.2 | omega | (have ag:=hg; simp at ag; omega)))) ?_;refine t_l3 rfl rfl rfl ?_ ?_ ?_
   ·skip
    refine t_gbs (α:=Int) T22 (!(!r8)) (gy_f rfl) [I 1,I 2,I 3] [(1:Int),(2:Int),(3:Int)] H (fun _=>rfl) (.cons rfl (Flat.rep_enc _ (1:Int))<|.cons rfl (Flat.rep_enc _ (2:Int))<|.cons rfl (Flat.rep_enc _ (3:Int))<|.nil) rfl rfl rfl ?_;intro k9 bH B0 H uF
    refine s_nil ⟨(H.pk [1,2,3,4,5,6,7,8]),?_⟩
    obtain ⟨cl,hM⟩:=M.e_grd hM
    replace cl:=M.imp_of cl
    simp only [Bool.and_eq_true,decide_eq_true_eq] at cl
    obtain ⟨du,uG,fS⟩:=gd_ex (c:=!(!r8)) fun hg=>sl_hi T22.und T22.size (uF hg) (j:=(s8:Int) % 4) (by have aa:=aJ.resolve_left (by rw [hg]; decide); have ab:=cl.resolve_left (by rw [hg]; decide); first | exact aa | exact aa.1 | exact aa.2 | exact ab | exact ab.1 | exact ab.2 | omega | (have ag:=hg; simp at ag; omega)) (by have aa:=aJ.resolve_left (by rw [hg]; decide); have ab:=cl.resolve_left (by rw [hg]; decide); first | exact aa | exact aa.1 | exact aa.2 | exact ab | exact ab.1 | exact ab.2 | omega | (have ag:=hg; simp at ag; omega))
    replace fS:(!(!r8))=true->Sl _ du (([(1:Int),(2:Int),(3:Int)]).take (Int.toNat ((s8:Int) % 4))):=fS
    refine t_qg (!(!r8)) rfl (gy_f rfl) (fun hg=>(fun w' H=>x_sl (v:=k9) (u:=du) (lo':=none) (hi':=some (I ((s8:Int) % 4))) (mx':=none) (gd_of hg (k9)) rfl (congrArg some (gd_of hg (I ((s8:Int) % 4)))) rfl (uG hg _))) ?_;obtain ⟨c7,hM⟩:=M.e_grd hM
    replace c7:=M.imp_of c7
    simp only [Bool.and_eq_true,decide_eq_true_eq] at c7
    refine t_l2 rfl rfl ?_ ?_
    ·skip
     refine t_gbs (α:=Int) T22 (!(!r8)) (gy_f rfl) [I 0,I ((ae.length:Int)-1)] [(0:Int),((ae.length:Int)-1:Int)] H (fun hg=>by exact prs2 rfl (gd_of hg (I ((ae.length:Int)-1)))) (.cons rfl (Flat.rep_enc _ (0:Int))<|.cons rfl (Flat.rep_enc _ ((ae.length:Int)-1:Int))<|.nil) rfl rfl rfl ?_
     intro uH cj B3 H uI
     refine s_nil ⟨(H.pk [2,3,4,5,6,7,8,9]),?_⟩
     refine t_l rfl ?_;refine t_gbs (α:=Int) T22 (!(!r8)) (gy_f rfl) [I 0,I 2,I ((ae.length:Int)-1)] [(0:Int),(2:Int),((ae.length:Int)-1:Int)] H (fun hg=>by exact prs3 rfl rfl (gd_of hg (I ((ae.length:Int)-1)))) (.cons rfl (Flat.rep_enc _ (0:Int))<|.cons rfl (Flat.rep_enc _ (2:Int))<|.cons rfl (Flat.rep_enc _ ((ae.length:Int)-1:Int))<|.nil) rfl rfl rfl ?_;intro uJ ck B4 H uK
     refine s_nil ⟨(H.pk [3,4,5,6,7,8,9,10]),?_⟩
     refine t_l rfl ?_;refine t_gbsL T31 (!(!r8)) (gy_f rfl) (k1:=1) (k2:=0) H rfl rfl (fun hg=>(uI hg)) (fun hg=>(uK hg)) (fun hg=>by exact prs2 (gd_of hg (uH)) (gd_of hg (uJ))) ?_;intro la bw B5 H uL
     refine s_nil ⟨(H.pk [4,5,6,7,8,9,10,11]),?_⟩
     obtain ⟨fT,uM,jn⟩:=gd_ex (c:=!(!r8)) fun hg=>sl_hi T31.und T31.size (uL hg) (j:=(s8:Int) % 3) (by have aa:=aJ.resolve_left (by rw [hg]; decide); have ab:=cl.resolve_left (by rw [hg]; decide); have ac:=c7.resolve_left (by rw [hg]; decide); first | exact aa | exact aa.1 | exact aa.2 | exact ab | exact ab.1 | exact ab.2 | exact ac | exact ac.1 | exact ac.2 | omega | (have ag:=hg; simp at ag; omega)) (by have aa:=aJ.resolve_left (by rw [hg]; decide); have ab:=cl.resolve_left (by rw [hg]; decide); have ac:=c7.resolve_left (by rw [hg]; decide); first | exact aa | exact aa.1 | exact aa.2 | exact ab | exact ab.1 | exact ab.2 | exact ac | exact ac.1 | exact ac.2 | omega | (have ag:=hg; simp at ag; omega))
     replace jn:(!(!r8))=true->Sl _ fT (([[(0:Int),((ae.length:Int)-1:Int)],[(0:Int),(2:Int),((ae.length:Int)-1:Int)]]).take (Int.toNat ((s8:Int) % 3))):=jn
     refine t_qg (!(!r8)) rfl (gy_f rfl) (fun hg=>(fun w' H=>x_sl (v:=la) (u:=fT) (lo':=none) (hi':=some (I ((s8:Int) % 3))) (mx':=none) (gd_of hg (la)) rfl (congrArg some (gd_of hg (I ((s8:Int) % 3)))) rfl (uM hg _)))<|t_l rfl ?_;obtain ⟨r9,uN,hM⟩:=M.e_bind hM;refine t_gcall (!(!r8)) (gy_f rfl) cf8 (B r9) (fun _=>[am,bp,I (((ae.length:Int)-1)-((s8:Int) % 2)),du,fT]) (fun hg=>lst5 (gd_of hg (am)) (gd_of hg (bp)) (gd_of hg (I (((ae.length:Int)-1)-((s8:Int) % 2)))) (gd_of hg (du)) (gd_of hg (fT))) H (fun hg=>(zaf ae (([(0:Int),(1+((s8:Int) % 2):Int)]).take (Int.toNat (1+(((s8:Int) / 2) % 2)))) (((ae.length:Int)-1)-((s8:Int) % 2)) (([(1:Int),(2:Int),(3:Int)]).take (Int.toNat ((s8:Int) % 4))) (([[(0:Int),((ae.length:Int)-1:Int)],[(0:Int),(2:Int),((ae.length:Int)-1:Int)]]).take (Int.toNat ((s8:Int) % 3))) (Reads.sup (rdo 9) (Reads.of (k:=10) rfl roLe)) (rowSl rfl (H.get (k:=9) rfl) (roLe _ (H.get (k:=10) rfl)) aH) (rdo 4) bP (Reads.of (k:=3) rfl roLe) (fS hg) (Reads.of (k:=0) rfl roLe) (jn hg) (M.e_opt uN hg) _ (H.give (A:=[]) rfl)).mono fun v_ w_ ⟨y_,ah,ai,H_⟩=>by subst ah; exact ⟨ai,H.via H_⟩) ?_;intro B6 H
     refine s_nil ⟨(H.pk [4,5,6,7,8,9,10,11]),?_⟩
     refine kg 1 ?_;refine t_q rfl (fun w' H=>x_por (b:=!r8) (r:=!r9) rfl rfl (fun hb=>gd_of (c:=!(!r8)) (by first | exact hb | (rw [hb]; rfl) | (rw [hg,hb]; rfl) | simp_all) (B (!r9)))) ?_;refine t_nil ?_
     exact ⟨r8,r9,_,upds_of _ _ ⟨rfl,rfl,trivial⟩,hM,(H.pk [4,5,6,7,8,9,10,11])⟩
    skip
    refine t_gbs (α:=Int) T22 (!(!r8)) (gy_f rfl) [I 0,I 2,I ((ae.length:Int)-1)] [(0:Int),(2:Int),((ae.length:Int)-1:Int)] H (fun hg=>by exact prs3 rfl rfl (gd_of hg (I ((ae.length:Int)-1)))) (.cons rfl (Flat.rep_enc _ (0:Int))<|.cons rfl (Flat.rep_enc _ (2:Int))<|.cons rfl (Flat.rep_enc _ ((ae.length:Int)-1:Int))<|.nil) rfl rfl rfl ?_
    intro uO ck B7 H uP
    refine s_nil ⟨(H.pk [2,3,4,5,6,7,8,9]),?_⟩
    refine t_l rfl ?_;refine t_gbs (α:=Int) T22 (!(!r8)) (gy_f rfl) [I 0,I ((ae.length:Int)-1)] [(0:Int),((ae.length:Int)-1:Int)] H (fun hg=>by exact prs2 rfl (gd_of hg (I ((ae.length:Int)-1)))) (.cons rfl (Flat.rep_enc _ (0:Int))<|.cons rfl (Flat.rep_enc _ ((ae.length:Int)-1:Int))<|.nil) rfl rfl rfl ?_;intro uQ cj B8 H uR
    refine s_nil ⟨(H.pk [3,4,5,6,7,8,9,10]),?_⟩
    refine t_l rfl ?_;refine t_gbsL T31 (!(!r8)) (gy_f rfl) (k1:=0) (k2:=1) H rfl rfl (fun hg=>(uR hg)) (fun hg=>(uP hg)) (fun hg=>by exact prs2 (gd_of hg (uQ)) (gd_of hg (uO))) ?_;intro lb bw B9 H uS
    refine s_nil ⟨(H.pk [4,5,6,7,8,9,10,11]),?_⟩
    obtain ⟨fU,uT,jo⟩:=gd_ex (c:=!(!r8)) fun hg=>sl_hi T31.und T31.size (uS hg) (j:=(s8:Int) % 3) (by have aa:=aJ.resolve_left (by rw [hg]; decide); have ab:=cl.resolve_left (by rw [hg]; decide); have ac:=c7.resolve_left (by rw [hg]; decide); first | exact aa | exact aa.1 | exact aa.2 | exact ab | exact ab.1 | exact ab.2 | exact ac | exact ac.1 | exact ac.2 | omega | (have ag:=hg; simp at ag; omega)) (by have aa:=aJ.resolve_left (by rw [hg]; decide); have ab:=cl.resolve_left (by rw [hg]; decide); have ac:=c7.resolve_left (by rw [hg]; decide); first | exact aa | exact aa.1 | exact aa.2 | exact ab | exact ab.1 | exact ab.2 | exact ac | exact ac.1 | exact ac.2 | omega | (have ag:=hg; simp at ag; omega))
    replace jo:(!(!r8))=true->Sl _ fU (([[(0:Int),((ae.length:Int)-1:Int)],[(0:Int),(2:Int),((ae.length:Int)-1:Int)]]).take (Int.toNat ((s8:Int) % 3))):=jo
    refine t_qg (!(!r8)) rfl (gy_f rfl) (fun hg=>(fun w' H=>x_sl (v:=lb) (u:=fU) (lo':=none) (hi':=some (I ((s8:Int) % 3))) (mx':=none) (gd_of hg (lb)) rfl (congrArg some (gd_of hg (I ((s8:Int) % 3)))) rfl (uT hg _)))<|t_l rfl ?_;obtain ⟨r9,uU,hM⟩:=M.e_bind hM;refine t_gcall (!(!r8)) (gy_f rfl) cf8 (B r9) (fun _=>[am,bp,I (((ae.length:Int)-1)-((s8:Int) % 2)),du,fU]) (fun hg=>lst5 (gd_of hg (am)) (gd_of hg (bp)) (gd_of hg (I (((ae.length:Int)-1)-((s8:Int) % 2)))) (gd_of hg (du)) (gd_of hg (fU))) H (fun hg=>(zaf ae (([(0:Int),(1+((s8:Int) % 2):Int)]).take (Int.toNat (1+(((s8:Int) / 2) % 2)))) (((ae.length:Int)-1)-((s8:Int) % 2)) (([(1:Int),(2:Int),(3:Int)]).take (Int.toNat ((s8:Int) % 4))) (([[(0:Int),((ae.length:Int)-1:Int)],[(0:Int),(2:Int),((ae.length:Int)-1:Int)]]).take (Int.toNat ((s8:Int) % 3))) (Reads.sup (rdo 9) (Reads.of (k:=10) rfl roLe)) (rowSl rfl (H.get (k:=9) rfl) (roLe _ (H.get (k:=10) rfl)) aH) (rdo 4) bP (Reads.of (k:=3) rfl roLe) (fS hg) (Reads.of (k:=0) rfl roLe) (jo hg) (M.e_opt uU hg) _ (H.give (A:=[]) rfl)).mono fun v_ w_ ⟨y_,ah,ai,H_⟩=>by subst ah; exact ⟨ai,H.via H_⟩) ?_;intro Ca H
    refine s_nil ⟨(H.pk [4,5,6,7,8,9,10,11]),?_⟩
    refine kg 1 ?_;refine t_q rfl (fun w' H=>x_por (b:=!r8) (r:=!r9) rfl rfl (fun hb=>gd_of (c:=!(!r8)) (by first | exact hb | (rw [hb]; rfl) | (rw [hg,hb]; rfl) | simp_all) (B (!r9)))) ?_;refine t_nil ?_
    exact ⟨r8,r9,_,upds_of _ _ ⟨rfl,rfl,trivial⟩,hM,(H.pk [4,5,6,7,8,9,10,11])⟩
   ·skip
    refine t_gbs (α:=Int) T22 (!(!r8)) (gy_f rfl) [I 0,I ((ae.length:Int)-1)] [(0:Int),((ae.length:Int)-1:Int)] H (fun hg=>by exact prs2 rfl (gd_of hg (I ((ae.length:Int)-1)))) (.cons rfl (Flat.rep_enc _ (0:Int))<|.cons rfl (Flat.rep_enc _ ((ae.length:Int)-1:Int))<|.nil) rfl rfl rfl ?_
    intro jp cj Cb H jq
    refine s_nil ⟨(H.pk [1,2,3,4,5,6,7,8]),?_⟩
    obtain ⟨bC,hM⟩:=M.e_grd hM
    replace bC:=M.imp_of bC
    simp only [Bool.and_eq_true,decide_eq_true_eq] at bC
    obtain ⟨bD,hM⟩:=M.e_grd hM
    replace bD:=M.imp_of bD
    simp only [Bool.and_eq_true,decide_eq_true_eq] at bD
    refine t_l2 rfl rfl ?_ ?_
    ·skip
     refine t_gbs (α:=Int) T22 (!(!r8)) (gy_f rfl) [I 1,I 2,I 3] [(1:Int),(2:Int),(3:Int)] H (fun _=>rfl) (.cons rfl (Flat.rep_enc _ (1:Int))<|.cons rfl (Flat.rep_enc _ (2:Int))<|.cons rfl (Flat.rep_enc _ (3:Int))<|.nil) rfl rfl rfl ?_;intro lc bH Cc H uV
     refine s_nil ⟨(H.pk [2,3,4,5,6,7,8,9]),?_⟩
     obtain ⟨fV,uW,jr⟩:=gd_ex (c:=!(!r8)) fun hg=>sl_hi T22.und T22.size (uV hg) (j:=(s8:Int) % 4) (by have aa:=aJ.resolve_left (by rw [hg]; decide); have ab:=bC.resolve_left (by rw [hg]; decide); have ac:=bD.resolve_left (by rw [hg]; decide); first | exact aa | exact aa.1 | exact aa.2 | exact ab | exact ab.1 | exact ab.2 | exact ac | exact ac.1 | exact ac.2 | omega | (have ag:=hg; simp at ag; omega)) (by have aa:=aJ.resolve_left (by rw [hg]; decide); have ab:=bC.resolve_left (by rw [hg]; decide); have ac:=bD.resolve_left (by rw [hg]; decide); first | exact aa | exact aa.1 | exact aa.2 | exact ab | exact ab.1 | exact ab.2 | exact ac | exact ac.1 | exact ac.2 | omega | (have ag:=hg; simp at ag; omega))
     replace jr:(!(!r8))=true->Sl _ fV (([(1:Int),(2:Int),(3:Int)]).take (Int.toNat ((s8:Int) % 4))):=jr
     refine t_qg (!(!r8)) rfl (gy_f rfl) (fun hg=>(fun w' H=>x_sl (v:=lc) (u:=fV) (lo':=none) (hi':=some (I ((s8:Int) % 4))) (mx':=none) (gd_of hg (lc)) rfl (congrArg some (gd_of hg (I ((s8:Int) % 4)))) rfl (uW hg _)))<|t_l rfl ?_;refine t_gbs (α:=Int) T22 (!(!r8)) (gy_f rfl) [I 0,I 2,I ((ae.length:Int)-1)] [(0:Int),(2:Int),((ae.length:Int)-1:Int)] H (fun hg=>by exact prs3 rfl rfl (gd_of hg (I ((ae.length:Int)-1)))) (.cons rfl (Flat.rep_enc _ (0:Int))<|.cons rfl (Flat.rep_enc _ (2:Int))<|.cons rfl (Flat.rep_enc _ ((ae.length:Int)-1:Int))<|.nil) rfl rfl rfl ?_;intro uX ck Cd H uY
     refine s_nil ⟨(H.pk [3,4,5,6,7,8,9,10]),?_⟩
     refine t_l rfl ?_;refine t_gbsL T31 (!(!r8)) (gy_f rfl) (k1:=2) (k2:=0) H rfl rfl (fun hg=>(jq hg)) (fun hg=>(uY hg)) (fun hg=>by exact prs2 (gd_of hg (jp)) (gd_of hg (uX))) ?_;intro ld bw Ce H uZ
     refine s_nil ⟨(H.pk [4,5,6,7,8,9,10,11]),?_⟩
     obtain ⟨fW,u2,js⟩:=gd_ex (c:=!(!r8)) fun hg=>sl_hi T31.und T31.size (uZ hg) (j:=(s8:Int) % 3) (by have aa:=aJ.resolve_left (by rw [hg]; decide); have ab:=bC.resolve_left (by rw [hg]; decide); have ac:=bD.resolve_left (by rw [hg]; decide); first | exact aa | exact aa.1 | exact aa.2 | exact ab | exact ab.1 | exact ab.2 | exact ac | exact ac.1 | exact ac.2 | omega | (have ag:=hg; simp at ag; omega)) (by have aa:=aJ.resolve_left (by rw [hg]; decide); have ab:=bC.resolve_left (by rw [hg]; decide); have ac:=bD.resolve_left (by rw [hg]; decide); first | exact aa | exact aa.1 | exact aa.2 | exact ab | exact ab.1 | exact ab.2 | exact ac | exact ac.1 | exact ac.2 | omega | (have ag:=hg; simp at ag; omega))
     replace js:(!(!r8))=true->Sl _ fW (([[(0:Int),((ae.length:Int)-1:Int)],[(0:Int),(2:Int),((ae.length:Int)-1:Int)]]).take (Int.toNat ((s8:Int) % 3))):=js
     refine t_qg (!(!r8)) rfl (gy_f rfl) (fun hg=>(fun w' H=>x_sl (v:=ld) (u:=fW) (lo':=none) (hi':=some (I ((s8:Int) % 3))) (mx':=none) (gd_of hg (ld)) rfl (congrArg some (gd_of hg (I ((s8:Int) % 3)))) rfl (u2 hg _)))<|t_l rfl ?_;obtain ⟨r9,u4,hM⟩:=M.e_bind hM;refine t_gcall (!(!r8)) (gy_f rfl) cf8 (B r9) (fun _=>[am,bp,I (((ae.length:Int)-1)-((s8:Int) % 2)),fV,fW]) (fun hg=>lst5 (gd_of hg (am)) (gd_of hg (bp)) (gd_of hg (I (((ae.length:Int)-1)-((s8:Int) % 2)))) (gd_of hg (fV)) (gd_of hg (fW))) H (fun hg=>(zaf ae (([(0:Int),(1+((s8:Int) % 2):Int)]).take (Int.toNat (1+(((s8:Int) / 2) % 2)))) (((ae.length:Int)-1)-((s8:Int) % 2)) (([(1:Int),(2:Int),(3:Int)]).take (Int.toNat ((s8:Int) % 4))) (([[(0:Int),((ae.length:Int)-1:Int)],[(0:Int),(2:Int),((ae.length:Int)-1:Int)]]).take (Int.toNat ((s8:Int) % 3))) (Reads.sup (rdo 9) (Reads.of (k:=10) rfl roLe)) (rowSl rfl (H.get (k:=9) rfl) (roLe _ (H.get (k:=10) rfl)) aH) (rdo 4) bP (Reads.of (k:=2) rfl roLe) (jr hg) (Reads.of (k:=0) rfl roLe) (js hg) (M.e_opt u4 hg) _ (H.give (A:=[]) rfl)).mono fun v_ w_ ⟨y_,ah,ai,H_⟩=>by subst ah; exact ⟨ai,H.via H_⟩) ?_;intro Cf H
     refine s_nil ⟨(H.pk [4,5,6,7,8,9,10,11]),?_⟩
     refine kg 1 ?_;refine t_q rfl (fun w' H=>x_por (b:=!r8) (r:=!r9) rfl rfl (fun hb=>gd_of (c:=!(!r8)) (by first | exact hb | (rw [hb]; rfl) | (rw [hg,hb]; rfl) | simp_all) (B (!r9)))) ?_;refine t_nil ?_
     exact ⟨r8,r9,_,upds_of _ _ ⟨rfl,rfl,trivial⟩,hM,(H.pk [4,5,6,7,8,9,10,11])⟩
    skip
    refine t_gbs (α:=Int) T22 (!(!r8)) (gy_f rfl) [I 0,I 2,I ((ae.length:Int)-1)] [(0:Int),(2:Int),((ae.length:Int)-1:Int)] H (fun hg=>by exact prs3 rfl rfl (gd_of hg (I ((ae.length:Int)-1)))) (.cons rfl (Flat.rep_enc _ (0:Int))<|.cons rfl (Flat.rep_enc _ (2:Int))<|.cons rfl (Flat.rep_enc _ ((ae.length:Int)-1:Int))<|.nil) rfl rfl rfl ?_
    intro lf ck Cg H lg
    refine s_nil ⟨(H.pk [2,3,4,5,6,7,8,9]),?_⟩
    refine t_l2 rfl rfl ?_ ?_
    ·skip
     refine t_gbs (α:=Int) T22 (!(!r8)) (gy_f rfl) [I 1,I 2,I 3] [(1:Int),(2:Int),(3:Int)] H (fun _=>rfl) (.cons rfl (Flat.rep_enc _ (1:Int))<|.cons rfl (Flat.rep_enc _ (2:Int))<|.cons rfl (Flat.rep_enc _ (3:Int))<|.nil) rfl rfl rfl ?_;intro lh bH Ch H u5
     refine s_nil ⟨(H.pk [3,4,5,6,7,8,9,10]),?_⟩
     obtain ⟨fX,u6,jt⟩:=gd_ex (c:=!(!r8)) fun hg=>sl_hi T22.und T22.size (u5 hg) (j:=(s8:Int) % 4) (by have aa:=aJ.resolve_left (by rw [hg]; decide); have ab:=bC.resolve_left (by rw [hg]; decide); have ac:=bD.resolve_left (by rw [hg]; decide); first | exact aa | exact aa.1 | exact aa.2 | exact ab | exact ab.1 | exact ab.2 | exact ac | exact ac.1 | exact ac.2 | omega | (have ag:=hg; simp at ag; omega)) (by have aa:=aJ.resolve_left (by rw [hg]; decide); have ab:=bC.resolve_left (by rw [hg]; decide); have ac:=bD.resolve_left (by rw [hg]; decide); first | exact aa | exact aa.1 | exact aa.2 | exact ab | exact ab.1 | exact ab.2 | exact ac | exact ac.1 | exact ac.2 | omega | (have ag:=hg; simp at ag; omega))
     replace jt:(!(!r8))=true->Sl _ fX (([(1:Int),(2:Int),(3:Int)]).take (Int.toNat ((s8:Int) % 4))):=jt
     refine t_qg (!(!r8)) rfl (gy_f rfl) (fun hg=>(fun w' H=>x_sl (v:=lh) (u:=fX) (lo':=none) (hi':=some (I ((s8:Int) % 4))) (mx':=none) (gd_of hg (lh)) rfl (congrArg some (gd_of hg (I ((s8:Int) % 4)))) rfl (u6 hg _)))<|t_l rfl ?_;refine t_gbsL T31 (!(!r8)) (gy_f rfl) (k1:=2) (k2:=1) H rfl rfl (fun hg=>(jq hg)) (fun hg=>(lg hg)) (fun hg=>by exact prs2 (gd_of hg (jp)) (gd_of hg (lf))) ?_;intro li bw Ci H u7
     refine s_nil ⟨(H.pk [4,5,6,7,8,9,10,11]),?_⟩
     obtain ⟨fY,u9,ju⟩:=gd_ex (c:=!(!r8)) fun hg=>sl_hi T31.und T31.size (u7 hg) (j:=(s8:Int) % 3) (by have aa:=aJ.resolve_left (by rw [hg]; decide); have ab:=bC.resolve_left (by rw [hg]; decide); have ac:=bD.resolve_left (by rw [hg]; decide); first | exact aa | exact aa.1 | exact aa.2 | exact ab | exact ab.1 | exact ab.2 | exact ac | exact ac.1 | exact ac.2 | omega | (have ag:=hg; simp at ag; omega)) (by have aa:=aJ.resolve_left (by rw [hg]; decide); have ab:=bC.resolve_left (by rw [hg]; decide); have ac:=bD.resolve_left (by rw [hg]; decide); first | exact aa | exact aa.1 | exact aa.2 | exact ab | exact ab.1 | exact ab.2 | exact ac | exact ac.1 | exact ac.2 | omega | (have ag:=hg; simp at ag; omega))
     replace ju:(!(!r8))=true->Sl _ fY (([[(0:Int),((ae.length:Int)-1:Int)],[(0:Int),(2:Int),((ae.length:Int)-1:Int)]]).take (Int.toNat ((s8:Int) % 3))):=ju
     refine t_qg (!(!r8)) rfl (gy_f rfl) (fun hg=>(fun w' H=>x_sl (v:=li) (u:=fY) (lo':=none) (hi':=some (I ((s8:Int) % 3))) (mx':=none) (gd_of hg (li)) rfl (congrArg some (gd_of hg (I ((s8:Int) % 3)))) rfl (u9 hg _)))<|t_l rfl ?_;obtain ⟨r9,va,hM⟩:=M.e_bind hM;refine t_gcall (!(!r8)) (gy_f rfl) cf8 (B r9) (fun _=>[am,bp,I (((ae.length:Int)-1)-((s8:Int) % 2)),fX,fY]) (fun hg=>lst5 (gd_of hg (am)) (gd_of hg (bp)) (gd_of hg (I (((ae.length:Int)-1)-((s8:Int) % 2)))) (gd_of hg (fX)) (gd_of hg (fY))) H (fun hg=>(zaf ae (([(0:Int),(1+((s8:Int) % 2):Int)]).take (Int.toNat (1+(((s8:Int) / 2) % 2)))) (((ae.length:Int)-1)-((s8:Int) % 2)) (([(1:Int),(2:Int),(3:Int)]).take (Int.toNat ((s8:Int) % 4))) (([[(0:Int),((ae.length:Int)-1:Int)],[(0:Int),(2:Int),((ae.length:Int)-1:Int)]]).take (Int.toNat ((s8:Int) % 3))) (Reads.sup (rdo 9) (Reads.of (k:=10) rfl roLe)) (rowSl rfl (H.get (k:=9) rfl) (roLe _ (H.get (k:=10) rfl)) aH) (rdo 4) bP (Reads.of (k:=1) rfl roLe) (jt hg) (Reads.of (k:=0) rfl roLe) (ju hg) (M.e_opt va hg) _ (H.give (A:=[]) rfl)).mono fun v_ w_ ⟨y_,ah,ai,H_⟩=>by subst ah; exact ⟨ai,H.via H_⟩) ?_;intro Cj H
     refine s_nil ⟨(H.pk [4,5,6,7,8,9,10,11]),?_⟩
     refine kg 1 ?_;refine t_q rfl (fun w' H=>x_por (b:=!r8) (r:=!r9) rfl rfl (fun hb=>gd_of (c:=!(!r8)) (by first | exact hb | (rw [hb]; rfl) | (rw [hg,hb]; rfl) | simp_all) (B (!r9)))) ?_;refine t_nil ?_
     exact ⟨r8,r9,_,upds_of _ _ ⟨rfl,rfl,trivial⟩,hM,(H.pk [4,5,6,7,8,9,10,11])⟩
    skip
    refine t_gbsL T31 (!(!r8)) (gy_f rfl) (k1:=1) (k2:=0) H rfl rfl (fun hg=>(jq hg)) (fun hg=>(lg hg)) (fun hg=>by exact prs2 (gd_of hg (jp)) (gd_of hg (lf))) ?_
    intro lj bw Ck H vb
    refine s_nil ⟨(H.pk [3,4,5,6,7,8,9,10]),?_⟩
    obtain ⟨fZ,vc,jv⟩:=gd_ex (c:=!(!r8)) fun hg=>sl_hi T31.und T31.size (vb hg) (j:=(s8:Int) % 3) (by have aa:=aJ.resolve_left (by rw [hg]; decide); have ab:=bC.resolve_left (by rw [hg]; decide); have ac:=bD.resolve_left (by rw [hg]; decide); first | exact aa | exact aa.1 | exact aa.2 | exact ab | exact ab.1 | exact ab.2 | exact ac | exact ac.1 | exact ac.2 | omega | (have ag:=hg; simp at ag; omega)) (by have aa:=aJ.resolve_left (by rw [hg]; decide); have ab:=bC.resolve_left (by rw [hg]; decide); have ac:=bD.resolve_left (by rw [hg]; decide); first | exact aa | exact aa.1 | exact aa.2 | exact ab | exact ab.1 | exact ab.2 | exact ac | exact ac.1 | exact ac.2 | omega | (have ag:=hg; simp at ag; omega))
    replace jv:(!(!r8))=true->Sl _ fZ (([[(0:Int),((ae.length:Int)-1:Int)],[(0:Int),(2:Int),((ae.length:Int)-1:Int)]]).take (Int.toNat ((s8:Int) % 3))):=jv
    refine t_qg (!(!r8)) rfl (gy_f rfl) (fun hg=>(fun w' H=>x_sl (v:=lj) (u:=fZ) (lo':=none) (hi':=some (I ((s8:Int) % 3))) (mx':=none) (gd_of hg (lj)) rfl (congrArg some (gd_of hg (I ((s8:Int) % 3)))) rfl (vc hg _)))<|t_l rfl ?_;refine t_gbs (α:=Int) T22 (!(!r8)) (gy_f rfl) [I 1,I 2,I 3] [(1:Int),(2:Int),(3:Int)] H (fun _=>rfl) (.cons rfl (Flat.rep_enc _ (1:Int))<|.cons rfl (Flat.rep_enc _ (2:Int))<|.cons rfl (Flat.rep_enc _ (3:Int))<|.nil) rfl rfl rfl ?_;intro lk bH Cl H vd
    refine s_nil ⟨(H.pk [4,5,6,7,8,9,10,11]),?_⟩
    obtain ⟨f1,ve,jw⟩:=gd_ex (c:=!(!r8)) fun hg=>sl_hi T22.und T22.size (vd hg) (j:=(s8:Int) % 4) (by have aa:=aJ.resolve_left (by rw [hg]; decide); have ab:=bC.resolve_left (by rw [hg]; decide); have ac:=bD.resolve_left (by rw [hg]; decide); first | exact aa | exact aa.1 | exact aa.2 | exact ab | exact ab.1 | exact ab.2 | exact ac | exact ac.1 | exact ac.2 | omega | (have ag:=hg; simp at ag; omega)) (by have aa:=aJ.resolve_left (by rw [hg]; decide); have ab:=bC.resolve_left (by rw [hg]; decide); have ac:=bD.resolve_left (by rw [hg]; decide); first | exact aa | exact aa.1 | exact aa.2 | exact ab | exact ab.1 | exact ab.2 | exact ac | exact ac.1 | exact ac.2 | omega | (have ag:=hg; simp at ag; omega))
    replace jw:(!(!r8))=true->Sl _ f1 (([(1:Int),(2:Int),(3:Int)]).take (Int.toNat ((s8:Int) % 4))):=jw
    refine t_qg (!(!r8)) rfl (gy_f rfl) (fun hg=>(fun w' H=>x_sl (v:=lk) (u:=f1) (lo':=none) (hi':=some (I ((s8:Int) % 4))) (mx':=none) (gd_of hg (lk)) rfl (congrArg some (gd_of hg (I ((s8:Int) % 4)))) rfl (ve hg _)))<|t_l rfl ?_;obtain ⟨r9,vg,hM⟩:=M.e_bind hM;refine t_gcall (!(!r8)) (gy_f rfl) cf8 (B r9) (fun _=>[am,bp,I (((ae.length:Int)-1)-((s8:Int) % 2)),f1,fZ]) (fun hg=>lst5 (gd_of hg (am)) (gd_of hg (bp)) (gd_of hg (I (((ae.length:Int)-1)-((s8:Int) % 2)))) (gd_of hg (f1)) (gd_of hg (fZ))) H (fun hg=>(zaf ae (([(0:Int),(1+((s8:Int) % 2):Int)]).take (Int.toNat (1+(((s8:Int) / 2) % 2)))) (((ae.length:Int)-1)-((s8:Int) % 2)) (([(1:Int),(2:Int),(3:Int)]).take (Int.toNat ((s8:Int) % 4))) (([[(0:Int),((ae.length:Int)-1:Int)],[(0:Int),(2:Int),((ae.length:Int)-1:Int)]]).take (Int.toNat ((s8:Int) % 3))) (Reads.sup (rdo 9) (Reads.of (k:=10) rfl roLe)) (rowSl rfl (H.get (k:=9) rfl) (roLe _ (H.get (k:=10) rfl)) aH) (rdo 4) bP (Reads.of (k:=0) rfl roLe) (jw hg) (Reads.of (k:=1) rfl roLe) (jv hg) (M.e_opt vg hg) _ (H.give (A:=[]) rfl)).mono fun v_ w_ ⟨y_,ah,ai,H_⟩=>by subst ah; exact ⟨ai,H.via H_⟩) ?_;intro Cm H
    refine s_nil ⟨(H.pk [4,5,6,7,8,9,10,11]),?_⟩
    refine kg 1 ?_;refine t_q rfl (fun w' H=>x_por (b:=!r8) (r:=!r9) rfl rfl (fun hb=>gd_of (c:=!(!r8)) (by first | exact hb | (rw [hb]; rfl) | (rw [hg,hb]; rfl) | simp_all) (B (!r9)))) ?_;refine t_nil ?_
    exact ⟨r8,r9,_,upds_of _ _ ⟨rfl,rfl,trivial⟩,hM,(H.pk [4,5,6,7,8,9,10,11])⟩
   skip
   refine t_gbs (α:=Int) T22 (!(!r8)) (gy_f rfl) [I 0,I 2,I ((ae.length:Int)-1)] [(0:Int),(2:Int),((ae.length:Int)-1:Int)] H (fun hg=>by exact prs3 rfl rfl (gd_of hg (I ((ae.length:Int)-1)))) (.cons rfl (Flat.rep_enc _ (0:Int))<|.cons rfl (Flat.rep_enc _ (2:Int))<|.cons rfl (Flat.rep_enc _ ((ae.length:Int)-1:Int))<|.nil) rfl rfl rfl ?_
   intro jx ck Cn H jy
   refine s_nil ⟨(H.pk [1,2,3,4,5,6,7,8]),?_⟩
   obtain ⟨bE,hM⟩:=M.e_grd hM
   replace bE:=M.imp_of bE
   simp only [Bool.and_eq_true,decide_eq_true_eq] at bE
   obtain ⟨bF,hM⟩:=M.e_grd hM
   replace bF:=M.imp_of bF
   simp only [Bool.and_eq_true,decide_eq_true_eq] at bF
   refine t_l2 rfl rfl ?_ ?_
   ·skip
    refine t_gbs (α:=Int) T22 (!(!r8)) (gy_f rfl) [I 1,I 2,I 3] [(1:Int),(2:Int),(3:Int)] H (fun _=>rfl) (.cons rfl (Flat.rep_enc _ (1:Int))<|.cons rfl (Flat.rep_enc _ (2:Int))<|.cons rfl (Flat.rep_enc _ (3:Int))<|.nil) rfl rfl rfl ?_;intro ll bH Co H vh
    refine s_nil ⟨(H.pk [2,3,4,5,6,7,8,9]),?_⟩
    obtain ⟨f2,vi,jz⟩:=gd_ex (c:=!(!r8)) fun hg=>sl_hi T22.und T22.size (vh hg) (j:=(s8:Int) % 4) (by have aa:=aJ.resolve_left (by rw [hg]; decide); have ab:=bE.resolve_left (by rw [hg]; decide); have ac:=bF.resolve_left (by rw [hg]; decide); first | exact aa | exact aa.1 | exact aa.2 | exact ab | exact ab.1 | exact ab.2 | exact ac | exact ac.1 | exact ac.2 | omega | (have ag:=hg; simp at ag; omega)) (by have aa:=aJ.resolve_left (by rw [hg]; decide); have ab:=bE.resolve_left (by rw [hg]; decide); have ac:=bF.resolve_left (by rw [hg]; decide); first | exact aa | exact aa.1 | exact aa.2 | exact ab | exact ab.1 | exact ab.2 | exact ac | exact ac.1 | exact ac.2 | omega | (have ag:=hg; simp at ag; omega))
    replace jz:(!(!r8))=true->Sl _ f2 (([(1:Int),(2:Int),(3:Int)]).take (Int.toNat ((s8:Int) % 4))):=jz
    refine t_qg (!(!r8)) rfl (gy_f rfl) (fun hg=>(fun w' H=>x_sl (v:=ll) (u:=f2) (lo':=none) (hi':=some (I ((s8:Int) % 4))) (mx':=none) (gd_of hg (ll)) rfl (congrArg some (gd_of hg (I ((s8:Int) % 4)))) rfl (vi hg _)))<|t_l rfl ?_;refine t_gbs (α:=Int) T22 (!(!r8)) (gy_f rfl) [I 0,I ((ae.length:Int)-1)] [(0:Int),((ae.length:Int)-1:Int)] H (fun hg=>by exact prs2 rfl (gd_of hg (I ((ae.length:Int)-1)))) (.cons rfl (Flat.rep_enc _ (0:Int))<|.cons rfl (Flat.rep_enc _ ((ae.length:Int)-1:Int))<|.nil) rfl rfl rfl ?_;intro vj cj Cp H vk
    refine s_nil ⟨(H.pk [3,4,5,6,7,8,9,10]),?_⟩
    refine t_l rfl ?_;refine t_gbsL T31 (!(!r8)) (gy_f rfl) (k1:=0) (k2:=2) H rfl rfl (fun hg=>(vk hg)) (fun hg=>(jy hg)) (fun hg=>by exact prs2 (gd_of hg (vj)) (gd_of hg (jx))) ?_;intro lm bw Cq H vl
    refine s_nil ⟨(H.pk [4,5,6,7,8,9,10,11]),?_⟩
    obtain ⟨f4,vm,jA⟩:=gd_ex (c:=!(!r8)) fun hg=>sl_hi T31.und T31.size (vl hg) (j:=(s8:Int) % 3) (by have aa:=aJ.resolve_left (by rw [hg]; decide); have ab:=bE.resolve_left (by rw [hg]; decide); have ac:=bF.resolve_left (by rw [hg]; decide); first | exact aa | exact aa.1 | exact aa.2 | exact ab | exact ab.1 | exact ab.2 | exact ac | exact ac.1 | exact ac.2 | omega | (have ag:=hg; simp at ag; omega)) (by have aa:=aJ.resolve_left (by rw [hg]; decide); have ab:=bE.resolve_left (by rw [hg]; decide); have ac:=bF.resolve_left (by rw [hg]; decide); first | exact aa | exact aa.1 | exact aa.2 | exact ab | exact ab.1 | exact ab.2 | exact ac | exact ac.1 | exact ac.2 | omega | (have ag:=hg; simp at ag; omega))
    replace jA:(!(!r8))=true->Sl _ f4 (([[(0:Int),((ae.length:Int)-1:Int)],[(0:Int),(2:Int),((ae.length:Int)-1:Int)]]).take (Int.toNat ((s8:Int) % 3))):=jA
    refine t_qg (!(!r8)) rfl (gy_f rfl) (fun hg=>(fun w' H=>x_sl (v:=lm) (u:=f4) (lo':=none) (hi':=some (I ((s8:Int) % 3))) (mx':=none) (gd_of hg (lm)) rfl (congrArg some (gd_of hg (I ((s8:Int) % 3)))) rfl (vm hg _)))<|t_l rfl ?_;obtain ⟨r9,vn,hM⟩:=M.e_bind hM;refine t_gcall (!(!r8)) (gy_f rfl) cf8 (B r9) (fun _=>[am,bp,I (((ae.length:Int)-1)-((s8:Int) % 2)),f2,f4]) (fun hg=>lst5 (gd_of hg (am)) (gd_of hg (bp)) (gd_of hg (I (((ae.length:Int)-1)-((s8:Int) % 2)))) (gd_of hg (f2)) (gd_of hg (f4))) H (fun hg=>(zaf ae (([(0:Int),(1+((s8:Int) % 2):Int)]).take (Int.toNat (1+(((s8:Int) / 2) % 2)))) (((ae.length:Int)-1)-((s8:Int) % 2)) (([(1:Int),(2:Int),(3:Int)]).take (Int.toNat ((s8:Int) % 4))) (([[(0:Int),((ae.length:Int)-1:Int)],[(0:Int),(2:Int),((ae.length:Int)-1:Int)]]).take (Int.toNat ((s8:Int) % 3))) (Reads.sup (rdo 9) (Reads.of (k:=10) rfl roLe)) (rowSl rfl (H.get (k:=9) rfl) (roLe _ (H.get (k:=10) rfl)) aH) (rdo 4) bP (Reads.of (k:=2) rfl roLe) (jz hg) (Reads.of (k:=0) rfl roLe) (jA hg) (M.e_opt vn hg) _ (H.give (A:=[]) rfl)).mono fun v_ w_ ⟨y_,ah,ai,H_⟩=>by subst ah; exact ⟨ai,H.via H_⟩) ?_;intro Cr H
    refine s_nil ⟨(H.pk [4,5,6,7,8,9,10,11]),?_⟩
    refine kg 1 ?_;refine t_q rfl (fun w' H=>x_por (b:=!r8) (r:=!r9) rfl rfl (fun hb=>gd_of (c:=!(!r8)) (by first | exact hb | (rw [hb]; rfl) | (rw [hg,hb]; rfl) | simp_all) (B (!r9)))) ?_;refine t_nil ?_
    exact ⟨r8,r9,_,upds_of _ _ ⟨rfl,rfl,trivial⟩,hM,(H.pk [4,5,6,7,8,9,10,11])⟩
   skip
   refine t_gbs (α:=Int) T22 (!(!r8)) (gy_f rfl) [I 0,I ((ae.length:Int)-1)] [(0:Int),((ae.length:Int)-1:Int)] H (fun hg=>by exact prs2 rfl (gd_of hg (I ((ae.length:Int)-1)))) (.cons rfl (Flat.rep_enc _ (0:Int))<|.cons rfl (Flat.rep_enc _ ((ae.length:Int)-1:Int))<|.nil) rfl rfl rfl ?_
   intro ln cj Cs H lp
   refine s_nil ⟨(H.pk [2,3,4,5,6,7,8,9]),?_⟩
   refine t_l2 rfl rfl ?_ ?_
   ·skip
    refine t_gbs (α:=Int) T22 (!(!r8)) (gy_f rfl) [I 1,I 2,I 3] [(1:Int),(2:Int),(3:Int)] H (fun _=>rfl) (.cons rfl (Flat.rep_enc _ (1:Int))<|.cons rfl (Flat.rep_enc _ (2:Int))<|.cons rfl (Flat.rep_enc _ (3:Int))<|.nil) rfl rfl rfl ?_;intro lq bH Ct H vp
    refine s_nil ⟨(H.pk [3,4,5,6,7,8,9,10]),?_⟩
    obtain ⟨f5,vr,jC⟩:=gd_ex (c:=!(!r8)) fun hg=>sl_hi T22.und T22.size (vp hg) (j:=(s8:Int) % 4) (by have aa:=aJ.resolve_left (by rw [hg]; decide); have ab:=bE.resolve_left (by rw [hg]; decide); have ac:=bF.resolve_left (by rw [hg]; decide); first | exact aa | exact aa.1 | exact aa.2 | exact ab | exact ab.1 | exact ab.2 | exact ac | exact ac.1 | exact ac.2 | omega | (have ag:=hg; simp at ag; omega)) (by have aa:=aJ.resolve_left (by rw [hg]; decide); have ab:=bE.resolve_left (by rw [hg]; decide); have ac:=bF.resolve_left (by rw [hg]; decide); first | exact aa | exact aa.1 | exact aa.2 | exact ab | exact ab.1 | exact ab.2 | exact ac | exact ac.1 | exact ac.2 | omega | (have ag:=hg; simp at ag; omega))
    replace jC:(!(!r8))=true->Sl _ f5 (([(1:Int),(2:Int),(3:Int)]).take (Int.toNat ((s8:Int) % 4))):=jC
    refine t_qg (!(!r8)) rfl (gy_f rfl) (fun hg=>(fun w' H=>x_sl (v:=lq) (u:=f5) (lo':=none) (hi':=some (I ((s8:Int) % 4))) (mx':=none) (gd_of hg (lq)) rfl (congrArg some (gd_of hg (I ((s8:Int) % 4)))) rfl (vr hg _)))<|t_l rfl ?_;refine t_gbsL T31 (!(!r8)) (gy_f rfl) (k1:=1) (k2:=2) H rfl rfl (fun hg=>(lp hg)) (fun hg=>(jy hg)) (fun hg=>by exact prs2 (gd_of hg (ln)) (gd_of hg (jx))) ?_;intro lr bw Cu H vt
    refine s_nil ⟨(H.pk [4,5,6,7,8,9,10,11]),?_⟩
    obtain ⟨f6,vu,jD⟩:=gd_ex (c:=!(!r8)) fun hg=>sl_hi T31.und T31.size (vt hg) (j:=(s8:Int) % 3) (by have aa:=aJ.resolve_left (by rw [hg]; decide); have ab:=bE.resolve_left (by rw [hg]; decide); have ac:=bF.resolve_left (by rw [hg]; decide); first | exact aa | exact aa.1 | exact aa.2 | exact ab | exact ab.1 | exact ab.2 | exact ac | exact ac.1 | exact ac.2 | omega | (have ag:=hg; simp at ag; omega)) (by have aa:=aJ.resolve_left (by rw [hg]; decide); have ab:=bE.resolve_left (by rw [hg]; decide); have ac:=bF.resolve_left (by rw [hg]; decide); first | exact aa | exact aa.1 | exact aa.2 | exact ab | exact ab.1 | exact ab.2 | exact ac | exact ac.1 | exact ac.2 | omega | (have ag:=hg; simp at ag; omega))
    replace jD:(!(!r8))=true->Sl _ f6 (([[(0:Int),((ae.length:Int)-1:Int)],[(0:Int),(2:Int),((ae.length:Int)-1:Int)]]).take (Int.toNat ((s8:Int) % 3))):=jD
    refine t_qg (!(!r8)) rfl (gy_f rfl) (fun hg=>(fun w' H=>x_sl (v:=lr) (u:=f6) (lo':=none) (hi':=some (I ((s8:Int) % 3))) (mx':=none) (gd_of hg (lr)) rfl (congrArg some (gd_of hg (I ((s8:Int) % 3)))) rfl (vu hg _)))<|t_l rfl ?_;obtain ⟨r9,vw,hM⟩:=M.e_bind hM;refine t_gcall (!(!r8)) (gy_f rfl) cf8 (B r9) (fun _=>[am,bp,I (((ae.length:Int)-1)-((s8:Int) % 2)),f5,f6]) (fun hg=>lst5 (gd_of hg (am)) (gd_of hg (bp)) (gd_of hg (I (((ae.length:Int)-1)-((s8:Int) % 2)))) (gd_of hg (f5)) (gd_of hg (f6))) H (fun hg=>(zaf ae (([(0:Int),(1+((s8:Int) % 2):Int)]).take (Int.toNat (1+(((s8:Int) / 2) % 2)))) (((ae.length:Int)-1)-((s8:Int) % 2)) (([(1:Int),(2:Int),(3:Int)]).take (Int.toNat ((s8:Int) % 4))) (([[(0:Int),((ae.length:Int)-1:Int)],[(0:Int),(2:Int),((ae.length:Int)-1:Int)]]).take (Int.toNat ((s8:Int) % 3))) (Reads.sup (rdo 9) (Reads.of (k:=10) rfl roLe)) (rowSl rfl (H.get (k:=9) rfl) (roLe _ (H.get (k:=10) rfl)) aH) (rdo 4) bP (Reads.of (k:=1) rfl roLe) (jC hg) (Reads.of (k:=0) rfl roLe) (jD hg) (M.e_opt vw hg) _ (H.give (A:=[]) rfl)).mono fun v_ w_ ⟨y_,ah,ai,H_⟩=>by subst ah; exact ⟨ai,H.via H_⟩) ?_;intro Cv H
    refine s_nil ⟨(H.pk [4,5,6,7,8,9,10,11]),?_⟩
    refine kg 1 ?_;refine t_q rfl (fun w' H=>x_por (b:=!r8) (r:=!r9) rfl rfl (fun hb=>gd_of (c:=!(!r8)) (by first | exact hb | (rw [hb]; rfl) | (rw [hg,hb]; rfl) | simp_all) (B (!r9)))) ?_;refine t_nil ?_
    exact ⟨r8,r9,_,upds_of _ _ ⟨rfl,rfl,trivial⟩,hM,(H.pk [4,5,6,7,8,9,10,11])⟩
   skip
   refine t_gbsL T31 (!(!r8)) (gy_f rfl) (k1:=0) (k2:=1) H rfl rfl (fun hg=>(lp hg)) (fun hg=>(jy hg)) (fun hg=>by exact prs2 (gd_of hg (ln)) (gd_of hg (jx))) ?_
   intro ls bw Cw H vz
   refine s_nil ⟨(H.pk [3,4,5,6,7,8,9,10]),?_⟩
   obtain ⟨f7,vA,jF⟩:=gd_ex (c:=!(!r8)) fun hg=>sl_hi T31.und T31.size (vz hg) (j:=(s8:Int) % 3) (by have aa:=aJ.resolve_left (by rw [hg]; decide); have ab:=bE.resolve_left (by rw [hg]; decide); have ac:=bF.resolve_left (by rw [hg]; decide); first | exact aa | exact aa.1 | exact aa.2 | exact ab | exact ab.1 | exact ab.2 | exact ac | exact ac.1 | exact ac.2 | omega | (have ag:=hg; simp at ag; omega)) (by have aa:=aJ.resolve_left (by rw [hg]; decide); have ab:=bE.resolve_left (by rw [hg]; decide); have ac:=bF.resolve_left (by rw [hg]; decide); first | exact aa | exact aa.1 | exact aa.2 | exact ab | exact ab.1 | exact ab.2 | exact ac | exact ac.1 | exact ac.2 | omega | (have ag:=hg; simp at ag; omega))
   replace jF:(!(!r8))=true->Sl _ f7 (([[(0:Int),((ae.length:Int)-1:Int)],[(0:Int),(2:Int),((ae.length:Int)-1:Int)]]).take (Int.toNat ((s8:Int) % 3))):=jF
   refine t_qg (!(!r8)) rfl (gy_f rfl) (fun hg=>(fun w' H=>x_sl (v:=ls) (u:=f7) (lo':=none) (hi':=some (I ((s8:Int) % 3))) (mx':=none) (gd_of hg (ls)) rfl (congrArg some (gd_of hg (I ((s8:Int) % 3)))) rfl (vA hg _)))<|t_l rfl ?_;refine t_gbs (α:=Int) T22 (!(!r8)) (gy_f rfl) [I 1,I 2,I 3] [(1:Int),(2:Int),(3:Int)] H (fun _=>rfl) (.cons rfl (Flat.rep_enc _ (1:Int))<|.cons rfl (Flat.rep_enc _ (2:Int))<|.cons rfl (Flat.rep_enc _ (3:Int))<|.nil) rfl rfl rfl ?_;intro lu bH Cx H vB
   refine s_nil ⟨(H.pk [4,5,6,7,8,9,10,11]),?_⟩
   obtain ⟨f8,vC,jH⟩:=gd_ex (c:=!(!r8)) fun hg=>sl_hi T22.und T22.size (vB hg) (j:=(s8:Int) % 4) (by have aa:=aJ.resolve_left (by rw [hg]; decide); have ab:=bE.resolve_left (by rw [hg]; decide); have ac:=bF.resolve_left (by rw [hg]; decide); first | exact aa | exact aa.1 | exact aa.2 | exact ab | exact ab.1 | exact ab.2 | exact ac | exact ac.1 | exact ac.2 | omega | (have ag:=hg; simp at ag; omega)) (by have aa:=aJ.resolve_left (by rw [hg]; decide); have ab:=bE.resolve_left (by rw [hg]; decide); have ac:=bF.resolve_left (by rw [hg]; decide); first | exact aa | exact aa.1 | exact aa.2 | exact ab | exact ab.1 | exact ab.2 | exact ac | exact ac.1 | exact ac.2 | omega | (have ag:=hg; simp at ag; omega))
   replace jH:(!(!r8))=true->Sl _ f8 (([(1:Int),(2:Int),(3:Int)]).take (Int.toNat ((s8:Int) % 4))):=jH
   refine t_qg (!(!r8)) rfl (gy_f rfl) (fun hg=>(fun w' H=>x_sl (v:=lu) (u:=f8) (lo':=none) (hi':=some (I ((s8:Int) % 4))) (mx':=none) (gd_of hg (lu)) rfl (congrArg some (gd_of hg (I ((s8:Int) % 4)))) rfl (vC hg _)))<|t_l rfl ?_;obtain ⟨r9,vD,hM⟩:=M.e_bind hM;refine t_gcall (!(!r8)) (gy_f rfl) cf8 (B r9) (fun _=>[am,bp,I (((ae.length:Int)-1)-((s8:Int) % 2)),f8,f7]) (fun hg=>lst5 (gd_of hg (am)) (gd_of hg (bp)) (gd_of hg (I (((ae.length:Int)-1)-((s8:Int) % 2)))) (gd_of hg (f8)) (gd_of hg (f7))) H (fun hg=>(zaf ae (([(0:Int),(1+((s8:Int) % 2):Int)]).take (Int.toNat (1+(((s8:Int) / 2) % 2)))) (((ae.length:Int)-1)-((s8:Int) % 2)) (([(1:Int),(2:Int),(3:Int)]).take (Int.toNat ((s8:Int) % 4))) (([[(0:Int),((ae.length:Int)-1:Int)],[(0:Int),(2:Int),((ae.length:Int)-1:Int)]]).take (Int.toNat ((s8:Int) % 3))) (Reads.sup (rdo 9) (Reads.of (k:=10) rfl roLe)) (rowSl rfl (H.get (k:=9) rfl) (roLe _ (H.get (k:=10) rfl)) aH) (rdo 4) bP (Reads.of (k:=0) rfl roLe) (jH hg) (Reads.of (k:=1) rfl roLe) (jF hg) (M.e_opt vD hg) _ (H.give (A:=[]) rfl)).mono fun v_ w_ ⟨y_,ah,ai,H_⟩=>by subst ah; exact ⟨ai,H.via H_⟩) ?_;intro Cy H
   refine s_nil ⟨(H.pk [4,5,6,7,8,9,10,11]),?_⟩
   refine kg 1 ?_;refine t_q rfl (fun w' H=>x_por (b:=!r8) (r:=!r9) rfl rfl (fun hb=>gd_of (c:=!(!r8)) (by first | exact hb | (rw [hb]; rfl) | (rw [hg,hb]; rfl) | simp_all) (B (!r9)))) ?_;refine t_nil ?_
   exact ⟨r8,r9,_,upds_of _ _ ⟨rfl,rfl,trivial⟩,hM,(H.pk [4,5,6,7,8,9,10,11])⟩
  rintro _ Cz ⟨r8,r9,ρ,rfl,hM,H⟩
  unfold zaX at hM
  refine W.cond ((!r8)||(!r9)) rfl (fun jI=>?_) (fun jI=>?_)
  ·replace hM:=M.e_t hM jI;refine kg 4 ?_;replace H:=H.pk [7];refine W.ret ?_
   have vE:=M.e_inr hM dp
   subst vE;replace hM:=fx;(try dsimp only at hM)
   have ah:=M.e_pure hM
   exact ⟨_,resE_tmp rfl,⟨false,ah,rfl,(H.pk [])⟩⟩
  replace hM:=M.e_f hM jI;refine W.skip ?_;replace H:=H.pk [7];refine kg 4 ?_
  exact ⟨kz,kA,s8+1,_,upds_of _ _ ⟨rfl,trivial⟩,M.e_inl hM dp,H⟩
 replace hM:=M.e_f hM cV
 replace cV:=dI cV
 refine W.exit ?_
 have vF:=M.e_inr hM dp
 subst vF;replace hM:=fx;(try dsimp only at hM);refine kg 6 ?_;obtain ⟨vG,jJ,c8⟩:=M.e_bind hM
 obtain ⟨dh,jJ⟩:=M.e_iter jJ
 refine W.loop (fun m σ W=>∃ (s9:Nat) (ρ:Env),σ=upds ρ [(324,I (s9:Int))]/\M.iterN (zde) m s9=some vG/\St w W [cOwn (α:=Int) 3 bn (vl28)] R) ?_ ?_
 ·exact ⟨_,0,_,upds_of _ _ ⟨rfl,trivial⟩,jJ,H⟩
 rintro CA σ CB ⟨s9,ρ,rfl,lv,H⟩
 obtain ⟨eW,eX,CC,hM,bJ⟩:=M.e_iterN lv
 clear lv;refine kg 5 ?_
 refine W.cond (decide ((s9:Int)<36)) rfl (fun c9=>?_) (fun c9=>?_)
 ·replace hM:=M.e_t hM c9
  replace c9:=dI c9
  refine kg 11 ?_
  obtain ⟨lw,H⟩:=H.emptyE
  obtain ⟨eY,lx⟩:∃ r:Raw 2,r.cs=[.slice none 0 0,I 0,I 0]:=⟨Raw.of [.slice none 0 0,I 0,I 0] rfl rfl,rfl⟩
  obtain ⟨CD,hM⟩:=M.e_gd hM
  have vH:RepR (α:=Work) lw.cells (List.replicate s9 eY) (List.replicate s9 (default:Work)):=RepR.rep _ (by rw [lx]; exact ⟨_,rfl,Sl.nil _⟩)
  refine t_mk (α:=Raw 2) T23 eY (by rw [show (Flat.enc eY:List Value)=eY.cs from rfl,lx]; rfl) (n:=(s9:Int)) H rfl rfl (by omega) (by omega) (by omega) ?_;intro vI CE H;replace H:=H.nf;refine kg 8 ?_;obtain ⟨vJ,jK,vK⟩:=M.e_bind hM
  obtain ⟨dh,jK⟩:=M.e_iter jK
  refine W.loop (fun m σ W=>∃ (aP:List Work) (i:Nat) (aS:Value) (bQ:List (Raw 2)) (B_l15:Base) (ρ:Env),σ=upds ρ [(24,I (s9:Int)),(25,aS),(26,I (i:Int)),(324,I (s9:Int))]/\M.iterN (zeN s9) m (aP,i)=some vJ/\St w W [cOwn (α:=Raw 2) 34 aS bQ,cRo B_l15,cOwn (α:=Int) 3 bn (vl28)] R/\RepR (α:=Work) B_l15.cells bQ aP) ?_ ?_
  ·exact ⟨_,List.replicate s9 (default:Work),1,vI,List.replicate s9 eY,lw,_,upds_of _ _ ⟨rfl,rfl,rfl,rfl,trivial⟩,jK,H,vH⟩
  rintro CG σ CH ⟨aP,i,aS,bQ,B_l15,ρ,rfl,ly,H,bv⟩
  obtain ⟨vL,vM,CI,hM,lz⟩:=M.e_iterN ly
  clear ly;refine kg 7 ?_
  refine W.cond (decide ((i:Int)<(s9:Int))) rfl (fun da=>?_) (fun da=>?_)
  ·replace hM:=M.e_t hM da
   replace da:=dI da
   obtain ⟨CJ,hM⟩:=M.e_gd hM;refine kg 10 ?_;refine t_bs (α:=Int) T22 [I ((i:Int)-1)] [((i:Int)-1:Int)] H rfl (.cons rfl (Flat.rep_enc _ ((i:Int)-1:Int))<|.nil) rfl rfl rfl ?_;intro dv CK H;obtain ⟨CL,hM⟩:=M.e_gd hM;refine s_val (x_ix (v:=vat aS 3 (Int.toNat (i:Int))) rfl rfl (Sl.ix (α:=Work) T23.und T23.size (rowSl rfl (H.get (k:=1) rfl) (roLe _ (H.get (k:=2) rfl)) bv) (by omega) (by omega)))<|s_val (x_fa (v:=fat (vat aS 3 (Int.toNat (i:Int))) 0) rfl (fa_pl Fd34_0 Sz22 (Sl.pl (i:=(i:Int)) (rowSl rfl (H.get (k:=1) rfl) (roLe _ (H.get (k:=2) rfl)) bv) (by omega) (by omega)))) ?_
   obtain ⟨CM,H,vN⟩:=H.freezeE (k:=0) rfl
   replace H:=H.nf
   have db:=vN
   obtain ⟨jM,H,vO,vP⟩:=H.joinE (i:=2) (j:=0) rfl rfl
   replace bv:=bv.mono vO
   replace db:=db.mono vP
   have CN:=bv.len
   obtain ⟨cm,lA⟩:∃ r:List (Raw 2),(bQ).set i (Raw.put ((bQ).getD i default) 0 [dv] rfl (by simp only [List.all_cons,List.all_nil,Bool.true_and,Bool.and_true,Sl.oc db]; try rfl))=r:=⟨_,rfl⟩
   have eZ:RepR (α:=Work) jM.cells cm (aP.set i ({ (aP.getD i default) with of:=([((i:Int)-1:Int)]) })):=by rw [← lA]; exact bv.set _ (by obtain ⟨vQ,jN,lB⟩:=bv.getD (k:=i) (by omega) default; show Elt.rep _ (((bQ).getD i default).cs.take 0++[dv]++((bQ).getD i default).cs.drop (0+([dv]:List Value).length)) _; rw [jN]; exact ⟨_,rfl,db⟩)
   refine t_fst (α:=Raw 2) (k:=2) (i:=(i:Int)) (off:=0) (l:=bQ) (l':=cm) (val:=dv) H rfl Sz22 (by omega) (by omega) ((bQ).getD i default) (Raw.put ((bQ).getD i default) 0 [dv] rfl (by simp only [List.all_cons,List.all_nil,Bool.true_and,Bool.and_true,Sl.oc db]; try rfl)) (getD_some _ (by omega) _) rfl rfl [dv] (Sl.cells db) rfl rfl (by simp only [List.all_cons,List.all_nil,Bool.true_and,Bool.and_true,Sl.oc db]; try rfl) rfl lA rfl ?_;intro CO H;replace H:=H.nf;obtain ⟨CP,hM⟩:=M.e_gd hM;refine s_val (x_ix (v:=vat aS 3 (Int.toNat (i:Int))) rfl rfl (Sl.ix (α:=Work) T23.und T23.size (rowSl rfl (H.get (k:=2) rfl) (roLe _ (H.get (k:=0) rfl)) eZ) (by omega) (by omega)))<|s_val (x_fa (v:=fat (vat aS 3 (Int.toNat (i:Int))) 2) rfl (fa_pl Fd34_2 Sz3 (Sl.pl (i:=(i:Int)) (rowSl rfl (H.get (k:=2) rfl) (roLe _ (H.get (k:=0) rfl)) eZ) (by omega) (by omega)))) ?_
   have CQ:=eZ.len
   have CR:(aP.set i ({ (aP.getD i default) with of:=([((i:Int)-1:Int)]) })).length=(aP).length:=by simp only [List.length_set]
   obtain ⟨jP,lC⟩:∃ r:List (Raw 2),(cm).set i (Raw.put ((cm).getD i default) 2 [I 10000] rfl rfl)=r:=⟨_,rfl⟩
   have vR:RepR (α:=Work) jM.cells jP ((aP.set i ({ (aP.getD i default) with of:=([((i:Int)-1:Int)]) })).set i ({ ((aP.set i ({ (aP.getD i default) with of:=([((i:Int)-1:Int)]) })).getD i default) with minutes:=(10000:Int) })):=by rw [← lC]; exact eZ.set _ (by obtain ⟨vQ,jN,lB⟩:=eZ.getD (k:=i) (by omega) default; show Elt.rep _ (((cm).getD i default).cs.take 2++[I 10000]++((cm).getD i default).cs.drop (2+([I 10000]:List Value).length)) _; rw [jN]; exact ⟨_,rfl,lB⟩)
   refine t_fst (α:=Raw 2) (k:=2) (i:=(i:Int)) (off:=2) (l:=cm) (l':=jP) (val:=I 10000) H rfl Sz3 (by omega) (by omega) ((cm).getD i default) (Raw.put ((cm).getD i default) 2 [I 10000] rfl rfl) (getD_some _ (by omega) _) rfl rfl [I 10000] rfl rfl rfl rfl rfl lC rfl ?_;intro CS H;replace H:=H.nf;refine kg 6 ?_
   exact ⟨vL,vM,(aP.set i ({ (aP.getD i default) with of:=([((i:Int)-1:Int)]) })).set i ({ ((aP.set i ({ (aP.getD i default) with of:=([((i:Int)-1:Int)]) })).getD i default) with minutes:=(10000:Int) }),i+1,aS,jP,jM,_,upds_of _ _ ⟨rfl,rfl,rfl,rfl,trivial⟩,M.e_inl hM lz,(H.pk [2,0,4]),vR⟩
  replace hM:=M.e_f hM da
  replace da:=dI da
  refine W.exit ?_
  have vS:=M.e_inr hM lz
  subst vS;replace hM:=vK;(try dsimp only at hM);refine kg 4 ?_;refine t_bs (α:=Int) T22 [I 0,I 1,I 2] [(0:Int),(1:Int),(2:Int)] H rfl (.cons rfl (Flat.rep_enc _ (0:Int))<|.cons rfl (Flat.rep_enc _ (1:Int))<|.cons rfl (Flat.rep_enc _ (2:Int))<|.nil) rfl rfl rfl ?_;intro lD CT H;obtain ⟨CU,hM⟩:=M.e_gd hM;refine kg 2 ?_;obtain ⟨CV,vT,hM⟩:=M.e_bind hM;refine s_call cf5 [aS,lD,I 0,I ((s9:Int)-1)] rfl (zdK aP ([(0:Int),(1:Int),(2:Int)]) 0 ((s9:Int)-1) (Reads.sup (rdo 1) (Reads.of (k:=2) rfl roLe)) (rowSl rfl (H.get (k:=1) rfl) (roLe _ (H.get (k:=2) rfl)) bv) (rdo 0) (H.os 0) vT _ (H.gt 4)) ?_
  rintro vq CW ⟨aW,rfl,hvq,aC⟩
  subst vq;(try dsimp only at hM);replace H:=H.bk aC;clear aC;refine kg 3 ?_;obtain ⟨aX,vU,hM⟩:=M.e_bind hM;refine t_gcall (!(!aW)) (gy_f rfl) cf6 (B aX) (fun _=>[aS,.slice none 0 0,.slice none 0 0]) (fun hg=>lst3 (gd_of hg (aS)) rfl rfl) H (fun hg=>(zau aP ([]:List Note) ([]:List Pub) (Reads.sup (rdo 1) (Reads.of (k:=2) rfl roLe)) (rowSl rfl (H.get (k:=1) rfl) (roLe _ (H.get (k:=2) rfl)) bv) Reads.none (Sl.nil (fun _=>none)) Reads.none (Sl.nil (fun _=>none)) (M.e_opt vU hg) _ (H.give (A:=[]) rfl)).mono fun v_ w_ ⟨y_,ah,ai,H_⟩=>by subst ah; exact ⟨ai,H.via H_⟩) ?_;intro CX H;refine kg 1 ?_;refine s_val (x_por (b:=!aW) (r:=!aX) rfl rfl (fun hb=>gd_of (c:=!(!aW)) (by first | exact hb | (rw [hb]; rfl) | (rw [hg,hb]; rfl) | simp_all) (B (!aX))))<|zM (B ((!aW)||(!aX))) rfl<|g_val (!((!aW)||(!aX))) (gy_f rfl) (fun hg=>x_mv (v:=aS) rfl) ?_;refine t_gbs (α:=Int) T22 (!((!aW)||(!aX))) (gy_f rfl) [I 0] [(0:Int)] H (fun _=>rfl) (.cons rfl (Flat.rep_enc _ (0:Int))<|.nil) rfl rfl rfl ?_;intro lE vV CY H vW;obtain ⟨bt,vX,hM⟩:=M.e_bind hM;refine t_gcall (!((!aW)||(!aX))) (gy_f rfl) cf7 (B bt) (fun _=>[aS,lE,.slice none 0 0]) (fun hg=>lst3 (gd_of hg (aS)) (gd_of hg (lE)) rfl) H (fun hg=>(zbn aP ([(0:Int)]) ([]:List Int) (Reads.sup (rdo 2) (Reads.of (k:=3) rfl roLe)) (rowSl rfl (H.get (k:=2) rfl) (roLe _ (H.get (k:=3) rfl)) bv) (Reads.of (k:=0) rfl roLe) (vW hg) Reads.none (Sl.nil (fun _=>none)) (M.e_opt vX hg) _ (H.give (A:=[]) rfl)).mono fun v_ w_ ⟨y_,ah,ai,H_⟩=>by subst ah; exact ⟨ai,H.via H_⟩) ?_;intro CZ H;refine g_val (!((!aW)||(!aX))) (gy_f rfl) (fun hg=>x_not (b:=bt) (gd_of hg (B bt)))<|s_val (x_por (b:=((!aW)||(!aX))) (r:=!bt) rfl rfl (fun hb=>gd_of (c:=!((!aW)||(!aX))) (by first | exact hb | (rw [hb]; rfl) | (rw [hg,hb]; rfl) | simp_all) (B (!bt))))<|zM (B (((!aW)||(!aX))||(!bt))) rfl<|g_val (!(((!aW)||(!aX))||(!bt))) (gy_f rfl) (fun hg=>x_mv (v:=aS) rfl) ?_;refine t_gbs (α:=Int) T22 (!(((!aW)||(!aX))||(!bt))) (gy_f rfl) [I 0] [(0:Int)] H (fun _=>rfl) (.cons rfl (Flat.rep_enc _ (0:Int))<|.nil) rfl rfl rfl ?_;intro lF vY C0 H vZ;refine g_val (!(((!aW)||(!aX))||(!bt))) (gy_f rfl) (fun hg=>x_mv (v:=I (s9:Int)) rfl)<|g_val (!(((!aW)||(!aX))||(!bt))) (gy_f rfl) (fun hg=>x_ari (r:=(s9:Int)-1) (gd_of hg (I (s9:Int))) rfl rfl (by first | omega | (have ag:=hg; simp at ag; omega)))<|g_val (!(((!aW)||(!aX))||(!bt))) (gy_f rfl) (fun hg=>x_mv (v:=I (s9:Int)) rfl) ?_;obtain ⟨dw,hM⟩:=M.e_grd hM
  replace dw:=M.imp_of dw
  simp only [Bool.and_eq_true,decide_eq_true_eq] at dw
  refine t_gmkL T31 rfl (!(((!aW)||(!aX))||(!bt))) (gy_f rfl) (n:=(s9:Int)) H (fun hg=>(gd_of hg (I (s9:Int)))) (fun hg=>(gd_of hg (I (s9:Int)))) (fun hg=>(by have aa:=dw.resolve_left (by rw [hg]; decide); first | exact aa | exact aa.1 | exact aa.2 | omega | (have ag:=hg; simp at ag; omega))) (fun hg=>(by have aa:=dw.resolve_left (by rw [hg]; decide); first | exact aa | exact aa.1 | exact aa.2 | omega | (have ag:=hg; simp at ag; omega))) (fun hg=>(by have aa:=dw.resolve_left (by rw [hg]; decide); first | exact aa | exact aa.1 | exact aa.2 | omega | (have ag:=hg; simp at ag; omega))) ?_;intro lG v3 C1 H v4;obtain ⟨dx,v5,hM⟩:=M.e_bind hM;refine t_gcall (!(((!aW)||(!aX))||(!bt))) (gy_f rfl) cf8 (B dx) (fun _=>[aS,lF,I ((s9:Int)-1),.slice none 0 0,lG]) (fun hg=>lst5 (gd_of hg (aS)) (gd_of hg (lF)) (gd_of hg (I ((s9:Int)-1))) rfl (gd_of hg (lG))) H (fun hg=>(zaf aP ([(0:Int)]) ((s9:Int)-1) ([]:List Int) (List.replicate s9 ([]:List Int)) (Reads.sup (rdo 4) (Reads.of (k:=5) rfl roLe)) (rowSl rfl (H.get (k:=4) rfl) (roLe _ (H.get (k:=5) rfl)) bv) (Reads.of (k:=1) rfl roLe) (vZ hg) Reads.none (Sl.nil (fun _=>none)) (Reads.of (k:=0) rfl roLe) (v4 hg) (M.e_opt v5 hg) _ (H.give (A:=[]) rfl)).mono fun v_ w_ ⟨y_,ah,ai,H_⟩=>by subst ah; exact ⟨ai,H.via H_⟩) ?_;intro C2 H;refine g_val (!(((!aW)||(!aX))||(!bt))) (gy_f rfl) (fun hg=>x_not (b:=dx) (gd_of hg (B dx)))<|s_val (x_por (b:=(((!aW)||(!aX))||(!bt))) (r:=!dx) rfl rfl (fun hb=>gd_of (c:=!(((!aW)||(!aX))||(!bt))) (by first | exact hb | (rw [hb]; rfl) | (rw [hg,hb]; rfl) | simp_all) (B (!dx))))<|s_nil ?_
  refine W.cond ((((!aW)||(!aX))||(!bt))||(!dx)) rfl (fun jQ=>?_) (fun jQ=>?_)
  ·replace hM:=M.e_t hM jQ;refine kg 4 ?_;replace H:=H.pk [6];refine W.ret ?_
   have v7:=M.e_inr hM bJ
   subst v7;replace hM:=c8;(try dsimp only at hM)
   have ah:=M.e_pure hM
   exact ⟨_,resE_tmp rfl,⟨false,ah,rfl,(H.pk [])⟩⟩
  replace hM:=M.e_f hM jQ;refine kg 2 ?_;refine W.drawT (fun W=>St w W [cRo v3,cRo vY,cRo vV,cOwn (α:=Int) 3 lD ([(0:Int),(1:Int),(2:Int)]),cOwn (α:=Raw 2) 34 aS bQ,cRo B_l15,cOwn (α:=Int) 3 bn (vl28)] R) (.q 2 (.q 3 (.l2 0 (.l 1 (.l 4 (.l 5 (.l 6 (.l 7 (.q 8 .nil)))))) 1 (.l2 0 (.l 4 (.l 5 (.l 6 (.l 7 (.q 8 .nil))))) 4 (.l2 0 (.l 5 (.l 6 (.l 7 (.q 8 .nil)))) 5 (.l2 0 (.l 6 (.l 7 (.q 8 .nil))) 6 (.l 0 (.l 7 (.q 8 .nil))))))))) mixed (by decide +kernel) rfl ?_;intro C3 ag;replace H:=H.ext ag;clear ag
  refine ⟨(H.pk [0,1,2,3,4,5,6]),?_⟩
  obtain ⟨C4,hM⟩:=M.e_gd hM;obtain ⟨C5,hM⟩:=M.e_gd hM;obtain ⟨C6,hM⟩:=M.e_gd hM;refine kg 2 ?_;refine t_l2 rfl rfl ?_ ?_
  ·skip
   obtain ⟨cn,H⟩:=H.emptyE
   obtain ⟨dy,lH⟩:∃ r:Raw 2,r.cs=[.slice none 0 0,I 0,I 0]:=⟨Raw.of [.slice none 0 0,I 0,I 0] rfl rfl,rfl⟩
   have f9:RepR (α:=Work) cn.cells (List.replicate 8 dy) (List.replicate 8 (default:Work)):=RepR.rep _ (by rw [lH]; exact ⟨_,rfl,Sl.nil _⟩)
   refine t_mk (α:=Raw 2) T23 dy (by rw [show (Flat.enc dy:List Value)=dy.cs from rfl,lH]; rfl) (n:=8) H rfl rfl (by omega) (by omega) (by omega) ?_;intro C7 C8 H;replace H:=H.nf
   have C9:=Sl.cells (H.os 0)
   have Da:=Sl.oc (H.os 0)
   have Db:=ownSl (H.get (k:=0) rfl)
   refine s_nil ⟨(H.pk [2,3,4,5,6,7,8]),?_⟩
   refine t_l rfl ?_;refine t_bs (α:=Int) T22 [I 0,I 1,I 2,I 3,I 4,I 5,I 6] [(0:Int),(1:Int),(2:Int),(3:Int),(4:Int),(5:Int),(6:Int)] H rfl (.cons rfl (Flat.rep_enc _ (0:Int))<|.cons rfl (Flat.rep_enc _ (1:Int))<|.cons rfl (Flat.rep_enc _ (2:Int))<|.cons rfl (Flat.rep_enc _ (3:Int))<|.cons rfl (Flat.rep_enc _ (4:Int))<|.cons rfl (Flat.rep_enc _ (5:Int))<|.cons rfl (Flat.rep_enc _ (6:Int))<|.nil) rfl rfl rfl ?_;intro v8 Dc H
   have Dd:=Sl.cells (H.os 0)
   have De:=Sl.oc (H.os 0)
   have Df:=ownSl (H.get (k:=0) rfl)
   refine s_nil ⟨(H.pk [3,4,5,6,7,8,9]),?_⟩
   refine t_l rfl ?_
   obtain ⟨cr,v9,ga⟩:=sl_hi T22.und T22.size (H.os 0) (j:=min (s9:Int) 7) (by omega) (by omega)
   replace ga:Sl _ cr (([(0:Int),(1:Int),(2:Int),(3:Int),(4:Int),(5:Int),(6:Int)]).take (Int.toNat (min (s9:Int) 7))):=ga
   refine s_val (x_sl (v:=v8) (u:=cr) (lo':=none) (hi':=some (I (min (s9:Int) 7))) (mx':=none) rfl rfl rfl rfl (v9 _)) ?_
   refine s_nil ⟨(H.pk [3,4,5,6,7,8,9]),?_⟩
   refine t_l rfl<|s_val (x_bld (ps:=[(0,cr)]) (zs:=[.slice none 0 0,I 0,I 0]) (L':=[cr,I 0,I 0]) rfl Tryz.underlying34 Al34 rfl (Bd34 Tryz.underlying34) (.cons (cs:=[cr]) (Sl.cells ga) rfl rfl rfl rfl<|.nil)) ?_
   refine s_nil ⟨(H.pk [3,4,5,6,7,8,9]),?_⟩
   refine t_l rfl ?_
   obtain ⟨gc,H⟩:=H.emptyE
   obtain ⟨gf,H,Dg,wa⟩:=H.freezeV (k:=1) rfl
   replace H:=H.nf
   have wb:=ga.mono wa
   have gg:=wb
   obtain ⟨co,H,Dh,wc⟩:=H.joinE (i:=0) (j:=1) rfl rfl
   replace gg:=gg.mono wc
   obtain ⟨dz,lI⟩:∃ r:Raw 2,r.cs=[cr,I 0,I 0]:=⟨Raw.of [cr,I 0,I 0] rfl (by simp only [List.all_cons,List.all_nil,Bool.true_and,Bool.and_true,Sl.oc gg]; try rfl),rfl⟩
   have wd:RepR (α:=Work) co.cells [dz] [(⟨(([(0:Int),(1:Int),(2:Int),(3:Int),(4:Int),(5:Int),(6:Int)]).take (Int.toNat (min (s9:Int) 7))),(0:Int),(0:Int)⟩:Work)]:=.cons (by rw [lI]; exact ⟨_,rfl,gg⟩)<|.nil
   refine t_bs (α:=Raw 2) T23 [.agg #[cr,I 0,I 0]] [dz] H rfl (.cons (by rw [show (Flat.enc dz:List Value)=dz.cs from rfl,lI]; rfl) (Flat.rep_enc _ _)<|.nil) rfl rfl rfl ?_;intro we Di H;replace H:=H.nf
   have Dj:=Sl.cells (H.os 0)
   have Dk:=Sl.oc (H.os 0)
   have Dl:=ownSl (H.get (k:=0) rfl)
   refine s_nil ⟨(H.pk [6,7,8,9,10,11,12]),?_⟩
   refine t_l rfl ?_
   have gh:=wd
   obtain ⟨gi,H,wf,wg⟩:=H.joinE (i:=5) (j:=1) rfl rfl
   replace f9:=f9.mono wf
   replace gh:=gh.mono wg
   have wh:=f9.app gh
   refine t_app (α:=Raw 2) (k:=5) (l:=List.replicate 8 dy) (l2:=[dz]) (l':=(List.replicate 8 dy)++([dz])) (vy:=we) T23 rfl H rfl rfl rfl (H.os 1) (H.ol 1) (rfl) (by have a_:=f9.len; have b_:=gh.len; (try simp only [List.length_nil] at *); first | omega | (rw [a_,b_]; omega)) ?_;intro lJ Dm H;replace H:=H.nf
   have Dn:=Sl.cells (H.os 5)
   have Do:=Sl.oc (H.os 5)
   have Dp:=ownSl (H.get (k:=5) rfl)
   refine s_nil ⟨(H.pk [7,8,9,10,11,12,13]),?_⟩
   refine kg 2 ?_;replace H:=H.pk [0,5,7,8,9,11,12,13];refine kg 3 ?_;obtain ⟨Dq,wi,hM⟩:=M.e_bind hM;refine s_call cf9 [aS] rfl (zat aP (Reads.sup (rdo 5) (Reads.of (k:=6) rfl roLe)) (rowSl rfl (H.get (k:=5) rfl) (roLe _ (H.get (k:=6) rfl)) bv) wi _ (H.gt 8)) ?_
   rintro vq Dr ⟨aE,rfl,hvq,aC⟩
   subst vq;(try dsimp only at hM);replace H:=H.bk aC;clear aC;refine kg 6 ?_;refine s_val (x_pand (b:=decide (0<(s9:Int))) (r:=decide ((s9:Int)<31)) rfl (fun hb=>gd_of (c:=decide (0<(s9:Int))) (by first | exact hb | (rw [hb]; rfl) | (rw [hg,hb]; rfl) | simp_all) (B (decide ((s9:Int)<31)))) rfl)<|s_val (x_eqb (a:=aE==0) (b:=((decide (0<(s9:Int)))&&(decide ((s9:Int)<31)))) (r:=((aE==0) != ((decide (0<(s9:Int)))&&(decide ((s9:Int)<31))))) rfl rfl Tryz.underlying4 rfl) ?_;refine kg 2 ?_;obtain ⟨aF,wj,hM⟩:=M.e_bind hM;refine t_gcall (!((aE==0) != ((decide (0<(s9:Int)))&&(decide ((s9:Int)<31))))) (gy_f rfl) cf9 (I aF) (fun _=>[lJ]) (fun hg=>lst1 (gd_of hg (lJ))) H (fun hg=>(zat ((List.replicate 8 (default:Work))++([(⟨(([(0:Int),(1:Int),(2:Int),(3:Int),(4:Int),(5:Int),(6:Int)]).take (Int.toNat (min (s9:Int) 7))),(0:Int),(0:Int)⟩:Work)])) (Reads.sup (rdo 1) (Reads.of (k:=0) rfl roLe)) (rowSl rfl (H.get (k:=1) rfl) (roLe _ (H.get (k:=0) rfl)) wh) (M.e_opt wj hg) _ (H.give (A:=[]) rfl)).mono fun v_ w_ ⟨y_,ah,ai,H_⟩=>by subst ah; exact ⟨ai,H.via H_⟩) ?_;intro Dt H;refine kg 3 ?_;refine g_val (!((aE==0) != ((decide (0<(s9:Int)))&&(decide ((s9:Int)<31))))) (gy_f rfl) (fun hg=>x_eqb (a:=aF==0) (b:=decide ((s9:Int)<6)) (r:=((aF==0) != (decide ((s9:Int)<6)))) (gd_of hg (B (aF==0))) (gd_of hg (B (decide ((s9:Int)<6)))) Tryz.underlying4 rfl)<|s_val (x_por (b:=((aE==0) != ((decide (0<(s9:Int)))&&(decide ((s9:Int)<31))))) (r:=((aF==0) != (decide ((s9:Int)<6)))) rfl rfl (fun hb=>gd_of (c:=!((aE==0) != ((decide (0<(s9:Int)))&&(decide ((s9:Int)<31))))) (by first | exact hb | (rw [hb]; rfl) | (rw [hg,hb]; rfl) | simp_all) (B ((aF==0) != (decide ((s9:Int)<6))))))<|s_nil ?_
   refine W.cond (((aE==0) != ((decide (0<(s9:Int)))&&(decide ((s9:Int)<31))))||((aF==0) != (decide ((s9:Int)<6)))) rfl (fun jR=>?_) (fun jR=>?_)
   ·replace hM:=M.e_t hM jR;refine kg 4 ?_;replace H:=H.pk [7];refine W.ret ?_
    have wk:=M.e_inr hM bJ
    subst wk;replace hM:=c8;(try dsimp only at hM)
    have ah:=M.e_pure hM
    exact ⟨_,resE_tmp rfl,⟨false,ah,rfl,(H.pk [])⟩⟩
   replace hM:=M.e_f hM jR;refine kg 5 ?_
   exact ⟨eW,eX,s9+1,_,upds_of _ _ ⟨rfl,trivial⟩,M.e_inl hM bJ,(H.pk [7])⟩
  skip
  refine t_bs (α:=Int) T22 [I 0,I 1,I 2,I 3,I 4,I 5,I 6] [(0:Int),(1:Int),(2:Int),(3:Int),(4:Int),(5:Int),(6:Int)] H rfl (.cons rfl (Flat.rep_enc _ (0:Int))<|.cons rfl (Flat.rep_enc _ (1:Int))<|.cons rfl (Flat.rep_enc _ (2:Int))<|.cons rfl (Flat.rep_enc _ (3:Int))<|.cons rfl (Flat.rep_enc _ (4:Int))<|.cons rfl (Flat.rep_enc _ (5:Int))<|.cons rfl (Flat.rep_enc _ (6:Int))<|.nil) rfl rfl rfl ?_;intro lK Du H
  have Dv:=Sl.cells (H.os 0)
  have Dw:=Sl.oc (H.os 0)
  have Dx:=ownSl (H.get (k:=0) rfl)
  refine s_nil ⟨(H.pk [1,2,3,4,5,6,7]),?_⟩
  refine t_l2 rfl rfl ?_ ?_
  ·skip
   obtain ⟨cn,H⟩:=H.emptyE
   obtain ⟨dA,lL⟩:∃ r:Raw 2,r.cs=[.slice none 0 0,I 0,I 0]:=⟨Raw.of [.slice none 0 0,I 0,I 0] rfl rfl,rfl⟩
   have gj:RepR (α:=Work) cn.cells (List.replicate 8 dA) (List.replicate 8 (default:Work)):=RepR.rep _ (by rw [lL]; exact ⟨_,rfl,Sl.nil _⟩)
   refine t_mk (α:=Raw 2) T23 dA (by rw [show (Flat.enc dA:List Value)=dA.cs from rfl,lL]; rfl) (n:=8) H rfl rfl (by omega) (by omega) (by omega) ?_;intro Dy Dz H;replace H:=H.nf
   have DA:=Sl.cells (H.os 0)
   have DB:=Sl.oc (H.os 0)
   have DC:=ownSl (H.get (k:=0) rfl)
   refine s_nil ⟨(H.pk [3,4,5,6,7,8,9]),?_⟩
   refine t_l rfl ?_
   obtain ⟨ct,wl,gk⟩:=sl_hi T22.und T22.size (H.os 2) (j:=min (s9:Int) 7) (by omega) (by omega)
   replace gk:Sl _ ct (([(0:Int),(1:Int),(2:Int),(3:Int),(4:Int),(5:Int),(6:Int)]).take (Int.toNat (min (s9:Int) 7))):=gk
   refine s_val (x_sl (v:=lK) (u:=ct) (lo':=none) (hi':=some (I (min (s9:Int) 7))) (mx':=none) rfl rfl rfl rfl (wl _)) ?_
   refine s_nil ⟨(H.pk [3,4,5,6,7,8,9]),?_⟩
   refine t_l rfl<|s_val (x_bld (ps:=[(0,ct)]) (zs:=[.slice none 0 0,I 0,I 0]) (L':=[ct,I 0,I 0]) rfl Tryz.underlying34 Al34 rfl (Bd34 Tryz.underlying34) (.cons (cs:=[ct]) (Sl.cells gk) rfl rfl rfl rfl<|.nil)) ?_
   refine s_nil ⟨(H.pk [3,4,5,6,7,8,9]),?_⟩
   refine t_l rfl ?_
   obtain ⟨gc,H⟩:=H.emptyE
   obtain ⟨gf,H,DD,wm⟩:=H.freezeV (k:=3) rfl
   replace H:=H.nf
   have wn:=gk.mono wm
   have gl:=wn
   obtain ⟨co,H,DE,wp⟩:=H.joinE (i:=0) (j:=3) rfl rfl
   replace gl:=gl.mono wp
   obtain ⟨dB,lM⟩:∃ r:Raw 2,r.cs=[ct,I 0,I 0]:=⟨Raw.of [ct,I 0,I 0] rfl (by simp only [List.all_cons,List.all_nil,Bool.true_and,Bool.and_true,Sl.oc gl]; try rfl),rfl⟩
   have wq:RepR (α:=Work) co.cells [dB] [(⟨(([(0:Int),(1:Int),(2:Int),(3:Int),(4:Int),(5:Int),(6:Int)]).take (Int.toNat (min (s9:Int) 7))),(0:Int),(0:Int)⟩:Work)]:=.cons (by rw [lM]; exact ⟨_,rfl,gl⟩)<|.nil
   refine t_bs (α:=Raw 2) T23 [.agg #[ct,I 0,I 0]] [dB] H rfl (.cons (by rw [show (Flat.enc dB:List Value)=dB.cs from rfl,lM]; rfl) (Flat.rep_enc _ _)<|.nil) rfl rfl rfl ?_;intro wr DF H;replace H:=H.nf
   have DG:=Sl.cells (H.os 0)
   have DH:=Sl.oc (H.os 0)
   have DI:=ownSl (H.get (k:=0) rfl)
   refine s_nil ⟨(H.pk [6,7,8,9,10,11,12]),?_⟩
   refine t_l rfl ?_
   have gm:=wq
   obtain ⟨gi,H,ws,wt⟩:=H.joinE (i:=4) (j:=1) rfl rfl
   replace gj:=gj.mono ws
   replace gm:=gm.mono wt
   have wu:=gj.app gm
   refine t_app (α:=Raw 2) (k:=4) (l:=List.replicate 8 dA) (l2:=[dB]) (l':=(List.replicate 8 dA)++([dB])) (vy:=wr) T23 rfl H rfl rfl rfl (H.os 1) (H.ol 1) (rfl) (by have a_:=gj.len; have b_:=gm.len; (try simp only [List.length_nil] at *); first | omega | (rw [a_,b_]; omega)) ?_;intro lN DJ H;replace H:=H.nf
   have DK:=Sl.cells (H.os 4)
   have DL:=Sl.oc (H.os 4)
   have DM:=ownSl (H.get (k:=4) rfl)
   refine s_nil ⟨(H.pk [7,8,9,10,11,12,13]),?_⟩
   refine kg 2 ?_;replace H:=H.pk [0,4,7,8,9,11,12,13];refine kg 3 ?_;obtain ⟨DN,wv,hM⟩:=M.e_bind hM;refine s_call cf9 [aS] rfl (zat aP (Reads.sup (rdo 5) (Reads.of (k:=6) rfl roLe)) (rowSl rfl (H.get (k:=5) rfl) (roLe _ (H.get (k:=6) rfl)) bv) wv _ (H.gt 8)) ?_
   rintro vq DO ⟨aE,rfl,hvq,aC⟩
   subst vq;(try dsimp only at hM);replace H:=H.bk aC;clear aC;refine kg 6 ?_;refine s_val (x_pand (b:=decide (0<(s9:Int))) (r:=decide ((s9:Int)<31)) rfl (fun hb=>gd_of (c:=decide (0<(s9:Int))) (by first | exact hb | (rw [hb]; rfl) | (rw [hg,hb]; rfl) | simp_all) (B (decide ((s9:Int)<31)))) rfl)<|s_val (x_eqb (a:=aE==0) (b:=((decide (0<(s9:Int)))&&(decide ((s9:Int)<31)))) (r:=((aE==0) != ((decide (0<(s9:Int)))&&(decide ((s9:Int)<31))))) rfl rfl Tryz.underlying4 rfl) ?_;refine kg 2 ?_;obtain ⟨aF,ww,hM⟩:=M.e_bind hM;refine t_gcall (!((aE==0) != ((decide (0<(s9:Int)))&&(decide ((s9:Int)<31))))) (gy_f rfl) cf9 (I aF) (fun _=>[lN]) (fun hg=>lst1 (gd_of hg (lN))) H (fun hg=>(zat ((List.replicate 8 (default:Work))++([(⟨(([(0:Int),(1:Int),(2:Int),(3:Int),(4:Int),(5:Int),(6:Int)]).take (Int.toNat (min (s9:Int) 7))),(0:Int),(0:Int)⟩:Work)])) (Reads.sup (rdo 1) (Reads.of (k:=0) rfl roLe)) (rowSl rfl (H.get (k:=1) rfl) (roLe _ (H.get (k:=0) rfl)) wu) (M.e_opt ww hg) _ (H.give (A:=[]) rfl)).mono fun v_ w_ ⟨y_,ah,ai,H_⟩=>by subst ah; exact ⟨ai,H.via H_⟩) ?_;intro DP H;refine kg 3 ?_;refine g_val (!((aE==0) != ((decide (0<(s9:Int)))&&(decide ((s9:Int)<31))))) (gy_f rfl) (fun hg=>x_eqb (a:=aF==0) (b:=decide ((s9:Int)<6)) (r:=((aF==0) != (decide ((s9:Int)<6)))) (gd_of hg (B (aF==0))) (gd_of hg (B (decide ((s9:Int)<6)))) Tryz.underlying4 rfl)<|s_val (x_por (b:=((aE==0) != ((decide (0<(s9:Int)))&&(decide ((s9:Int)<31))))) (r:=((aF==0) != (decide ((s9:Int)<6)))) rfl rfl (fun hb=>gd_of (c:=!((aE==0) != ((decide (0<(s9:Int)))&&(decide ((s9:Int)<31))))) (by first | exact hb | (rw [hb]; rfl) | (rw [hg,hb]; rfl) | simp_all) (B ((aF==0) != (decide ((s9:Int)<6))))))<|s_nil ?_
   refine W.cond (((aE==0) != ((decide (0<(s9:Int)))&&(decide ((s9:Int)<31))))||((aF==0) != (decide ((s9:Int)<6)))) rfl (fun jT=>?_) (fun jT=>?_)
   ·replace hM:=M.e_t hM jT;refine kg 4 ?_;replace H:=H.pk [7];refine W.ret ?_
    have wx:=M.e_inr hM bJ
    subst wx;replace hM:=c8;(try dsimp only at hM)
    have ah:=M.e_pure hM
    exact ⟨_,resE_tmp rfl,⟨false,ah,rfl,(H.pk [])⟩⟩
   replace hM:=M.e_f hM jT;refine kg 5 ?_
   exact ⟨eW,eX,s9+1,_,upds_of _ _ ⟨rfl,trivial⟩,M.e_inl hM bJ,(H.pk [7])⟩
  skip
  obtain ⟨bu,wy,dc⟩:=sl_hi T22.und T22.size (H.os 0) (j:=min (s9:Int) 7) (by omega) (by omega)
  replace dc:Sl _ bu (([(0:Int),(1:Int),(2:Int),(3:Int),(4:Int),(5:Int),(6:Int)]).take (Int.toNat (min (s9:Int) 7))):=dc
  refine s_val (x_sl (v:=lK) (u:=bu) (lo':=none) (hi':=some (I (min (s9:Int) 7))) (mx':=none) rfl rfl rfl rfl (wy _)) ?_
  refine s_nil ⟨(H.pk [1,2,3,4,5,6,7]),?_⟩
  refine t_l2 rfl rfl ?_ ?_
  ·skip
   obtain ⟨cn,H⟩:=H.emptyE
   obtain ⟨dC,lO⟩:∃ r:Raw 2,r.cs=[.slice none 0 0,I 0,I 0]:=⟨Raw.of [.slice none 0 0,I 0,I 0] rfl rfl,rfl⟩
   have gn:RepR (α:=Work) cn.cells (List.replicate 8 dC) (List.replicate 8 (default:Work)):=RepR.rep _ (by rw [lO]; exact ⟨_,rfl,Sl.nil _⟩)
   refine t_mk (α:=Raw 2) T23 dC (by rw [show (Flat.enc dC:List Value)=dC.cs from rfl,lO]; rfl) (n:=8) H rfl rfl (by omega) (by omega) (by omega) ?_;intro DQ DR H;replace H:=H.nf
   have DS:=Sl.cells (H.os 0)
   have DT:=Sl.oc (H.os 0)
   have DU:=ownSl (H.get (k:=0) rfl)
   refine s_nil ⟨(H.pk [3,4,5,6,7,8,9]),?_⟩
   refine t_l rfl<|s_val (x_bld (ps:=[(0,bu)]) (zs:=[.slice none 0 0,I 0,I 0]) (L':=[bu,I 0,I 0]) rfl Tryz.underlying34 Al34 rfl (Bd34 Tryz.underlying34) (.cons (cs:=[bu]) (Sl.cells dc) rfl rfl rfl rfl<|.nil)) ?_
   refine s_nil ⟨(H.pk [3,4,5,6,7,8,9]),?_⟩
   refine t_l rfl ?_
   obtain ⟨gc,H⟩:=H.emptyE
   obtain ⟨gf,H,DV,wz⟩:=H.freezeV (k:=3) rfl
   replace H:=H.nf
   have wA:=dc.mono wz
   have gp:=wA
   obtain ⟨co,H,DW,wB⟩:=H.joinE (i:=0) (j:=3) rfl rfl
   replace gp:=gp.mono wB
   obtain ⟨dD,lP⟩:∃ r:Raw 2,r.cs=[bu,I 0,I 0]:=⟨Raw.of [bu,I 0,I 0] rfl (by simp only [List.all_cons,List.all_nil,Bool.true_and,Bool.and_true,Sl.oc gp]; try rfl),rfl⟩
   have wC:RepR (α:=Work) co.cells [dD] [(⟨(([(0:Int),(1:Int),(2:Int),(3:Int),(4:Int),(5:Int),(6:Int)]).take (Int.toNat (min (s9:Int) 7))),(0:Int),(0:Int)⟩:Work)]:=.cons (by rw [lP]; exact ⟨_,rfl,gp⟩)<|.nil
   refine t_bs (α:=Raw 2) T23 [.agg #[bu,I 0,I 0]] [dD] H rfl (.cons (by rw [show (Flat.enc dD:List Value)=dD.cs from rfl,lP]; rfl) (Flat.rep_enc _ _)<|.nil) rfl rfl rfl ?_;intro wD DX H;replace H:=H.nf
   have DY:=Sl.cells (H.os 0)
   have DZ:=Sl.oc (H.os 0)
   have D0:=ownSl (H.get (k:=0) rfl)
   refine s_nil ⟨(H.pk [6,7,8,9,10,11,12]),?_⟩
   refine t_l rfl ?_
   have gq:=wC
   obtain ⟨gi,H,wE,wF⟩:=H.joinE (i:=4) (j:=1) rfl rfl
   replace gn:=gn.mono wE
   replace gq:=gq.mono wF
   have wG:=gn.app gq
   refine t_app (α:=Raw 2) (k:=4) (l:=List.replicate 8 dC) (l2:=[dD]) (l':=(List.replicate 8 dC)++([dD])) (vy:=wD) T23 rfl H rfl rfl rfl (H.os 1) (H.ol 1) (rfl) (by have a_:=gn.len; have b_:=gq.len; (try simp only [List.length_nil] at *); first | omega | (rw [a_,b_]; omega)) ?_;intro lQ D1 H;replace H:=H.nf
   have D5:=Sl.cells (H.os 4)
   have D6:=Sl.oc (H.os 4)
   have D7:=ownSl (H.get (k:=4) rfl)
   refine s_nil ⟨(H.pk [7,8,9,10,11,12,13]),?_⟩
   refine kg 2 ?_;replace H:=H.pk [0,4,7,8,9,11,12,13];refine kg 3 ?_;obtain ⟨D8,wH,hM⟩:=M.e_bind hM;refine s_call cf9 [aS] rfl (zat aP (Reads.sup (rdo 5) (Reads.of (k:=6) rfl roLe)) (rowSl rfl (H.get (k:=5) rfl) (roLe _ (H.get (k:=6) rfl)) bv) wH _ (H.gt 8)) ?_
   rintro vq D9 ⟨aE,rfl,hvq,aC⟩
   subst vq;(try dsimp only at hM);replace H:=H.bk aC;clear aC;refine kg 6 ?_;refine s_val (x_pand (b:=decide (0<(s9:Int))) (r:=decide ((s9:Int)<31)) rfl (fun hb=>gd_of (c:=decide (0<(s9:Int))) (by first | exact hb | (rw [hb]; rfl) | (rw [hg,hb]; rfl) | simp_all) (B (decide ((s9:Int)<31)))) rfl)<|s_val (x_eqb (a:=aE==0) (b:=((decide (0<(s9:Int)))&&(decide ((s9:Int)<31)))) (r:=((aE==0) != ((decide (0<(s9:Int)))&&(decide ((s9:Int)<31))))) rfl rfl Tryz.underlying4 rfl) ?_;refine kg 2 ?_;obtain ⟨aF,wI,hM⟩:=M.e_bind hM;refine t_gcall (!((aE==0) != ((decide (0<(s9:Int)))&&(decide ((s9:Int)<31))))) (gy_f rfl) cf9 (I aF) (fun _=>[lQ]) (fun hg=>lst1 (gd_of hg (lQ))) H (fun hg=>(zat ((List.replicate 8 (default:Work))++([(⟨(([(0:Int),(1:Int),(2:Int),(3:Int),(4:Int),(5:Int),(6:Int)]).take (Int.toNat (min (s9:Int) 7))),(0:Int),(0:Int)⟩:Work)])) (Reads.sup (rdo 1) (Reads.of (k:=0) rfl roLe)) (rowSl rfl (H.get (k:=1) rfl) (roLe _ (H.get (k:=0) rfl)) wG) (M.e_opt wI hg) _ (H.give (A:=[]) rfl)).mono fun v_ w_ ⟨y_,ah,ai,H_⟩=>by subst ah; exact ⟨ai,H.via H_⟩) ?_;intro Ea H;refine kg 3 ?_;refine g_val (!((aE==0) != ((decide (0<(s9:Int)))&&(decide ((s9:Int)<31))))) (gy_f rfl) (fun hg=>x_eqb (a:=aF==0) (b:=decide ((s9:Int)<6)) (r:=((aF==0) != (decide ((s9:Int)<6)))) (gd_of hg (B (aF==0))) (gd_of hg (B (decide ((s9:Int)<6)))) Tryz.underlying4 rfl)<|s_val (x_por (b:=((aE==0) != ((decide (0<(s9:Int)))&&(decide ((s9:Int)<31))))) (r:=((aF==0) != (decide ((s9:Int)<6)))) rfl rfl (fun hb=>gd_of (c:=!((aE==0) != ((decide (0<(s9:Int)))&&(decide ((s9:Int)<31))))) (by first | exact hb | (rw [hb]; rfl) | (rw [hg,hb]; rfl) | simp_all) (B ((aF==0) != (decide ((s9:Int)<6))))))<|s_nil ?_
   refine W.cond (((aE==0) != ((decide (0<(s9:Int)))&&(decide ((s9:Int)<31))))||((aF==0) != (decide ((s9:Int)<6)))) rfl (fun jW=>?_) (fun jW=>?_)
   ·replace hM:=M.e_t hM jW;refine kg 4 ?_;replace H:=H.pk [7];refine W.ret ?_
    have wJ:=M.e_inr hM bJ
    subst wJ;replace hM:=c8;(try dsimp only at hM)
    have ah:=M.e_pure hM
    exact ⟨_,resE_tmp rfl,⟨false,ah,rfl,(H.pk [])⟩⟩
   replace hM:=M.e_f hM jW;refine kg 5 ?_
   exact ⟨eW,eX,s9+1,_,upds_of _ _ ⟨rfl,trivial⟩,M.e_inl hM bJ,(H.pk [7])⟩
  skip
  refine s_val (x_bld (ps:=[(0,bu)]) (zs:=[.slice none 0 0,I 0,I 0]) (L':=[bu,I 0,I 0]) rfl Tryz.underlying34 Al34 rfl (Bd34 Tryz.underlying34) (.cons (cs:=[bu]) (Sl.cells dc) rfl rfl rfl rfl<|.nil)) ?_
  refine s_nil ⟨(H.pk [1,2,3,4,5,6,7]),?_⟩
  refine t_l2 rfl rfl ?_ ?_
  ·skip
   obtain ⟨cn,H⟩:=H.emptyE
   obtain ⟨dE,lR⟩:∃ r:Raw 2,r.cs=[.slice none 0 0,I 0,I 0]:=⟨Raw.of [.slice none 0 0,I 0,I 0] rfl rfl,rfl⟩
   have gr:RepR (α:=Work) cn.cells (List.replicate 8 dE) (List.replicate 8 (default:Work)):=RepR.rep _ (by rw [lR]; exact ⟨_,rfl,Sl.nil _⟩)
   refine t_mk (α:=Raw 2) T23 dE (by rw [show (Flat.enc dE:List Value)=dE.cs from rfl,lR]; rfl) (n:=8) H rfl rfl (by omega) (by omega) (by omega) ?_;intro Eb Ec H;replace H:=H.nf
   have Ed:=Sl.cells (H.os 0)
   have Ee:=Sl.oc (H.os 0)
   have Ef:=ownSl (H.get (k:=0) rfl)
   refine s_nil ⟨(H.pk [3,4,5,6,7,8,9]),?_⟩
   refine t_l rfl ?_
   obtain ⟨gc,H⟩:=H.emptyE
   obtain ⟨gf,H,Eg,wK⟩:=H.freezeV (k:=3) rfl
   replace H:=H.nf
   have wL:=dc.mono wK
   have gu:=wL
   obtain ⟨co,H,Eh,wM⟩:=H.joinE (i:=0) (j:=3) rfl rfl
   replace gu:=gu.mono wM
   obtain ⟨dF,lS⟩:∃ r:Raw 2,r.cs=[bu,I 0,I 0]:=⟨Raw.of [bu,I 0,I 0] rfl (by simp only [List.all_cons,List.all_nil,Bool.true_and,Bool.and_true,Sl.oc gu]; try rfl),rfl⟩
   have wN:RepR (α:=Work) co.cells [dF] [(⟨(([(0:Int),(1:Int),(2:Int),(3:Int),(4:Int),(5:Int),(6:Int)]).take (Int.toNat (min (s9:Int) 7))),(0:Int),(0:Int)⟩:Work)]:=.cons (by rw [lS]; exact ⟨_,rfl,gu⟩)<|.nil
   refine t_bs (α:=Raw 2) T23 [.agg #[bu,I 0,I 0]] [dF] H rfl (.cons (by rw [show (Flat.enc dF:List Value)=dF.cs from rfl,lS]; rfl) (Flat.rep_enc _ _)<|.nil) rfl rfl rfl ?_;intro wO Ei H;replace H:=H.nf
   have Ej:=Sl.cells (H.os 0)
   have Ek:=Sl.oc (H.os 0)
   have El:=ownSl (H.get (k:=0) rfl)
   refine s_nil ⟨(H.pk [6,7,8,9,10,11,12]),?_⟩
   refine t_l rfl ?_
   have gv:=wN
   obtain ⟨gi,H,wP,wQ⟩:=H.joinE (i:=4) (j:=1) rfl rfl
   replace gr:=gr.mono wP
   replace gv:=gv.mono wQ
   have wR:=gr.app gv
   refine t_app (α:=Raw 2) (k:=4) (l:=List.replicate 8 dE) (l2:=[dF]) (l':=(List.replicate 8 dE)++([dF])) (vy:=wO) T23 rfl H rfl rfl rfl (H.os 1) (H.ol 1) (rfl) (by have a_:=gr.len; have b_:=gv.len; (try simp only [List.length_nil] at *); first | omega | (rw [a_,b_]; omega)) ?_;intro lT Em H;replace H:=H.nf
   have En:=Sl.cells (H.os 4)
   have Eo:=Sl.oc (H.os 4)
   have Ep:=ownSl (H.get (k:=4) rfl)
   refine s_nil ⟨(H.pk [7,8,9,10,11,12,13]),?_⟩
   refine kg 2 ?_;replace H:=H.pk [0,4,7,8,9,11,12,13];refine kg 3 ?_;obtain ⟨Eq,wS,hM⟩:=M.e_bind hM;refine s_call cf9 [aS] rfl (zat aP (Reads.sup (rdo 5) (Reads.of (k:=6) rfl roLe)) (rowSl rfl (H.get (k:=5) rfl) (roLe _ (H.get (k:=6) rfl)) bv) wS _ (H.gt 8)) ?_
   rintro vq Er ⟨aE,rfl,hvq,aC⟩
   subst vq;(try dsimp only at hM);replace H:=H.bk aC;clear aC;refine kg 6 ?_;refine s_val (x_pand (b:=decide (0<(s9:Int))) (r:=decide ((s9:Int)<31)) rfl (fun hb=>gd_of (c:=decide (0<(s9:Int))) (by first | exact hb | (rw [hb]; rfl) | (rw [hg,hb]; rfl) | simp_all) (B (decide ((s9:Int)<31)))) rfl)<|s_val (x_eqb (a:=aE==0) (b:=((decide (0<(s9:Int)))&&(decide ((s9:Int)<31)))) (r:=((aE==0) != ((decide (0<(s9:Int)))&&(decide ((s9:Int)<31))))) rfl rfl Tryz.underlying4 rfl) ?_;refine kg 2 ?_;obtain ⟨aF,wT,hM⟩:=M.e_bind hM;refine t_gcall (!((aE==0) != ((decide (0<(s9:Int)))&&(decide ((s9:Int)<31))))) (gy_f rfl) cf9 (I aF) (fun _=>[lT]) (fun hg=>lst1 (gd_of hg (lT))) H (fun hg=>(zat ((List.replicate 8 (default:Work))++([(⟨(([(0:Int),(1:Int),(2:Int),(3:Int),(4:Int),(5:Int),(6:Int)]).take (Int.toNat (min (s9:Int) 7))),(0:Int),(0:Int)⟩:Work)])) (Reads.sup (rdo 1) (Reads.of (k:=0) rfl roLe)) (rowSl rfl (H.get (k:=1) rfl) (roLe _ (H.get (k:=0) rfl)) wR) (M.e_opt wT hg) _ (H.give (A:=[]) rfl)).mono fun v_ w_ ⟨y_,ah,ai,H_⟩=>by subst ah; exact ⟨ai,H.via H_⟩) ?_;intro Es H;refine kg 3 ?_;refine g_val (!((aE==0) != ((decide (0<(s9:Int)))&&(decide ((s9:Int)<31))))) (gy_f rfl) (fun hg=>x_eqb (a:=aF==0) (b:=decide ((s9:Int)<6)) (r:=((aF==0) != (decide ((s9:Int)<6)))) (gd_of hg (B (aF==0))) (gd_of hg (B (decide ((s9:Int)<6)))) Tryz.underlying4 rfl)<|s_val (x_por (b:=((aE==0) != ((decide (0<(s9:Int)))&&(decide ((s9:Int)<31))))) (r:=((aF==0) != (decide ((s9:Int)<6)))) rfl rfl (fun hb=>gd_of (c:=!((aE==0) != ((decide (0<(s9:Int)))&&(decide ((s9:Int)<31))))) (by first | exact hb | (rw [hb]; rfl) | (rw [hg,hb]; rfl) | simp_all) (B ((aF==0) != (decide ((s9:Int)<6))))))<|s_nil ?_
   refine W.cond (((aE==0) != ((decide (0<(s9:Int)))&&(decide ((s9:Int)<31))))||((aF==0) != (decide ((s9:Int)<6)))) rfl (fun jX=>?_) (fun jX=>?_)
   ·replace hM:=M.e_t hM jX;refine kg 4 ?_;replace H:=H.pk [7];refine W.ret ?_
    have wU:=M.e_inr hM bJ
    subst wU;replace hM:=c8;(try dsimp only at hM)
    have ah:=M.e_pure hM
    exact ⟨_,resE_tmp rfl,⟨false,ah,rfl,(H.pk [])⟩⟩
   replace hM:=M.e_f hM jX;refine kg 5 ?_
   exact ⟨eW,eX,s9+1,_,upds_of _ _ ⟨rfl,trivial⟩,M.e_inl hM bJ,(H.pk [7])⟩
  skip
  obtain ⟨gc,H⟩:=H.emptyE
  obtain ⟨gf,H,Et,wV⟩:=H.freezeV (k:=1) rfl
  replace H:=H.nf
  have wW:=dc.mono wV
  have gw:=wW
  obtain ⟨co,H,Eu,wX⟩:=H.joinE (i:=0) (j:=1) rfl rfl
  replace gw:=gw.mono wX
  obtain ⟨dG,lU⟩:∃ r:Raw 2,r.cs=[bu,I 0,I 0]:=⟨Raw.of [bu,I 0,I 0] rfl (by simp only [List.all_cons,List.all_nil,Bool.true_and,Bool.and_true,Sl.oc gw]; try rfl),rfl⟩
  have wY:RepR (α:=Work) co.cells [dG] [(⟨(([(0:Int),(1:Int),(2:Int),(3:Int),(4:Int),(5:Int),(6:Int)]).take (Int.toNat (min (s9:Int) 7))),(0:Int),(0:Int)⟩:Work)]:=.cons (by rw [lU]; exact ⟨_,rfl,gw⟩)<|.nil
  refine t_bs (α:=Raw 2) T23 [.agg #[bu,I 0,I 0]] [dG] H rfl (.cons (by rw [show (Flat.enc dG:List Value)=dG.cs from rfl,lU]; rfl) (Flat.rep_enc _ _)<|.nil) rfl rfl rfl ?_;intro wZ Ev H;replace H:=H.nf
  have Ew:=Sl.cells (H.os 0)
  have Ex:=Sl.oc (H.os 0)
  have Ey:=ownSl (H.get (k:=0) rfl)
  refine s_nil ⟨(H.pk [4,5,6,7,8,9,10]),?_⟩
  refine t_l rfl ?_
  obtain ⟨cn,H⟩:=H.emptyE
  obtain ⟨dH,lV⟩:∃ r:Raw 2,r.cs=[.slice none 0 0,I 0,I 0]:=⟨Raw.of [.slice none 0 0,I 0,I 0] rfl rfl,rfl⟩
  have gx:RepR (α:=Work) cn.cells (List.replicate 8 dH) (List.replicate 8 (default:Work)):=RepR.rep _ (by rw [lV]; exact ⟨_,rfl,Sl.nil _⟩)
  refine t_mk (α:=Raw 2) T23 dH (by rw [show (Flat.enc dH:List Value)=dH.cs from rfl,lV]; rfl) (n:=8) H rfl rfl (by omega) (by omega) (by omega) ?_;intro Ez EA H;replace H:=H.nf
  have EB:=Sl.cells (H.os 0)
  have EC:=Sl.oc (H.os 0)
  have ED:=ownSl (H.get (k:=0) rfl)
  refine s_nil ⟨(H.pk [6,7,8,9,10,11,12]),?_⟩
  refine t_l rfl ?_
  have gy:=wY
  obtain ⟨gi,H,w4,w5⟩:=H.joinE (i:=1) (j:=3) rfl rfl
  replace gx:=gx.mono w4
  replace gy:=gy.mono w5
  have w6:=gx.app gy
  refine t_app (α:=Raw 2) (k:=1) (l:=List.replicate 8 dH) (l2:=[dG]) (l':=(List.replicate 8 dH)++([dG])) (vy:=wZ) T23 rfl H rfl rfl rfl (H.os 3) (H.ol 3) (rfl) (by have a_:=gx.len; have b_:=gy.len; (try simp only [List.length_nil] at *); first | omega | (rw [a_,b_]; omega)) ?_;intro lW EE H;replace H:=H.nf
  have EF:=Sl.cells (H.os 1)
  have EG:=Sl.oc (H.os 1)
  have EH:=ownSl (H.get (k:=1) rfl)
  refine s_nil ⟨(H.pk [7,8,9,10,11,12,13]),?_⟩
  refine kg 2 ?_;replace H:=H.pk [0,1,7,8,9,11,12,13];refine kg 3 ?_;obtain ⟨EI,w8,hM⟩:=M.e_bind hM;refine s_call cf9 [aS] rfl (zat aP (Reads.sup (rdo 5) (Reads.of (k:=6) rfl roLe)) (rowSl rfl (H.get (k:=5) rfl) (roLe _ (H.get (k:=6) rfl)) bv) w8 _ (H.gt 8)) ?_
  rintro vq EJ ⟨aE,rfl,hvq,aC⟩
  subst vq;(try dsimp only at hM);replace H:=H.bk aC;clear aC;refine kg 6 ?_;refine s_val (x_pand (b:=decide (0<(s9:Int))) (r:=decide ((s9:Int)<31)) rfl (fun hb=>gd_of (c:=decide (0<(s9:Int))) (by first | exact hb | (rw [hb]; rfl) | (rw [hg,hb]; rfl) | simp_all) (B (decide ((s9:Int)<31)))) rfl)<|s_val (x_eqb (a:=aE==0) (b:=((decide (0<(s9:Int)))&&(decide ((s9:Int)<31)))) (r:=((aE==0) != ((decide (0<(s9:Int)))&&(decide ((s9:Int)<31))))) rfl rfl Tryz.underlying4 rfl) ?_;refine kg 2 ?_;obtain ⟨aF,w9,hM⟩:=M.e_bind hM;refine t_gcall (!((aE==0) != ((decide (0<(s9:Int)))&&(decide ((s9:Int)<31))))) (gy_f rfl) cf9 (I aF) (fun _=>[lW]) (fun hg=>lst1 (gd_of hg (lW))) H (fun hg=>(zat ((List.replicate 8 (default:Work))++([(⟨(([(0:Int),(1:Int),(2:Int),(3:Int),(4:Int),(5:Int),(6:Int)]).take (Int.toNat (min (s9:Int) 7))),(0:Int),(0:Int)⟩:Work)])) (Reads.sup (rdo 1) (Reads.of (k:=0) rfl roLe)) (rowSl rfl (H.get (k:=1) rfl) (roLe _ (H.get (k:=0) rfl)) w6) (M.e_opt w9 hg) _ (H.give (A:=[]) rfl)).mono fun v_ w_ ⟨y_,ah,ai,H_⟩=>by subst ah; exact ⟨ai,H.via H_⟩) ?_;intro EK H;refine kg 3 ?_;refine g_val (!((aE==0) != ((decide (0<(s9:Int)))&&(decide ((s9:Int)<31))))) (gy_f rfl) (fun hg=>x_eqb (a:=aF==0) (b:=decide ((s9:Int)<6)) (r:=((aF==0) != (decide ((s9:Int)<6)))) (gd_of hg (B (aF==0))) (gd_of hg (B (decide ((s9:Int)<6)))) Tryz.underlying4 rfl)<|s_val (x_por (b:=((aE==0) != ((decide (0<(s9:Int)))&&(decide ((s9:Int)<31))))) (r:=((aF==0) != (decide ((s9:Int)<6)))) rfl rfl (fun hb=>gd_of (c:=!((aE==0) != ((decide (0<(s9:Int)))&&(decide ((s9:Int)<31))))) (by first | exact hb | (rw [hb]; rfl) | (rw [hg,hb]; rfl) | simp_all) (B ((aF==0) != (decide ((s9:Int)<6))))))<|s_nil ?_
  refine W.cond (((aE==0) != ((decide (0<(s9:Int)))&&(decide ((s9:Int)<31))))||((aF==0) != (decide ((s9:Int)<6)))) rfl (fun jY=>?_) (fun jY=>?_)
  ·replace hM:=M.e_t hM jY;refine kg 4 ?_;replace H:=H.pk [7];refine W.ret ?_
   have xa:=M.e_inr hM bJ
   subst xa;replace hM:=c8;(try dsimp only at hM)
   have ah:=M.e_pure hM
   exact ⟨_,resE_tmp rfl,⟨false,ah,rfl,(H.pk [])⟩⟩
  replace hM:=M.e_f hM jY;refine kg 5 ?_
  exact ⟨eW,eX,s9+1,_,upds_of _ _ ⟨rfl,trivial⟩,M.e_inl hM bJ,(H.pk [7])⟩
 replace hM:=M.e_f hM c9
 replace c9:=dI c9
 refine W.exit ?_
 have xb:=M.e_inr hM bJ
 subst xb;replace hM:=c8;(try dsimp only at hM);obtain ⟨EL,hM⟩:=M.e_gd hM;refine kg 2 ?_;refine t_mk (α:=Note) T27 (default:Note) rfl (n:=201) H rfl rfl (by omega) (by omega) (by omega) ?_;intro cu EM H;replace H:=H.nf;obtain ⟨EO,hM⟩:=M.e_gd hM;refine kg 4 ?_;refine t_mk (α:=Pub) T30 (default:Pub) rfl (n:=201) H rfl rfl (by omega) (by omega) (by omega) ?_;intro cp EP H;replace H:=H.nf;refine kg 3 ?_;refine W.draw (fun W=>St w W [cOwn (α:=Pub) 29 cp (List.replicate 201 (default:Pub)),cOwn (α:=Note) 26 cu (List.replicate 201 (default:Note)),cOwn (α:=Int) 3 bn (vl28)] R) [(1,true),(0,false),(2,false),(3,true),(5,true),(6,true),(7,true),(4,false),(8,false),(9,true),(10,true),(12,true),(13,true),(14,true),(15,true),(11,false),(16,false),(17,true),(18,true),(19,false),(20,true),(21,true)] mixed (by decide +kernel) rfl ?_;intro EQ ag;replace H:=H.ext ag;clear ag
 refine ⟨(H.pk [0,1,2]),?_⟩
 refine kg 1 ?_;refine d_l rfl ?_;obtain ⟨ER,xc,hM⟩:=M.e_bind hM;refine s_call cf4 [] rfl (zan xc _ (H.gt 3)) ?_
 rintro vq ES ⟨xd,xe,ET,EU,rfl,hvq,aC,xf⟩
 subst vq;(try dsimp only at hM);replace H:=H.bk aC;clear aC
 have EV:=Sl.cells (H.os 0)
 have EW:=Sl.oc (H.os 0)
 have EX:=ownSl (H.get (k:=0) rfl)
 refine s_nil ⟨(H.pk [2,3,4]),?_⟩
 refine d_l rfl ?_;obtain ⟨EY,xg,hM⟩:=M.e_bind hM;refine s_call cf6 [xe,cu,.slice none 0 0] rfl (zau xd (List.replicate 201 (default:Note)) ([]:List Pub) (Reads.sup (rdo 0) (Reads.of (k:=1) rfl roLe)) (rowSl rfl (H.get (k:=0) rfl) (roLe _ (H.get (k:=1) rfl)) xf) (rdo 3) (H.os 3) Reads.none (Sl.nil (fun _=>none)) xg _ (H.gt 5)) ?_
 rintro vq EZ ⟨ao,rfl,hvq,aC⟩
 subst vq;(try dsimp only at hM);replace H:=H.bk aC;clear aC
 refine s_nil ⟨(H.pk [2,3,4]),?_⟩
 obtain ⟨e0,hM⟩:=M.e_grd hM
 replace e0:=M.imp_of e0
 simp only [Bool.and_eq_true,decide_eq_true_eq] at e0
 refine kg 2 ?_
 obtain ⟨dJ,xh,gz⟩:=gd_ex (c:=ao) fun hg=>sl_lo T27.und T27.size (H.os 3) (i:=1) (by have aa:=e0.resolve_left (by rw [hg]; decide); first | exact aa | exact aa.1 | exact aa.2 | omega | (have ag:=hg; simp at ag; omega)) (by have aa:=e0.resolve_left (by rw [hg]; decide); first | exact aa | exact aa.1 | exact aa.2 | omega | (have ag:=hg; simp at ag; omega))
 replace gz:ao=true->Sl _ dJ ((List.replicate 201 (default:Note)).drop 1):=gz
 refine d_qg ao rfl (gy_t rfl) (fun hg=>(fun w' H=>x_sl (v:=cu) (u:=dJ) (lo':=some (I 1)) (hi':=none) (mx':=none) (gd_of hg (cu)) rfl rfl rfl (xh hg _))) ?_;refine kg 1 ?_;refine d_l rfl ?_
 refine g_splitV ao (.slice none 0 0) (gy_t rfl) (fun bR=>?_) (fun bR=>?_)
 ·replace hM:=M.e_t hM bR;obtain ⟨E0,xi,hM⟩:=M.e_bind hM;refine s_call cf4 [] rfl (zan xi _ (H.gt 5)) ?_
  rintro vq E1 ⟨xj,xk,E2,E3,rfl,hvq,aC,xl⟩
  subst vq;(try dsimp only at hM);replace H:=H.bk aC;clear aC
  have E4:=Sl.cells (H.os 0)
  have E5:=Sl.oc (H.os 0)
  have E6:=ownSl (H.get (k:=0) rfl)
  refine s_nil ⟨(H.pk [4,5,6]),?_⟩
  refine d_l rfl ?_;obtain ⟨ap,xm,hM⟩:=M.e_bind hM;refine t_gcall ao (gy_t rfl) cf6 (B ap) (fun _=>[xk,dJ,cp]) (fun hg=>lst3 rfl (gd_of hg (dJ)) (gd_of hg (cp))) H (fun hg=>(zau xj ((List.replicate 201 (default:Note)).drop 1) (List.replicate 201 (default:Pub)) (Reads.sup (rdo 0) (Reads.of (k:=1) rfl roLe)) (rowSl rfl (H.get (k:=0) rfl) (roLe _ (H.get (k:=1) rfl)) xl) (rdo 5) (gz hg) (rdo 4) (H.os 4) (M.e_opt xm hg) _ (H.give (A:=[]) rfl)).mono fun v_ w_ ⟨y_,ah,ai,H_⟩=>by subst ah; exact ⟨ai,H.via H_⟩) ?_;intro E7 H
  refine s_nil ⟨(H.pk [4,5,6]),?_⟩
  refine d_q rfl (fun w' H=>x_pand (b:=ao) (r:=ap) rfl (fun hb=>gd_of (c:=ao) (by first | exact hb | (rw [hb]; rfl) | (rw [hg,hb]; rfl) | simp_all) (B ap)) rfl) ?_;obtain ⟨dd,hM⟩:=M.e_grd hM
  replace dd:=M.imp_of dd
  simp only [Bool.and_eq_true,decide_eq_true_eq] at dd
  refine kg 2 ?_
  obtain ⟨dK,xn,gA⟩:=gd_ex (c:=(ao&&ap)) fun hg=>sl_lo T27.und T27.size (H.os 5) (i:=1) (by have aa:=dd.resolve_left (by rw [hg]; decide); first | exact aa | exact aa.1 | exact aa.2 | omega | (have ag:=hg; simp at ag; omega)) (by have aa:=dd.resolve_left (by rw [hg]; decide); first | exact aa | exact aa.1 | exact aa.2 | omega | (have ag:=hg; simp at ag; omega))
  replace gA:(ao&&ap)=true->Sl _ dK ((List.replicate 201 (default:Note)).drop 1):=gA
  refine d_qg (ao&&ap) rfl (gy_t rfl) (fun hg=>(fun w' H=>x_sl (v:=cu) (u:=dK) (lo':=some (I 1)) (hi':=none) (mx':=none) (gd_of hg (cu)) rfl rfl rfl (xn hg _))) ?_;obtain ⟨e3,hM⟩:=M.e_grd hM
  replace e3:=M.imp_of e3
  simp only [Bool.and_eq_true,decide_eq_true_eq] at e3
  refine kg 1 ?_
  obtain ⟨dL,xo,gB⟩:=gd_ex (c:=(ao&&ap)) fun hg=>sl_lo T30.und T30.size (H.os 4) (i:=1) (by have aa:=dd.resolve_left (by rw [hg]; decide); have ab:=e3.resolve_left (by rw [hg]; decide); first | exact aa | exact aa.1 | exact aa.2 | exact ab | exact ab.1 | exact ab.2 | omega | (have ag:=hg; simp at ag; omega)) (by have aa:=dd.resolve_left (by rw [hg]; decide); have ab:=e3.resolve_left (by rw [hg]; decide); first | exact aa | exact aa.1 | exact aa.2 | exact ab | exact ab.1 | exact ab.2 | omega | (have ag:=hg; simp at ag; omega))
  replace gB:(ao&&ap)=true->Sl _ dL ((List.replicate 201 (default:Pub)).drop 1):=gB
  refine d_qg (ao&&ap) rfl (gy_t rfl) (fun hg=>(fun w' H=>x_sl (v:=cp) (u:=dL) (lo':=some (I 1)) (hi':=none) (mx':=none) (gd_of hg (cp)) rfl rfl rfl (xo hg _)))<|d_l rfl ?_
  refine g_splitV (ao&&ap) (.slice none 0 0) (gy_t rfl) (fun bR=>?_) (fun bR=>?_)
  ·replace hM:=M.e_t hM bR;obtain ⟨E8,xp,hM⟩:=M.e_bind hM;refine s_call cf4 [] rfl (zan xp _ (H.gt 7)) ?_
   rintro vq E9 ⟨jZ,j0,xq,xr,rfl,hvq,aC,xt⟩
   subst vq;(try dsimp only at hM);replace H:=H.bk aC;clear aC
   have Fa:=Sl.cells (H.os 0)
   have Fb:=Sl.oc (H.os 0)
   have Fc:=ownSl (H.get (k:=0) rfl)
   refine s_nil ⟨(H.pk [6,7,8]),?_⟩
   refine d_l rfl ?_;obtain ⟨aK,xu,hM⟩:=M.e_bind hM;refine t_gcall (ao&&ap) (gy_t rfl) cf6 (B aK) (fun _=>[j0,dK,dL]) (fun hg=>lst3 rfl (gd_of hg (dK)) (gd_of hg (dL))) H (fun hg=>(zau jZ ((List.replicate 201 (default:Note)).drop 1) ((List.replicate 201 (default:Pub)).drop 1) (Reads.sup (rdo 0) (Reads.of (k:=1) rfl roLe)) (rowSl rfl (H.get (k:=0) rfl) (roLe _ (H.get (k:=1) rfl)) xt) (rdo 7) (gA hg) (rdo 6) (gB hg) (M.e_opt xu hg) _ (H.give (A:=[]) rfl)).mono fun v_ w_ ⟨y_,ah,ai,H_⟩=>by subst ah; exact ⟨ai,H.via H_⟩) ?_;intro Fd H
   refine s_nil ⟨(H.pk [6,7,8]),?_⟩
   refine d_q rfl (fun w' H=>x_pand (b:=(ao&&ap)) (r:=aK) rfl (fun hb=>gd_of (c:=(ao&&ap)) (by first | exact hb | (rw [hb]; rfl) | (rw [hg,hb]; rfl) | simp_all) (B aK)) rfl) ?_;refine kg 1 ?_;refine d_l rfl ?_;obtain ⟨br,xv,hM⟩:=M.e_bind hM;refine t_gcall ((ao&&ap)&&aK) (gy_t rfl) cf10 (B br) (fun _=>[]) (fun _=>rfl) H (fun hg=>(zar (M.e_opt xv hg) _ (H.give (A:=[]) rfl)).mono fun v_ w_ ⟨y_,ah,ai,H_⟩=>by subst ah; exact ⟨ai,H.via H_⟩) ?_;intro Fe H
   refine s_nil ⟨(H.pk [6,7,8]),?_⟩
   refine d_q rfl (fun w' H=>x_pand (b:=((ao&&ap)&&aK)) (r:=br) rfl (fun hb=>gd_of (c:=((ao&&ap)&&aK)) (by first | exact hb | (rw [hb]; rfl) | (rw [hg,hb]; rfl) | simp_all) (B br)) rfl) ?_;refine kg 2 ?_;replace H:=H.pk [];refine W.ret ?_
   have ah:=M.e_pure hM
   exact ⟨_,resE_tmp rfl,⟨(((ao&&ap)&&aK)&&br),ah,rfl,H⟩⟩
  replace hM:=M.e_f hM bR
  refine s_nil ⟨(H.pk [4,5,6]),?_⟩
  refine d_l rfl ?_;obtain ⟨aK,xw,hM⟩:=M.e_bind hM;refine t_gcall (ao&&ap) (gy_t rfl) cf6 (B aK) (fun _=>[.slice none 0 0,dK,dL]) (fun hg=>lst3 (gd_of hg (.slice none 0 0)) (gd_of hg (dK)) (gd_of hg (dL))) H (fun hg=>(zau ([]:List Work) ((List.replicate 201 (default:Note)).drop 1) ((List.replicate 201 (default:Pub)).drop 1) Reads.none (Sl.nil (fun _=>none)) (rdo 5) (gA hg) (rdo 4) (gB hg) (M.e_opt xw hg) _ (H.give (A:=[]) rfl)).mono fun v_ w_ ⟨y_,ah,ai,H_⟩=>by subst ah; exact ⟨ai,H.via H_⟩) ?_;intro Ff H
  refine s_nil ⟨(H.pk [4,5,6]),?_⟩
  refine d_q rfl (fun w' H=>x_pand (b:=(ao&&ap)) (r:=aK) rfl (fun hb=>gd_of (c:=(ao&&ap)) (by first | exact hb | (rw [hb]; rfl) | (rw [hg,hb]; rfl) | simp_all) (B aK)) rfl) ?_;refine kg 1 ?_;refine d_l rfl ?_;obtain ⟨br,xx,hM⟩:=M.e_bind hM;refine t_gcall ((ao&&ap)&&aK) (gy_t rfl) cf10 (B br) (fun _=>[]) (fun _=>rfl) H (fun hg=>(zar (M.e_opt xx hg) _ (H.give (A:=[]) rfl)).mono fun v_ w_ ⟨y_,ah,ai,H_⟩=>by subst ah; exact ⟨ai,H.via H_⟩) ?_;intro Fg H
  refine s_nil ⟨(H.pk [4,5,6]),?_⟩
  refine d_q rfl (fun w' H=>x_pand (b:=((ao&&ap)&&aK)) (r:=br) rfl (fun hb=>gd_of (c:=((ao&&ap)&&aK)) (by first | exact hb | (rw [hb]; rfl) | (rw [hg,hb]; rfl) | simp_all) (B br)) rfl) ?_;refine kg 2 ?_;replace H:=H.pk [];refine W.ret ?_
  have ah:=M.e_pure hM
  exact ⟨_,resE_tmp rfl,⟨(((ao&&ap)&&aK)&&br),ah,rfl,H⟩⟩
 replace hM:=M.e_f hM bR
 refine s_nil ⟨(H.pk [2,3,4]),?_⟩
 refine d_l rfl ?_;obtain ⟨ap,xy,hM⟩:=M.e_bind hM;refine t_gcall ao (gy_t rfl) cf6 (B ap) (fun _=>[.slice none 0 0,dJ,cp]) (fun hg=>lst3 (gd_of hg (.slice none 0 0)) (gd_of hg (dJ)) (gd_of hg (cp))) H (fun hg=>(zau ([]:List Work) ((List.replicate 201 (default:Note)).drop 1) (List.replicate 201 (default:Pub)) Reads.none (Sl.nil (fun _=>none)) (rdo 3) (gz hg) (rdo 2) (H.os 2) (M.e_opt xy hg) _ (H.give (A:=[]) rfl)).mono fun v_ w_ ⟨y_,ah,ai,H_⟩=>by subst ah; exact ⟨ai,H.via H_⟩) ?_;intro Fh H
 refine s_nil ⟨(H.pk [2,3,4]),?_⟩
 refine d_q rfl (fun w' H=>x_pand (b:=ao) (r:=ap) rfl (fun hb=>gd_of (c:=ao) (by first | exact hb | (rw [hb]; rfl) | (rw [hg,hb]; rfl) | simp_all) (B ap)) rfl) ?_;obtain ⟨dg,hM⟩:=M.e_grd hM
 replace dg:=M.imp_of dg
 simp only [Bool.and_eq_true,decide_eq_true_eq] at dg
 refine kg 2 ?_
 obtain ⟨dM,xz,gC⟩:=gd_ex (c:=(ao&&ap)) fun hg=>sl_lo T27.und T27.size (H.os 3) (i:=1) (by have aa:=dg.resolve_left (by rw [hg]; decide); first | exact aa | exact aa.1 | exact aa.2 | omega | (have ag:=hg; simp at ag; omega)) (by have aa:=dg.resolve_left (by rw [hg]; decide); first | exact aa | exact aa.1 | exact aa.2 | omega | (have ag:=hg; simp at ag; omega))
 replace gC:(ao&&ap)=true->Sl _ dM ((List.replicate 201 (default:Note)).drop 1):=gC
 refine d_qg (ao&&ap) rfl (gy_t rfl) (fun hg=>(fun w' H=>x_sl (v:=cu) (u:=dM) (lo':=some (I 1)) (hi':=none) (mx':=none) (gd_of hg (cu)) rfl rfl rfl (xz hg _))) ?_;obtain ⟨e4,hM⟩:=M.e_grd hM
 replace e4:=M.imp_of e4
 simp only [Bool.and_eq_true,decide_eq_true_eq] at e4
 refine kg 1 ?_
 obtain ⟨dN,xA,gD⟩:=gd_ex (c:=(ao&&ap)) fun hg=>sl_lo T30.und T30.size (H.os 2) (i:=1) (by have aa:=dg.resolve_left (by rw [hg]; decide); have ab:=e4.resolve_left (by rw [hg]; decide); first | exact aa | exact aa.1 | exact aa.2 | exact ab | exact ab.1 | exact ab.2 | omega | (have ag:=hg; simp at ag; omega)) (by have aa:=dg.resolve_left (by rw [hg]; decide); have ab:=e4.resolve_left (by rw [hg]; decide); first | exact aa | exact aa.1 | exact aa.2 | exact ab | exact ab.1 | exact ab.2 | omega | (have ag:=hg; simp at ag; omega))
 replace gD:(ao&&ap)=true->Sl _ dN ((List.replicate 201 (default:Pub)).drop 1):=gD
 refine d_qg (ao&&ap) rfl (gy_t rfl) (fun hg=>(fun w' H=>x_sl (v:=cp) (u:=dN) (lo':=some (I 1)) (hi':=none) (mx':=none) (gd_of hg (cp)) rfl rfl rfl (xA hg _)))<|d_l rfl ?_
 refine g_splitV (ao&&ap) (.slice none 0 0) (gy_t rfl) (fun bR=>?_) (fun bR=>?_)
 ·replace hM:=M.e_t hM bR;obtain ⟨Fi,xB,hM⟩:=M.e_bind hM;refine s_call cf4 [] rfl (zan xB _ (H.gt 5)) ?_
  rintro vq Fj ⟨jZ,j0,xq,xr,rfl,hvq,aC,xC⟩
  subst vq;(try dsimp only at hM);replace H:=H.bk aC;clear aC
  have Fk:=Sl.cells (H.os 0)
  have Fl:=Sl.oc (H.os 0)
  have Fm:=ownSl (H.get (k:=0) rfl)
  refine s_nil ⟨(H.pk [4,5,6]),?_⟩
  refine d_l rfl ?_;obtain ⟨aK,xD,hM⟩:=M.e_bind hM;refine t_gcall (ao&&ap) (gy_t rfl) cf6 (B aK) (fun _=>[j0,dM,dN]) (fun hg=>lst3 rfl (gd_of hg (dM)) (gd_of hg (dN))) H (fun hg=>(zau jZ ((List.replicate 201 (default:Note)).drop 1) ((List.replicate 201 (default:Pub)).drop 1) (Reads.sup (rdo 0) (Reads.of (k:=1) rfl roLe)) (rowSl rfl (H.get (k:=0) rfl) (roLe _ (H.get (k:=1) rfl)) xC) (rdo 5) (gC hg) (rdo 4) (gD hg) (M.e_opt xD hg) _ (H.give (A:=[]) rfl)).mono fun v_ w_ ⟨y_,ah,ai,H_⟩=>by subst ah; exact ⟨ai,H.via H_⟩) ?_;intro Fo H
  refine s_nil ⟨(H.pk [4,5,6]),?_⟩
  refine d_q rfl (fun w' H=>x_pand (b:=(ao&&ap)) (r:=aK) rfl (fun hb=>gd_of (c:=(ao&&ap)) (by first | exact hb | (rw [hb]; rfl) | (rw [hg,hb]; rfl) | simp_all) (B aK)) rfl) ?_;refine kg 1 ?_;refine d_l rfl ?_;obtain ⟨br,xE,hM⟩:=M.e_bind hM;refine t_gcall ((ao&&ap)&&aK) (gy_t rfl) cf10 (B br) (fun _=>[]) (fun _=>rfl) H (fun hg=>(zar (M.e_opt xE hg) _ (H.give (A:=[]) rfl)).mono fun v_ w_ ⟨y_,ah,ai,H_⟩=>by subst ah; exact ⟨ai,H.via H_⟩) ?_;intro Fp H
  refine s_nil ⟨(H.pk [4,5,6]),?_⟩
  refine d_q rfl (fun w' H=>x_pand (b:=((ao&&ap)&&aK)) (r:=br) rfl (fun hb=>gd_of (c:=((ao&&ap)&&aK)) (by first | exact hb | (rw [hb]; rfl) | (rw [hg,hb]; rfl) | simp_all) (B br)) rfl) ?_;refine kg 2 ?_;replace H:=H.pk [];refine W.ret ?_
  have ah:=M.e_pure hM
  exact ⟨_,resE_tmp rfl,⟨(((ao&&ap)&&aK)&&br),ah,rfl,H⟩⟩
 replace hM:=M.e_f hM bR
 refine s_nil ⟨(H.pk [2,3,4]),?_⟩
 refine d_l rfl ?_;obtain ⟨aK,xF,hM⟩:=M.e_bind hM;refine t_gcall (ao&&ap) (gy_t rfl) cf6 (B aK) (fun _=>[.slice none 0 0,dM,dN]) (fun hg=>lst3 (gd_of hg (.slice none 0 0)) (gd_of hg (dM)) (gd_of hg (dN))) H (fun hg=>(zau ([]:List Work) ((List.replicate 201 (default:Note)).drop 1) ((List.replicate 201 (default:Pub)).drop 1) Reads.none (Sl.nil (fun _=>none)) (rdo 3) (gC hg) (rdo 2) (gD hg) (M.e_opt xF hg) _ (H.give (A:=[]) rfl)).mono fun v_ w_ ⟨y_,ah,ai,H_⟩=>by subst ah; exact ⟨ai,H.via H_⟩) ?_;intro Fq H
 refine s_nil ⟨(H.pk [2,3,4]),?_⟩
 refine d_q rfl (fun w' H=>x_pand (b:=(ao&&ap)) (r:=aK) rfl (fun hb=>gd_of (c:=(ao&&ap)) (by first | exact hb | (rw [hb]; rfl) | (rw [hg,hb]; rfl) | simp_all) (B aK)) rfl) ?_;refine kg 1 ?_;refine d_l rfl ?_;obtain ⟨br,xG,hM⟩:=M.e_bind hM;refine t_gcall ((ao&&ap)&&aK) (gy_t rfl) cf10 (B br) (fun _=>[]) (fun _=>rfl) H (fun hg=>(zar (M.e_opt xG hg) _ (H.give (A:=[]) rfl)).mono fun v_ w_ ⟨y_,ah,ai,H_⟩=>by subst ah; exact ⟨ai,H.via H_⟩) ?_;intro Fs H
 refine s_nil ⟨(H.pk [2,3,4]),?_⟩
 refine d_q rfl (fun w' H=>x_pand (b:=((ao&&ap)&&aK)) (r:=br) rfl (fun hb=>gd_of (c:=((ao&&ap)&&aK)) (by first | exact hb | (rw [hb]; rfl) | (rw [hg,hb]; rfl) | simp_all) (B br)) rfl) ?_;refine kg 2 ?_;replace H:=H.pk [];refine W.ret ?_
 have ah:=M.e_pure hM
 exact ⟨_,resE_tmp rfl,⟨(((ao&&ap)&&aK)&&br),ah,rfl,H⟩⟩

end Go.Proofs.YtkclldpnmolljaaGreat
end
