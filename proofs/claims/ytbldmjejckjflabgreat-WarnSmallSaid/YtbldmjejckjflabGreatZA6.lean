/- Part 6 of the texts on which the proof rests. Conditions: none. -/
import Derived.Test.YtbldmjejckjflabGreatZA5
set_option linter.unusedVariables false
set_option linter.unusedSimpArgs false
set_option linter.unusedSectionVars false
section
set_option maxRecDepth 100000
set_option maxHeartbeats 16000000
namespace Go.Proofs.YtbldmjejckjflabGreat
open Go Go.Nm
attribute [local irreducible] gd execOp SL SLD SLT WR
theorem zez {R:List Chunk}    {r:Bool} (hM:(zbS).Ends r) (w:World) (H:St w w [] R):Ret Tryz.prog 3 #[] w fun v w'=>∃ (y0:Bool),y0=r/\v=B y0/\St w w' [] R:=by
 refine ret_of_W Tryz.func3 rfl rfl rfl ?_;refine kg 7 ?_;refine t_bs (α:=Int) T22 [I (-2),I (-1),I 0,I 1,I 2,I 3,I 4,I 5,I 6,I 7,I 8,I 11,I 12,I 63,I 64,I 65,I 240,I 250,I 251,I 300,I 301,I 310,I 1000,I 1001,I 2000,I 2001,I 2002,I 9223372036854775807,I (-9223372036854775808)] vl29 H rfl (.cons rfl (Flat.rep_enc _ (-2:Int))<|.cons rfl (Flat.rep_enc _ (-1:Int))<|.cons rfl (Flat.rep_enc _ (0:Int))<|.cons rfl (Flat.rep_enc _ (1:Int))<|.cons rfl (Flat.rep_enc _ (2:Int))<|.cons rfl (Flat.rep_enc _ (3:Int))<|.cons rfl (Flat.rep_enc _ (4:Int))<|.cons rfl (Flat.rep_enc _ (5:Int))<|.cons rfl (Flat.rep_enc _ (6:Int))<|.cons rfl (Flat.rep_enc _ (7:Int))<|.cons rfl (Flat.rep_enc _ (8:Int))<|.cons rfl (Flat.rep_enc _ (11:Int))<|.cons rfl (Flat.rep_enc _ (12:Int))<|.cons rfl (Flat.rep_enc _ (63:Int))<|.cons rfl (Flat.rep_enc _ (64:Int))<|.cons rfl (Flat.rep_enc _ (65:Int))<|.cons rfl (Flat.rep_enc _ (240:Int))<|.cons rfl (Flat.rep_enc _ (250:Int))<|.cons rfl (Flat.rep_enc _ (251:Int))<|.cons rfl (Flat.rep_enc _ (300:Int))<|.cons rfl (Flat.rep_enc _ (301:Int))<|.cons rfl (Flat.rep_enc _ (310:Int))<|.cons rfl (Flat.rep_enc _ (1000:Int))<|.cons rfl (Flat.rep_enc _ (1001:Int))<|.cons rfl (Flat.rep_enc _ (2000:Int))<|.cons rfl (Flat.rep_enc _ (2001:Int))<|.cons rfl (Flat.rep_enc _ (2002:Int))<|.cons rfl (Flat.rep_enc _ (9223372036854775807:Int))<|.cons rfl (Flat.rep_enc _ (-9223372036854775808:Int))<|.nil) rfl rfl rfl ?_;intro ap uJ H
 have uK:=((H.os 0)).len_le
 refine kg 4 ?_;obtain ⟨ll,gG,jI⟩:=M.e_bind hM
 obtain ⟨ct,gG⟩:=M.e_iter gG
 refine W.loop (fun m σ W=>∃ (ah:Nat) (ρ:Env),σ=upds ρ [(35,ap),(36,I (vl29.length:Int)),(37,I (ah:Int))]/\M.iterN (zea) m ah=some ll/\St w W [cOwn (α:=Int) 3 ap vl29] R) ?_ ?_
 ·exact ⟨_,0,_,upds_of _ _ ⟨rfl,rfl,rfl,trivial⟩,gG,H⟩
 rintro uL σ uM ⟨ah,ρ,rfl,jJ,H⟩
 obtain ⟨lm,ln,uN,hM,gH⟩:=M.e_iterN jJ
 clear jJ;refine kg 5 ?_
 refine W.cond (decide ((ah:Int)<(vl29.length:Int))) rfl (fun cM=>?_) (fun cM=>?_)
 ·replace hM:=M.e_t hM cM
  replace cM:=dI cM
  obtain ⟨uO,hM⟩:=M.e_gd hM;refine kg 14 ?_;obtain ⟨lp,gI,jK⟩:=M.e_bind hM
  obtain ⟨ct,gI⟩:=M.e_iter gI
  refine W.loop (fun m σ W=>∃ (n:Nat) (ρ:Env),σ=upds ρ [(2,I (vl29.getD ah 0)),(3,I (n:Int)),(35,ap),(36,I (vl29.length:Int)),(37,I (ah:Int))]/\M.iterN (zcZ ah) m n=some lp/\St w W [cOwn (α:=Int) 3 ap vl29] R) ?_ ?_
  ·exact ⟨_,0,_,upds_of _ _ ⟨rfl,rfl,rfl,rfl,rfl,trivial⟩,gI,H⟩
  rintro uP σ uQ ⟨n,ρ,rfl,jM,H⟩
  obtain ⟨lq,lr,lu,hM,gJ⟩:=M.e_iterN jM
  clear jM;refine kg 6 ?_
  refine W.cond (decide ((n:Int)<31)) rfl (fun cN=>?_) (fun cN=>?_)
  ·replace hM:=M.e_t hM cN
   replace cN:=dI cN
   obtain ⟨uR,hM⟩:=M.e_gd hM;refine kg 6 ?_;refine s_val (x_rem' (a:=(n:Int)) (b:=3) rfl rfl (by omega)) ?_;obtain ⟨uS,hM⟩:=M.e_gd hM;refine kg 1 ?_;refine s_call cf4 [I (1+((n:Int) % 3))] rfl (zeU (1+((n:Int) % 3)) _ (H.gt 1)) ?_
   rintro _ uT ⟨aX,av,bt,aP,gK,cy,bC,bu,az,aA,aw,aD,aC,aB,rfl,ak⟩
   replace H:=H.bk ak;clear ak;refine t_alloc (cs:=[.slice none 0 0,.slice none 0 0,.slice none 0 0,.slice none 0 0,I 0,I 0,.slice none 0 0]) H Al29 rfl ?_;intro ck uU H;refine t_alloc (cs:=[I 0]) H Al3 rfl ?_;intro cO uV H;refine t_alloc (cs:=[I 0]) H Al3 rfl ?_;intro cP uW H;refine t_alloc (cs:=[I 0]) H Al3 rfl ?_;intro cQ uX H;refine t_sw 3 0 [aX,av,bt,aP,I 1,I 2,bu] (.agg #[aX,av,bt,aP,I 1,I 2,bu]) H rfl rfl Sz29 rfl rfl rfl (by simp only [List.all_cons,List.all_nil,Bool.true_and,Bool.and_true,Sl.oc (H.os 11),Sl.oc (H.os 10),Sl.oc (H.os 9),Sl.oc (H.os 8),Sl.oc (H.os 4)]; try rfl) ?_;intro uY H;refine t_sw 2 0 [I 0] (I 0) H rfl rfl Sz3 rfl rfl rfl rfl ?_;intro uZ H;refine t_sw 1 0 [I 3] (I 3) H rfl rfl Sz3 rfl rfl rfl rfl ?_;intro u5 H;refine t_sw 0 0 [I 0] (I 0) H rfl rfl Sz3 rfl rfl rfl rfl ?_;intro u6 H;refine kg 3 ?_;refine s_val (x_bld (ps:=[(0,I 1)]) (zs:=[I 0,I 0]) (L':=[I 1,I 0]) rfl Tryz.underlying32 Al32 rfl (Bd32 Tryz.underlying32) (.cons (cs:=[I 1]) rfl rfl rfl rfl rfl<|.nil)) ?_;refine t_bs (α:=Int) T22 [I 0,I 2] [(0:Int),(2:Int)] H rfl (.cons rfl (Flat.rep_enc _ (0:Int))<|.cons rfl (Flat.rep_enc _ (2:Int))<|.nil) rfl rfl rfl ?_;intro bZ u7 H;refine s_val (x_bld (ps:=[(0,I 0)]) (zs:=[I 0,I 0]) (L':=[I 0,I 0]) rfl Tryz.underlying32 Al32 rfl (Bd32 Tryz.underlying32) (.cons (cs:=[I 0]) rfl rfl rfl rfl rfl<|.nil))<|s_val (x_bld (ps:=[(0,I 1)]) (zs:=[I 0,I 0]) (L':=[I 1,I 0]) rfl Tryz.underlying32 Al32 rfl (Bd32 Tryz.underlying32) (.cons (cs:=[I 1]) rfl rfl rfl rfl rfl<|.nil)) ?_;refine t_bs (α:=Dem) T33 [.agg #[I 0,I 0],.agg #[I 1,I 0]] [(⟨(0:Int),(0:Int)⟩:Dem),(⟨(1:Int),(0:Int)⟩:Dem)] H rfl (.cons rfl (Flat.rep_enc _ (⟨(0:Int),(0:Int)⟩:Dem))<|.cons rfl (Flat.rep_enc _ (⟨(1:Int),(0:Int)⟩:Dem))<|.nil) rfl rfl rfl ?_;intro b0 u9 H;refine t_alloc (cs:=[I 0,I 0]) H Al32 rfl ?_;intro cm va H;refine t_alloc (cs:=[I 0]) H Al3 rfl ?_;intro cR vb H;refine t_sw 1 0 [I 1,I 0] (.agg #[I 1,I 0]) H rfl rfl Sz32 rfl rfl rfl rfl ?_;intro vd H;refine kg 1 ?_;refine t_sw 0 0 [I 2] (I 2) H rfl rfl Sz3 rfl rfl rfl rfl ?_;intro ve H;refine kg 4 ?_;refine t_bs (α:=Int) T22 [I 150,I 250] [(150:Int),(250:Int)] H rfl (.cons rfl (Flat.rep_enc _ (150:Int))<|.cons rfl (Flat.rep_enc _ (250:Int))<|.nil) rfl rfl rfl ?_;intro b1 vg H;refine t_alloc (cs:=[I 0]) H Al3 rfl ?_;intro cS vh H;refine t_sw 0 0 [I 1] (I 1) H rfl rfl Sz3 rfl rfl rfl rfl ?_;intro vi H;refine kg 3 ?_;refine W.draw (fun W=>St w W [cBlk cS [I 1] 3,cOwn (α:=Int) 3 b1 ([(150:Int),(250:Int)]),cBlk cR [I 2] 3,cBlk cm [I 1,I 0] 32,cOwn (α:=Dem) 32 b0 ([(⟨(0:Int),(0:Int)⟩:Dem),(⟨(1:Int),(0:Int)⟩:Dem)]),cOwn (α:=Int) 3 bZ ([(0:Int),(2:Int)]),cBlk cQ [I 0] 3,cBlk cP [I 3] 3,cBlk cO [I 0] 3,cBlk ck [aX,av,bt,aP,I 1,I 2,bu] 29,cOwn (α:=Raw 1) 38 bu ([az,aA,aw]),cOwn (α:=Int) 3 bC ([(100:Int),(260:Int),(300:Int)]),cOwn (α:=Int) 3 cy ([(280:Int),(240:Int),(290:Int)]),cOwn (α:=Int) 3 gK ([(200:Int),(250:Int),(310:Int)]),cOwn (α:=Town) 36 aP ([(⟨(3:Int),((1+((n:Int) % 3)):Int),(300:Int)⟩:Town)]),cOwn (α:=Int) 3 bt ([(0:Int),(1:Int)]),cOwn (α:=Span) 26 av fT,cOwn (α:=Int) 3 aX ([(2:Int),(2:Int),(3:Int),(-1:Int)]),cOwn (α:=Int) 3 ap vl29] R) [(0,true),(1,true),(2,true),(3,true),(4,true),(5,true),(6,true),(7,true),(8,true),(9,true),(10,true),(11,true),(12,true),(13,true),(14,true),(15,true),(16,true),(17,true),(18,true),(19,true),(20,true),(21,true),(22,true),(23,true),(24,true),(25,true),(26,true),(27,true),(28,true),(29,true),(30,true),(31,true),(32,true),(33,true),(34,true),(35,true),(36,true),(37,true),(38,true),(39,true),(40,true),(41,true),(42,true),(43,true),(44,true),(45,true),(46,true),(47,true),(48,true),(49,true),(50,true),(51,true),(52,true),(53,true),(54,true),(55,true),(56,true),(57,true),(58,true),(59,true),(60,true),(61,true),(62,true),(63,true),(64,true),(65,true),(66,true),(67,true),(68,true),(69,true),(70,true),(71,true),(72,true),(73,true),(74,true),(75,true),(76,true),(77,true),(78,true),(79,true),(80,true),(81,true),(82,true),(83,true),(84,true),(85,false),(86,true)] mixed (by decide +kernel) rfl ?_;intro vj ao;replace H:=H.ext ao;clear ao
   refine ⟨(H),?_⟩
   obtain ⟨vk,hM⟩:=M.e_gd hM;refine kg 2 ?_;refine d_q rfl (fun w' H=>x_ix (v:=vat aX 1 (Int.toNat 0)) rfl rfl (Sl.ix (α:=Int) T22.und T22.size (H.os 17) (by omega) (by omega))) ?_;obtain ⟨vl,hM⟩:=M.e_gd hM;refine kg 2 ?_;refine d_q rfl (fun w' H=>x_ix (v:=vat aX 1 (Int.toNat 2)) rfl rfl (Sl.ix (α:=Int) T22.und T22.size (H.os 17) (by omega) (by omega))) ?_;obtain ⟨vm,hM⟩:=M.e_gd hM;refine kg 2 ?_;refine d_q rfl (fun w' H=>x_ix (v:=vat aX 1 (Int.toNat 3)) rfl rfl (Sl.ix (α:=Int) T22.und T22.size (H.os 17) (by omega) (by omega))) ?_;obtain ⟨vn,hM⟩:=M.e_gd hM;refine kg 2 ?_;refine d_q rfl (fun w' H=>x_ix (v:=vat av 2 (Int.toNat 0)) rfl rfl (Sl.ix (α:=Span) T23.und T23.size (H.os 16) (by omega) (by omega)))<|d_q rfl (fun w' H=>x_fa (v:=fat (vat av 2 (Int.toNat 0)) 0) rfl (fa_pl Fd26_0 Sz3 (Sl.pl (i:=0) (H.os 16) (by omega) (by omega)))) ?_;obtain ⟨vo,hM⟩:=M.e_gd hM;refine kg 2 ?_;refine d_q rfl (fun w' H=>x_ix (v:=vat av 2 (Int.toNat 1)) rfl rfl (Sl.ix (α:=Span) T23.und T23.size (H.os 16) (by omega) (by omega)))<|d_q rfl (fun w' H=>x_fa (v:=fat (vat av 2 (Int.toNat 1)) 1) rfl (fa_pl Fd26_1 Sz3 (Sl.pl (i:=1) (H.os 16) (by omega) (by omega)))) ?_;obtain ⟨vp,hM⟩:=M.e_gd hM;refine kg 2 ?_;refine d_q rfl (fun w' H=>x_ix (v:=vat av 2 (Int.toNat 2)) rfl rfl (Sl.ix (α:=Span) T23.und T23.size (H.os 16) (by omega) (by omega)))<|d_q rfl (fun w' H=>x_fa (v:=fat (vat av 2 (Int.toNat 2)) 0) rfl (fa_pl Fd26_0 Sz3 (Sl.pl (i:=2) (H.os 16) (by omega) (by omega)))) ?_;obtain ⟨vr,hM⟩:=M.e_gd hM;refine kg 2 ?_;refine d_q rfl (fun w' H=>x_ix (v:=vat av 2 (Int.toNat 3)) rfl rfl (Sl.ix (α:=Span) T23.und T23.size (H.os 16) (by omega) (by omega)))<|d_q rfl (fun w' H=>x_fa (v:=fat (vat av 2 (Int.toNat 3)) 1) rfl (fa_pl Fd26_1 Sz3 (Sl.pl (i:=3) (H.os 16) (by omega) (by omega)))) ?_;obtain ⟨vt,hM⟩:=M.e_gd hM;refine kg 2 ?_;refine d_q rfl (fun w' H=>x_ix (v:=vat bt 1 (Int.toNat 0)) rfl rfl (Sl.ix (α:=Int) T22.und T22.size (H.os 15) (by omega) (by omega))) ?_;obtain ⟨vu,hM⟩:=M.e_gd hM;refine kg 2 ?_;refine d_q rfl (fun w' H=>x_ix (v:=vat bt 1 (Int.toNat 1)) rfl rfl (Sl.ix (α:=Int) T22.und T22.size (H.os 15) (by omega) (by omega))) ?_;obtain ⟨vv,hM⟩:=M.e_gd hM;refine kg 2 ?_;refine d_q rfl (fun w' H=>x_ix (v:=vat aP 3 (Int.toNat 0)) rfl rfl (Sl.ix (α:=Town) T24.und T24.size (H.os 14) (by omega) (by omega)))<|d_q rfl (fun w' H=>x_fa (v:=fat (vat aP 3 (Int.toNat 0)) 0) rfl (fa_pl Fd36_0 Sz3 (Sl.pl (i:=0) (H.os 14) (by omega) (by omega)))) ?_;refine kg 2 ?_;refine d_q rfl (fun w' H=>x_ix (v:=vat aP 3 (Int.toNat 0)) rfl rfl (Sl.ix (α:=Town) T24.und T24.size (H.os 14) (by omega) (by omega)))<|d_q rfl (fun w' H=>x_fa (v:=fat (vat aP 3 (Int.toNat 0)) 1) rfl (fa_pl Fd36_1 Sz3 (Sl.pl (i:=0) (H.os 14) (by omega) (by omega)))) ?_;refine kg 2 ?_;refine d_q rfl (fun w' H=>x_ix (v:=vat aP 3 (Int.toNat 0)) rfl rfl (Sl.ix (α:=Town) T24.und T24.size (H.os 14) (by omega) (by omega)))<|d_q rfl (fun w' H=>x_fa (v:=fat (vat aP 3 (Int.toNat 0)) 2) rfl (fa_pl Fd36_2 Sz3 (Sl.pl (i:=0) (H.os 14) (by omega) (by omega)))) ?_;obtain ⟨vw,hM⟩:=M.e_gd hM;refine kg 6 ?_;refine d_q rfl (fun w' H=>x_ix (v:=vat bu 2 (Int.toNat 0)) rfl rfl (Sl.ix (α:=Raw 1) T27.und T27.size (H.os 10) (by omega) (by first | omega | (simp only [List.length_cons,List.length_nil]; omega))))<|d_q rfl (fun w' H=>x_fa (v:=fat (vat bu 2 (Int.toNat 0)) 0) rfl (fa_pl Fd38_0 Sz3 (Sl.pl (i:=0) (H.os 10) (by omega) (by first | omega | (simp only [List.length_cons,List.length_nil]; omega))))) ?_;obtain ⟨vx,hM⟩:=M.e_gd hM;refine kg 2 ?_;refine d_q rfl (fun w' H=>x_ix (v:=vat bu 2 (Int.toNat 1)) rfl rfl (Sl.ix (α:=Raw 1) T27.und T27.size (H.os 10) (by omega) (by first | omega | (simp only [List.length_cons,List.length_nil]; omega))))<|d_q rfl (fun w' H=>x_fa (v:=fat (vat bu 2 (Int.toNat 1)) 1) rfl (fa_pl Fd38_1 Sz22 (Sl.pl (i:=1) (H.os 10) (by omega) (by first | omega | (simp only [List.length_cons,List.length_nil]; omega)))))<|d_q rfl (fun w' H=>x_ld (v:=cy) rfl (ld_sc Sc22 (At.mono (At.fld (lz_at (i:=1) (k:=1) (r:=aA) (H.os 10) rfl rfl aC) 1 1) (H.ol 10)))) ?_;obtain ⟨vz,hM⟩:=M.e_gd hM;refine d_q rfl (fun w' H=>x_ix (v:=vat cy 1 (Int.toNat 1)) rfl rfl (Sl.ix (α:=Int) T22.und T22.size (H.os 12) (by omega) (by omega))) ?_;obtain ⟨vA,hM⟩:=M.e_gd hM;obtain ⟨vB,hM⟩:=M.e_gd hM;obtain ⟨vC,hM⟩:=M.e_gd hM;obtain ⟨vD,hM⟩:=M.e_gd hM;obtain ⟨vE,hM⟩:=M.e_gd hM;obtain ⟨vF,hM⟩:=M.e_gd hM;obtain ⟨vG,hM⟩:=M.e_gd hM;refine kg 18 ?_;refine d_q rfl (fun w' H=>x_ix (v:=vat bu 2 (Int.toNat 2)) rfl rfl (Sl.ix (α:=Raw 1) T27.und T27.size (H.os 10) (by omega) (by first | omega | (simp only [List.length_cons,List.length_nil]; omega))))<|d_q rfl (fun w' H=>x_fa (v:=fat (vat bu 2 (Int.toNat 2)) 1) rfl (fa_pl Fd38_1 Sz22 (Sl.pl (i:=2) (H.os 10) (by omega) (by first | omega | (simp only [List.length_cons,List.length_nil]; omega)))))<|d_q rfl (fun w' H=>x_ld (v:=bC) rfl (ld_sc Sc22 (At.mono (At.fld (lz_at (i:=2) (k:=2) (r:=aw) (H.os 10) rfl rfl aB) 1 1) (H.ol 10)))) ?_;obtain ⟨vH,hM⟩:=M.e_gd hM;refine d_q rfl (fun w' H=>x_ix (v:=vat bC 1 (Int.toNat 2)) rfl rfl (Sl.ix (α:=Int) T22.und T22.size (H.os 11) (by omega) (by omega))) ?_;refine kg 2 ?_;refine d_q rfl (fun w' H=>x_ix (v:=vat bu 2 (Int.toNat 2)) rfl rfl (Sl.ix (α:=Raw 1) T27.und T27.size (H.os 10) (by omega) (by first | omega | (simp only [List.length_cons,List.length_nil]; omega))))<|d_q rfl (fun w' H=>x_fa (v:=fat (vat bu 2 (Int.toNat 2)) 1) rfl (fa_pl Fd38_1 Sz22 (Sl.pl (i:=2) (H.os 10) (by omega) (by first | omega | (simp only [List.length_cons,List.length_nil]; omega)))))<|d_q rfl (fun w' H=>x_ld (v:=bC) rfl (ld_sc Sc22 (At.mono (At.fld (lz_at (i:=2) (k:=2) (r:=aw) (H.os 10) rfl rfl aB) 1 1) (H.ol 10)))) ?_;obtain ⟨vI,hM⟩:=M.e_gd hM;refine d_q rfl (fun w' H=>x_ix (v:=vat bC 1 (Int.toNat 0)) rfl rfl (Sl.ix (α:=Int) T22.und T22.size (H.os 11) (by omega) (by omega)))<|d_l rfl ?_
   have ep:=ptE (Sl.pl (i:=0) (H.os 17) (by omega) (by omega))
   replace ep:PtV (vat aX 1 (Int.toNat 0)):=ep
   have eq:=ptE (Sl.pl (i:=2) (H.os 17) (by omega) (by omega))
   replace eq:PtV (vat aX 1 (Int.toNat 2)):=eq
   have eu:=ptE (Sl.pl (i:=3) (H.os 17) (by omega) (by omega))
   replace eu:PtV (vat aX 1 (Int.toNat 3)):=eu
   have ew:=ptF (Sl.pl (i:=0) (H.os 16) (by omega) (by omega)) (off:=0)
   replace ew:PtV (fat (vat av 2 (Int.toNat 0)) 0):=ew
   have ey:=ptF (Sl.pl (i:=1) (H.os 16) (by omega) (by omega)) (off:=1)
   replace ey:PtV (fat (vat av 2 (Int.toNat 1)) 1):=ey
   have ez:=ptF (Sl.pl (i:=2) (H.os 16) (by omega) (by omega)) (off:=0)
   replace ez:PtV (fat (vat av 2 (Int.toNat 2)) 0):=ez
   have eA:=ptF (Sl.pl (i:=3) (H.os 16) (by omega) (by omega)) (off:=1)
   replace eA:PtV (fat (vat av 2 (Int.toNat 3)) 1):=eA
   have eB:=ptE (Sl.pl (i:=0) (H.os 15) (by omega) (by omega))
   replace eB:PtV (vat bt 1 (Int.toNat 0)):=eB
   have eC:=ptE (Sl.pl (i:=1) (H.os 15) (by omega) (by omega))
   replace eC:PtV (vat bt 1 (Int.toNat 1)):=eC
   have eD:=ptF (Sl.pl (i:=0) (H.os 14) (by omega) (by omega)) (off:=0)
   replace eD:PtV (fat (vat aP 3 (Int.toNat 0)) 0):=eD
   have eE:=ptF (Sl.pl (i:=0) (H.os 14) (by omega) (by omega)) (off:=1)
   replace eE:PtV (fat (vat aP 3 (Int.toNat 0)) 1):=eE
   have eF:=ptF (Sl.pl (i:=0) (H.os 14) (by omega) (by omega)) (off:=2)
   replace eF:PtV (fat (vat aP 3 (Int.toNat 0)) 2):=eF
   have eG:=ptF (Sl.pl (i:=0) (H.os 10) (by omega) (by first | omega | (simp only [List.length_cons,List.length_nil]; omega))) (off:=0)
   replace eG:PtV (fat (vat bu 2 (Int.toNat 0)) 0):=eG
   have eH:=ptE (Sl.pl (i:=1) (H.os 12) (by omega) (by omega))
   replace eH:PtV (vat cy 1 (Int.toNat 1)):=eH
   have eI:=ptE (Sl.pl (i:=0) (H.os 5) (by omega) (by omega))
   replace eI:PtV (vat bZ 1 (Int.toNat 0)):=eI
   have eJ:=ptE (Sl.pl (i:=1) (H.os 5) (by omega) (by omega))
   replace eJ:PtV (vat bZ 1 (Int.toNat 1)):=eJ
   have eK:=ptF (Sl.pl (i:=0) (H.os 4) (by omega) (by omega)) (off:=0)
   replace eK:PtV (fat (vat b0 2 (Int.toNat 0)) 0):=eK
   have eL:=ptF (Sl.pl (i:=1) (H.os 4) (by omega) (by omega)) (off:=1)
   replace eL:PtV (fat (vat b0 2 (Int.toNat 1)) 1):=eL
   have eM:=ptE (Sl.pl (i:=0) (H.os 1) (by omega) (by omega))
   replace eM:PtV (vat b1 1 (Int.toNat 0)):=eM
   have eN:=ptE (Sl.pl (i:=1) (H.os 1) (by omega) (by omega))
   replace eN:PtV (vat b1 1 (Int.toNat 1)):=eN
   have eO:=ptE (Sl.pl (i:=2) (H.os 11) (by omega) (by omega))
   replace eO:PtV (vat bC 1 (Int.toNat 2)):=eO
   have eP:=ptE (Sl.pl (i:=0) (H.os 11) (by omega) (by omega))
   replace eP:PtV (vat bC 1 (Int.toNat 0)):=eP
   refine t_bs (α:=Raw 0) T39 [vat aX 1 (Int.toNat 0),vat aX 1 (Int.toNat 2),vat aX 1 (Int.toNat 3),fat (vat av 2 (Int.toNat 0)) 0,fat (vat av 2 (Int.toNat 1)) 1,fat (vat av 2 (Int.toNat 2)) 0,fat (vat av 2 (Int.toNat 3)) 1,vat bt 1 (Int.toNat 0),vat bt 1 (Int.toNat 1),fat (vat aP 3 (Int.toNat 0)) 0,fat (vat aP 3 (Int.toNat 0)) 1,fat (vat aP 3 (Int.toNat 0)) 2,Oq ck 4,Oq ck 5,fat (vat bu 2 (Int.toNat 0)) 0,vat cy 1 (Int.toNat 1),Pq cO,Pq cP,Pq cQ,Pq cm,Oq cm 1,vat bZ 1 (Int.toNat 0),vat bZ 1 (Int.toNat 1),Pq cR,fat (vat b0 2 (Int.toNat 0)) 0,fat (vat b0 2 (Int.toNat 1)) 1,Pq cS,vat b1 1 (Int.toNat 0),vat b1 1 (Int.toNat 1),vat bC 1 (Int.toNat 2),vat bC 1 (Int.toNat 0)] [rawV (vat aX 1 (Int.toNat 0)) ep,rawV (vat aX 1 (Int.toNat 2)) eq,rawV (vat aX 1 (Int.toNat 3)) eu,rawV (fat (vat av 2 (Int.toNat 0)) 0) ew,rawV (fat (vat av 2 (Int.toNat 1)) 1) ey,rawV (fat (vat av 2 (Int.toNat 2)) 0) ez,rawV (fat (vat av 2 (Int.toNat 3)) 1) eA,rawV (vat bt 1 (Int.toNat 0)) eB,rawV (vat bt 1 (Int.toNat 1)) eC,rawV (fat (vat aP 3 (Int.toNat 0)) 0) eD,rawV (fat (vat aP 3 (Int.toNat 0)) 1) eE,rawV (fat (vat aP 3 (Int.toNat 0)) 2) eF,rawV (Oq ck 4) (ptB _),rawV (Oq ck 5) (ptB _),rawV (fat (vat bu 2 (Int.toNat 0)) 0) eG,rawV (vat cy 1 (Int.toNat 1)) eH,rawV (Pq cO) (ptB _),rawV (Pq cP) (ptB _),rawV (Pq cQ) (ptB _),rawV (Pq cm) (ptB _),rawV (Oq cm 1) (ptB _),rawV (vat bZ 1 (Int.toNat 0)) eI,rawV (vat bZ 1 (Int.toNat 1)) eJ,rawV (Pq cR) (ptB _),rawV (fat (vat b0 2 (Int.toNat 0)) 0) eK,rawV (fat (vat b0 2 (Int.toNat 1)) 1) eL,rawV (Pq cS) (ptB _),rawV (vat b1 1 (Int.toNat 0)) eM,rawV (vat b1 1 (Int.toNat 1)) eN,rawV (vat bC 1 (Int.toNat 2)) eO,rawV (vat bC 1 (Int.toNat 0)) eP] H rfl (.cons ep.1 rfl<|.cons eq.1 rfl<|.cons eu.1 rfl<|.cons ew.1 rfl<|.cons ey.1 rfl<|.cons ez.1 rfl<|.cons eA.1 rfl<|.cons eB.1 rfl<|.cons eC.1 rfl<|.cons eD.1 rfl<|.cons eE.1 rfl<|.cons eF.1 rfl<|.cons (ptB _).1 rfl<|.cons (ptB _).1 rfl<|.cons eG.1 rfl<|.cons eH.1 rfl<|.cons (ptB _).1 rfl<|.cons (ptB _).1 rfl<|.cons (ptB _).1 rfl<|.cons (ptB _).1 rfl<|.cons (ptB _).1 rfl<|.cons eI.1 rfl<|.cons eJ.1 rfl<|.cons (ptB _).1 rfl<|.cons eK.1 rfl<|.cons eL.1 rfl<|.cons (ptB _).1 rfl<|.cons eM.1 rfl<|.cons eN.1 rfl<|.cons eO.1 rfl<|.cons eP.1 rfl<|.nil) rfl rfl rfl ?_;intro aE vJ H
   have aF:([rawV (vat aX 1 (Int.toNat 0)) ep,rawV (vat aX 1 (Int.toNat 2)) eq,rawV (vat aX 1 (Int.toNat 3)) eu,rawV (fat (vat av 2 (Int.toNat 0)) 0) ew,rawV (fat (vat av 2 (Int.toNat 1)) 1) ey,rawV (fat (vat av 2 (Int.toNat 2)) 0) ez,rawV (fat (vat av 2 (Int.toNat 3)) 1) eA,rawV (vat bt 1 (Int.toNat 0)) eB,rawV (vat bt 1 (Int.toNat 1)) eC,rawV (fat (vat aP 3 (Int.toNat 0)) 0) eD,rawV (fat (vat aP 3 (Int.toNat 0)) 1) eE,rawV (fat (vat aP 3 (Int.toNat 0)) 2) eF,rawV (Oq ck 4) (ptB _),rawV (Oq ck 5) (ptB _),rawV (fat (vat bu 2 (Int.toNat 0)) 0) eG,rawV (vat cy 1 (Int.toNat 1)) eH,rawV (Pq cO) (ptB _),rawV (Pq cP) (ptB _),rawV (Pq cQ) (ptB _),rawV (Pq cm) (ptB _),rawV (Oq cm 1) (ptB _),rawV (vat bZ 1 (Int.toNat 0)) eI,rawV (vat bZ 1 (Int.toNat 1)) eJ,rawV (Pq cR) (ptB _),rawV (fat (vat b0 2 (Int.toNat 0)) 0) eK,rawV (fat (vat b0 2 (Int.toNat 1)) 1) eL,rawV (Pq cS) (ptB _),rawV (vat b1 1 (Int.toNat 0)) eM,rawV (vat b1 1 (Int.toNat 1)) eN,rawV (vat bC 1 (Int.toNat 2)) eO,rawV (vat bC 1 (Int.toNat 0)) eP]:List (Raw 0)).length=31:=rfl
   have vK:=Sl.cells (H.os 0)
   have vL:=Sl.oc (H.os 0)
   have vM:=ownSl (H.get (k:=0) rfl)
   refine s_nil ⟨(H.dp 1),?_⟩
   refine kg 2 ?_;refine W.seqJ (fun σ W=>∃ (l:List Int) (l2:List Span) (l3:List Int) (l4:List Town) (s:Int) (s2:Int) (l5:List Flood) (s3:Int) (s4:Int) (s5:Int) (s6:Int) (s7:Int) (l6:List Int) (s8:Int) (l7:List Dem) (s9:Int) (l8:List Int) (b2:Value) (b3:Value) (b4:Value) (b5:Value) (b6:Value) (cz:Value) (d4:Value) (d5:Value) (gL:List (Raw 1)) (B_l5:Base) (ρ:Env),σ=upds ρ [(2,I (vl29.getD ah 0)),(3,I (n:Int)),(4,Pq ck),(5,Pq cO),(6,Pq cP),(7,Pq cQ),(8,Pq cm),(9,cz),(10,Pq cR),(11,d4),(12,Pq cS),(13,d5),(35,ap),(36,I (vl29.length:Int)),(37,I (ah:Int))]/\(zab n l l2 l3 l4 s s2 l5 s3 s4 s5 s6 s7 l6 s8 l7 s9 l8).Ends lu/\St w W [cRo B_l5,cBlk cS [I s9] 3,cOwn (α:=Int) 3 d5 l8,cBlk cR [I s8] 3,cBlk cm [I s6,I s7] 32,cOwn (α:=Dem) 32 d4 l7,cOwn (α:=Int) 3 cz l6,cBlk cQ [I s5] 3,cBlk cP [I s4] 3,cBlk cO [I s3] 3,cBlk ck [b2,b3,b4,b5,I s,I s2,b6] 29,cOwn (α:=Raw 1) 38 b6 gL,cOwn (α:=Town) 36 b5 l4,cOwn (α:=Int) 3 b4 l3,cOwn (α:=Span) 26 b3 l2,cOwn (α:=Int) 3 b2 l,cOwn (α:=Int) 3 ap vl29] R/\RepR (α:=Flood) B_l5.cells gL l5) ?_ ?_
   ·skip
    refine W.byc ((n:Int)==0) (fun fP=>?_) (fun fP=>?_)
    ·replace hM:=M.e_t hM fP
     have lv:(n:Int)=0:=eq_of_beq fP
     obtain ⟨vN,hM⟩:=M.e_gd hM;refine kg 3 ?_;refine s_val (x_ix (v:=vat aE 1 (Int.toNat (n:Int))) rfl rfl (Sl.ix (α:=Raw 0) T39.und T39.size (H.os 0) (by omega) (by have aG:=aF; omega)))<|s_val (x_ld (v:=vat aX 1 (Int.toNat 0)) rfl (ld_sc Sc34 (At.mono (raw_at (i:=(n:Int)) (k:=0) (H.os 0) lv rfl) (H.ol 0)))) ?_;refine kg 1 ?_;refine s_val (x_ncE (p:=vat aX 1 (Int.toNat 0)) rfl (Sl.pl (i:=0) (H.os 18) (by omega) (by omega))) ?_;refine t_ost (k:=18) (i:=0) (l:=[(2:Int),(2:Int),(3:Int),(-1:Int)]) (l':=([(2:Int),(2:Int),(3:Int),(-1:Int)]).set 0 (vl29.getD ah 0:Int)) (val:=I (vl29.getD ah 0)) H rfl Sz3 (by omega) (by omega) (vl29.getD ah 0:Int) rfl rfl rfl rfl rfl ?_;intro vO H;replace H:=H.nf;refine s_nil ?_
     obtain ⟨aH,H⟩:=H.emptyE
     obtain ⟨aI,H,lw⟩:=H.freezeE (k:=15) rfl
     replace H:=H.nf
     have cT:=lw
     obtain ⟨aJ,H,vP,lx⟩:=H.joinE (i:=0) (j:=15) rfl rfl
     replace cT:=cT.mono lx
     obtain ⟨aK,H,ly⟩:=H.freezeE (k:=15) rfl
     replace H:=H.nf
     have eQ:=ly
     obtain ⟨aL,H,lz,lA⟩:=H.joinE (i:=0) (j:=15) rfl rfl
     replace cT:=cT.mono lz
     replace eQ:=eQ.mono lA
     obtain ⟨aM,H,lB⟩:=H.freezeE (k:=15) rfl
     replace H:=H.nf
     have gM:=lB
     obtain ⟨am,H,jN,lC⟩:=H.joinE (i:=0) (j:=15) rfl rfl
     replace cT:=cT.mono jN
     replace eQ:=eQ.mono jN
     replace gM:=gM.mono lC
     have lD:RepR (α:=Flood) am.cells [az,aA,aw] fF:=.cons (by rw [aD]; exact ⟨_,rfl,cT⟩)<|.cons (by rw [aC]; exact ⟨_,rfl,eQ⟩)<|.cons (by rw [aB]; exact ⟨_,rfl,gM⟩)<|.nil
     exact ⟨_,_,_,_,_,_,_,_,_,_,_,_,_,_,_,_,_,_,_,_,_,_,_,_,_,_,_,_,upds_of _ _ ⟨rfl,rfl,rfl,rfl,rfl,rfl,rfl,rfl,rfl,rfl,rfl,rfl,rfl,rfl,rfl,trivial⟩,hM,(H.er 18 |>.er 17 |>.er 16 |>.er 4 |>.er 3 |>.er 2 |>.er 1),lD⟩
    replace hM:=M.e_f hM fP
    refine W.byc ((n:Int)==1) (fun fQ=>?_) (fun fQ=>?_)
    ·replace hM:=M.e_t hM fQ
     have lE:(n:Int)=1:=eq_of_beq fQ
     obtain ⟨vQ,hM⟩:=M.e_gd hM;refine kg 3 ?_;refine s_val (x_ix (v:=vat aE 1 (Int.toNat (n:Int))) rfl rfl (Sl.ix (α:=Raw 0) T39.und T39.size (H.os 0) (by omega) (by have aG:=aF; omega)))<|s_val (x_ld (v:=vat aX 1 (Int.toNat 2)) rfl (ld_sc Sc34 (At.mono (raw_at (i:=(n:Int)) (k:=1) (H.os 0) lE rfl) (H.ol 0)))) ?_;refine kg 1 ?_;refine s_val (x_ncE (p:=vat aX 1 (Int.toNat 2)) rfl (Sl.pl (i:=2) (H.os 18) (by omega) (by omega))) ?_;refine t_ost (k:=18) (i:=2) (l:=[(2:Int),(2:Int),(3:Int),(-1:Int)]) (l':=([(2:Int),(2:Int),(3:Int),(-1:Int)]).set 2 (vl29.getD ah 0:Int)) (val:=I (vl29.getD ah 0)) H rfl Sz3 (by omega) (by omega) (vl29.getD ah 0:Int) rfl rfl rfl rfl rfl ?_;intro vR H;replace H:=H.nf;refine s_nil ?_
     obtain ⟨aH,H⟩:=H.emptyE
     obtain ⟨aI,H,lF⟩:=H.freezeE (k:=15) rfl
     replace H:=H.nf
     have cU:=lF
     obtain ⟨aJ,H,vS,lG⟩:=H.joinE (i:=0) (j:=15) rfl rfl
     replace cU:=cU.mono lG
     obtain ⟨aK,H,lH⟩:=H.freezeE (k:=15) rfl
     replace H:=H.nf
     have eR:=lH
     obtain ⟨aL,H,lI,lJ⟩:=H.joinE (i:=0) (j:=15) rfl rfl
     replace cU:=cU.mono lI
     replace eR:=eR.mono lJ
     obtain ⟨aM,H,lK⟩:=H.freezeE (k:=15) rfl
     replace H:=H.nf
     have gN:=lK
     obtain ⟨am,H,jP,lL⟩:=H.joinE (i:=0) (j:=15) rfl rfl
     replace cU:=cU.mono jP
     replace eR:=eR.mono jP
     replace gN:=gN.mono lL
     have lM:RepR (α:=Flood) am.cells [az,aA,aw] fF:=.cons (by rw [aD]; exact ⟨_,rfl,cU⟩)<|.cons (by rw [aC]; exact ⟨_,rfl,eR⟩)<|.cons (by rw [aB]; exact ⟨_,rfl,gN⟩)<|.nil
     exact ⟨_,_,_,_,_,_,_,_,_,_,_,_,_,_,_,_,_,_,_,_,_,_,_,_,_,_,_,_,upds_of _ _ ⟨rfl,rfl,rfl,rfl,rfl,rfl,rfl,rfl,rfl,rfl,rfl,rfl,rfl,rfl,rfl,trivial⟩,hM,(H.er 18 |>.er 17 |>.er 16 |>.er 4 |>.er 3 |>.er 2 |>.er 1),lM⟩
    replace hM:=M.e_f hM fQ
    refine W.byc ((n:Int)==2) (fun fR=>?_) (fun fR=>?_)
    ·replace hM:=M.e_t hM fR
     have lN:(n:Int)=2:=eq_of_beq fR
     obtain ⟨vT,hM⟩:=M.e_gd hM;refine kg 3 ?_;refine s_val (x_ix (v:=vat aE 1 (Int.toNat (n:Int))) rfl rfl (Sl.ix (α:=Raw 0) T39.und T39.size (H.os 0) (by omega) (by have aG:=aF; omega)))<|s_val (x_ld (v:=vat aX 1 (Int.toNat 3)) rfl (ld_sc Sc34 (At.mono (raw_at (i:=(n:Int)) (k:=2) (H.os 0) lN rfl) (H.ol 0)))) ?_;refine kg 1 ?_;refine s_val (x_ncE (p:=vat aX 1 (Int.toNat 3)) rfl (Sl.pl (i:=3) (H.os 18) (by omega) (by omega))) ?_;refine t_ost (k:=18) (i:=3) (l:=[(2:Int),(2:Int),(3:Int),(-1:Int)]) (l':=([(2:Int),(2:Int),(3:Int),(-1:Int)]).set 3 (vl29.getD ah 0:Int)) (val:=I (vl29.getD ah 0)) H rfl Sz3 (by omega) (by omega) (vl29.getD ah 0:Int) rfl rfl rfl rfl rfl ?_;intro vU H;replace H:=H.nf;refine s_nil ?_
     obtain ⟨aH,H⟩:=H.emptyE
     obtain ⟨aI,H,lO⟩:=H.freezeE (k:=15) rfl
     replace H:=H.nf
     have cV:=lO
     obtain ⟨aJ,H,vV,lP⟩:=H.joinE (i:=0) (j:=15) rfl rfl
     replace cV:=cV.mono lP
     obtain ⟨aK,H,lQ⟩:=H.freezeE (k:=15) rfl
     replace H:=H.nf
     have eS:=lQ
     obtain ⟨aL,H,lR,lS⟩:=H.joinE (i:=0) (j:=15) rfl rfl
     replace cV:=cV.mono lR
     replace eS:=eS.mono lS
     obtain ⟨aM,H,lT⟩:=H.freezeE (k:=15) rfl
     replace H:=H.nf
     have gO:=lT
     obtain ⟨am,H,jQ,lU⟩:=H.joinE (i:=0) (j:=15) rfl rfl
     replace cV:=cV.mono jQ
     replace eS:=eS.mono jQ
     replace gO:=gO.mono lU
     have lV:RepR (α:=Flood) am.cells [az,aA,aw] fF:=.cons (by rw [aD]; exact ⟨_,rfl,cV⟩)<|.cons (by rw [aC]; exact ⟨_,rfl,eS⟩)<|.cons (by rw [aB]; exact ⟨_,rfl,gO⟩)<|.nil
     exact ⟨_,_,_,_,_,_,_,_,_,_,_,_,_,_,_,_,_,_,_,_,_,_,_,_,_,_,_,_,upds_of _ _ ⟨rfl,rfl,rfl,rfl,rfl,rfl,rfl,rfl,rfl,rfl,rfl,rfl,rfl,rfl,rfl,trivial⟩,hM,(H.er 18 |>.er 17 |>.er 16 |>.er 4 |>.er 3 |>.er 2 |>.er 1),lV⟩
    replace hM:=M.e_f hM fR
    refine W.byc ((n:Int)==3) (fun fS=>?_) (fun fS=>?_)
    ·replace hM:=M.e_t hM fS
     have lW:(n:Int)=3:=eq_of_beq fS
     obtain ⟨vW,hM⟩:=M.e_gd hM;refine kg 3 ?_;refine s_val (x_ix (v:=vat aE 1 (Int.toNat (n:Int))) rfl rfl (Sl.ix (α:=Raw 0) T39.und T39.size (H.os 0) (by omega) (by have aG:=aF; omega)))<|s_val (x_ld (v:=fat (vat av 2 (Int.toNat 0)) 0) rfl (ld_sc Sc34 (At.mono (raw_at (i:=(n:Int)) (k:=3) (H.os 0) lW rfl) (H.ol 0)))) ?_;refine kg 1 ?_;refine s_val (x_ncE (p:=fat (vat av 2 (Int.toNat 0)) 0) rfl (ptr_fat (Sl.pl (i:=0) (H.os 17) (by omega) (by omega)))) ?_;refine t_fst (α:=Span) (k:=17) (i:=0) (off:=0) (l:=fT) (l':=fT.set 0 ({ (fT.getD 0 default) with lo:=vl29.getD ah 0 })) (val:=I (vl29.getD ah 0)) H rfl Sz3 (by omega) (by omega) (fT.getD 0 default) ({ (fT.getD 0 default) with lo:=vl29.getD ah 0 }) (getD_some _ (by omega) _) rfl rfl [I (vl29.getD ah 0)] rfl rfl rfl rfl rfl rfl rfl ?_;intro vX H;replace H:=H.nf
     have vY:(fT.set 0 ({ (fT.getD 0 default) with lo:=vl29.getD ah 0 })).length=fT.length:=List.length_set
     refine s_nil ?_
     obtain ⟨aH,H⟩:=H.emptyE
     obtain ⟨aI,H,lX⟩:=H.freezeE (k:=15) rfl
     replace H:=H.nf
     have cW:=lX
     obtain ⟨aJ,H,vZ,lY⟩:=H.joinE (i:=0) (j:=15) rfl rfl
     replace cW:=cW.mono lY
     obtain ⟨aK,H,lZ⟩:=H.freezeE (k:=15) rfl
     replace H:=H.nf
     have eT:=lZ
     obtain ⟨aL,H,l0,l1⟩:=H.joinE (i:=0) (j:=15) rfl rfl
     replace cW:=cW.mono l0
     replace eT:=eT.mono l1
     obtain ⟨aM,H,ma⟩:=H.freezeE (k:=15) rfl
     replace H:=H.nf
     have gP:=ma
     obtain ⟨am,H,jR,mb⟩:=H.joinE (i:=0) (j:=15) rfl rfl
     replace cW:=cW.mono jR
     replace eT:=eT.mono jR
     replace gP:=gP.mono mb
     have mc:RepR (α:=Flood) am.cells [az,aA,aw] fF:=.cons (by rw [aD]; exact ⟨_,rfl,cW⟩)<|.cons (by rw [aC]; exact ⟨_,rfl,eT⟩)<|.cons (by rw [aB]; exact ⟨_,rfl,gP⟩)<|.nil
     exact ⟨_,_,_,_,_,_,_,_,_,_,_,_,_,_,_,_,_,_,_,_,_,_,_,_,_,_,_,_,upds_of _ _ ⟨rfl,rfl,rfl,rfl,rfl,rfl,rfl,rfl,rfl,rfl,rfl,rfl,rfl,rfl,rfl,trivial⟩,hM,(H.er 18 |>.er 17 |>.er 16 |>.er 4 |>.er 3 |>.er 2 |>.er 1),mc⟩
    replace hM:=M.e_f hM fS
    refine W.byc ((n:Int)==4) (fun fU=>?_) (fun fU=>?_)
    ·replace hM:=M.e_t hM fU
     have me:(n:Int)=4:=eq_of_beq fU
     obtain ⟨v2,hM⟩:=M.e_gd hM;refine kg 3 ?_;refine s_val (x_ix (v:=vat aE 1 (Int.toNat (n:Int))) rfl rfl (Sl.ix (α:=Raw 0) T39.und T39.size (H.os 0) (by omega) (by have aG:=aF; omega)))<|s_val (x_ld (v:=fat (vat av 2 (Int.toNat 1)) 1) rfl (ld_sc Sc34 (At.mono (raw_at (i:=(n:Int)) (k:=4) (H.os 0) me rfl) (H.ol 0)))) ?_;refine kg 1 ?_;refine s_val (x_ncE (p:=fat (vat av 2 (Int.toNat 1)) 1) rfl (ptr_fat (Sl.pl (i:=1) (H.os 17) (by omega) (by omega)))) ?_;refine t_fst (α:=Span) (k:=17) (i:=1) (off:=1) (l:=fT) (l':=fT.set 1 ({ (fT.getD 1 default) with hi:=vl29.getD ah 0 })) (val:=I (vl29.getD ah 0)) H rfl Sz3 (by omega) (by omega) (fT.getD 1 default) ({ (fT.getD 1 default) with hi:=vl29.getD ah 0 }) (getD_some _ (by omega) _) rfl rfl [I (vl29.getD ah 0)] rfl rfl rfl rfl rfl rfl rfl ?_;intro v6 H;replace H:=H.nf
     have v7:(fT.set 1 ({ (fT.getD 1 default) with hi:=vl29.getD ah 0 })).length=fT.length:=List.length_set
     refine s_nil ?_
     obtain ⟨aH,H⟩:=H.emptyE
     obtain ⟨aI,H,mf⟩:=H.freezeE (k:=15) rfl
     replace H:=H.nf
     have cX:=mf
     obtain ⟨aJ,H,v8,mg⟩:=H.joinE (i:=0) (j:=15) rfl rfl
     replace cX:=cX.mono mg
     obtain ⟨aK,H,mh⟩:=H.freezeE (k:=15) rfl
     replace H:=H.nf
     have eU:=mh
     obtain ⟨aL,H,mi,mj⟩:=H.joinE (i:=0) (j:=15) rfl rfl
     replace cX:=cX.mono mi
     replace eU:=eU.mono mj
     obtain ⟨aM,H,ml⟩:=H.freezeE (k:=15) rfl
     replace H:=H.nf
     have gQ:=ml
     obtain ⟨am,H,jT,mm⟩:=H.joinE (i:=0) (j:=15) rfl rfl
     replace cX:=cX.mono jT
     replace eU:=eU.mono jT
     replace gQ:=gQ.mono mm
     have mn:RepR (α:=Flood) am.cells [az,aA,aw] fF:=.cons (by rw [aD]; exact ⟨_,rfl,cX⟩)<|.cons (by rw [aC]; exact ⟨_,rfl,eU⟩)<|.cons (by rw [aB]; exact ⟨_,rfl,gQ⟩)<|.nil
     exact ⟨_,_,_,_,_,_,_,_,_,_,_,_,_,_,_,_,_,_,_,_,_,_,_,_,_,_,_,_,upds_of _ _ ⟨rfl,rfl,rfl,rfl,rfl,rfl,rfl,rfl,rfl,rfl,rfl,rfl,rfl,rfl,rfl,trivial⟩,hM,(H.er 18 |>.er 17 |>.er 16 |>.er 4 |>.er 3 |>.er 2 |>.er 1),mn⟩
    replace hM:=M.e_f hM fU
    refine W.byc ((n:Int)==5) (fun fV=>?_) (fun fV=>?_)
    ·replace hM:=M.e_t hM fV
     have mo:(n:Int)=5:=eq_of_beq fV
     obtain ⟨wa,hM⟩:=M.e_gd hM;refine kg 3 ?_;refine s_val (x_ix (v:=vat aE 1 (Int.toNat (n:Int))) rfl rfl (Sl.ix (α:=Raw 0) T39.und T39.size (H.os 0) (by omega) (by have aG:=aF; omega)))<|s_val (x_ld (v:=fat (vat av 2 (Int.toNat 2)) 0) rfl (ld_sc Sc34 (At.mono (raw_at (i:=(n:Int)) (k:=5) (H.os 0) mo rfl) (H.ol 0)))) ?_;refine kg 1 ?_;refine s_val (x_ncE (p:=fat (vat av 2 (Int.toNat 2)) 0) rfl (ptr_fat (Sl.pl (i:=2) (H.os 17) (by omega) (by omega)))) ?_;refine t_fst (α:=Span) (k:=17) (i:=2) (off:=0) (l:=fT) (l':=fT.set 2 ({ (fT.getD 2 default) with lo:=vl29.getD ah 0 })) (val:=I (vl29.getD ah 0)) H rfl Sz3 (by omega) (by omega) (fT.getD 2 default) ({ (fT.getD 2 default) with lo:=vl29.getD ah 0 }) (getD_some _ (by omega) _) rfl rfl [I (vl29.getD ah 0)] rfl rfl rfl rfl rfl rfl rfl ?_;intro wb H;replace H:=H.nf
     have wc:(fT.set 2 ({ (fT.getD 2 default) with lo:=vl29.getD ah 0 })).length=fT.length:=List.length_set
     refine s_nil ?_
     obtain ⟨aH,H⟩:=H.emptyE
     obtain ⟨aI,H,mq⟩:=H.freezeE (k:=15) rfl
     replace H:=H.nf
     have cY:=mq
     obtain ⟨aJ,H,wd,mr⟩:=H.joinE (i:=0) (j:=15) rfl rfl
     replace cY:=cY.mono mr
     obtain ⟨aK,H,ms⟩:=H.freezeE (k:=15) rfl
     replace H:=H.nf
     have eV:=ms
     obtain ⟨aL,H,mt,mu⟩:=H.joinE (i:=0) (j:=15) rfl rfl
     replace cY:=cY.mono mt
     replace eV:=eV.mono mu
     obtain ⟨aM,H,mw⟩:=H.freezeE (k:=15) rfl
     replace H:=H.nf
     have gR:=mw
     obtain ⟨am,H,jW,my⟩:=H.joinE (i:=0) (j:=15) rfl rfl
     replace cY:=cY.mono jW
     replace eV:=eV.mono jW
     replace gR:=gR.mono my
     have mz:RepR (α:=Flood) am.cells [az,aA,aw] fF:=.cons (by rw [aD]; exact ⟨_,rfl,cY⟩)<|.cons (by rw [aC]; exact ⟨_,rfl,eV⟩)<|.cons (by rw [aB]; exact ⟨_,rfl,gR⟩)<|.nil
     exact ⟨_,_,_,_,_,_,_,_,_,_,_,_,_,_,_,_,_,_,_,_,_,_,_,_,_,_,_,_,upds_of _ _ ⟨rfl,rfl,rfl,rfl,rfl,rfl,rfl,rfl,rfl,rfl,rfl,rfl,rfl,rfl,rfl,trivial⟩,hM,(H.er 18 |>.er 17 |>.er 16 |>.er 4 |>.er 3 |>.er 2 |>.er 1),mz⟩
    replace hM:=M.e_f hM fV
    refine W.byc ((n:Int)==6) (fun fW=>?_) (fun fW=>?_)
    ·replace hM:=M.e_t hM fW
     have mC:(n:Int)=6:=eq_of_beq fW
     obtain ⟨we,hM⟩:=M.e_gd hM;refine kg 3 ?_;refine s_val (x_ix (v:=vat aE 1 (Int.toNat (n:Int))) rfl rfl (Sl.ix (α:=Raw 0) T39.und T39.size (H.os 0) (by omega) (by have aG:=aF; omega)))<|s_val (x_ld (v:=fat (vat av 2 (Int.toNat 3)) 1) rfl (ld_sc Sc34 (At.mono (raw_at (i:=(n:Int)) (k:=6) (H.os 0) mC rfl) (H.ol 0)))) ?_;refine kg 1 ?_;refine s_val (x_ncE (p:=fat (vat av 2 (Int.toNat 3)) 1) rfl (ptr_fat (Sl.pl (i:=3) (H.os 17) (by omega) (by omega)))) ?_;refine t_fst (α:=Span) (k:=17) (i:=3) (off:=1) (l:=fT) (l':=fT.set 3 ({ (fT.getD 3 default) with hi:=vl29.getD ah 0 })) (val:=I (vl29.getD ah 0)) H rfl Sz3 (by omega) (by omega) (fT.getD 3 default) ({ (fT.getD 3 default) with hi:=vl29.getD ah 0 }) (getD_some _ (by omega) _) rfl rfl [I (vl29.getD ah 0)] rfl rfl rfl rfl rfl rfl rfl ?_;intro wf H;replace H:=H.nf
     have wg:(fT.set 3 ({ (fT.getD 3 default) with hi:=vl29.getD ah 0 })).length=fT.length:=List.length_set
     refine s_nil ?_
     obtain ⟨aH,H⟩:=H.emptyE
     obtain ⟨aI,H,mD⟩:=H.freezeE (k:=15) rfl
     replace H:=H.nf
     have cZ:=mD
     obtain ⟨aJ,H,wh,mE⟩:=H.joinE (i:=0) (j:=15) rfl rfl
     replace cZ:=cZ.mono mE
     obtain ⟨aK,H,mF⟩:=H.freezeE (k:=15) rfl
     replace H:=H.nf
     have eW:=mF
     obtain ⟨aL,H,mG,mH⟩:=H.joinE (i:=0) (j:=15) rfl rfl
     replace cZ:=cZ.mono mG
     replace eW:=eW.mono mH
     obtain ⟨aM,H,mI⟩:=H.freezeE (k:=15) rfl
     replace H:=H.nf
     have gS:=mI
     obtain ⟨am,H,jX,mJ⟩:=H.joinE (i:=0) (j:=15) rfl rfl
     replace cZ:=cZ.mono jX
     replace eW:=eW.mono jX
     replace gS:=gS.mono mJ
     have mK:RepR (α:=Flood) am.cells [az,aA,aw] fF:=.cons (by rw [aD]; exact ⟨_,rfl,cZ⟩)<|.cons (by rw [aC]; exact ⟨_,rfl,eW⟩)<|.cons (by rw [aB]; exact ⟨_,rfl,gS⟩)<|.nil
     exact ⟨_,_,_,_,_,_,_,_,_,_,_,_,_,_,_,_,_,_,_,_,_,_,_,_,_,_,_,_,upds_of _ _ ⟨rfl,rfl,rfl,rfl,rfl,rfl,rfl,rfl,rfl,rfl,rfl,rfl,rfl,rfl,rfl,trivial⟩,hM,(H.er 18 |>.er 17 |>.er 16 |>.er 4 |>.er 3 |>.er 2 |>.er 1),mK⟩
    replace hM:=M.e_f hM fW
    refine W.byc ((n:Int)==7) (fun fX=>?_) (fun fX=>?_)
    ·replace hM:=M.e_t hM fX
     have mL:(n:Int)=7:=eq_of_beq fX
     obtain ⟨wi,hM⟩:=M.e_gd hM;refine kg 3 ?_;refine s_val (x_ix (v:=vat aE 1 (Int.toNat (n:Int))) rfl rfl (Sl.ix (α:=Raw 0) T39.und T39.size (H.os 0) (by omega) (by have aG:=aF; omega)))<|s_val (x_ld (v:=vat bt 1 (Int.toNat 0)) rfl (ld_sc Sc34 (At.mono (raw_at (i:=(n:Int)) (k:=7) (H.os 0) mL rfl) (H.ol 0)))) ?_;refine kg 1 ?_;refine s_val (x_ncE (p:=vat bt 1 (Int.toNat 0)) rfl (Sl.pl (i:=0) (H.os 16) (by omega) (by omega))) ?_;refine t_ost (k:=16) (i:=0) (l:=[(0:Int),(1:Int)]) (l':=([(0:Int),(1:Int)]).set 0 (vl29.getD ah 0:Int)) (val:=I (vl29.getD ah 0)) H rfl Sz3 (by omega) (by omega) (vl29.getD ah 0:Int) rfl rfl rfl rfl rfl ?_;intro wj H;replace H:=H.nf;refine s_nil ?_
     obtain ⟨aH,H⟩:=H.emptyE
     obtain ⟨aI,H,mM⟩:=H.freezeE (k:=15) rfl
     replace H:=H.nf
     have c0:=mM
     obtain ⟨aJ,H,wk,mN⟩:=H.joinE (i:=0) (j:=15) rfl rfl
     replace c0:=c0.mono mN
     obtain ⟨aK,H,mO⟩:=H.freezeE (k:=15) rfl
     replace H:=H.nf
     have eX:=mO
     obtain ⟨aL,H,mP,mQ⟩:=H.joinE (i:=0) (j:=15) rfl rfl
     replace c0:=c0.mono mP
     replace eX:=eX.mono mQ
     obtain ⟨aM,H,mR⟩:=H.freezeE (k:=15) rfl
     replace H:=H.nf
     have gT:=mR
     obtain ⟨am,H,jY,mS⟩:=H.joinE (i:=0) (j:=15) rfl rfl
     replace c0:=c0.mono jY
     replace eX:=eX.mono jY
     replace gT:=gT.mono mS
     have mT:RepR (α:=Flood) am.cells [az,aA,aw] fF:=.cons (by rw [aD]; exact ⟨_,rfl,c0⟩)<|.cons (by rw [aC]; exact ⟨_,rfl,eX⟩)<|.cons (by rw [aB]; exact ⟨_,rfl,gT⟩)<|.nil
     exact ⟨_,_,_,_,_,_,_,_,_,_,_,_,_,_,_,_,_,_,_,_,_,_,_,_,_,_,_,_,upds_of _ _ ⟨rfl,rfl,rfl,rfl,rfl,rfl,rfl,rfl,rfl,rfl,rfl,rfl,rfl,rfl,rfl,trivial⟩,hM,(H.er 18 |>.er 17 |>.er 16 |>.er 4 |>.er 3 |>.er 2 |>.er 1),mT⟩
    replace hM:=M.e_f hM fX
    refine W.byc ((n:Int)==8) (fun fY=>?_) (fun fY=>?_)
    ·replace hM:=M.e_t hM fY
     have mU:(n:Int)=8:=eq_of_beq fY
     obtain ⟨wl,hM⟩:=M.e_gd hM;refine kg 3 ?_;refine s_val (x_ix (v:=vat aE 1 (Int.toNat (n:Int))) rfl rfl (Sl.ix (α:=Raw 0) T39.und T39.size (H.os 0) (by omega) (by have aG:=aF; omega)))<|s_val (x_ld (v:=vat bt 1 (Int.toNat 1)) rfl (ld_sc Sc34 (At.mono (raw_at (i:=(n:Int)) (k:=8) (H.os 0) mU rfl) (H.ol 0)))) ?_;refine kg 1 ?_;refine s_val (x_ncE (p:=vat bt 1 (Int.toNat 1)) rfl (Sl.pl (i:=1) (H.os 16) (by omega) (by omega))) ?_;refine t_ost (k:=16) (i:=1) (l:=[(0:Int),(1:Int)]) (l':=([(0:Int),(1:Int)]).set 1 (vl29.getD ah 0:Int)) (val:=I (vl29.getD ah 0)) H rfl Sz3 (by omega) (by omega) (vl29.getD ah 0:Int) rfl rfl rfl rfl rfl ?_;intro wm H;replace H:=H.nf;refine s_nil ?_
     obtain ⟨aH,H⟩:=H.emptyE
     obtain ⟨aI,H,mV⟩:=H.freezeE (k:=15) rfl
     replace H:=H.nf
     have c5:=mV
     obtain ⟨aJ,H,wn,mW⟩:=H.joinE (i:=0) (j:=15) rfl rfl
     replace c5:=c5.mono mW
     obtain ⟨aK,H,mX⟩:=H.freezeE (k:=15) rfl
     replace H:=H.nf
     have eY:=mX
     obtain ⟨aL,H,mY,mZ⟩:=H.joinE (i:=0) (j:=15) rfl rfl
     replace c5:=c5.mono mY
     replace eY:=eY.mono mZ
     obtain ⟨aM,H,m0⟩:=H.freezeE (k:=15) rfl
     replace H:=H.nf
     have gU:=m0
     obtain ⟨am,H,jZ,m2⟩:=H.joinE (i:=0) (j:=15) rfl rfl
     replace c5:=c5.mono jZ
     replace eY:=eY.mono jZ
     replace gU:=gU.mono m2
     have m3:RepR (α:=Flood) am.cells [az,aA,aw] fF:=.cons (by rw [aD]; exact ⟨_,rfl,c5⟩)<|.cons (by rw [aC]; exact ⟨_,rfl,eY⟩)<|.cons (by rw [aB]; exact ⟨_,rfl,gU⟩)<|.nil
     exact ⟨_,_,_,_,_,_,_,_,_,_,_,_,_,_,_,_,_,_,_,_,_,_,_,_,_,_,_,_,upds_of _ _ ⟨rfl,rfl,rfl,rfl,rfl,rfl,rfl,rfl,rfl,rfl,rfl,rfl,rfl,rfl,rfl,trivial⟩,hM,(H.er 18 |>.er 17 |>.er 16 |>.er 4 |>.er 3 |>.er 2 |>.er 1),m3⟩
    replace hM:=M.e_f hM fY
    refine W.byc ((n:Int)==9) (fun fZ=>?_) (fun fZ=>?_)
    ·replace hM:=M.e_t hM fZ
     have m4:(n:Int)=9:=eq_of_beq fZ
     obtain ⟨wp,hM⟩:=M.e_gd hM;refine kg 3 ?_;refine s_val (x_ix (v:=vat aE 1 (Int.toNat (n:Int))) rfl rfl (Sl.ix (α:=Raw 0) T39.und T39.size (H.os 0) (by omega) (by have aG:=aF; omega)))<|s_val (x_ld (v:=fat (vat aP 3 (Int.toNat 0)) 0) rfl (ld_sc Sc34 (At.mono (raw_at (i:=(n:Int)) (k:=9) (H.os 0) m4 rfl) (H.ol 0)))) ?_;refine kg 1 ?_;refine s_val (x_ncE (p:=fat (vat aP 3 (Int.toNat 0)) 0) rfl (ptr_fat (Sl.pl (i:=0) (H.os 15) (by omega) (by omega)))) ?_;refine t_fst (α:=Town) (k:=15) (i:=0) (off:=0) (l:=[(⟨(3:Int),((1+((n:Int) % 3)):Int),(300:Int)⟩:Town)]) (l':=([(⟨(3:Int),((1+((n:Int) % 3)):Int),(300:Int)⟩:Town)]).set 0 ({ (([(⟨(3:Int),((1+((n:Int) % 3)):Int),(300:Int)⟩:Town)]).getD 0 default) with station:=vl29.getD ah 0 })) (val:=I (vl29.getD ah 0)) H rfl Sz3 (by omega) (by omega) (([(⟨(3:Int),((1+((n:Int) % 3)):Int),(300:Int)⟩:Town)]).getD 0 default) ({ (([(⟨(3:Int),((1+((n:Int) % 3)):Int),(300:Int)⟩:Town)]).getD 0 default) with station:=vl29.getD ah 0 }) (getD_some _ (by omega) _) rfl rfl [I (vl29.getD ah 0)] rfl rfl rfl rfl rfl rfl rfl ?_;intro wq H;replace H:=H.nf
     have wr:(([(⟨(3:Int),((1+((n:Int) % 3)):Int),(300:Int)⟩:Town)]).set 0 ({ (([(⟨(3:Int),((1+((n:Int) % 3)):Int),(300:Int)⟩:Town)]).getD 0 default) with station:=vl29.getD ah 0 })).length=([(⟨(3:Int),((1+((n:Int) % 3)):Int),(300:Int)⟩:Town)]).length:=List.length_set
     refine s_nil ?_
     obtain ⟨aH,H⟩:=H.emptyE
     obtain ⟨aI,H,m5⟩:=H.freezeE (k:=15) rfl
     replace H:=H.nf
     have c6:=m5
     obtain ⟨aJ,H,ws,m6⟩:=H.joinE (i:=0) (j:=15) rfl rfl
     replace c6:=c6.mono m6
     obtain ⟨aK,H,m7⟩:=H.freezeE (k:=15) rfl
     replace H:=H.nf
     have eZ:=m7
     obtain ⟨aL,H,m8,m9⟩:=H.joinE (i:=0) (j:=15) rfl rfl
     replace c6:=c6.mono m8
     replace eZ:=eZ.mono m9
     obtain ⟨aM,H,na⟩:=H.freezeE (k:=15) rfl
     replace H:=H.nf
     have gV:=na
     obtain ⟨am,H,j0,nc⟩:=H.joinE (i:=0) (j:=15) rfl rfl
     replace c6:=c6.mono j0
     replace eZ:=eZ.mono j0
     replace gV:=gV.mono nc
     have ng:RepR (α:=Flood) am.cells [az,aA,aw] fF:=.cons (by rw [aD]; exact ⟨_,rfl,c6⟩)<|.cons (by rw [aC]; exact ⟨_,rfl,eZ⟩)<|.cons (by rw [aB]; exact ⟨_,rfl,gV⟩)<|.nil
     exact ⟨_,_,_,_,_,_,_,_,_,_,_,_,_,_,_,_,_,_,_,_,_,_,_,_,_,_,_,_,upds_of _ _ ⟨rfl,rfl,rfl,rfl,rfl,rfl,rfl,rfl,rfl,rfl,rfl,rfl,rfl,rfl,rfl,trivial⟩,hM,(H.er 18 |>.er 17 |>.er 16 |>.er 4 |>.er 3 |>.er 2 |>.er 1),ng⟩
    replace hM:=M.e_f hM fZ
    refine W.byc ((n:Int)==10) (fun f0=>?_) (fun f0=>?_)
    ·replace hM:=M.e_t hM f0
     have nh:(n:Int)=10:=eq_of_beq f0
     obtain ⟨wt,hM⟩:=M.e_gd hM;refine kg 3 ?_;refine s_val (x_ix (v:=vat aE 1 (Int.toNat (n:Int))) rfl rfl (Sl.ix (α:=Raw 0) T39.und T39.size (H.os 0) (by omega) (by have aG:=aF; omega)))<|s_val (x_ld (v:=fat (vat aP 3 (Int.toNat 0)) 1) rfl (ld_sc Sc34 (At.mono (raw_at (i:=(n:Int)) (k:=10) (H.os 0) nh rfl) (H.ol 0)))) ?_;refine kg 1 ?_;refine s_val (x_ncE (p:=fat (vat aP 3 (Int.toNat 0)) 1) rfl (ptr_fat (Sl.pl (i:=0) (H.os 15) (by omega) (by omega)))) ?_;refine t_fst (α:=Town) (k:=15) (i:=0) (off:=1) (l:=[(⟨(3:Int),((1+((n:Int) % 3)):Int),(300:Int)⟩:Town)]) (l':=([(⟨(3:Int),((1+((n:Int) % 3)):Int),(300:Int)⟩:Town)]).set 0 ({ (([(⟨(3:Int),((1+((n:Int) % 3)):Int),(300:Int)⟩:Town)]).getD 0 default) with lead:=vl29.getD ah 0 })) (val:=I (vl29.getD ah 0)) H rfl Sz3 (by omega) (by omega) (([(⟨(3:Int),((1+((n:Int) % 3)):Int),(300:Int)⟩:Town)]).getD 0 default) ({ (([(⟨(3:Int),((1+((n:Int) % 3)):Int),(300:Int)⟩:Town)]).getD 0 default) with lead:=vl29.getD ah 0 }) (getD_some _ (by omega) _) rfl rfl [I (vl29.getD ah 0)] rfl rfl rfl rfl rfl rfl rfl ?_;intro wu H;replace H:=H.nf
     have wv:(([(⟨(3:Int),((1+((n:Int) % 3)):Int),(300:Int)⟩:Town)]).set 0 ({ (([(⟨(3:Int),((1+((n:Int) % 3)):Int),(300:Int)⟩:Town)]).getD 0 default) with lead:=vl29.getD ah 0 })).length=([(⟨(3:Int),((1+((n:Int) % 3)):Int),(300:Int)⟩:Town)]).length:=List.length_set
     refine s_nil ?_
     obtain ⟨aH,H⟩:=H.emptyE
     obtain ⟨aI,H,ni⟩:=H.freezeE (k:=15) rfl
     replace H:=H.nf
     have c7:=ni
     obtain ⟨aJ,H,ww,nj⟩:=H.joinE (i:=0) (j:=15) rfl rfl
     replace c7:=c7.mono nj
     obtain ⟨aK,H,nk⟩:=H.freezeE (k:=15) rfl
     replace H:=H.nf
     have e0:=nk
     obtain ⟨aL,H,nl,nm⟩:=H.joinE (i:=0) (j:=15) rfl rfl
     replace c7:=c7.mono nl
     replace e0:=e0.mono nm
     obtain ⟨aM,H,nn⟩:=H.freezeE (k:=15) rfl
     replace H:=H.nf
     have gW:=nn
     obtain ⟨am,H,j1,np⟩:=H.joinE (i:=0) (j:=15) rfl rfl
     replace c7:=c7.mono j1
     replace e0:=e0.mono j1
     replace gW:=gW.mono np
     have nq:RepR (α:=Flood) am.cells [az,aA,aw] fF:=.cons (by rw [aD]; exact ⟨_,rfl,c7⟩)<|.cons (by rw [aC]; exact ⟨_,rfl,e0⟩)<|.cons (by rw [aB]; exact ⟨_,rfl,gW⟩)<|.nil
     exact ⟨_,_,_,_,_,_,_,_,_,_,_,_,_,_,_,_,_,_,_,_,_,_,_,_,_,_,_,_,upds_of _ _ ⟨rfl,rfl,rfl,rfl,rfl,rfl,rfl,rfl,rfl,rfl,rfl,rfl,rfl,rfl,rfl,trivial⟩,hM,(H.er 18 |>.er 17 |>.er 16 |>.er 4 |>.er 3 |>.er 2 |>.er 1),nq⟩
    replace hM:=M.e_f hM f0
    refine W.byc ((n:Int)==11) (fun f1=>?_) (fun f1=>?_)
    ·replace hM:=M.e_t hM f1
     have nr:(n:Int)=11:=eq_of_beq f1
     obtain ⟨wx,hM⟩:=M.e_gd hM;refine kg 3 ?_;refine s_val (x_ix (v:=vat aE 1 (Int.toNat (n:Int))) rfl rfl (Sl.ix (α:=Raw 0) T39.und T39.size (H.os 0) (by omega) (by have aG:=aF; omega)))<|s_val (x_ld (v:=fat (vat aP 3 (Int.toNat 0)) 2) rfl (ld_sc Sc34 (At.mono (raw_at (i:=(n:Int)) (k:=11) (H.os 0) nr rfl) (H.ol 0)))) ?_;refine kg 1 ?_;refine s_val (x_ncE (p:=fat (vat aP 3 (Int.toNat 0)) 2) rfl (ptr_fat (Sl.pl (i:=0) (H.os 15) (by omega) (by omega)))) ?_;refine t_fst (α:=Town) (k:=15) (i:=0) (off:=2) (l:=[(⟨(3:Int),((1+((n:Int) % 3)):Int),(300:Int)⟩:Town)]) (l':=([(⟨(3:Int),((1+((n:Int) % 3)):Int),(300:Int)⟩:Town)]).set 0 ({ (([(⟨(3:Int),((1+((n:Int) % 3)):Int),(300:Int)⟩:Town)]).getD 0 default) with alarm:=vl29.getD ah 0 })) (val:=I (vl29.getD ah 0)) H rfl Sz3 (by omega) (by omega) (([(⟨(3:Int),((1+((n:Int) % 3)):Int),(300:Int)⟩:Town)]).getD 0 default) ({ (([(⟨(3:Int),((1+((n:Int) % 3)):Int),(300:Int)⟩:Town)]).getD 0 default) with alarm:=vl29.getD ah 0 }) (getD_some _ (by omega) _) rfl rfl [I (vl29.getD ah 0)] rfl rfl rfl rfl rfl rfl rfl ?_;intro wy H;replace H:=H.nf
     have wz:(([(⟨(3:Int),((1+((n:Int) % 3)):Int),(300:Int)⟩:Town)]).set 0 ({ (([(⟨(3:Int),((1+((n:Int) % 3)):Int),(300:Int)⟩:Town)]).getD 0 default) with alarm:=vl29.getD ah 0 })).length=([(⟨(3:Int),((1+((n:Int) % 3)):Int),(300:Int)⟩:Town)]).length:=List.length_set
     refine s_nil ?_
     obtain ⟨aH,H⟩:=H.emptyE
     obtain ⟨aI,H,ns⟩:=H.freezeE (k:=15) rfl
     replace H:=H.nf
     have c8:=ns
     obtain ⟨aJ,H,wA,nu⟩:=H.joinE (i:=0) (j:=15) rfl rfl
     replace c8:=c8.mono nu
     obtain ⟨aK,H,nv⟩:=H.freezeE (k:=15) rfl
     replace H:=H.nf
     have e4:=nv
     obtain ⟨aL,H,nw,ny⟩:=H.joinE (i:=0) (j:=15) rfl rfl
     replace c8:=c8.mono nw
     replace e4:=e4.mono ny
     obtain ⟨aM,H,nz⟩:=H.freezeE (k:=15) rfl
     replace H:=H.nf
     have gX:=nz
     obtain ⟨am,H,j2,nA⟩:=H.joinE (i:=0) (j:=15) rfl rfl
     replace c8:=c8.mono j2
     replace e4:=e4.mono j2
     replace gX:=gX.mono nA
     have nB:RepR (α:=Flood) am.cells [az,aA,aw] fF:=.cons (by rw [aD]; exact ⟨_,rfl,c8⟩)<|.cons (by rw [aC]; exact ⟨_,rfl,e4⟩)<|.cons (by rw [aB]; exact ⟨_,rfl,gX⟩)<|.nil
     exact ⟨_,_,_,_,_,_,_,_,_,_,_,_,_,_,_,_,_,_,_,_,_,_,_,_,_,_,_,_,upds_of _ _ ⟨rfl,rfl,rfl,rfl,rfl,rfl,rfl,rfl,rfl,rfl,rfl,rfl,rfl,rfl,rfl,trivial⟩,hM,(H.er 18 |>.er 17 |>.er 16 |>.er 4 |>.er 3 |>.er 2 |>.er 1),nB⟩
    replace hM:=M.e_f hM f1
    refine W.byc ((n:Int)==12) (fun f2=>?_) (fun f2=>?_)
    ·replace hM:=M.e_t hM f2
     have nC:(n:Int)=12:=eq_of_beq f2
     obtain ⟨wB,hM⟩:=M.e_gd hM;refine kg 3 ?_;refine s_val (x_ix (v:=vat aE 1 (Int.toNat (n:Int))) rfl rfl (Sl.ix (α:=Raw 0) T39.und T39.size (H.os 0) (by omega) (by have aG:=aF; omega)))<|s_val (x_ld (v:=Oq ck 4) rfl (ld_sc Sc34 (At.mono (raw_at (i:=(n:Int)) (k:=12) (H.os 0) nC rfl) (H.ol 0)))) ?_;refine kg 2 ?_;refine t_sw 10 4 [I (vl29.getD ah 0)] (I (vl29.getD ah 0)) H rfl rfl Sz3 rfl rfl rfl rfl ?_;intro wC H;refine s_nil ?_
     obtain ⟨aH,H⟩:=H.emptyE
     obtain ⟨aI,H,nD⟩:=H.freezeE (k:=15) rfl
     replace H:=H.nf
     have c9:=nD
     obtain ⟨aJ,H,wD,nE⟩:=H.joinE (i:=0) (j:=15) rfl rfl
     replace c9:=c9.mono nE
     obtain ⟨aK,H,nF⟩:=H.freezeE (k:=15) rfl
     replace H:=H.nf
     have e6:=nF
     obtain ⟨aL,H,nG,nH⟩:=H.joinE (i:=0) (j:=15) rfl rfl
     replace c9:=c9.mono nG
     replace e6:=e6.mono nH
     obtain ⟨aM,H,nI⟩:=H.freezeE (k:=15) rfl
     replace H:=H.nf
     have gY:=nI
     obtain ⟨am,H,j3,nJ⟩:=H.joinE (i:=0) (j:=15) rfl rfl
     replace c9:=c9.mono j3
     replace e6:=e6.mono j3
     replace gY:=gY.mono nJ
     have nK:RepR (α:=Flood) am.cells [az,aA,aw] fF:=.cons (by rw [aD]; exact ⟨_,rfl,c9⟩)<|.cons (by rw [aC]; exact ⟨_,rfl,e6⟩)<|.cons (by rw [aB]; exact ⟨_,rfl,gY⟩)<|.nil
     exact ⟨_,_,_,_,_,_,_,_,_,_,_,_,_,_,_,_,_,_,_,_,_,_,_,_,_,_,_,_,upds_of _ _ ⟨rfl,rfl,rfl,rfl,rfl,rfl,rfl,rfl,rfl,rfl,rfl,rfl,rfl,rfl,rfl,trivial⟩,hM,(H.er 18 |>.er 17 |>.er 16 |>.er 4 |>.er 3 |>.er 2 |>.er 1),nK⟩
    replace hM:=M.e_f hM f2
    refine W.byc ((n:Int)==13) (fun f4=>?_) (fun f4=>?_)
    ·replace hM:=M.e_t hM f4
     have nL:(n:Int)=13:=eq_of_beq f4
     obtain ⟨wE,hM⟩:=M.e_gd hM;refine kg 3 ?_;refine s_val (x_ix (v:=vat aE 1 (Int.toNat (n:Int))) rfl rfl (Sl.ix (α:=Raw 0) T39.und T39.size (H.os 0) (by omega) (by have aG:=aF; omega)))<|s_val (x_ld (v:=Oq ck 5) rfl (ld_sc Sc34 (At.mono (raw_at (i:=(n:Int)) (k:=13) (H.os 0) nL rfl) (H.ol 0)))) ?_;refine kg 2 ?_;refine t_sw 10 5 [I (vl29.getD ah 0)] (I (vl29.getD ah 0)) H rfl rfl Sz3 rfl rfl rfl rfl ?_;intro wF H;refine s_nil ?_
     obtain ⟨aH,H⟩:=H.emptyE
     obtain ⟨aI,H,nM⟩:=H.freezeE (k:=15) rfl
     replace H:=H.nf
     have da:=nM
     obtain ⟨aJ,H,wG,nN⟩:=H.joinE (i:=0) (j:=15) rfl rfl
     replace da:=da.mono nN
     obtain ⟨aK,H,nO⟩:=H.freezeE (k:=15) rfl
     replace H:=H.nf
     have e7:=nO
     obtain ⟨aL,H,nP,nQ⟩:=H.joinE (i:=0) (j:=15) rfl rfl
     replace da:=da.mono nP
     replace e7:=e7.mono nQ
     obtain ⟨aM,H,nR⟩:=H.freezeE (k:=15) rfl
     replace H:=H.nf
     have gZ:=nR
     obtain ⟨am,H,j4,nT⟩:=H.joinE (i:=0) (j:=15) rfl rfl
     replace da:=da.mono j4
     replace e7:=e7.mono j4
     replace gZ:=gZ.mono nT
     have nU:RepR (α:=Flood) am.cells [az,aA,aw] fF:=.cons (by rw [aD]; exact ⟨_,rfl,da⟩)<|.cons (by rw [aC]; exact ⟨_,rfl,e7⟩)<|.cons (by rw [aB]; exact ⟨_,rfl,gZ⟩)<|.nil
     exact ⟨_,_,_,_,_,_,_,_,_,_,_,_,_,_,_,_,_,_,_,_,_,_,_,_,_,_,_,_,upds_of _ _ ⟨rfl,rfl,rfl,rfl,rfl,rfl,rfl,rfl,rfl,rfl,rfl,rfl,rfl,rfl,rfl,trivial⟩,hM,(H.er 18 |>.er 17 |>.er 16 |>.er 4 |>.er 3 |>.er 2 |>.er 1),nU⟩
    replace hM:=M.e_f hM f4
    refine W.byc ((n:Int)==14) (fun f6=>?_) (fun f6=>?_)
    ·replace hM:=M.e_t hM f6
     have nV:(n:Int)=14:=eq_of_beq f6
     obtain ⟨wH,hM⟩:=M.e_gd hM;refine kg 3 ?_;refine s_val (x_ix (v:=vat aE 1 (Int.toNat (n:Int))) rfl rfl (Sl.ix (α:=Raw 0) T39.und T39.size (H.os 0) (by omega) (by have aG:=aF; omega)))<|s_val (x_ld (v:=fat (vat bu 2 (Int.toNat 0)) 0) rfl (ld_sc Sc34 (At.mono (raw_at (i:=(n:Int)) (k:=14) (H.os 0) nV rfl) (H.ol 0)))) ?_;refine kg 1 ?_;refine s_val (x_ncE (p:=fat (vat bu 2 (Int.toNat 0)) 0) rfl (ptr_fat (Sl.pl (i:=0) (H.os 11) (by omega) (by omega)))) ?_
     obtain ⟨e8,j5⟩:∃ r:Raw 1,r.cs=[I (vl29.getD ah 0),gK]:=⟨Raw.of [I (vl29.getD ah 0),gK] rfl (by simp only [List.all_cons,List.all_nil,Bool.true_and,Bool.and_true,Sl.oc (H.os 14)]; try rfl),rfl⟩
     refine t_fst (α:=Raw 1) (k:=11) (i:=0) (off:=0) (l:=[az,aA,aw]) (l':=[e8,aA,aw]) (val:=I (vl29.getD ah 0)) H rfl Sz3 (by omega) (by first | omega | (simp only [List.length_cons,List.length_nil]; omega)) (az) (e8) rfl rfl rfl [I (vl29.getD ah 0)] rfl rfl rfl rfl (by rw [show (Flat.enc e8:List Value)=e8.cs from rfl,j5,show (Flat.enc az:List Value)=az.cs from rfl,aD]; rfl) rfl rfl ?_;intro wI H;replace H:=H.nf;refine s_nil ?_
     obtain ⟨aH,H⟩:=H.emptyE
     obtain ⟨aI,H,nW⟩:=H.freezeE (k:=15) rfl
     replace H:=H.nf
     have db:=nW
     obtain ⟨aJ,H,wJ,nX⟩:=H.joinE (i:=0) (j:=15) rfl rfl
     replace db:=db.mono nX
     obtain ⟨aK,H,nY⟩:=H.freezeE (k:=15) rfl
     replace H:=H.nf
     have e9:=nY
     obtain ⟨aL,H,nZ,n0⟩:=H.joinE (i:=0) (j:=15) rfl rfl
     replace db:=db.mono nZ
     replace e9:=e9.mono n0
     obtain ⟨aM,H,n1⟩:=H.freezeE (k:=15) rfl
     replace H:=H.nf
     have g0:=n1
     obtain ⟨am,H,j6,n3⟩:=H.joinE (i:=0) (j:=15) rfl rfl
     replace db:=db.mono j6
     replace e9:=e9.mono j6
     replace g0:=g0.mono n3
     have n4:RepR (α:=Flood) am.cells [e8,aA,aw] [(⟨(vl29.getD ah 0:Int),([(200:Int),(250:Int),(310:Int)])⟩:Flood),(⟨(1:Int),([(280:Int),(240:Int),(290:Int)])⟩:Flood),(⟨(0:Int),([(100:Int),(260:Int),(300:Int)])⟩:Flood)]:=.cons (by rw [j5]; exact ⟨_,rfl,db⟩)<|.cons (by rw [aC]; exact ⟨_,rfl,e9⟩)<|.cons (by rw [aB]; exact ⟨_,rfl,g0⟩)<|.nil
     exact ⟨_,_,_,_,_,_,_,_,_,_,_,_,_,_,_,_,_,_,_,_,_,_,_,_,_,_,_,_,upds_of _ _ ⟨rfl,rfl,rfl,rfl,rfl,rfl,rfl,rfl,rfl,rfl,rfl,rfl,rfl,rfl,rfl,trivial⟩,hM,(H.er 18 |>.er 17 |>.er 16 |>.er 4 |>.er 3 |>.er 2 |>.er 1),n4⟩
    replace hM:=M.e_f hM f6
    refine W.byc ((n:Int)==15) (fun f9=>?_) (fun f9=>?_)
    ·replace hM:=M.e_t hM f9
     have n6:(n:Int)=15:=eq_of_beq f9
     obtain ⟨wK,hM⟩:=M.e_gd hM;refine kg 3 ?_;refine s_val (x_ix (v:=vat aE 1 (Int.toNat (n:Int))) rfl rfl (Sl.ix (α:=Raw 0) T39.und T39.size (H.os 0) (by omega) (by have aG:=aF; omega)))<|s_val (x_ld (v:=vat cy 1 (Int.toNat 1)) rfl (ld_sc Sc34 (At.mono (raw_at (i:=(n:Int)) (k:=15) (H.os 0) n6 rfl) (H.ol 0)))) ?_;refine kg 1 ?_;refine s_val (x_ncE (p:=vat cy 1 (Int.toNat 1)) rfl (Sl.pl (i:=1) (H.os 13) (by omega) (by omega))) ?_;refine t_ost (k:=13) (i:=1) (l:=[(280:Int),(240:Int),(290:Int)]) (l':=([(280:Int),(240:Int),(290:Int)]).set 1 (vl29.getD ah 0:Int)) (val:=I (vl29.getD ah 0)) H rfl Sz3 (by omega) (by omega) (vl29.getD ah 0:Int) rfl rfl rfl rfl rfl ?_;intro wL H;replace H:=H.nf;refine s_nil ?_
     obtain ⟨aH,H⟩:=H.emptyE
     obtain ⟨aI,H,n7⟩:=H.freezeE (k:=15) rfl
     replace H:=H.nf
     have dc:=n7
     obtain ⟨aJ,H,wM,n8⟩:=H.joinE (i:=0) (j:=15) rfl rfl
     replace dc:=dc.mono n8
     obtain ⟨aK,H,n9⟩:=H.freezeE (k:=15) rfl
     replace H:=H.nf
     have fa:=n9
     obtain ⟨aL,H,oa,ob⟩:=H.joinE (i:=0) (j:=15) rfl rfl
     replace dc:=dc.mono oa
     replace fa:=fa.mono ob
     obtain ⟨aM,H,od⟩:=H.freezeE (k:=15) rfl
     replace H:=H.nf
     have g1:=od
     obtain ⟨am,H,j7,oe⟩:=H.joinE (i:=0) (j:=15) rfl rfl
     replace dc:=dc.mono j7
     replace fa:=fa.mono j7
     replace g1:=g1.mono oe
     have og:RepR (α:=Flood) am.cells [az,aA,aw] [(⟨(0:Int),([(200:Int),(250:Int),(310:Int)])⟩:Flood),(⟨(1:Int),(([(280:Int),(240:Int),(290:Int)]).set 1 (vl29.getD ah 0:Int))⟩:Flood),(⟨(0:Int),([(100:Int),(260:Int),(300:Int)])⟩:Flood)]:=.cons (by rw [aD]; exact ⟨_,rfl,dc⟩)<|.cons (by rw [aC]; exact ⟨_,rfl,fa⟩)<|.cons (by rw [aB]; exact ⟨_,rfl,g1⟩)<|.nil
     exact ⟨_,_,_,_,_,_,_,_,_,_,_,_,_,_,_,_,_,_,_,_,_,_,_,_,_,_,_,_,upds_of _ _ ⟨rfl,rfl,rfl,rfl,rfl,rfl,rfl,rfl,rfl,rfl,rfl,rfl,rfl,rfl,rfl,trivial⟩,hM,(H.er 18 |>.er 17 |>.er 16 |>.er 4 |>.er 3 |>.er 2 |>.er 1),og⟩
    replace hM:=M.e_f hM f9
    refine W.byc ((n:Int)==16) (fun ga=>?_) (fun ga=>?_)
    ·replace hM:=M.e_t hM ga
     have oh:(n:Int)=16:=eq_of_beq ga
     obtain ⟨wN,hM⟩:=M.e_gd hM;refine kg 3 ?_;refine s_val (x_ix (v:=vat aE 1 (Int.toNat (n:Int))) rfl rfl (Sl.ix (α:=Raw 0) T39.und T39.size (H.os 0) (by omega) (by have aG:=aF; omega)))<|s_val (x_ld (v:=Pq cO) rfl (ld_sc Sc34 (At.mono (raw_at (i:=(n:Int)) (k:=16) (H.os 0) oh rfl) (H.ol 0)))) ?_;refine kg 2 ?_;refine t_sw 9 0 [I (vl29.getD ah 0)] (I (vl29.getD ah 0)) H rfl rfl Sz3 rfl rfl rfl rfl ?_;intro wO H;refine s_nil ?_
     obtain ⟨aH,H⟩:=H.emptyE
     obtain ⟨aI,H,om⟩:=H.freezeE (k:=15) rfl
     replace H:=H.nf
     have dd:=om
     obtain ⟨aJ,H,wP,oo⟩:=H.joinE (i:=0) (j:=15) rfl rfl
     replace dd:=dd.mono oo
     obtain ⟨aK,H,oq⟩:=H.freezeE (k:=15) rfl
     replace H:=H.nf
     have fb:=oq
     obtain ⟨aL,H,ot,ou⟩:=H.joinE (i:=0) (j:=15) rfl rfl
     replace dd:=dd.mono ot
     replace fb:=fb.mono ou
     obtain ⟨aM,H,ov⟩:=H.freezeE (k:=15) rfl
     replace H:=H.nf
     have g2:=ov
     obtain ⟨am,H,j8,ow⟩:=H.joinE (i:=0) (j:=15) rfl rfl
     replace dd:=dd.mono j8
     replace fb:=fb.mono j8
     replace g2:=g2.mono ow
     have ox:RepR (α:=Flood) am.cells [az,aA,aw] fF:=.cons (by rw [aD]; exact ⟨_,rfl,dd⟩)<|.cons (by rw [aC]; exact ⟨_,rfl,fb⟩)<|.cons (by rw [aB]; exact ⟨_,rfl,g2⟩)<|.nil
     exact ⟨_,_,_,_,_,_,_,_,_,_,_,_,_,_,_,_,_,_,_,_,_,_,_,_,_,_,_,_,upds_of _ _ ⟨rfl,rfl,rfl,rfl,rfl,rfl,rfl,rfl,rfl,rfl,rfl,rfl,rfl,rfl,rfl,trivial⟩,hM,(H.er 18 |>.er 17 |>.er 16 |>.er 4 |>.er 3 |>.er 2 |>.er 1),ox⟩
    replace hM:=M.e_f hM ga
    refine W.byc ((n:Int)==17) (fun gc=>?_) (fun gc=>?_)
    ·replace hM:=M.e_t hM gc
     have oy:(n:Int)=17:=eq_of_beq gc
     obtain ⟨wQ,hM⟩:=M.e_gd hM;refine kg 3 ?_;refine s_val (x_ix (v:=vat aE 1 (Int.toNat (n:Int))) rfl rfl (Sl.ix (α:=Raw 0) T39.und T39.size (H.os 0) (by omega) (by have aG:=aF; omega)))<|s_val (x_ld (v:=Pq cP) rfl (ld_sc Sc34 (At.mono (raw_at (i:=(n:Int)) (k:=17) (H.os 0) oy rfl) (H.ol 0)))) ?_;refine kg 2 ?_;refine t_sw 8 0 [I (vl29.getD ah 0)] (I (vl29.getD ah 0)) H rfl rfl Sz3 rfl rfl rfl rfl ?_;intro wR H;refine s_nil ?_
     obtain ⟨aH,H⟩:=H.emptyE
     obtain ⟨aI,H,oz⟩:=H.freezeE (k:=15) rfl
     replace H:=H.nf
     have dg:=oz
     obtain ⟨aJ,H,wS,oA⟩:=H.joinE (i:=0) (j:=15) rfl rfl
     replace dg:=dg.mono oA
     obtain ⟨aK,H,oB⟩:=H.freezeE (k:=15) rfl
     replace H:=H.nf
     have fd:=oB
     obtain ⟨aL,H,oC,oD⟩:=H.joinE (i:=0) (j:=15) rfl rfl
     replace dg:=dg.mono oC
     replace fd:=fd.mono oD
     obtain ⟨aM,H,oE⟩:=H.freezeE (k:=15) rfl
     replace H:=H.nf
     have g3:=oE
     obtain ⟨am,H,j9,oF⟩:=H.joinE (i:=0) (j:=15) rfl rfl
     replace dg:=dg.mono j9
     replace fd:=fd.mono j9
     replace g3:=g3.mono oF
     have oG:RepR (α:=Flood) am.cells [az,aA,aw] fF:=.cons (by rw [aD]; exact ⟨_,rfl,dg⟩)<|.cons (by rw [aC]; exact ⟨_,rfl,fd⟩)<|.cons (by rw [aB]; exact ⟨_,rfl,g3⟩)<|.nil
     exact ⟨_,_,_,_,_,_,_,_,_,_,_,_,_,_,_,_,_,_,_,_,_,_,_,_,_,_,_,_,upds_of _ _ ⟨rfl,rfl,rfl,rfl,rfl,rfl,rfl,rfl,rfl,rfl,rfl,rfl,rfl,rfl,rfl,trivial⟩,hM,(H.er 18 |>.er 17 |>.er 16 |>.er 4 |>.er 3 |>.er 2 |>.er 1),oG⟩
    replace hM:=M.e_f hM gc
    refine W.byc ((n:Int)==18) (fun gf=>?_) (fun gf=>?_)
    ·replace hM:=M.e_t hM gf
     have oH:(n:Int)=18:=eq_of_beq gf
     obtain ⟨wT,hM⟩:=M.e_gd hM;refine kg 3 ?_;refine s_val (x_ix (v:=vat aE 1 (Int.toNat (n:Int))) rfl rfl (Sl.ix (α:=Raw 0) T39.und T39.size (H.os 0) (by omega) (by have aG:=aF; omega)))<|s_val (x_ld (v:=Pq cQ) rfl (ld_sc Sc34 (At.mono (raw_at (i:=(n:Int)) (k:=18) (H.os 0) oH rfl) (H.ol 0)))) ?_;refine kg 2 ?_;refine t_sw 7 0 [I (vl29.getD ah 0)] (I (vl29.getD ah 0)) H rfl rfl Sz3 rfl rfl rfl rfl ?_;intro wU H;refine s_nil ?_
     obtain ⟨aH,H⟩:=H.emptyE
     obtain ⟨aI,H,oI⟩:=H.freezeE (k:=15) rfl
     replace H:=H.nf
     have dh:=oI
     obtain ⟨aJ,H,wV,oJ⟩:=H.joinE (i:=0) (j:=15) rfl rfl
     replace dh:=dh.mono oJ
     obtain ⟨aK,H,oK⟩:=H.freezeE (k:=15) rfl
     replace H:=H.nf
     have fe:=oK
     obtain ⟨aL,H,oL,oM⟩:=H.joinE (i:=0) (j:=15) rfl rfl
     replace dh:=dh.mono oL
     replace fe:=fe.mono oM
     obtain ⟨aM,H,oN⟩:=H.freezeE (k:=15) rfl
     replace H:=H.nf
     have g4:=oN
     obtain ⟨am,H,ka,oO⟩:=H.joinE (i:=0) (j:=15) rfl rfl
     replace dh:=dh.mono ka
     replace fe:=fe.mono ka
     replace g4:=g4.mono oO
     have oP:RepR (α:=Flood) am.cells [az,aA,aw] fF:=.cons (by rw [aD]; exact ⟨_,rfl,dh⟩)<|.cons (by rw [aC]; exact ⟨_,rfl,fe⟩)<|.cons (by rw [aB]; exact ⟨_,rfl,g4⟩)<|.nil
     exact ⟨_,_,_,_,_,_,_,_,_,_,_,_,_,_,_,_,_,_,_,_,_,_,_,_,_,_,_,_,upds_of _ _ ⟨rfl,rfl,rfl,rfl,rfl,rfl,rfl,rfl,rfl,rfl,rfl,rfl,rfl,rfl,rfl,trivial⟩,hM,(H.er 18 |>.er 17 |>.er 16 |>.er 4 |>.er 3 |>.er 2 |>.er 1),oP⟩
    replace hM:=M.e_f hM gf
    refine W.byc ((n:Int)==19) (fun gg=>?_) (fun gg=>?_)
    ·replace hM:=M.e_t hM gg
     have oQ:(n:Int)=19:=eq_of_beq gg
     obtain ⟨wW,hM⟩:=M.e_gd hM;refine kg 3 ?_;refine s_val (x_ix (v:=vat aE 1 (Int.toNat (n:Int))) rfl rfl (Sl.ix (α:=Raw 0) T39.und T39.size (H.os 0) (by omega) (by have aG:=aF; omega)))<|s_val (x_ld (v:=Pq cm) rfl (ld_sc Sc34 (At.mono (raw_at (i:=(n:Int)) (k:=19) (H.os 0) oQ rfl) (H.ol 0)))) ?_;refine kg 2 ?_;refine t_sw 4 0 [I (vl29.getD ah 0)] (I (vl29.getD ah 0)) H rfl rfl Sz3 rfl rfl rfl rfl ?_;intro wX H;refine s_nil ?_
     obtain ⟨aH,H⟩:=H.emptyE
     obtain ⟨aI,H,oR⟩:=H.freezeE (k:=15) rfl
     replace H:=H.nf
     have di:=oR
     obtain ⟨aJ,H,wY,oS⟩:=H.joinE (i:=0) (j:=15) rfl rfl
     replace di:=di.mono oS
     obtain ⟨aK,H,oT⟩:=H.freezeE (k:=15) rfl
     replace H:=H.nf
     have ff:=oT
     obtain ⟨aL,H,oU,oV⟩:=H.joinE (i:=0) (j:=15) rfl rfl
     replace di:=di.mono oU
     replace ff:=ff.mono oV
     obtain ⟨aM,H,oW⟩:=H.freezeE (k:=15) rfl
     replace H:=H.nf
     have g5:=oW
     obtain ⟨am,H,kb,oX⟩:=H.joinE (i:=0) (j:=15) rfl rfl
     replace di:=di.mono kb
     replace ff:=ff.mono kb
     replace g5:=g5.mono oX
     have oY:RepR (α:=Flood) am.cells [az,aA,aw] fF:=.cons (by rw [aD]; exact ⟨_,rfl,di⟩)<|.cons (by rw [aC]; exact ⟨_,rfl,ff⟩)<|.cons (by rw [aB]; exact ⟨_,rfl,g5⟩)<|.nil
     exact ⟨_,_,_,_,_,_,_,_,_,_,_,_,_,_,_,_,_,_,_,_,_,_,_,_,_,_,_,_,upds_of _ _ ⟨rfl,rfl,rfl,rfl,rfl,rfl,rfl,rfl,rfl,rfl,rfl,rfl,rfl,rfl,rfl,trivial⟩,hM,(H.er 18 |>.er 17 |>.er 16 |>.er 4 |>.er 3 |>.er 2 |>.er 1),oY⟩
    replace hM:=M.e_f hM gg
    refine W.byc ((n:Int)==20) (fun gh=>?_) (fun gh=>?_)
    ·replace hM:=M.e_t hM gh
     have oZ:(n:Int)=20:=eq_of_beq gh
     obtain ⟨wZ,hM⟩:=M.e_gd hM;refine kg 3 ?_;refine s_val (x_ix (v:=vat aE 1 (Int.toNat (n:Int))) rfl rfl (Sl.ix (α:=Raw 0) T39.und T39.size (H.os 0) (by omega) (by have aG:=aF; omega)))<|s_val (x_ld (v:=Oq cm 1) rfl (ld_sc Sc34 (At.mono (raw_at (i:=(n:Int)) (k:=20) (H.os 0) oZ rfl) (H.ol 0)))) ?_;refine kg 2 ?_;refine t_sw 4 1 [I (vl29.getD ah 0)] (I (vl29.getD ah 0)) H rfl rfl Sz3 rfl rfl rfl rfl ?_;intro w4 H;refine s_nil ?_
     obtain ⟨aH,H⟩:=H.emptyE
     obtain ⟨aI,H,o0⟩:=H.freezeE (k:=15) rfl
     replace H:=H.nf
     have dj:=o0
     obtain ⟨aJ,H,w5,o1⟩:=H.joinE (i:=0) (j:=15) rfl rfl
     replace dj:=dj.mono o1
     obtain ⟨aK,H,o4⟩:=H.freezeE (k:=15) rfl
     replace H:=H.nf
     have fg:=o4
     obtain ⟨aL,H,o5,o6⟩:=H.joinE (i:=0) (j:=15) rfl rfl
     replace dj:=dj.mono o5
     replace fg:=fg.mono o6
     obtain ⟨aM,H,o7⟩:=H.freezeE (k:=15) rfl
     replace H:=H.nf
     have g6:=o7
     obtain ⟨am,H,kc,o8⟩:=H.joinE (i:=0) (j:=15) rfl rfl
     replace dj:=dj.mono kc
     replace fg:=fg.mono kc
     replace g6:=g6.mono o8
     have o9:RepR (α:=Flood) am.cells [az,aA,aw] fF:=.cons (by rw [aD]; exact ⟨_,rfl,dj⟩)<|.cons (by rw [aC]; exact ⟨_,rfl,fg⟩)<|.cons (by rw [aB]; exact ⟨_,rfl,g6⟩)<|.nil
     exact ⟨_,_,_,_,_,_,_,_,_,_,_,_,_,_,_,_,_,_,_,_,_,_,_,_,_,_,_,_,upds_of _ _ ⟨rfl,rfl,rfl,rfl,rfl,rfl,rfl,rfl,rfl,rfl,rfl,rfl,rfl,rfl,rfl,trivial⟩,hM,(H.er 18 |>.er 17 |>.er 16 |>.er 4 |>.er 3 |>.er 2 |>.er 1),o9⟩
    replace hM:=M.e_f hM gh
    refine W.byc ((n:Int)==21) (fun gj=>?_) (fun gj=>?_)
    ·replace hM:=M.e_t hM gj
     have pa:(n:Int)=21:=eq_of_beq gj
     obtain ⟨w6,hM⟩:=M.e_gd hM;refine kg 3 ?_;refine s_val (x_ix (v:=vat aE 1 (Int.toNat (n:Int))) rfl rfl (Sl.ix (α:=Raw 0) T39.und T39.size (H.os 0) (by omega) (by have aG:=aF; omega)))<|s_val (x_ld (v:=vat bZ 1 (Int.toNat 0)) rfl (ld_sc Sc34 (At.mono (raw_at (i:=(n:Int)) (k:=21) (H.os 0) pa rfl) (H.ol 0)))) ?_;refine kg 1 ?_;refine s_val (x_ncE (p:=vat bZ 1 (Int.toNat 0)) rfl (Sl.pl (i:=0) (H.os 6) (by omega) (by omega))) ?_;refine t_ost (k:=6) (i:=0) (l:=[(0:Int),(2:Int)]) (l':=([(0:Int),(2:Int)]).set 0 (vl29.getD ah 0:Int)) (val:=I (vl29.getD ah 0)) H rfl Sz3 (by omega) (by omega) (vl29.getD ah 0:Int) rfl rfl rfl rfl rfl ?_;intro w7 H;replace H:=H.nf;refine s_nil ?_
     obtain ⟨aH,H⟩:=H.emptyE
     obtain ⟨aI,H,pb⟩:=H.freezeE (k:=15) rfl
     replace H:=H.nf
     have dk:=pb
     obtain ⟨aJ,H,w8,pc⟩:=H.joinE (i:=0) (j:=15) rfl rfl
     replace dk:=dk.mono pc
     obtain ⟨aK,H,pe⟩:=H.freezeE (k:=15) rfl
     replace H:=H.nf
     have fh:=pe
     obtain ⟨aL,H,pf,pg⟩:=H.joinE (i:=0) (j:=15) rfl rfl
     replace dk:=dk.mono pf
     replace fh:=fh.mono pg
     obtain ⟨aM,H,ph⟩:=H.freezeE (k:=15) rfl
     replace H:=H.nf
     have g7:=ph
     obtain ⟨am,H,ke,pi⟩:=H.joinE (i:=0) (j:=15) rfl rfl
     replace dk:=dk.mono ke
     replace fh:=fh.mono ke
     replace g7:=g7.mono pi
     have pj:RepR (α:=Flood) am.cells [az,aA,aw] fF:=.cons (by rw [aD]; exact ⟨_,rfl,dk⟩)<|.cons (by rw [aC]; exact ⟨_,rfl,fh⟩)<|.cons (by rw [aB]; exact ⟨_,rfl,g7⟩)<|.nil
     exact ⟨_,_,_,_,_,_,_,_,_,_,_,_,_,_,_,_,_,_,_,_,_,_,_,_,_,_,_,_,upds_of _ _ ⟨rfl,rfl,rfl,rfl,rfl,rfl,rfl,rfl,rfl,rfl,rfl,rfl,rfl,rfl,rfl,trivial⟩,hM,(H.er 18 |>.er 17 |>.er 16 |>.er 4 |>.er 3 |>.er 2 |>.er 1),pj⟩
    replace hM:=M.e_f hM gj
    refine W.byc ((n:Int)==22) (fun gk=>?_) (fun gk=>?_)
    ·replace hM:=M.e_t hM gk
     have pm:(n:Int)=22:=eq_of_beq gk
     obtain ⟨w9,hM⟩:=M.e_gd hM;refine kg 3 ?_;refine s_val (x_ix (v:=vat aE 1 (Int.toNat (n:Int))) rfl rfl (Sl.ix (α:=Raw 0) T39.und T39.size (H.os 0) (by omega) (by have aG:=aF; omega)))<|s_val (x_ld (v:=vat bZ 1 (Int.toNat 1)) rfl (ld_sc Sc34 (At.mono (raw_at (i:=(n:Int)) (k:=22) (H.os 0) pm rfl) (H.ol 0)))) ?_;refine kg 1 ?_;refine s_val (x_ncE (p:=vat bZ 1 (Int.toNat 1)) rfl (Sl.pl (i:=1) (H.os 6) (by omega) (by omega))) ?_;refine t_ost (k:=6) (i:=1) (l:=[(0:Int),(2:Int)]) (l':=([(0:Int),(2:Int)]).set 1 (vl29.getD ah 0:Int)) (val:=I (vl29.getD ah 0)) H rfl Sz3 (by omega) (by omega) (vl29.getD ah 0:Int) rfl rfl rfl rfl rfl ?_;intro xa H;replace H:=H.nf;refine s_nil ?_
     obtain ⟨aH,H⟩:=H.emptyE
     obtain ⟨aI,H,pn⟩:=H.freezeE (k:=15) rfl
     replace H:=H.nf
     have dl:=pn
     obtain ⟨aJ,H,xb,po⟩:=H.joinE (i:=0) (j:=15) rfl rfl
     replace dl:=dl.mono po
     obtain ⟨aK,H,pp⟩:=H.freezeE (k:=15) rfl
     replace H:=H.nf
     have fi:=pp
     obtain ⟨aL,H,pq,pr⟩:=H.joinE (i:=0) (j:=15) rfl rfl
     replace dl:=dl.mono pq
     replace fi:=fi.mono pr
     obtain ⟨aM,H,pt⟩:=H.freezeE (k:=15) rfl
     replace H:=H.nf
     have g8:=pt
     obtain ⟨am,H,kh,pu⟩:=H.joinE (i:=0) (j:=15) rfl rfl
     replace dl:=dl.mono kh
     replace fi:=fi.mono kh
     replace g8:=g8.mono pu
     have pv:RepR (α:=Flood) am.cells [az,aA,aw] fF:=.cons (by rw [aD]; exact ⟨_,rfl,dl⟩)<|.cons (by rw [aC]; exact ⟨_,rfl,fi⟩)<|.cons (by rw [aB]; exact ⟨_,rfl,g8⟩)<|.nil
     exact ⟨_,_,_,_,_,_,_,_,_,_,_,_,_,_,_,_,_,_,_,_,_,_,_,_,_,_,_,_,upds_of _ _ ⟨rfl,rfl,rfl,rfl,rfl,rfl,rfl,rfl,rfl,rfl,rfl,rfl,rfl,rfl,rfl,trivial⟩,hM,(H.er 18 |>.er 17 |>.er 16 |>.er 4 |>.er 3 |>.er 2 |>.er 1),pv⟩
    replace hM:=M.e_f hM gk
    refine W.byc ((n:Int)==23) (fun gl=>?_) (fun gl=>?_)
    ·replace hM:=M.e_t hM gl
     have pw:(n:Int)=23:=eq_of_beq gl
     obtain ⟨xc,hM⟩:=M.e_gd hM;refine kg 3 ?_;refine s_val (x_ix (v:=vat aE 1 (Int.toNat (n:Int))) rfl rfl (Sl.ix (α:=Raw 0) T39.und T39.size (H.os 0) (by omega) (by have aG:=aF; omega)))<|s_val (x_ld (v:=Pq cR) rfl (ld_sc Sc34 (At.mono (raw_at (i:=(n:Int)) (k:=23) (H.os 0) pw rfl) (H.ol 0)))) ?_;refine kg 2 ?_;refine t_sw 3 0 [I (vl29.getD ah 0)] (I (vl29.getD ah 0)) H rfl rfl Sz3 rfl rfl rfl rfl ?_;intro xd H;refine s_nil ?_
     obtain ⟨aH,H⟩:=H.emptyE
     obtain ⟨aI,H,px⟩:=H.freezeE (k:=15) rfl
     replace H:=H.nf
     have dm:=px
     obtain ⟨aJ,H,xe,py⟩:=H.joinE (i:=0) (j:=15) rfl rfl
     replace dm:=dm.mono py
     obtain ⟨aK,H,pz⟩:=H.freezeE (k:=15) rfl
     replace H:=H.nf
     have fj:=pz
     obtain ⟨aL,H,pA,pB⟩:=H.joinE (i:=0) (j:=15) rfl rfl
     replace dm:=dm.mono pA
     replace fj:=fj.mono pB
     obtain ⟨aM,H,pC⟩:=H.freezeE (k:=15) rfl
     replace H:=H.nf
     have g9:=pC
     obtain ⟨am,H,ki,pD⟩:=H.joinE (i:=0) (j:=15) rfl rfl
     replace dm:=dm.mono ki
     replace fj:=fj.mono ki
     replace g9:=g9.mono pD
     have pE:RepR (α:=Flood) am.cells [az,aA,aw] fF:=.cons (by rw [aD]; exact ⟨_,rfl,dm⟩)<|.cons (by rw [aC]; exact ⟨_,rfl,fj⟩)<|.cons (by rw [aB]; exact ⟨_,rfl,g9⟩)<|.nil
     exact ⟨_,_,_,_,_,_,_,_,_,_,_,_,_,_,_,_,_,_,_,_,_,_,_,_,_,_,_,_,upds_of _ _ ⟨rfl,rfl,rfl,rfl,rfl,rfl,rfl,rfl,rfl,rfl,rfl,rfl,rfl,rfl,rfl,trivial⟩,hM,(H.er 18 |>.er 17 |>.er 16 |>.er 4 |>.er 3 |>.er 2 |>.er 1),pE⟩
    replace hM:=M.e_f hM gl
    refine W.byc ((n:Int)==24) (fun gm=>?_) (fun gm=>?_)
    ·replace hM:=M.e_t hM gm
     have pF:(n:Int)=24:=eq_of_beq gm
     obtain ⟨xf,hM⟩:=M.e_gd hM;refine kg 3 ?_;refine s_val (x_ix (v:=vat aE 1 (Int.toNat (n:Int))) rfl rfl (Sl.ix (α:=Raw 0) T39.und T39.size (H.os 0) (by omega) (by have aG:=aF; omega)))<|s_val (x_ld (v:=fat (vat b0 2 (Int.toNat 0)) 0) rfl (ld_sc Sc34 (At.mono (raw_at (i:=(n:Int)) (k:=24) (H.os 0) pF rfl) (H.ol 0)))) ?_;refine kg 1 ?_;refine s_val (x_ncE (p:=fat (vat b0 2 (Int.toNat 0)) 0) rfl (ptr_fat (Sl.pl (i:=0) (H.os 5) (by omega) (by omega)))) ?_;refine t_fst (α:=Dem) (k:=5) (i:=0) (off:=0) (l:=[(⟨(0:Int),(0:Int)⟩:Dem),(⟨(1:Int),(0:Int)⟩:Dem)]) (l':=([(⟨(0:Int),(0:Int)⟩:Dem),(⟨(1:Int),(0:Int)⟩:Dem)]).set 0 ({ (([(⟨(0:Int),(0:Int)⟩:Dem),(⟨(1:Int),(0:Int)⟩:Dem)]).getD 0 default) with spring:=vl29.getD ah 0 })) (val:=I (vl29.getD ah 0)) H rfl Sz3 (by omega) (by omega) (([(⟨(0:Int),(0:Int)⟩:Dem),(⟨(1:Int),(0:Int)⟩:Dem)]).getD 0 default) ({ (([(⟨(0:Int),(0:Int)⟩:Dem),(⟨(1:Int),(0:Int)⟩:Dem)]).getD 0 default) with spring:=vl29.getD ah 0 }) (getD_some _ (by omega) _) rfl rfl [I (vl29.getD ah 0)] rfl rfl rfl rfl rfl rfl rfl ?_;intro xg H;replace H:=H.nf
     have xh:(([(⟨(0:Int),(0:Int)⟩:Dem),(⟨(1:Int),(0:Int)⟩:Dem)]).set 0 ({ (([(⟨(0:Int),(0:Int)⟩:Dem),(⟨(1:Int),(0:Int)⟩:Dem)]).getD 0 default) with spring:=vl29.getD ah 0 })).length=([(⟨(0:Int),(0:Int)⟩:Dem),(⟨(1:Int),(0:Int)⟩:Dem)]).length:=List.length_set
     refine s_nil ?_
     obtain ⟨aH,H⟩:=H.emptyE
     obtain ⟨aI,H,pG⟩:=H.freezeE (k:=15) rfl
     replace H:=H.nf
     have dq:=pG
     obtain ⟨aJ,H,xi,pH⟩:=H.joinE (i:=0) (j:=15) rfl rfl
     replace dq:=dq.mono pH
     obtain ⟨aK,H,pI⟩:=H.freezeE (k:=15) rfl
     replace H:=H.nf
     have fk:=pI
     obtain ⟨aL,H,pJ,pK⟩:=H.joinE (i:=0) (j:=15) rfl rfl
     replace dq:=dq.mono pJ
     replace fk:=fk.mono pK
     obtain ⟨aM,H,pL⟩:=H.freezeE (k:=15) rfl
     replace H:=H.nf
     have hG:=pL
     obtain ⟨am,H,kj,pM⟩:=H.joinE (i:=0) (j:=15) rfl rfl
     replace dq:=dq.mono kj
     replace fk:=fk.mono kj
     replace hG:=hG.mono pM
     have pN:RepR (α:=Flood) am.cells [az,aA,aw] fF:=.cons (by rw [aD]; exact ⟨_,rfl,dq⟩)<|.cons (by rw [aC]; exact ⟨_,rfl,fk⟩)<|.cons (by rw [aB]; exact ⟨_,rfl,hG⟩)<|.nil
     exact ⟨_,_,_,_,_,_,_,_,_,_,_,_,_,_,_,_,_,_,_,_,_,_,_,_,_,_,_,_,upds_of _ _ ⟨rfl,rfl,rfl,rfl,rfl,rfl,rfl,rfl,rfl,rfl,rfl,rfl,rfl,rfl,rfl,trivial⟩,hM,(H.er 18 |>.er 17 |>.er 16 |>.er 4 |>.er 3 |>.er 2 |>.er 1),pN⟩
    replace hM:=M.e_f hM gm
    refine W.byc ((n:Int)==25) (fun gn=>?_) (fun gn=>?_)
    ·replace hM:=M.e_t hM gn
     have pO:(n:Int)=25:=eq_of_beq gn
     obtain ⟨xj,hM⟩:=M.e_gd hM;refine kg 3 ?_;refine s_val (x_ix (v:=vat aE 1 (Int.toNat (n:Int))) rfl rfl (Sl.ix (α:=Raw 0) T39.und T39.size (H.os 0) (by omega) (by have aG:=aF; omega)))<|s_val (x_ld (v:=fat (vat b0 2 (Int.toNat 1)) 1) rfl (ld_sc Sc34 (At.mono (raw_at (i:=(n:Int)) (k:=25) (H.os 0) pO rfl) (H.ol 0)))) ?_;refine kg 1 ?_;refine s_val (x_ncE (p:=fat (vat b0 2 (Int.toNat 1)) 1) rfl (ptr_fat (Sl.pl (i:=1) (H.os 5) (by omega) (by omega)))) ?_;refine t_fst (α:=Dem) (k:=5) (i:=1) (off:=1) (l:=[(⟨(0:Int),(0:Int)⟩:Dem),(⟨(1:Int),(0:Int)⟩:Dem)]) (l':=([(⟨(0:Int),(0:Int)⟩:Dem),(⟨(1:Int),(0:Int)⟩:Dem)]).set 1 ({ (([(⟨(0:Int),(0:Int)⟩:Dem),(⟨(1:Int),(0:Int)⟩:Dem)]).getD 1 default) with town:=vl29.getD ah 0 })) (val:=I (vl29.getD ah 0)) H rfl Sz3 (by omega) (by omega) (([(⟨(0:Int),(0:Int)⟩:Dem),(⟨(1:Int),(0:Int)⟩:Dem)]).getD 1 default) ({ (([(⟨(0:Int),(0:Int)⟩:Dem),(⟨(1:Int),(0:Int)⟩:Dem)]).getD 1 default) with town:=vl29.getD ah 0 }) (getD_some _ (by omega) _) rfl rfl [I (vl29.getD ah 0)] rfl rfl rfl rfl rfl rfl rfl ?_;intro xk H;replace H:=H.nf
     have xl:(([(⟨(0:Int),(0:Int)⟩:Dem),(⟨(1:Int),(0:Int)⟩:Dem)]).set 1 ({ (([(⟨(0:Int),(0:Int)⟩:Dem),(⟨(1:Int),(0:Int)⟩:Dem)]).getD 1 default) with town:=vl29.getD ah 0 })).length=([(⟨(0:Int),(0:Int)⟩:Dem),(⟨(1:Int),(0:Int)⟩:Dem)]).length:=List.length_set
     refine s_nil ?_
     obtain ⟨aH,H⟩:=H.emptyE
     obtain ⟨aI,H,pP⟩:=H.freezeE (k:=15) rfl
     replace H:=H.nf
     have dr:=pP
     obtain ⟨aJ,H,xm,pQ⟩:=H.joinE (i:=0) (j:=15) rfl rfl
     replace dr:=dr.mono pQ
     obtain ⟨aK,H,pR⟩:=H.freezeE (k:=15) rfl
     replace H:=H.nf
     have fl:=pR
     obtain ⟨aL,H,pS,pT⟩:=H.joinE (i:=0) (j:=15) rfl rfl
     replace dr:=dr.mono pS
     replace fl:=fl.mono pT
     obtain ⟨aM,H,pU⟩:=H.freezeE (k:=15) rfl
     replace H:=H.nf
     have hJ:=pU
     obtain ⟨am,H,kl,pV⟩:=H.joinE (i:=0) (j:=15) rfl rfl
     replace dr:=dr.mono kl
     replace fl:=fl.mono kl
     replace hJ:=hJ.mono pV
     have pW:RepR (α:=Flood) am.cells [az,aA,aw] fF:=.cons (by rw [aD]; exact ⟨_,rfl,dr⟩)<|.cons (by rw [aC]; exact ⟨_,rfl,fl⟩)<|.cons (by rw [aB]; exact ⟨_,rfl,hJ⟩)<|.nil
     exact ⟨_,_,_,_,_,_,_,_,_,_,_,_,_,_,_,_,_,_,_,_,_,_,_,_,_,_,_,_,upds_of _ _ ⟨rfl,rfl,rfl,rfl,rfl,rfl,rfl,rfl,rfl,rfl,rfl,rfl,rfl,rfl,rfl,trivial⟩,hM,(H.er 18 |>.er 17 |>.er 16 |>.er 4 |>.er 3 |>.er 2 |>.er 1),pW⟩
    replace hM:=M.e_f hM gn
    refine W.byc ((n:Int)==26) (fun gp=>?_) (fun gp=>?_)
    ·replace hM:=M.e_t hM gp
     have pX:(n:Int)=26:=eq_of_beq gp
     obtain ⟨xn,hM⟩:=M.e_gd hM;refine kg 3 ?_;refine s_val (x_ix (v:=vat aE 1 (Int.toNat (n:Int))) rfl rfl (Sl.ix (α:=Raw 0) T39.und T39.size (H.os 0) (by omega) (by have aG:=aF; omega)))<|s_val (x_ld (v:=Pq cS) rfl (ld_sc Sc34 (At.mono (raw_at (i:=(n:Int)) (k:=26) (H.os 0) pX rfl) (H.ol 0)))) ?_;refine kg 2 ?_;refine t_sw 1 0 [I (vl29.getD ah 0)] (I (vl29.getD ah 0)) H rfl rfl Sz3 rfl rfl rfl rfl ?_;intro xo H;refine s_nil ?_
     obtain ⟨aH,H⟩:=H.emptyE
     obtain ⟨aI,H,pY⟩:=H.freezeE (k:=15) rfl
     replace H:=H.nf
     have dt:=pY
     obtain ⟨aJ,H,xp,pZ⟩:=H.joinE (i:=0) (j:=15) rfl rfl
     replace dt:=dt.mono pZ
     obtain ⟨aK,H,p3⟩:=H.freezeE (k:=15) rfl
     replace H:=H.nf
     have fm:=p3
     obtain ⟨aL,H,p4,p5⟩:=H.joinE (i:=0) (j:=15) rfl rfl
     replace dt:=dt.mono p4
     replace fm:=fm.mono p5
     obtain ⟨aM,H,p6⟩:=H.freezeE (k:=15) rfl
     replace H:=H.nf
     have hP:=p6
     obtain ⟨am,H,km,p7⟩:=H.joinE (i:=0) (j:=15) rfl rfl
     replace dt:=dt.mono km
     replace fm:=fm.mono km
     replace hP:=hP.mono p7
     have p8:RepR (α:=Flood) am.cells [az,aA,aw] fF:=.cons (by rw [aD]; exact ⟨_,rfl,dt⟩)<|.cons (by rw [aC]; exact ⟨_,rfl,fm⟩)<|.cons (by rw [aB]; exact ⟨_,rfl,hP⟩)<|.nil
     exact ⟨_,_,_,_,_,_,_,_,_,_,_,_,_,_,_,_,_,_,_,_,_,_,_,_,_,_,_,_,upds_of _ _ ⟨rfl,rfl,rfl,rfl,rfl,rfl,rfl,rfl,rfl,rfl,rfl,rfl,rfl,rfl,rfl,trivial⟩,hM,(H.er 18 |>.er 17 |>.er 16 |>.er 4 |>.er 3 |>.er 2 |>.er 1),p8⟩
    replace hM:=M.e_f hM gp
    refine W.byc ((n:Int)==27) (fun gq=>?_) (fun gq=>?_)
    ·replace hM:=M.e_t hM gq
     have p9:(n:Int)=27:=eq_of_beq gq
     obtain ⟨xq,hM⟩:=M.e_gd hM;refine kg 3 ?_;refine s_val (x_ix (v:=vat aE 1 (Int.toNat (n:Int))) rfl rfl (Sl.ix (α:=Raw 0) T39.und T39.size (H.os 0) (by omega) (by have aG:=aF; omega)))<|s_val (x_ld (v:=vat b1 1 (Int.toNat 0)) rfl (ld_sc Sc34 (At.mono (raw_at (i:=(n:Int)) (k:=27) (H.os 0) p9 rfl) (H.ol 0)))) ?_;refine kg 1 ?_;refine s_val (x_ncE (p:=vat b1 1 (Int.toNat 0)) rfl (Sl.pl (i:=0) (H.os 2) (by omega) (by omega))) ?_;refine t_ost (k:=2) (i:=0) (l:=[(150:Int),(250:Int)]) (l':=([(150:Int),(250:Int)]).set 0 (vl29.getD ah 0:Int)) (val:=I (vl29.getD ah 0)) H rfl Sz3 (by omega) (by omega) (vl29.getD ah 0:Int) rfl rfl rfl rfl rfl ?_;intro xr H;replace H:=H.nf;refine s_nil ?_
     obtain ⟨aH,H⟩:=H.emptyE
     obtain ⟨aI,H,qa⟩:=H.freezeE (k:=15) rfl
     replace H:=H.nf
     have du:=qa
     obtain ⟨aJ,H,xt,qb⟩:=H.joinE (i:=0) (j:=15) rfl rfl
     replace du:=du.mono qb
     obtain ⟨aK,H,qc⟩:=H.freezeE (k:=15) rfl
     replace H:=H.nf
     have fo:=qc
     obtain ⟨aL,H,qd,qe⟩:=H.joinE (i:=0) (j:=15) rfl rfl
     replace du:=du.mono qd
     replace fo:=fo.mono qe
     obtain ⟨aM,H,qf⟩:=H.freezeE (k:=15) rfl
     replace H:=H.nf
     have hX:=qf
     obtain ⟨am,H,kn,qg⟩:=H.joinE (i:=0) (j:=15) rfl rfl
     replace du:=du.mono kn
     replace fo:=fo.mono kn
     replace hX:=hX.mono qg
     have qh:RepR (α:=Flood) am.cells [az,aA,aw] fF:=.cons (by rw [aD]; exact ⟨_,rfl,du⟩)<|.cons (by rw [aC]; exact ⟨_,rfl,fo⟩)<|.cons (by rw [aB]; exact ⟨_,rfl,hX⟩)<|.nil
     exact ⟨_,_,_,_,_,_,_,_,_,_,_,_,_,_,_,_,_,_,_,_,_,_,_,_,_,_,_,_,upds_of _ _ ⟨rfl,rfl,rfl,rfl,rfl,rfl,rfl,rfl,rfl,rfl,rfl,rfl,rfl,rfl,rfl,trivial⟩,hM,(H.er 18 |>.er 17 |>.er 16 |>.er 4 |>.er 3 |>.er 2 |>.er 1),qh⟩
    replace hM:=M.e_f hM gq
    refine W.byc ((n:Int)==28) (fun gr=>?_) (fun gr=>?_)
    ·replace hM:=M.e_t hM gr
     have qi:(n:Int)=28:=eq_of_beq gr
     obtain ⟨xu,hM⟩:=M.e_gd hM;refine kg 3 ?_;refine s_val (x_ix (v:=vat aE 1 (Int.toNat (n:Int))) rfl rfl (Sl.ix (α:=Raw 0) T39.und T39.size (H.os 0) (by omega) (by have aG:=aF; omega)))<|s_val (x_ld (v:=vat b1 1 (Int.toNat 1)) rfl (ld_sc Sc34 (At.mono (raw_at (i:=(n:Int)) (k:=28) (H.os 0) qi rfl) (H.ol 0)))) ?_;refine kg 1 ?_;refine s_val (x_ncE (p:=vat b1 1 (Int.toNat 1)) rfl (Sl.pl (i:=1) (H.os 2) (by omega) (by omega))) ?_;refine t_ost (k:=2) (i:=1) (l:=[(150:Int),(250:Int)]) (l':=([(150:Int),(250:Int)]).set 1 (vl29.getD ah 0:Int)) (val:=I (vl29.getD ah 0)) H rfl Sz3 (by omega) (by omega) (vl29.getD ah 0:Int) rfl rfl rfl rfl rfl ?_;intro xv H;replace H:=H.nf;refine s_nil ?_
     obtain ⟨aH,H⟩:=H.emptyE
     obtain ⟨aI,H,qj⟩:=H.freezeE (k:=15) rfl
     replace H:=H.nf
     have dv:=qj
     obtain ⟨aJ,H,xw,qk⟩:=H.joinE (i:=0) (j:=15) rfl rfl
     replace dv:=dv.mono qk
     obtain ⟨aK,H,ql⟩:=H.freezeE (k:=15) rfl
     replace H:=H.nf
     have fp:=ql
     obtain ⟨aL,H,qm,qn⟩:=H.joinE (i:=0) (j:=15) rfl rfl
     replace dv:=dv.mono qm
     replace fp:=fp.mono qn
     obtain ⟨aM,H,qo⟩:=H.freezeE (k:=15) rfl
     replace H:=H.nf
     have hZ:=qo
     obtain ⟨am,H,ko,qp⟩:=H.joinE (i:=0) (j:=15) rfl rfl
     replace dv:=dv.mono ko
     replace fp:=fp.mono ko
     replace hZ:=hZ.mono qp
     have qq:RepR (α:=Flood) am.cells [az,aA,aw] fF:=.cons (by rw [aD]; exact ⟨_,rfl,dv⟩)<|.cons (by rw [aC]; exact ⟨_,rfl,fp⟩)<|.cons (by rw [aB]; exact ⟨_,rfl,hZ⟩)<|.nil
     exact ⟨_,_,_,_,_,_,_,_,_,_,_,_,_,_,_,_,_,_,_,_,_,_,_,_,_,_,_,_,upds_of _ _ ⟨rfl,rfl,rfl,rfl,rfl,rfl,rfl,rfl,rfl,rfl,rfl,rfl,rfl,rfl,rfl,trivial⟩,hM,(H.er 18 |>.er 17 |>.er 16 |>.er 4 |>.er 3 |>.er 2 |>.er 1),qq⟩
    replace hM:=M.e_f hM gr
    refine W.byc ((n:Int)==29) (fun gu=>?_) (fun gu=>?_)
    ·replace hM:=M.e_t hM gu
     have qr:(n:Int)=29:=eq_of_beq gu
     obtain ⟨xx,hM⟩:=M.e_gd hM;refine kg 3 ?_;refine s_val (x_ix (v:=vat aE 1 (Int.toNat (n:Int))) rfl rfl (Sl.ix (α:=Raw 0) T39.und T39.size (H.os 0) (by omega) (by have aG:=aF; omega)))<|s_val (x_ld (v:=vat bC 1 (Int.toNat 2)) rfl (ld_sc Sc34 (At.mono (raw_at (i:=(n:Int)) (k:=29) (H.os 0) qr rfl) (H.ol 0)))) ?_;refine kg 1 ?_;refine s_val (x_ncE (p:=vat bC 1 (Int.toNat 2)) rfl (Sl.pl (i:=2) (H.os 12) (by omega) (by omega))) ?_;refine t_ost (k:=12) (i:=2) (l:=[(100:Int),(260:Int),(300:Int)]) (l':=([(100:Int),(260:Int),(300:Int)]).set 2 (vl29.getD ah 0:Int)) (val:=I (vl29.getD ah 0)) H rfl Sz3 (by omega) (by omega) (vl29.getD ah 0:Int) rfl rfl rfl rfl rfl ?_;intro xy H;replace H:=H.nf;refine s_nil ?_
     obtain ⟨aH,H⟩:=H.emptyE
     obtain ⟨aI,H,qs⟩:=H.freezeE (k:=15) rfl
     replace H:=H.nf
     have dw:=qs
     obtain ⟨aJ,H,xz,qt⟩:=H.joinE (i:=0) (j:=15) rfl rfl
     replace dw:=dw.mono qt
     obtain ⟨aK,H,qu⟩:=H.freezeE (k:=15) rfl
     replace H:=H.nf
     have fq:=qu
     obtain ⟨aL,H,qv,qw⟩:=H.joinE (i:=0) (j:=15) rfl rfl
     replace dw:=dw.mono qv
     replace fq:=fq.mono qw
     obtain ⟨aM,H,qx⟩:=H.freezeE (k:=15) rfl
     replace H:=H.nf
     have h9:=qx
     obtain ⟨am,H,kq,qy⟩:=H.joinE (i:=0) (j:=15) rfl rfl
     replace dw:=dw.mono kq
     replace fq:=fq.mono kq
     replace h9:=h9.mono qy
     have qz:RepR (α:=Flood) am.cells [az,aA,aw] [(⟨(0:Int),([(200:Int),(250:Int),(310:Int)])⟩:Flood),(⟨(1:Int),([(280:Int),(240:Int),(290:Int)])⟩:Flood),(⟨(0:Int),(([(100:Int),(260:Int),(300:Int)]).set 2 (vl29.getD ah 0:Int))⟩:Flood)]:=.cons (by rw [aD]; exact ⟨_,rfl,dw⟩)<|.cons (by rw [aC]; exact ⟨_,rfl,fq⟩)<|.cons (by rw [aB]; exact ⟨_,rfl,h9⟩)<|.nil
     exact ⟨_,_,_,_,_,_,_,_,_,_,_,_,_,_,_,_,_,_,_,_,_,_,_,_,_,_,_,_,upds_of _ _ ⟨rfl,rfl,rfl,rfl,rfl,rfl,rfl,rfl,rfl,rfl,rfl,rfl,rfl,rfl,rfl,trivial⟩,hM,(H.er 18 |>.er 17 |>.er 16 |>.er 4 |>.er 3 |>.er 2 |>.er 1),qz⟩
    replace hM:=M.e_f hM gu
    refine W.byc ((n:Int)==30) (fun gv=>?_) (fun gv=>?_)
    ·replace hM:=M.e_t hM gv
     have qA:(n:Int)=30:=eq_of_beq gv
     obtain ⟨xA,hM⟩:=M.e_gd hM;refine kg 3 ?_;refine s_val (x_ix (v:=vat aE 1 (Int.toNat (n:Int))) rfl rfl (Sl.ix (α:=Raw 0) T39.und T39.size (H.os 0) (by omega) (by have aG:=aF; omega)))<|s_val (x_ld (v:=vat bC 1 (Int.toNat 0)) rfl (ld_sc Sc34 (At.mono (raw_at (i:=(n:Int)) (k:=30) (H.os 0) qA rfl) (H.ol 0)))) ?_;refine kg 1 ?_;refine s_val (x_ncE (p:=vat bC 1 (Int.toNat 0)) rfl (Sl.pl (i:=0) (H.os 12) (by omega) (by omega))) ?_;refine t_ost (k:=12) (i:=0) (l:=[(100:Int),(260:Int),(300:Int)]) (l':=([(100:Int),(260:Int),(300:Int)]).set 0 (vl29.getD ah 0:Int)) (val:=I (vl29.getD ah 0)) H rfl Sz3 (by omega) (by omega) (vl29.getD ah 0:Int) rfl rfl rfl rfl rfl ?_;intro xB H;replace H:=H.nf;refine s_nil ?_
     obtain ⟨aH,H⟩:=H.emptyE
     obtain ⟨aI,H,qB⟩:=H.freezeE (k:=15) rfl
     replace H:=H.nf
     have dx:=qB
     obtain ⟨aJ,H,xC,qC⟩:=H.joinE (i:=0) (j:=15) rfl rfl
     replace dx:=dx.mono qC
     obtain ⟨aK,H,qD⟩:=H.freezeE (k:=15) rfl
     replace H:=H.nf
     have fu:=qD
     obtain ⟨aL,H,qE,qF⟩:=H.joinE (i:=0) (j:=15) rfl rfl
     replace dx:=dx.mono qE
     replace fu:=fu.mono qF
     obtain ⟨aM,H,qG⟩:=H.freezeE (k:=15) rfl
     replace H:=H.nf
     have ia:=qG
     obtain ⟨am,H,kr,qH⟩:=H.joinE (i:=0) (j:=15) rfl rfl
     replace dx:=dx.mono kr
     replace fu:=fu.mono kr
     replace ia:=ia.mono qH
     have qI:RepR (α:=Flood) am.cells [az,aA,aw] [(⟨(0:Int),([(200:Int),(250:Int),(310:Int)])⟩:Flood),(⟨(1:Int),([(280:Int),(240:Int),(290:Int)])⟩:Flood),(⟨(0:Int),(([(100:Int),(260:Int),(300:Int)]).set 0 (vl29.getD ah 0:Int))⟩:Flood)]:=.cons (by rw [aD]; exact ⟨_,rfl,dx⟩)<|.cons (by rw [aC]; exact ⟨_,rfl,fu⟩)<|.cons (by rw [aB]; exact ⟨_,rfl,ia⟩)<|.nil
     exact ⟨_,_,_,_,_,_,_,_,_,_,_,_,_,_,_,_,_,_,_,_,_,_,_,_,_,_,_,_,upds_of _ _ ⟨rfl,rfl,rfl,rfl,rfl,rfl,rfl,rfl,rfl,rfl,rfl,rfl,rfl,rfl,rfl,trivial⟩,hM,(H.er 18 |>.er 17 |>.er 16 |>.er 4 |>.er 3 |>.er 2 |>.er 1),qI⟩
    replace hM:=M.e_f hM gv
    exact (M.e_fail hM).elim
   rintro _ xD ⟨l,l2,l3,l4,s,s2,l5,s3,s4,s5,s6,s7,l6,s8,l7,s9,l8,b2,b3,b4,b5,b6,cz,d4,d5,gL,B_l5,ρ,rfl,hM,H,ib⟩
   unfold zab at hM
   refine kg 9 ?_;obtain ⟨r2,qJ,hM⟩:=M.e_bind hM;refine t_gcall (decide ((n:Int)<19)) (gy_t rfl) cf5 (B r2) (fun _=>[.agg #[b2,b3,b4,b5,I s,I s2,b6],I s3,I s4,I s5]) (fun hg=>lst4 (gd_of hg (.agg #[b2,b3,b4,b5,I s,I s2,b6])) (gd_of hg (I s3)) (gd_of hg (I s4)) (gd_of hg (I s5))) H (fun hg=>(zaq l l2 l3 l4 s s2 l5 s3 s4 s5 (rdo 15) (H.os 15) (rdo 14) (H.os 14) (rdo 13) (H.os 13) (rdo 12) (H.os 12) (Reads.sup (rdo 11) (Reads.of (k:=0) rfl roLe)) (rowSl rfl (H.get (k:=11) rfl) (roLe _ (H.get (k:=0) rfl)) ib) (M.e_opt qJ hg) _ (H.give (A:=[]) rfl)).mono fun v_ w_ ⟨y_,ag,ai,H_⟩=>by subst ag; exact ⟨ai,H.via H_⟩) ?_;intro xE H;refine kg 1 ?_;refine s_val (x_pand (b:=decide ((n:Int)<19)) (r:=!r2) rfl (fun hb=>gd_of (c:=decide ((n:Int)<19)) (by first | exact hb | (rw [hb]; rfl) | (rw [hg,hb]; rfl) | simp_all) (B (!r2))) rfl) ?_;refine kg 9 ?_;refine g_val ((!((decide ((n:Int)<19))&&(!r2)))&&!(decide ((n:Int)<15))) (gy_gf rfl rfl) (fun hg=>x_pand (b:=decide (18<(n:Int))) (r:=decide ((n:Int)<26)) (gd_of hg (B (decide (18<(n:Int))))) (fun hb=>gd_of (c:=(((!((decide ((n:Int)<19))&&(!r2)))&&!(decide ((n:Int)<15)))&&(decide (18<(n:Int))))) (by first | exact hb | (rw [hb]; rfl) | (rw [hg,hb]; rfl) | simp_all) (B (decide ((n:Int)<26)))) rfl)<|g_val (!((decide ((n:Int)<19))&&(!r2))) (gy_f rfl) (fun hg=>x_por (b:=decide ((n:Int)<15)) (r:=((decide (18<(n:Int)))&&(decide ((n:Int)<26)))) (gd_of hg (B (decide ((n:Int)<15)))) rfl (fun hb=>gd_of (c:=((!((decide ((n:Int)<19))&&(!r2)))&&!(decide ((n:Int)<15)))) (by first | exact hb | (rw [hb]; rfl) | (rw [hg,hb]; rfl) | simp_all) (B ((decide (18<(n:Int)))&&(decide ((n:Int)<26))))))<|g_val (!((decide ((n:Int)<19))&&(!r2))) (gy_f rfl) (fun hg=>x_mv (v:=B ((decide ((n:Int)<15))||((decide (18<(n:Int)))&&(decide ((n:Int)<26))))) (gd_of hg (B ((decide ((n:Int)<15))||((decide (18<(n:Int)))&&(decide ((n:Int)<26)))))))<|g_val ((!((decide ((n:Int)<19))&&(!r2)))&&((decide ((n:Int)<15))||((decide (18<(n:Int)))&&(decide ((n:Int)<26))))) (gy_gt rfl rfl) (fun hg=>x_ld (v:=.agg #[b2,b3,b4,b5,I s,I s2,b6]) rfl (ldb_ag (ds:=[b2,b3,b4,b5,I s,I s2,b6]) Ag29 Sz29 (H.bl 10) rfl rfl))<|g_val ((!((decide ((n:Int)<19))&&(!r2)))&&((decide ((n:Int)<15))||((decide (18<(n:Int)))&&(decide ((n:Int)<26))))) (gy_gt rfl rfl) (fun hg=>x_ld (v:=.agg #[I s6,I s7]) rfl (ldb_ag (ds:=[I s6,I s7]) Ag32 Sz32 (H.bl 4) rfl rfl))<|g_val ((!((decide ((n:Int)<19))&&(!r2)))&&((decide ((n:Int)<15))||((decide (18<(n:Int)))&&(decide ((n:Int)<26))))) (gy_gt rfl rfl) (fun hg=>x_mv (v:=cz) rfl)<|g_val ((!((decide ((n:Int)<19))&&(!r2)))&&((decide ((n:Int)<15))||((decide (18<(n:Int)))&&(decide ((n:Int)<26))))) (gy_gt rfl rfl) (fun hg=>x_ld (v:=I s8) rfl (ldb_sc Sc3 (H.bl 3) rfl))<|g_val ((!((decide ((n:Int)<19))&&(!r2)))&&((decide ((n:Int)<15))||((decide (18<(n:Int)))&&(decide ((n:Int)<26))))) (gy_gt rfl rfl) (fun hg=>x_mv (v:=d4) rfl) ?_;obtain ⟨r3,qK,hM⟩:=M.e_bind hM;refine t_gcall ((!((decide ((n:Int)<19))&&(!r2)))&&((decide ((n:Int)<15))||((decide (18<(n:Int)))&&(decide ((n:Int)<26))))) (gy_gt rfl rfl) cf6 (B r3) (fun _=>[.agg #[b2,b3,b4,b5,I s,I s2,b6],.agg #[I s6,I s7],cz,I s8,d4]) (fun hg=>lst5 (gd_of hg (.agg #[b2,b3,b4,b5,I s,I s2,b6])) (gd_of hg (.agg #[I s6,I s7])) (gd_of hg (cz)) (gd_of hg (I s8)) (gd_of hg (d4))) H (fun hg=>(zae l l2 l3 l4 s s2 l5 (⟨(s6:Int),(s7:Int)⟩:Dem) l6 s8 l7 (rdo 15) (H.os 15) (rdo 14) (H.os 14) (rdo 13) (H.os 13) (rdo 12) (H.os 12) (Reads.sup (rdo 11) (Reads.of (k:=0) rfl roLe)) (rowSl rfl (H.get (k:=11) rfl) (roLe _ (H.get (k:=0) rfl)) ib) (rdo 6) (H.os 6) (rdo 5) (H.os 5) (M.e_opt qK hg) _ (H.give (A:=[]) rfl)).mono fun v_ w_ ⟨y_,ag,ai,H_⟩=>by subst ag; exact ⟨ai,H.via H_⟩) ?_;intro xF H;refine g_val ((!((decide ((n:Int)<19))&&(!r2)))&&((decide ((n:Int)<15))||((decide (18<(n:Int)))&&(decide ((n:Int)<26))))) (gy_gt rfl rfl) (fun hg=>x_not (b:=r3) (gd_of hg (B r3)))<|g_val (!((decide ((n:Int)<19))&&(!r2))) (gy_f rfl) (fun hg=>x_pand (b:=((decide ((n:Int)<15))||((decide (18<(n:Int)))&&(decide ((n:Int)<26))))) (r:=!r3) (gd_of hg (B ((decide ((n:Int)<15))||((decide (18<(n:Int)))&&(decide ((n:Int)<26)))))) (fun hb=>gd_of (c:=((!((decide ((n:Int)<19))&&(!r2)))&&((decide ((n:Int)<15))||((decide (18<(n:Int)))&&(decide ((n:Int)<26)))))) (by first | exact hb | (rw [hb]; rfl) | (rw [hg,hb]; rfl) | simp_all) (B (!r3))) rfl)<|s_val (x_por (b:=((decide ((n:Int)<19))&&(!r2))) (r:=(((decide ((n:Int)<15))||((decide (18<(n:Int)))&&(decide ((n:Int)<26))))&&(!r3))) rfl rfl (fun hb=>gd_of (c:=!((decide ((n:Int)<19))&&(!r2))) (by first | exact hb | (rw [hb]; rfl) | (rw [hg,hb]; rfl) | simp_all) (B (((decide ((n:Int)<15))||((decide (18<(n:Int)))&&(decide ((n:Int)<26))))&&(!r3)))))<|zM (B (((decide ((n:Int)<19))&&(!r2))||(((decide ((n:Int)<15))||((decide (18<(n:Int)))&&(decide ((n:Int)<26))))&&(!r3)))) rfl<|g_val (!(((decide ((n:Int)<19))&&(!r2))||(((decide ((n:Int)<15))||((decide (18<(n:Int)))&&(decide ((n:Int)<26))))&&(!r3)))) (gy_f rfl) (fun hg=>x_mv (v:=I (n:Int)) rfl)<|g_val (!(((decide ((n:Int)<19))&&(!r2))||(((decide ((n:Int)<15))||((decide (18<(n:Int)))&&(decide ((n:Int)<26))))&&(!r3)))) (gy_f rfl) (fun hg=>x_cmp (kd:=.i64) (r:=decide ((n:Int)<16)) (gd_of hg (I (n:Int))) rfl rfl)<|g_val (!(((decide ((n:Int)<19))&&(!r2))||(((decide ((n:Int)<15))||((decide (18<(n:Int)))&&(decide ((n:Int)<26))))&&(!r3)))) (gy_f rfl) (fun hg=>x_mv (v:=B (decide ((n:Int)<16))) (gd_of hg (B (decide ((n:Int)<16)))))<|g_val ((!(((decide ((n:Int)<19))&&(!r2))||(((decide ((n:Int)<15))||((decide (18<(n:Int)))&&(decide ((n:Int)<26))))&&(!r3))))&&!(decide ((n:Int)<16))) (gy_gf rfl rfl) (fun hg=>x_mv (v:=I (n:Int)) rfl)<|g_val ((!(((decide ((n:Int)<19))&&(!r2))||(((decide ((n:Int)<15))||((decide (18<(n:Int)))&&(decide ((n:Int)<26))))&&(!r3))))&&!(decide ((n:Int)<16))) (gy_gf rfl rfl) (fun hg=>x_cmp (kd:=.i64) (r:=decide (20<(n:Int))) (gd_of hg (I (n:Int))) rfl rfl)<|g_val ((!(((decide ((n:Int)<19))&&(!r2))||(((decide ((n:Int)<15))||((decide (18<(n:Int)))&&(decide ((n:Int)<26))))&&(!r3))))&&!(decide ((n:Int)<16))) (gy_gf rfl rfl) (fun hg=>x_mv (v:=B (decide (20<(n:Int)))) (gd_of hg (B (decide (20<(n:Int)))))) ?_;refine g_val (((!(((decide ((n:Int)<19))&&(!r2))||(((decide ((n:Int)<15))||((decide (18<(n:Int)))&&(decide ((n:Int)<26))))&&(!r3))))&&!(decide ((n:Int)<16)))&&(decide (20<(n:Int)))) (gy_gt rfl rfl) (fun hg=>x_mv (v:=I (n:Int)) rfl)<|g_val (((!(((decide ((n:Int)<19))&&(!r2))||(((decide ((n:Int)<15))||((decide (18<(n:Int)))&&(decide ((n:Int)<26))))&&(!r3))))&&!(decide ((n:Int)<16)))&&(decide (20<(n:Int)))) (gy_gt rfl rfl) (fun hg=>x_cmp (kd:=.i64) (r:=decide ((n:Int)<23)) (gd_of hg (I (n:Int))) rfl rfl)<|g_val ((!(((decide ((n:Int)<19))&&(!r2))||(((decide ((n:Int)<15))||((decide (18<(n:Int)))&&(decide ((n:Int)<26))))&&(!r3))))&&!(decide ((n:Int)<16))) (gy_gf rfl rfl) (fun hg=>x_pand (b:=decide (20<(n:Int))) (r:=decide ((n:Int)<23)) (gd_of hg (B (decide (20<(n:Int))))) (fun hb=>gd_of (c:=(((!(((decide ((n:Int)<19))&&(!r2))||(((decide ((n:Int)<15))||((decide (18<(n:Int)))&&(decide ((n:Int)<26))))&&(!r3))))&&!(decide ((n:Int)<16)))&&(decide (20<(n:Int))))) (by first | exact hb | (rw [hb]; rfl) | (rw [hg,hb]; rfl) | simp_all) (B (decide ((n:Int)<23)))) rfl)<|g_val (!(((decide ((n:Int)<19))&&(!r2))||(((decide ((n:Int)<15))||((decide (18<(n:Int)))&&(decide ((n:Int)<26))))&&(!r3)))) (gy_f rfl) (fun hg=>x_por (b:=decide ((n:Int)<16)) (r:=((decide (20<(n:Int)))&&(decide ((n:Int)<23)))) (gd_of hg (B (decide ((n:Int)<16)))) rfl (fun hb=>gd_of (c:=((!(((decide ((n:Int)<19))&&(!r2))||(((decide ((n:Int)<15))||((decide (18<(n:Int)))&&(decide ((n:Int)<26))))&&(!r3))))&&!(decide ((n:Int)<16)))) (by first | exact hb | (rw [hb]; rfl) | (rw [hg,hb]; rfl) | simp_all) (B ((decide (20<(n:Int)))&&(decide ((n:Int)<23))))))<|g_val (!(((decide ((n:Int)<19))&&(!r2))||(((decide ((n:Int)<15))||((decide (18<(n:Int)))&&(decide ((n:Int)<26))))&&(!r3)))) (gy_f rfl) (fun hg=>x_mv (v:=B ((decide ((n:Int)<16))||((decide (20<(n:Int)))&&(decide ((n:Int)<23))))) (gd_of hg (B ((decide ((n:Int)<16))||((decide (20<(n:Int)))&&(decide ((n:Int)<23)))))))<|g_val ((!(((decide ((n:Int)<19))&&(!r2))||(((decide ((n:Int)<15))||((decide (18<(n:Int)))&&(decide ((n:Int)<26))))&&(!r3))))&&!((decide ((n:Int)<16))||((decide (20<(n:Int)))&&(decide ((n:Int)<23))))) (gy_gf rfl rfl) (fun hg=>x_mv (v:=I (n:Int)) rfl)<|g_val ((!(((decide ((n:Int)<19))&&(!r2))||(((decide ((n:Int)<15))||((decide (18<(n:Int)))&&(decide ((n:Int)<26))))&&(!r3))))&&!((decide ((n:Int)<16))||((decide (20<(n:Int)))&&(decide ((n:Int)<23))))) (gy_gf rfl rfl) (fun hg=>x_cmp (kd:=.i64) (r:=decide (25<(n:Int))) (gd_of hg (I (n:Int))) rfl rfl)<|g_val (!(((decide ((n:Int)<19))&&(!r2))||(((decide ((n:Int)<15))||((decide (18<(n:Int)))&&(decide ((n:Int)<26))))&&(!r3)))) (gy_f rfl) (fun hg=>x_por (b:=((decide ((n:Int)<16))||((decide (20<(n:Int)))&&(decide ((n:Int)<23))))) (r:=decide (25<(n:Int))) (gd_of hg (B ((decide ((n:Int)<16))||((decide (20<(n:Int)))&&(decide ((n:Int)<23)))))) rfl (fun hb=>gd_of (c:=((!(((decide ((n:Int)<19))&&(!r2))||(((decide ((n:Int)<15))||((decide (18<(n:Int)))&&(decide ((n:Int)<26))))&&(!r3))))&&!((decide ((n:Int)<16))||((decide (20<(n:Int)))&&(decide ((n:Int)<23)))))) (by first | exact hb | (rw [hb]; rfl) | (rw [hg,hb]; rfl) | simp_all) (B (decide (25<(n:Int))))))<|g_val (!(((decide ((n:Int)<19))&&(!r2))||(((decide ((n:Int)<15))||((decide (18<(n:Int)))&&(decide ((n:Int)<26))))&&(!r3)))) (gy_f rfl) (fun hg=>x_mv (v:=B (((decide ((n:Int)<16))||((decide (20<(n:Int)))&&(decide ((n:Int)<23))))||(decide (25<(n:Int))))) (gd_of hg (B (((decide ((n:Int)<16))||((decide (20<(n:Int)))&&(decide ((n:Int)<23))))||(decide (25<(n:Int)))))))<|g_val ((!(((decide ((n:Int)<19))&&(!r2))||(((decide ((n:Int)<15))||((decide (18<(n:Int)))&&(decide ((n:Int)<26))))&&(!r3))))&&(((decide ((n:Int)<16))||((decide (20<(n:Int)))&&(decide ((n:Int)<23))))||(decide (25<(n:Int))))) (gy_gt rfl rfl) (fun hg=>x_ld (v:=.agg #[b2,b3,b4,b5,I s,I s2,b6]) rfl (ldb_ag (ds:=[b2,b3,b4,b5,I s,I s2,b6]) Ag29 Sz29 (H.bl 10) rfl rfl)) ?_;refine g_val ((!(((decide ((n:Int)<19))&&(!r2))||(((decide ((n:Int)<15))||((decide (18<(n:Int)))&&(decide ((n:Int)<26))))&&(!r3))))&&(((decide ((n:Int)<16))||((decide (20<(n:Int)))&&(decide ((n:Int)<23))))||(decide (25<(n:Int))))) (gy_gt rfl rfl) (fun hg=>x_mv (v:=cz) rfl)<|g_val ((!(((decide ((n:Int)<19))&&(!r2))||(((decide ((n:Int)<15))||((decide (18<(n:Int)))&&(decide ((n:Int)<26))))&&(!r3))))&&(((decide ((n:Int)<16))||((decide (20<(n:Int)))&&(decide ((n:Int)<23))))||(decide (25<(n:Int))))) (gy_gt rfl rfl) (fun hg=>x_ld (v:=I s9) rfl (ldb_sc Sc3 (H.bl 1) rfl))<|g_val ((!(((decide ((n:Int)<19))&&(!r2))||(((decide ((n:Int)<15))||((decide (18<(n:Int)))&&(decide ((n:Int)<26))))&&(!r3))))&&(((decide ((n:Int)<16))||((decide (20<(n:Int)))&&(decide ((n:Int)<23))))||(decide (25<(n:Int))))) (gy_gt rfl rfl) (fun hg=>x_mv (v:=d5) rfl) ?_;obtain ⟨r4,qL,hM⟩:=M.e_bind hM;refine t_gcall ((!(((decide ((n:Int)<19))&&(!r2))||(((decide ((n:Int)<15))||((decide (18<(n:Int)))&&(decide ((n:Int)<26))))&&(!r3))))&&(((decide ((n:Int)<16))||((decide (20<(n:Int)))&&(decide ((n:Int)<23))))||(decide (25<(n:Int))))) (gy_gt rfl rfl) cf7 (B r4) (fun _=>[.agg #[b2,b3,b4,b5,I s,I s2,b6],cz,I s9,d5]) (fun hg=>lst4 (gd_of hg (.agg #[b2,b3,b4,b5,I s,I s2,b6])) (gd_of hg (cz)) (gd_of hg (I s9)) (gd_of hg (d5))) H (fun hg=>(zar l l2 l3 l4 s s2 l5 l6 s9 l8 (rdo 15) (H.os 15) (rdo 14) (H.os 14) (rdo 13) (H.os 13) (rdo 12) (H.os 12) (Reads.sup (rdo 11) (Reads.of (k:=0) rfl roLe)) (rowSl rfl (H.get (k:=11) rfl) (roLe _ (H.get (k:=0) rfl)) ib) (rdo 6) (H.os 6) (rdo 2) (H.os 2) (M.e_opt qL hg) _ (H.give (A:=[]) rfl)).mono fun v_ w_ ⟨y_,ag,ai,H_⟩=>by subst ag; exact ⟨ai,H.via H_⟩) ?_;intro xG H;refine g_val ((!(((decide ((n:Int)<19))&&(!r2))||(((decide ((n:Int)<15))||((decide (18<(n:Int)))&&(decide ((n:Int)<26))))&&(!r3))))&&(((decide ((n:Int)<16))||((decide (20<(n:Int)))&&(decide ((n:Int)<23))))||(decide (25<(n:Int))))) (gy_gt rfl rfl) (fun hg=>x_not (b:=r4) (gd_of hg (B r4)))<|g_val (!(((decide ((n:Int)<19))&&(!r2))||(((decide ((n:Int)<15))||((decide (18<(n:Int)))&&(decide ((n:Int)<26))))&&(!r3)))) (gy_f rfl) (fun hg=>x_pand (b:=(((decide ((n:Int)<16))||((decide (20<(n:Int)))&&(decide ((n:Int)<23))))||(decide (25<(n:Int))))) (r:=!r4) (gd_of hg (B (((decide ((n:Int)<16))||((decide (20<(n:Int)))&&(decide ((n:Int)<23))))||(decide (25<(n:Int)))))) (fun hb=>gd_of (c:=((!(((decide ((n:Int)<19))&&(!r2))||(((decide ((n:Int)<15))||((decide (18<(n:Int)))&&(decide ((n:Int)<26))))&&(!r3))))&&(((decide ((n:Int)<16))||((decide (20<(n:Int)))&&(decide ((n:Int)<23))))||(decide (25<(n:Int)))))) (by first | exact hb | (rw [hb]; rfl) | (rw [hg,hb]; rfl) | simp_all) (B (!r4))) rfl)<|s_val (x_por (b:=(((decide ((n:Int)<19))&&(!r2))||(((decide ((n:Int)<15))||((decide (18<(n:Int)))&&(decide ((n:Int)<26))))&&(!r3)))) (r:=((((decide ((n:Int)<16))||((decide (20<(n:Int)))&&(decide ((n:Int)<23))))||(decide (25<(n:Int))))&&(!r4))) rfl rfl (fun hb=>gd_of (c:=!(((decide ((n:Int)<19))&&(!r2))||(((decide ((n:Int)<15))||((decide (18<(n:Int)))&&(decide ((n:Int)<26))))&&(!r3)))) (by first | exact hb | (rw [hb]; rfl) | (rw [hg,hb]; rfl) | simp_all) (B ((((decide ((n:Int)<16))||((decide (20<(n:Int)))&&(decide ((n:Int)<23))))||(decide (25<(n:Int))))&&(!r4)))))<|s_nil ?_
   replace H:=H.er 10 |>.er 9 |>.er 8 |>.er 7 |>.er 4 |>.er 3 |>.er 1
   refine W.cond ((((decide ((n:Int)<19))&&(!r2))||(((decide ((n:Int)<15))||((decide (18<(n:Int)))&&(decide ((n:Int)<26))))&&(!r3)))||((((decide ((n:Int)<16))||((decide (20<(n:Int)))&&(decide ((n:Int)<23))))||(decide (25<(n:Int))))&&(!r4))) rfl (fun ic=>?_) (fun ic=>?_)
   ·replace hM:=M.e_t hM ic;refine kg 4 ?_;replace H:=H.dp 9;refine W.ret ?_
    have qM:=M.e_inr hM gJ
    subst qM;replace hM:=jK;(try dsimp only at hM)
    have qN:=M.e_inr hM gH
    subst qN;replace hM:=jI;(try dsimp only at hM)
    have ag:=M.e_pure hM
    exact ⟨_,resE_tmp rfl,⟨false,ag,rfl,(H.pk [])⟩⟩
   replace hM:=M.e_f hM ic;refine kg 6 ?_
   exact ⟨lq,lr,n+1,_,upds_of _ _ ⟨rfl,rfl,rfl,rfl,rfl,trivial⟩,M.e_inl hM gJ,(H.dp 9)⟩
  replace hM:=M.e_f hM cN
  replace cN:=dI cN
  refine W.exit ?_
  have qO:=M.e_inr hM gJ
  subst qO;replace hM:=jK;(try dsimp only at hM);refine kg 4 ?_
  exact ⟨lm,ln,ah+1,_,upds_of _ _ ⟨rfl,rfl,rfl,trivial⟩,M.e_inl hM gH,H⟩
 replace hM:=M.e_f hM cM
 replace cM:=dI cM
 refine W.exit ?_
 have qP:=M.e_inr hM gH
 subst qP;replace hM:=jI;(try dsimp only at hM);refine kg 6 ?_;obtain ⟨qQ,ie,ku⟩:=M.e_bind hM
 obtain ⟨ct,ie⟩:=M.e_iter ie
 refine W.loop (fun m σ W=>∃ (n2:Nat) (ρ:Env),σ=upds ρ [(15,I (n2:Int))]/\M.iterN (zbN) m n2=some qQ/\St w W [cOwn (α:=Int) 3 ap vl29] R) ?_ ?_
 ·exact ⟨_,0,_,upds_of _ _ ⟨rfl,trivial⟩,ie,H⟩
 rintro xH σ xI ⟨n2,ρ,rfl,kv,H⟩
 obtain ⟨qR,qS,xJ,hM,ig⟩:=M.e_iterN kv
 clear kv;refine kg 6 ?_
 refine W.cond (decide ((n2:Int)<3000)) rfl (fun dy=>?_) (fun dy=>?_)
 ·replace hM:=M.e_t hM dy
  replace dy:=dI dy
  obtain ⟨xK,hM⟩:=M.e_gd hM;obtain ⟨xL,hM⟩:=M.e_gd hM;obtain ⟨xM,hM⟩:=M.e_gd hM;obtain ⟨xN,hM⟩:=M.e_gd hM;obtain ⟨xO,hM⟩:=M.e_gd hM;obtain ⟨xP,hM⟩:=M.e_gd hM;obtain ⟨xQ,hM⟩:=M.e_gd hM;refine kg 4 ?_
  obtain ⟨⟨r0,r1⟩,qT,hM⟩:=M.e_bind hM
  (try dsimp only at hM);obtain ⟨xR,hM⟩:=M.e_gd hM
  obtain ⟨⟨bT,bU⟩,qU,hM⟩:=M.e_bind hM
  (try dsimp only at hM);obtain ⟨xS,hM⟩:=M.e_gd hM
  obtain ⟨⟨bV,bW⟩,qV,hM⟩:=M.e_bind hM
  (try dsimp only at hM);obtain ⟨xT,hM⟩:=M.e_gd hM;obtain ⟨xU,hM⟩:=M.e_gd hM;obtain ⟨xV,hM⟩:=M.e_gd hM;obtain ⟨xW,hM⟩:=M.e_gd hM;obtain ⟨xX,hM⟩:=M.e_gd hM;obtain ⟨xY,hM⟩:=M.e_gd hM;obtain ⟨xZ,hM⟩:=M.e_gd hM;obtain ⟨x0,hM⟩:=M.e_gd hM;obtain ⟨x1,hM⟩:=M.e_gd hM;obtain ⟨x3,hM⟩:=M.e_gd hM
  obtain ⟨⟨bc,bf⟩,qW,hM⟩:=M.e_bind hM
  (try dsimp only at hM);refine W.drawG (zeH n2 r0 r1 bT bU bV bW bc bf) (.l 64 .nil) 1 mixed (by kernel_rfl) rfl H ?_ ?_
  ·refine og_f rfl rfl (fun b_ g_ w_=>x_mv (v:=I (n2:Int)) rfl) ?_;refine og_f rfl rfl (fun b_ g_ w_=>x_rem' (a:=(n2:Int)) (b:=3) rfl rfl (by omega)) ?_;refine og_f rfl rfl (fun b_ g_ w_=>x_ari (r:=1+((n2:Int) % 3)) rfl rfl rfl (by omega)) ?_;refine og_f rfl rfl (fun b_ g_ w_=>x_mv (v:=I (n2:Int)) rfl) ?_;refine og_f rfl rfl (fun b_ g_ w_=>x_quo (a:=(n2:Int)) (b:=3) rfl rfl (by omega)) ?_;refine og_f rfl rfl (fun b_ g_ w_=>x_rem' (a:=(n2:Int) / 3) (b:=2) rfl rfl (by omega)) ?_;refine og_f rfl rfl (fun b_ g_ w_=>x_ari (r:=2+(((n2:Int) / 3) % 2)) rfl rfl rfl (by omega)) ?_;refine og_l rfl (fun b_ g_ au w_ bD H=>?_) ?_
   ·replace H:St w w_ (cOwn (α:=Int) 3 ap vl29 :: au) R:=H
    refine t_bs (α:=Int) T22 [I 3,I (-1)] [(3:Int),(-1:Int)] H rfl (.cons rfl (Flat.rep_enc _ (3:Int))<|.cons rfl (Flat.rep_enc _ (-1:Int))<|.nil) rfl rfl rfl ?_;intro fv x4 H
    exact s_nil ⟨trivial,_,rfl,rfl,trivial,H⟩
   refine og_f rfl rfl (fun b_ g_ w_=>x_mv (v:=I (n2:Int)) rfl) ?_;refine og_f rfl rfl (fun b_ g_ w_=>x_quo (a:=(n2:Int)) (b:=6) rfl rfl (by omega)) ?_;refine og_f rfl rfl (fun b_ g_ w_=>x_rem' (a:=(n2:Int) / 6) (b:=2) rfl rfl (by omega)) ?_;refine og_l rfl (fun b_ g_ au w_ bD H=>?_) ?_
   ·replace H:St w w_ (cOwn (α:=Int) 3 (b_ 7) ([(3:Int),(-1:Int)]) :: cOwn (α:=Int) 3 ap vl29 :: au) R:=H
    refine kg 1 ?_
    exact s_nil ⟨trivial,_,rfl,rfl,trivial,H⟩
   refine og_l rfl (fun b_ g_ au w_ bD H=>?_) ?_
   ·replace H:St w w_ (cOwn (α:=Int) 3 (b_ 7) ([(3:Int),(-1:Int)]) :: cOwn (α:=Int) 3 ap vl29 :: au) R:=H
    refine kg 1 ?_
    exact s_nil ⟨trivial,_,rfl,rfl,trivial,H⟩
   refine og_l rfl (fun b_ g_ au w_ bD H=>?_) ?_
   ·replace H:St w w_ (cOwn (α:=Int) 3 ap vl29 :: au) R:=H
    refine t_bs (α:=Int) T22 [I (1+((n2:Int) % 3)),I (2+(((n2:Int) / 3) % 2)),I (([(3:Int),(-1:Int)]).getD (Int.toNat (((n2:Int) / 6) % 2)) 0),I (-1)] [(1+((n2:Int) % 3):Int),(2+(((n2:Int) / 3) % 2):Int),(([(3:Int),(-1:Int)]).getD (Int.toNat (((n2:Int) / 6) % 2)) 0:Int),(-1:Int)] H rfl (.cons rfl (Flat.rep_enc _ (1+((n2:Int) % 3):Int))<|.cons rfl (Flat.rep_enc _ (2+(((n2:Int) / 3) % 2):Int))<|.cons rfl (Flat.rep_enc _ (([(3:Int),(-1:Int)]).getD (Int.toNat (((n2:Int) / 6) % 2)) 0:Int))<|.cons rfl (Flat.rep_enc _ (-1:Int))<|.nil) rfl rfl rfl ?_;intro bp x5 H
    exact s_nil ⟨trivial,_,rfl,rfl,trivial,H⟩
   refine og_f rfl rfl (fun b_ g_ w_=>x_mv (v:=I (n2:Int)) rfl) ?_;refine og_f rfl rfl (fun b_ g_ w_=>x_rem' (a:=(n2:Int)) (b:=4) rfl rfl (by omega)) ?_;refine og_l rfl (fun b_ g_ au w_ bD H=>?_) ?_
   ·replace H:St w w_ (cOwn (α:=Int) 3 ap vl29 :: au) R:=H
    refine s_call cf8 [I ((n2:Int) % 4),I 4] rfl (zah ((n2:Int) % 4) 4 qT _ (St.give (T:=(cOwn (α:=Int) 3 ap vl29 :: au)) H rfl)) ?_
    rintro vq qX ⟨ii,ij,qY,hvq,ak⟩
    obtain ⟨dz,q_⟩:=Prod.mk.inj (qY.symm)
    subst dz;subst q_;subst vq
    replace H:St w qX (cOwn (α:=Int) 3 ap vl29 :: au) R:=H.back ak rfl
    clear ak
    exact s_nil ⟨trivial,_,rfl,rfl,trivial,H⟩
   refine og_f rfl rfl (fun b_ g_ w_=>x_mv (v:=I (n2:Int)) rfl) ?_;refine og_f rfl rfl (fun b_ g_ w_=>x_quo (a:=(n2:Int)) (b:=4) rfl rfl (by omega)) ?_;refine og_f rfl rfl (fun b_ g_ w_=>x_rem' (a:=(n2:Int) / 4) (b:=3) rfl rfl (by omega)) ?_;refine og_l rfl (fun b_ g_ au w_ bD H=>?_) ?_
   ·replace H:St w w_ (cOwn (α:=Int) 3 ap vl29 :: au) R:=H
    refine s_call cf8 [I (((n2:Int) / 4) % 3),I 3] rfl (zah (((n2:Int) / 4) % 3) 3 qU _ (St.give (T:=(cOwn (α:=Int) 3 ap vl29 :: au)) H rfl)) ?_
    rintro vq qZ ⟨ii,ij,q4,hvq,ak⟩
    obtain ⟨dz,q_⟩:=Prod.mk.inj (q4.symm)
    subst dz;subst q_;subst vq
    replace H:St w qZ (cOwn (α:=Int) 3 ap vl29 :: au) R:=H.back ak rfl
    clear ak
    exact s_nil ⟨trivial,_,rfl,rfl,trivial,H⟩
   refine og_f rfl rfl (fun b_ g_ w_=>x_mv (v:=I (n2:Int)) rfl) ?_;refine og_f rfl rfl (fun b_ g_ w_=>x_quo (a:=(n2:Int)) (b:=2) rfl rfl (by omega)) ?_;refine og_f rfl rfl (fun b_ g_ w_=>x_rem' (a:=(n2:Int) / 2) (b:=4) rfl rfl (by omega)) ?_;refine og_l rfl (fun b_ g_ au w_ bD H=>?_) ?_
   ·replace H:St w w_ (cOwn (α:=Int) 3 ap vl29 :: au) R:=H
    refine s_call cf8 [I (((n2:Int) / 2) % 4),I 5] rfl (zah (((n2:Int) / 2) % 4) 5 qV _ (St.give (T:=(cOwn (α:=Int) 3 ap vl29 :: au)) H rfl)) ?_
    rintro vq q5 ⟨ii,ij,q6,hvq,ak⟩
    obtain ⟨dz,q_⟩:=Prod.mk.inj (q6.symm)
    subst dz;subst q_;subst vq
    replace H:St w q5 (cOwn (α:=Int) 3 ap vl29 :: au) R:=H.back ak rfl
    clear ak
    exact s_nil ⟨trivial,_,rfl,rfl,trivial,H⟩
   refine og_f rfl rfl (fun b_ g_ w_=>x_bld (ps:=[]) (zs:=[I 0,I 0]) (L':=[I 0,I 0]) rfl Tryz.underlying26 Al26 rfl (Bd26 Tryz.underlying26) (.nil)) ?_;refine og_l rfl (fun b_ g_ au w_ bD H=>?_) ?_
   ·replace H:St w w_ (cOwn (α:=Int) 3 ap vl29 :: au) R:=H
    refine t_bs (α:=Span) T23 [.agg #[I r0,I r1],.agg #[I bT,I bU],.agg #[I bV,I bW],.agg #[I 0,I 0]] [(⟨(r0:Int),(r1:Int)⟩:Span),(⟨(bT:Int),(bU:Int)⟩:Span),(⟨(bV:Int),(bW:Int)⟩:Span),(⟨(0:Int),(0:Int)⟩:Span)] H rfl (.cons rfl (Flat.rep_enc _ (⟨(r0:Int),(r1:Int)⟩:Span))<|.cons rfl (Flat.rep_enc _ (⟨(bT:Int),(bU:Int)⟩:Span))<|.cons rfl (Flat.rep_enc _ (⟨(bV:Int),(bW:Int)⟩:Span))<|.cons rfl (Flat.rep_enc _ (⟨(0:Int),(0:Int)⟩:Span))<|.nil) rfl rfl rfl ?_;intro br x6 H
    exact s_nil ⟨trivial,_,rfl,rfl,trivial,H⟩
   refine og_l rfl (fun b_ g_ au w_ bD H=>?_) ?_
   ·replace H:St w w_ (cOwn (α:=Int) 3 ap vl29 :: au) R:=H
    refine t_bs (α:=Int) T22 [I 0,I 1,I 2] [(0:Int),(1:Int),(2:Int)] H rfl (.cons rfl (Flat.rep_enc _ (0:Int))<|.cons rfl (Flat.rep_enc _ (1:Int))<|.cons rfl (Flat.rep_enc _ (2:Int))<|.nil) rfl rfl rfl ?_;intro d6 x7 H
    exact s_nil ⟨trivial,_,rfl,rfl,trivial,H⟩
   refine og_f rfl rfl (fun b_ g_ w_=>x_mv (v:=I (n2:Int)) rfl) ?_;refine og_f rfl rfl (fun b_ g_ w_=>x_rem' (a:=(n2:Int)) (b:=3) rfl rfl (by omega)) ?_;refine og_l rfl (fun b_ g_ au w_ bD H=>?_) ?_
   ·replace H:St w w_ (cOwn (α:=Int) 3 (b_ 27) ([(0:Int),(1:Int),(2:Int)]) :: cOwn (α:=Int) 3 ap vl29 :: au) R:=H
    obtain ⟨bE,q7,bM⟩:=sl_lo T22.und T22.size (H.os 0) (i:=(n2:Int) % 3) (by omega) (by omega)
    replace bM:Sl _ bE (([(0:Int),(1:Int),(2:Int)]).drop (Int.toNat ((n2:Int) % 3))):=bM
    refine s_val (x_sl (v:=(b_ 27)) (u:=bE) (lo':=some (I ((n2:Int) % 3))) (hi':=none) (mx':=none) rfl rfl rfl rfl (q7 _)) ?_
    exact s_nil ⟨trivial,_,rfl,rfl,bM,H⟩
   refine og_f rfl rfl (fun b_ g_ w_=>x_mv (v:=I (n2:Int)) rfl) ?_;refine og_f rfl rfl (fun b_ g_ w_=>x_quo (a:=(n2:Int)) (b:=5) rfl rfl (by omega)) ?_;refine og_f rfl rfl (fun b_ g_ w_=>x_rem' (a:=(n2:Int) / 5) (b:=3) rfl rfl (by omega)) ?_;refine og_f rfl rfl (fun b_ g_ w_=>x_ari (r:=1+(((n2:Int) / 5) % 3)) rfl rfl rfl (by omega)) ?_;refine og_f rfl rfl (fun b_ g_ w_=>x_mv (v:=I (n2:Int)) rfl) ?_;refine og_f rfl rfl (fun b_ g_ w_=>x_quo (a:=(n2:Int)) (b:=7) rfl rfl (by omega)) ?_;refine og_f rfl rfl (fun b_ g_ w_=>x_rem' (a:=(n2:Int) / 7) (b:=5) rfl rfl (by omega)) ?_;refine og_f rfl rfl (fun b_ g_ w_=>x_mv (v:=I (n2:Int)) rfl) ?_;refine og_f rfl rfl (fun b_ g_ w_=>x_rem' (a:=(n2:Int)) (b:=3) rfl rfl (by omega)) ?_;refine og_f rfl rfl (fun b_ g_ w_=>x_ari (r:=3+((n2:Int) % 3)) rfl rfl rfl (by omega)) ?_;refine og_f rfl rfl (fun b_ g_ w_=>x_bld (ps:=[(0,I (1+(((n2:Int) / 5) % 3))),(1,I (((n2:Int) / 7) % 5)),(2,I (3+((n2:Int) % 3)))]) (zs:=[I 0,I 0,I 0]) (L':=[I (1+(((n2:Int) / 5) % 3)),I (((n2:Int) / 7) % 5),I (3+((n2:Int) % 3))]) rfl Tryz.underlying36 Al36 rfl (Bd36 Tryz.underlying36) (.cons (cs:=[I (1+(((n2:Int) / 5) % 3))]) rfl rfl rfl rfl rfl<|.cons (cs:=[I (((n2:Int) / 7) % 5)]) rfl rfl rfl rfl rfl<|.cons (cs:=[I (3+((n2:Int) % 3))]) rfl rfl rfl rfl rfl<|.nil)) ?_;refine og_f rfl rfl (fun b_ g_ w_=>x_mv (v:=I (n2:Int)) rfl) ?_;refine og_f rfl rfl (fun b_ g_ w_=>x_quo (a:=(n2:Int)) (b:=11) rfl rfl (by omega)) ?_;refine og_f rfl rfl (fun b_ g_ w_=>x_rem' (a:=(n2:Int) / 11) (b:=4) rfl rfl (by omega)) ?_;refine og_f rfl rfl (fun b_ g_ w_=>x_mv (v:=I (n2:Int)) rfl) ?_;refine og_f rfl rfl (fun b_ g_ w_=>x_quo (a:=(n2:Int)) (b:=9) rfl rfl (by omega)) ?_;refine og_f rfl rfl (fun b_ g_ w_=>x_rem' (a:=(n2:Int) / 9) (b:=4) rfl rfl (by omega)) ?_;refine og_f rfl rfl (fun b_ g_ w_=>x_mv (v:=I (n2:Int)) rfl) ?_;refine og_f rfl rfl (fun b_ g_ w_=>x_quo (a:=(n2:Int)) (b:=4) rfl rfl (by omega)) ?_;refine og_f rfl rfl (fun b_ g_ w_=>x_rem' (a:=(n2:Int) / 4) (b:=4) rfl rfl (by omega)) ?_;refine og_f rfl rfl (fun b_ g_ w_=>x_ari (r:=2+(((n2:Int) / 4) % 4)) rfl rfl rfl (by omega)) ?_;refine og_f rfl rfl (fun b_ g_ w_=>x_bld (ps:=[(0,I (((n2:Int) / 11) % 4)),(1,I (((n2:Int) / 9) % 4)),(2,I (2+(((n2:Int) / 4) % 4)))]) (zs:=[I 0,I 0,I 0]) (L':=[I (((n2:Int) / 11) % 4),I (((n2:Int) / 9) % 4),I (2+(((n2:Int) / 4) % 4))]) rfl Tryz.underlying36 Al36 rfl (Bd36 Tryz.underlying36) (.cons (cs:=[I (((n2:Int) / 11) % 4)]) rfl rfl rfl rfl rfl<|.cons (cs:=[I (((n2:Int) / 9) % 4)]) rfl rfl rfl rfl rfl<|.cons (cs:=[I (2+(((n2:Int) / 4) % 4))]) rfl rfl rfl rfl rfl<|.nil)) ?_;refine og_l rfl (fun b_ g_ au w_ bD H=>?_) ?_
   ·replace H:St w w_ (cOwn (α:=Int) 3 ap vl29 :: au) R:=H
    refine t_bs (α:=Town) T24 [.agg #[I (1+(((n2:Int) / 5) % 3)),I (((n2:Int) / 7) % 5),I (3+((n2:Int) % 3))],.agg #[I (((n2:Int) / 11) % 4),I (((n2:Int) / 9) % 4),I (2+(((n2:Int) / 4) % 4))]] [(⟨(1+(((n2:Int) / 5) % 3):Int),(((n2:Int) / 7) % 5:Int),(3+((n2:Int) % 3):Int)⟩:Town),(⟨(((n2:Int) / 11) % 4:Int),(((n2:Int) / 9) % 4:Int),(2+(((n2:Int) / 4) % 4):Int)⟩:Town)] H rfl (.cons rfl (Flat.rep_enc _ (⟨(1+(((n2:Int) / 5) % 3):Int),(((n2:Int) / 7) % 5:Int),(3+((n2:Int) % 3):Int)⟩:Town))<|.cons rfl (Flat.rep_enc _ (⟨(((n2:Int) / 11) % 4:Int),(((n2:Int) / 9) % 4:Int),(2+(((n2:Int) / 4) % 4):Int)⟩:Town))<|.nil) rfl rfl rfl ?_;intro d7 x8 H
    exact s_nil ⟨trivial,_,rfl,rfl,trivial,H⟩
   refine og_f rfl rfl (fun b_ g_ w_=>x_mv (v:=I (n2:Int)) rfl) ?_;refine og_f rfl rfl (fun b_ g_ w_=>x_quo (a:=(n2:Int)) (b:=13) rfl rfl (by omega)) ?_;refine og_f rfl rfl (fun b_ g_ w_=>x_rem' (a:=(n2:Int) / 13) (b:=3) rfl rfl (by omega)) ?_;refine og_l rfl (fun b_ g_ au w_ bD H=>?_) ?_
   ·replace H:St w w_ (cOwn (α:=Town) 36 (b_ 53) ([(⟨(1+(((n2:Int) / 5) % 3):Int),(((n2:Int) / 7) % 5:Int),(3+((n2:Int) % 3):Int)⟩:Town),(⟨(((n2:Int) / 11) % 4:Int),(((n2:Int) / 9) % 4:Int),(2+(((n2:Int) / 4) % 4):Int)⟩:Town)]) :: cOwn (α:=Int) 3 ap vl29 :: au) R:=H
    obtain ⟨bF,q8,bX⟩:=sl_hi T24.und T24.size (H.os 0) (j:=((n2:Int) / 13) % 3) (by omega) (by omega)
    replace bX:Sl _ bF (([(⟨(1+(((n2:Int) / 5) % 3):Int),(((n2:Int) / 7) % 5:Int),(3+((n2:Int) % 3):Int)⟩:Town),(⟨(((n2:Int) / 11) % 4:Int),(((n2:Int) / 9) % 4:Int),(2+(((n2:Int) / 4) % 4):Int)⟩:Town)]).take (Int.toNat (((n2:Int) / 13) % 3))):=bX
    refine s_val (x_sl (v:=(b_ 53)) (u:=bF) (lo':=none) (hi':=some (I (((n2:Int) / 13) % 3))) (mx':=none) rfl rfl rfl rfl (q8 _)) ?_
    exact s_nil ⟨trivial,_,rfl,rfl,bX,H⟩
   refine og_f rfl rfl (fun b_ g_ w_=>x_mv (v:=I (n2:Int)) rfl) ?_;refine og_f rfl rfl (fun b_ g_ w_=>x_quo (a:=(n2:Int)) (b:=3) rfl rfl (by omega)) ?_;refine og_f rfl rfl (fun b_ g_ w_=>x_rem' (a:=(n2:Int) / 3) (b:=2) rfl rfl (by omega)) ?_;refine og_l rfl (fun b_ g_ au w_ bD H=>?_) ?_
   ·replace H:St w w_ (cOwn (α:=Int) 3 ap vl29 :: au) R:=H
    refine s_call cf8 [I 0,I (((n2:Int) / 3) % 2)] rfl (zah 0 (((n2:Int) / 3) % 2) qW _ (St.give (T:=(cOwn (α:=Int) 3 ap vl29 :: au)) H rfl)) ?_
    rintro vq q9 ⟨ii,ij,ra,hvq,ak⟩
    obtain ⟨dz,q_⟩:=Prod.mk.inj (ra.symm)
    subst dz;subst q_;subst vq
    replace H:St w q9 (cOwn (α:=Int) 3 ap vl29 :: au) R:=H.back ak rfl
    clear ak
    exact s_nil ⟨trivial,_,rfl,rfl,trivial,H⟩
   refine og_l rfl (fun b_ g_ au w_ bD H=>?_) ?_
   ·obtain ⟨_,_,_,bM,_,bX,_,_⟩:=bD
    replace bM:Sl (rowC (b_ 27) (([(0:Int),(1:Int),(2:Int)]).flatMap Flat.enc)) (b_ 30) (([(0:Int),(1:Int),(2:Int)]).drop (Int.toNat ((n2:Int) % 3))):=bM
    replace bX:Sl (rowC (b_ 53) (([(⟨(1+(((n2:Int) / 5) % 3):Int),(((n2:Int) / 7) % 5:Int),(3+((n2:Int) % 3):Int)⟩:Town),(⟨(((n2:Int) / 11) % 4:Int),(((n2:Int) / 9) % 4:Int),(2+(((n2:Int) / 4) % 4):Int)⟩:Town)]).flatMap Flat.enc)) (b_ 57) (([(⟨(1+(((n2:Int) / 5) % 3):Int),(((n2:Int) / 7) % 5:Int),(3+((n2:Int) % 3):Int)⟩:Town),(⟨(((n2:Int) / 11) % 4:Int),(((n2:Int) / 9) % 4:Int),(2+(((n2:Int) / 4) % 4):Int)⟩:Town)]).take (Int.toNat (((n2:Int) / 13) % 3))):=bX
    replace H:St w w_ (cOwn (α:=Int) 3 (b_ 13) ([(1+((n2:Int) % 3):Int),(2+(((n2:Int) / 3) % 2):Int),(([(3:Int),(-1:Int)]).getD (Int.toNat (((n2:Int) / 6) % 2)) 0:Int),(-1:Int)]) :: cOwn (α:=Span) 26 (b_ 26) ([(⟨(r0:Int),(r1:Int)⟩:Span),(⟨(bT:Int),(bU:Int)⟩:Span),(⟨(bV:Int),(bW:Int)⟩:Span),(⟨(0:Int),(0:Int)⟩:Span)]) :: cOwn (α:=Int) 3 (b_ 27) ([(0:Int),(1:Int),(2:Int)]) :: cOwn (α:=Town) 36 (b_ 53) ([(⟨(1+(((n2:Int) / 5) % 3):Int),(((n2:Int) / 7) % 5:Int),(3+((n2:Int) % 3):Int)⟩:Town),(⟨(((n2:Int) / 11) % 4:Int),(((n2:Int) / 9) % 4:Int),(2+(((n2:Int) / 4) % 4):Int)⟩:Town)]) :: cOwn (α:=Int) 3 ap vl29 :: au) R:=H
    refine s_val (x_bld (ps:=[(0,(b_ 13)),(1,(b_ 26)),(2,(b_ 30)),(3,(b_ 57)),(4,.agg #[I bc,I bf])]) (zs:=[.slice none 0 0,.slice none 0 0,.slice none 0 0,.slice none 0 0,I 0,I 0,.slice none 0 0]) (L':=[(b_ 13),(b_ 26),(b_ 30),(b_ 57),I bc,I bf,.slice none 0 0]) rfl Tryz.underlying29 Al29 rfl (Bd29 Tryz.underlying29) (.cons (cs:=[(b_ 13)]) (Sl.cells (H.os 0)) rfl rfl rfl rfl<|.cons (cs:=[(b_ 26)]) (Sl.cells (H.os 1)) rfl rfl rfl rfl<|.cons (cs:=[(b_ 30)]) (Sl.cells bM) rfl rfl rfl rfl<|.cons (cs:=[(b_ 57)]) (Sl.cells bX) rfl rfl rfl rfl<|.cons (cs:=[I bc,I bf]) rfl rfl rfl rfl rfl<|.nil)) ?_
    exact s_nil ⟨trivial,_,rfl,rfl,trivial,H⟩
   refine og_l rfl (fun b_ g_ au w_ bD H=>?_) ?_
   ·replace H:St w w_ (cOwn (α:=Int) 3 ap vl29 :: au) R:=H
    refine t_alloc (cs:=[.slice none 0 0,.slice none 0 0,.slice none 0 0,.slice none 0 0,I 0,I 0,.slice none 0 0]) H Al29 rfl ?_;intro cE x9 H
    exact s_nil ⟨trivial,_,rfl,rfl,trivial,H⟩
   exact og_nil
  intro b_ g_ rb bD H
  obtain ⟨_,_,_,_,_,_,_,_,_,_,_,_,_,_,_,_,_,_,_,_,_,_,_,_,_,_,_,_,_,_,bM,_,_,_,_,_,_,_,_,_,_,_,_,_,_,_,_,_,_,_,_,_,_,_,_,_,_,bX,_,_,_,_,_,_,_⟩:=bD
  replace bM:Sl (rowC (b_ 27) (([(0:Int),(1:Int),(2:Int)]).flatMap Flat.enc)) (b_ 30) (([(0:Int),(1:Int),(2:Int)]).drop (Int.toNat ((n2:Int) % 3))):=bM
  replace bX:Sl (rowC (b_ 53) (([(⟨(1+(((n2:Int) / 5) % 3):Int),(((n2:Int) / 7) % 5:Int),(3+((n2:Int) % 3):Int)⟩:Town),(⟨(((n2:Int) / 11) % 4:Int),(((n2:Int) / 9) % 4:Int),(2+(((n2:Int) / 4) % 4):Int)⟩:Town)]).flatMap Flat.enc)) (b_ 57) (([(⟨(1+(((n2:Int) / 5) % 3):Int),(((n2:Int) / 7) % 5:Int),(3+((n2:Int) % 3):Int)⟩:Town),(⟨(((n2:Int) / 11) % 4:Int),(((n2:Int) / 9) % 4:Int),(2+(((n2:Int) / 4) % 4):Int)⟩:Town)]).take (Int.toNat (((n2:Int) / 13) % 3))):=bX
  replace H:=(show St w rb [cOwn (α:=Int) 3 ap vl29,cOwn (α:=Int) 3 (b_ 7) ([(3:Int),(-1:Int)]),cOwn (α:=Int) 3 (b_ 13) ([(1+((n2:Int) % 3):Int),(2+(((n2:Int) / 3) % 2):Int),(([(3:Int),(-1:Int)]).getD (Int.toNat (((n2:Int) / 6) % 2)) 0:Int),(-1:Int)]),cOwn (α:=Span) 26 (b_ 26) ([(⟨(r0:Int),(r1:Int)⟩:Span),(⟨(bT:Int),(bU:Int)⟩:Span),(⟨(bV:Int),(bW:Int)⟩:Span),(⟨(0:Int),(0:Int)⟩:Span)]),cOwn (α:=Int) 3 (b_ 27) ([(0:Int),(1:Int),(2:Int)]),cOwn (α:=Town) 36 (b_ 53) ([(⟨(1+(((n2:Int) / 5) % 3):Int),(((n2:Int) / 7) % 5:Int),(3+((n2:Int) % 3):Int)⟩:Town),(⟨(((n2:Int) / 11) % 4:Int),(((n2:Int) / 9) % 4:Int),(2+(((n2:Int) / 4) % 4):Int)⟩:Town)]),cBlk (ptb (b_ 63)) [.slice none 0 0,.slice none 0 0,.slice none 0 0,.slice none 0 0,I 0,I 0,.slice none 0 0] 29] R from H)
  refine slt_gen [(15,I (n2:Int)),(16,.pointer (some ⟨(ptb (b_ 63)),0,none⟩)),(269,.agg #[(b_ 13),(b_ 26),(b_ 30),(b_ 57),I bc,I bf,.slice none 0 0])] ⟨rfl,rfl,rfl,trivial⟩ fun ρ_=>?_
  generalize b_ 7=fv at *
  generalize b_ 13=bp at *
  generalize b_ 26=br at *
  generalize b_ 27=d6 at *
  generalize b_ 30=bE at *
  generalize b_ 53=d7 at *
  generalize b_ 57=bF at *
  generalize ptb (b_ 63)=cE at *
  replace H:=H.nf;refine t_l rfl ?_;refine t_sw 6 0 [bp,br,bE,bF,I bc,I bf,.slice none 0 0] (.agg #[bp,br,bE,bF,I bc,I bf,.slice none 0 0]) H rfl rfl Sz29 rfl rfl rfl (by simp only [List.all_cons,List.all_nil,Bool.true_and,Bool.and_true,Sl.oc (H.os 2),Sl.oc (H.os 3),Sl.oc bM,Sl.oc bX]; try rfl) ?_;intro ya H
  refine s_nil ⟨trivial,?_⟩
  refine kg 7 ?_
  obtain ⟨kw,H⟩:=H.emptyE
  replace H:=H.nilOwn (α:=Raw 1) 38
  have rc:RepR (α:=Flood) (n:=1) kw.cells [] []:=.nil
  obtain ⟨rd,ik,re⟩:=M.e_bind hM
  obtain ⟨ct,ik⟩:=M.e_iter ik
  refine W.loop (fun m σ W=>∃ (i:Nat) (dA:List Flood) (bv:Value) (cu:List (Raw 1)) (B_l12:Base) (ρ:Env),σ=upds ρ [(15,I (n2:Int)),(16,Pq cE),(17,I (i:Int))]/\M.iterN (zed n2) m (i,dA)=some rd/\St w W [cOwn (α:=Raw 1) 38 bv cu,cRo B_l12,cOwn (α:=Int) 3 ap vl29,cOwn (α:=Int) 3 fv ([(3:Int),(-1:Int)]),cOwn (α:=Int) 3 bp ([(1+((n2:Int) % 3):Int),(2+(((n2:Int) / 3) % 2):Int),(([(3:Int),(-1:Int)]).getD (Int.toNat (((n2:Int) / 6) % 2)) 0:Int),(-1:Int)]),cOwn (α:=Span) 26 br ([(⟨(r0:Int),(r1:Int)⟩:Span),(⟨(bT:Int),(bU:Int)⟩:Span),(⟨(bV:Int),(bW:Int)⟩:Span),(⟨(0:Int),(0:Int)⟩:Span)]),cOwn (α:=Int) 3 d6 ([(0:Int),(1:Int),(2:Int)]),cOwn (α:=Town) 36 d7 ([(⟨(1+(((n2:Int) / 5) % 3):Int),(((n2:Int) / 7) % 5:Int),(3+((n2:Int) % 3):Int)⟩:Town),(⟨(((n2:Int) / 11) % 4:Int),(((n2:Int) / 9) % 4:Int),(2+(((n2:Int) / 4) % 4):Int)⟩:Town)]),cBlk cE [bp,br,bE,bF,I bc,I bf,bv] 29] R/\RepR (α:=Flood) B_l12.cells cu dA) ?_ ?_
  ·exact ⟨_,0,[],(.slice none 0 0),[],kw,_,upds_of _ _ ⟨rfl,rfl,rfl,trivial⟩,ik,H,rc⟩
  rintro yb σ yc ⟨i,dA,bv,cu,B_l12,ρ,rfl,kx,H,dB⟩
  obtain ⟨rf,rg,yd,hM,ky⟩:=M.e_iterN kx
  clear kx;refine kg 5 ?_;refine s_val (x_rem' (a:=(n2:Int)) (b:=4) rfl rfl (by omega)) ?_;refine kg 2 ?_
  refine W.cond (decide ((i:Int)<((n2:Int) % 4))) rfl (fun dC=>?_) (fun dC=>?_)
  ·replace hM:=M.e_t hM dC
   replace dC:=dI dC
   refine kg 4 ?_;refine W.draw (fun W=>St w W [cOwn (α:=Raw 1) 38 bv cu,cRo B_l12,cOwn (α:=Int) 3 ap vl29,cOwn (α:=Int) 3 fv ([(3:Int),(-1:Int)]),cOwn (α:=Int) 3 bp ([(1+((n2:Int) % 3):Int),(2+(((n2:Int) / 3) % 2):Int),(([(3:Int),(-1:Int)]).getD (Int.toNat (((n2:Int) / 6) % 2)) 0:Int),(-1:Int)]),cOwn (α:=Span) 26 br ([(⟨(r0:Int),(r1:Int)⟩:Span),(⟨(bT:Int),(bU:Int)⟩:Span),(⟨(bV:Int),(bW:Int)⟩:Span),(⟨(0:Int),(0:Int)⟩:Span)]),cOwn (α:=Int) 3 d6 ([(0:Int),(1:Int),(2:Int)]),cOwn (α:=Town) 36 d7 ([(⟨(1+(((n2:Int) / 5) % 3):Int),(((n2:Int) / 7) % 5:Int),(3+((n2:Int) % 3):Int)⟩:Town),(⟨(((n2:Int) / 11) % 4:Int),(((n2:Int) / 9) % 4:Int),(2+(((n2:Int) / 4) % 4):Int)⟩:Town)]),cBlk cE [bp,br,bE,bF,I bc,I bf,bv] 29] R) [(0,true),(1,true),(2,true),(3,true),(4,true),(5,true),(6,true),(7,true),(8,true),(9,true),(10,false),(11,false)] mixed (by decide +kernel) rfl ?_;intro ye ao;replace H:=H.ext ao;clear ao
   refine ⟨(H),?_⟩
   have yf:=(bM).len_le
   obtain ⟨yg,hM⟩:=M.e_gd hM;refine kg 6 ?_;refine d_q rfl (fun w' H=>x_rem' (a:=(i:Int)) (b:=((([(0:Int),(1:Int),(2:Int)]).drop (Int.toNat ((n2:Int) % 3))).length:Int)) rfl rfl (by omega)) ?_;obtain ⟨yh,hM⟩:=M.e_gd hM;refine kg 2 ?_;refine d_q rfl (fun w' H=>x_bld (ps:=[(0,I ((([(0:Int),(1:Int),(2:Int)]).drop (Int.toNat ((n2:Int) % 3))).getD (Int.toNat ((i:Int) % ((([(0:Int),(1:Int),(2:Int)]).drop (Int.toNat ((n2:Int) % 3))).length:Int))) 0))]) (zs:=[I 0,.slice none 0 0]) (L':=[I ((([(0:Int),(1:Int),(2:Int)]).drop (Int.toNat ((n2:Int) % 3))).getD (Int.toNat ((i:Int) % ((([(0:Int),(1:Int),(2:Int)]).drop (Int.toNat ((n2:Int) % 3))).length:Int))) 0),.slice none 0 0]) rfl Tryz.underlying38 Al38 rfl (Bd38 Tryz.underlying38) (.cons (cs:=[I ((([(0:Int),(1:Int),(2:Int)]).drop (Int.toNat ((n2:Int) % 3))).getD (Int.toNat ((i:Int) % ((([(0:Int),(1:Int),(2:Int)]).drop (Int.toNat ((n2:Int) % 3))).length:Int))) 0)]) rfl rfl rfl rfl rfl<|.nil))<|d_l rfl ?_;refine t_alloc (cs:=[I 0,.slice none 0 0]) H Al38 rfl ?_;intro fw yi H
   refine s_nil ⟨(H.dp 1),?_⟩
   refine d_l rfl ?_;refine t_sw 0 0 [I ((([(0:Int),(1:Int),(2:Int)]).drop (Int.toNat ((n2:Int) % 3))).getD (Int.toNat ((i:Int) % ((([(0:Int),(1:Int),(2:Int)]).drop (Int.toNat ((n2:Int) % 3))).length:Int))) 0),.slice none 0 0] (.agg #[I ((([(0:Int),(1:Int),(2:Int)]).drop (Int.toNat ((n2:Int) % 3))).getD (Int.toNat ((i:Int) % ((([(0:Int),(1:Int),(2:Int)]).drop (Int.toNat ((n2:Int) % 3))).length:Int))) 0),.slice none 0 0]) H rfl rfl Sz38 rfl rfl rfl rfl ?_;intro yj H
   refine s_nil ⟨(H.dp 1),?_⟩
   refine kg 13 ?_
   replace H:=H.nilOwn (α:=Int) 3
   obtain ⟨rh,il,ri⟩:=M.e_bind hM
   obtain ⟨ct,il⟩:=M.e_iter il
   refine W.loop (fun m σ W=>∃ (dD:Int) (k:Nat) (l9:List Int) (cF:Value) (ρ:Env),σ=upds ρ [(15,I (n2:Int)),(16,Pq cE),(17,I (i:Int)),(18,Pq fw),(19,I dD),(20,I (k:Int))]/\M.iterN (zds n2 i) m (dD,k,l9)=some rh/\St w W [cOwn (α:=Int) 3 cF l9,cBlk fw [I ((([(0:Int),(1:Int),(2:Int)]).drop (Int.toNat ((n2:Int) % 3))).getD (Int.toNat ((i:Int) % ((([(0:Int),(1:Int),(2:Int)]).drop (Int.toNat ((n2:Int) % 3))).length:Int))) 0),cF] 38,cOwn (α:=Raw 1) 38 bv cu,cRo B_l12,cOwn (α:=Int) 3 ap vl29,cOwn (α:=Int) 3 fv ([(3:Int),(-1:Int)]),cOwn (α:=Int) 3 bp ([(1+((n2:Int) % 3):Int),(2+(((n2:Int) / 3) % 2):Int),(([(3:Int),(-1:Int)]).getD (Int.toNat (((n2:Int) / 6) % 2)) 0:Int),(-1:Int)]),cOwn (α:=Span) 26 br ([(⟨(r0:Int),(r1:Int)⟩:Span),(⟨(bT:Int),(bU:Int)⟩:Span),(⟨(bV:Int),(bW:Int)⟩:Span),(⟨(0:Int),(0:Int)⟩:Span)]),cOwn (α:=Int) 3 d6 ([(0:Int),(1:Int),(2:Int)]),cOwn (α:=Town) 36 d7 ([(⟨(1+(((n2:Int) / 5) % 3):Int),(((n2:Int) / 7) % 5:Int),(3+((n2:Int) % 3):Int)⟩:Town),(⟨(((n2:Int) / 11) % 4:Int),(((n2:Int) / 9) % 4:Int),(2+(((n2:Int) / 4) % 4):Int)⟩:Town)]),cBlk cE [bp,br,bE,bF,I bc,I bf,bv] 29] R) ?_ ?_
   ·exact ⟨_,(([(0:Int),(1:Int),(2:Int)]).drop (Int.toNat ((n2:Int) % 3))).getD (Int.toNat ((i:Int) % ((([(0:Int),(1:Int),(2:Int)]).drop (Int.toNat ((n2:Int) % 3))).length:Int))) 0,0,[],(.slice none 0 0),_,upds_of _ _ ⟨rfl,rfl,rfl,rfl,rfl,rfl,trivial⟩,il,H⟩
   rintro yk σ yn ⟨dD,k,l9,cF,ρ,rfl,kz,H⟩
   obtain ⟨rj,rk,yo,hM,kA⟩:=M.e_iterN kz
   clear kz;refine kg 8 ?_;refine s_val (x_pand (b:=decide (0<=dD)) (r:=decide ((k:Int)<4)) rfl (fun hb=>gd_of (c:=decide (0<=dD)) (by first | exact hb | (rw [hb]; rfl) | (rw [hg,hb]; rfl) | simp_all) (B (decide ((k:Int)<4)))) rfl)<|s_nil ?_
   refine W.cond ((decide (0<=dD))&&(decide ((k:Int)<4))) rfl (fun im=>?_) (fun im=>?_)
   ·replace hM:=M.e_t hM im;refine kg 4 ?_;refine W.drawTS (fun W=>St w W [cBlk fw [I ((([(0:Int),(1:Int),(2:Int)]).drop (Int.toNat ((n2:Int) % 3))).getD (Int.toNat ((i:Int) % ((([(0:Int),(1:Int),(2:Int)]).drop (Int.toNat ((n2:Int) % 3))).length:Int))) 0),cF] 38,cOwn (α:=Raw 1) 38 bv cu,cRo B_l12,cOwn (α:=Int) 3 ap vl29,cOwn (α:=Int) 3 fv ([(3:Int),(-1:Int)]),cOwn (α:=Int) 3 bp ([(1+((n2:Int) % 3):Int),(2+(((n2:Int) / 3) % 2):Int),(([(3:Int),(-1:Int)]).getD (Int.toNat (((n2:Int) / 6) % 2)) 0:Int),(-1:Int)]),cOwn (α:=Span) 26 br ([(⟨(r0:Int),(r1:Int)⟩:Span),(⟨(bT:Int),(bU:Int)⟩:Span),(⟨(bV:Int),(bW:Int)⟩:Span),(⟨(0:Int),(0:Int)⟩:Span)]),cOwn (α:=Int) 3 d6 ([(0:Int),(1:Int),(2:Int)]),cOwn (α:=Town) 36 d7 ([(⟨(1+(((n2:Int) / 5) % 3):Int),(((n2:Int) / 7) % 5:Int),(3+((n2:Int) % 3):Int)⟩:Town),(⟨(((n2:Int) / 11) % 4:Int),(((n2:Int) / 9) % 4:Int),(2+(((n2:Int) / 4) % 4):Int)⟩:Town)]),cBlk cE [bp,br,bE,bF,I bc,I bf,bv] 29] R) (.q 0 (.q 1 (.q 2 (.q 3 (.q 4 (.q 5 (.q 6 (.q 7 (.q 8 (.q 9 (.l 10 (.l 11 (.q 12 .nil))))))))))))) 13 [13] mixed (by decide +kernel) rfl ?_;intro yp ao;replace H:=H.ext ao;clear ao
    refine ⟨(H.dp 1),?_⟩
    refine ts_q rfl (fun w' H=>x_fa (v:=Oq fw 1) rfl (fa_blk (o:=0) Fd38_1 Sz22)) ?_;refine ts_q rfl (fun w' H=>x_ld (v:=cF) rfl (ldb_sc Sc22 (H.bl 0) rfl)) ?_;refine ts_q rfl (fun w' H=>x_mv (v:=I (n2:Int)) rfl) ?_;refine ts_q rfl (fun w' H=>x_mv (v:=I (k:Int)) rfl) ?_;obtain ⟨yq,hM⟩:=M.e_gd hM;refine ts_q rfl (fun w' H=>x_ari (r:=(k:Int)+1) rfl rfl rfl (by omega)) ?_;obtain ⟨yr,hM⟩:=M.e_gd hM;refine ts_q rfl (fun w' H=>x_quo (a:=(n2:Int)) (b:=(k:Int)+1) rfl rfl (by omega)) ?_;refine ts_q rfl (fun w' H=>x_mv (v:=I (i:Int)) rfl) ?_;obtain ⟨yu,hM⟩:=M.e_gd hM;refine ts_q rfl (fun w' H=>x_ari (r:=3*(i:Int)) rfl rfl rfl (by omega)) ?_;obtain ⟨yw,hM⟩:=M.e_gd hM;refine ts_q rfl (fun w' H=>x_ari (r:=((n2:Int) / ((k:Int)+1))+(3*(i:Int))) rfl rfl rfl (by omega)) ?_;obtain ⟨yx,hM⟩:=M.e_gd hM;refine ts_q rfl (fun w' H=>x_rem' (a:=((n2:Int) / ((k:Int)+1))+(3*(i:Int))) (b:=7) rfl rfl (by omega)) ?_;refine ts_l rfl ?_;refine t_bs (α:=Int) T22 [I ((((n2:Int) / ((k:Int)+1))+(3*(i:Int))) % 7)] [((((n2:Int) / ((k:Int)+1))+(3*(i:Int))) % 7:Int)] H rfl (.cons rfl (Flat.rep_enc _ ((((n2:Int) / ((k:Int)+1))+(3*(i:Int))) % 7:Int))<|.nil) rfl rfl rfl ?_;intro rl yy H
    have yz:=Sl.cells (H.os 0)
    have yA:=Sl.oc (H.os 0)
    have yB:=ownSl (H.get (k:=0) rfl)
    have yC:=Sl.cells (H.os 1)
    have yD:=Sl.oc (H.os 1)
    have yE:=ownSl (H.get (k:=1) rfl)
    refine s_nil ⟨(H.dp 2),?_⟩
    refine ts_l rfl ?_;obtain ⟨yF,hM⟩:=M.e_gd hM;refine t_app (α:=Int) (k:=1) (l:=l9) (l2:=[((((n2:Int) / ((k:Int)+1))+(3*(i:Int))) % 7:Int)]) (l':=l9++([((((n2:Int) / ((k:Int)+1))+(3*(i:Int))) % 7:Int)])) (vy:=rl) T22 rfl H rfl rfl rfl (H.os 0) (H.ol 0) (rfl) (by first | omega | (simp only [List.length_nil] at *; omega)) ?_;intro io yG H;replace H:=H.nf
    have yH:=Sl.cells (H.os 1)
    have yI:=Sl.oc (H.os 1)
    have yK:=ownSl (H.get (k:=1) rfl)
    refine s_nil ⟨(H.dp 2),?_⟩
    refine ts_q rfl (fun w' H=>x_fa (v:=Oq fw 1) rfl (fa_blk (o:=0) Fd38_1 Sz22)) ?_;refine ts_nil ?_;refine sr_l rfl ?_;refine t_sw 2 1 [io] io H rfl rfl Sz22 (Sl.cells (H.os 1)) rfl rfl (by simp only [List.all_cons,List.all_nil,Bool.true_and,Bool.and_true,Sl.oc (H.os 1)]; try rfl) ?_;intro yL H
    refine s_nil ⟨trivial,?_⟩
    refine sr_nil ?_;obtain ⟨yM,hM⟩:=M.e_gd hM;refine kg 13 ?_
    exact ⟨rj,rk,([(1+((n2:Int) % 3):Int),(2+(((n2:Int) / 3) % 2):Int),(([(3:Int),(-1:Int)]).getD (Int.toNat (((n2:Int) / 6) % 2)) 0:Int),(-1:Int)]).getD (Int.toNat dD) 0,k+1,l9++([((((n2:Int) / ((k:Int)+1))+(3*(i:Int))) % 7:Int)]),io,_,upds_of _ _ ⟨rfl,rfl,rfl,rfl,rfl,rfl,trivial⟩,M.e_inl hM kA,(H.dp 1)⟩
   replace hM:=M.e_f hM im;refine W.exit ?_
   have rm:=M.e_inr hM kA
   subst rm;replace hM:=ri;(try dsimp only at hM);refine kg 4 ?_
   obtain ⟨yN,H⟩:=H.emptyE
   obtain ⟨yO,H,rn⟩:=H.freezeE (k:=1) rfl
   replace H:=H.nf
   have gw:=rn
   obtain ⟨ro,H,yP,rp⟩:=H.joinE (i:=0) (j:=1) rfl rfl
   replace gw:=gw.mono rp
   obtain ⟨dE,kB⟩:∃ r:Raw 1,r.cs=[I ((([(0:Int),(1:Int),(2:Int)]).drop (Int.toNat ((n2:Int) % 3))).getD (Int.toNat ((i:Int) % ((([(0:Int),(1:Int),(2:Int)]).drop (Int.toNat ((n2:Int) % 3))).length:Int))) 0),cF]:=⟨Raw.of [I ((([(0:Int),(1:Int),(2:Int)]).drop (Int.toNat ((n2:Int) % 3))).getD (Int.toNat ((i:Int) % ((([(0:Int),(1:Int),(2:Int)]).drop (Int.toNat ((n2:Int) % 3))).length:Int))) 0),cF] rfl (by simp only [List.all_cons,List.all_nil,Bool.true_and,Bool.and_true,Sl.oc gw]; try rfl),rfl⟩
   have rq:RepR (α:=Flood) ro.cells [dE] [(⟨((([(0:Int),(1:Int),(2:Int)]).drop (Int.toNat ((n2:Int) % 3))).getD (Int.toNat ((i:Int) % ((([(0:Int),(1:Int),(2:Int)]).drop (Int.toNat ((n2:Int) % 3))).length:Int))) 0:Int),l9⟩:Flood)]:=.cons (by rw [kB]; exact ⟨_,rfl,gw⟩)<|.nil
   refine t_bs (α:=Raw 1) T27 [.agg #[I ((([(0:Int),(1:Int),(2:Int)]).drop (Int.toNat ((n2:Int) % 3))).getD (Int.toNat ((i:Int) % ((([(0:Int),(1:Int),(2:Int)]).drop (Int.toNat ((n2:Int) % 3))).length:Int))) 0),cF]] [dE] H rfl (.cons (by rw [show (Flat.enc dE:List Value)=dE.cs from rfl,kB]; rfl) (Flat.rep_enc _ _)<|.nil) rfl rfl rfl ?_;intro rr yQ H;replace H:=H.nf;obtain ⟨yR,hM⟩:=M.e_gd hM
   have gx:=rq
   obtain ⟨rt,H,ru,rv⟩:=H.joinE (i:=6) (j:=1) rfl rfl
   replace dB:=dB.mono ru
   replace gx:=gx.mono rv
   have ip:=dB.app gx
   refine t_app (α:=Raw 1) (k:=6) (l:=cu) (l2:=[dE]) (l':=cu++([dE])) (vy:=rr) T27 rfl H rfl rfl rfl (H.os 1) (H.ol 1) (rfl) (by have a_:=dB.len; have b_:=gx.len; (try simp only [List.length_nil] at *); first | omega | (rw [a_,b_]; omega)) ?_;intro iq yS H;replace H:=H.nf;refine kg 1 ?_;refine t_sw 14 6 [iq] iq H rfl rfl Sz27 (Sl.cells (rowSl rfl (H.get (k:=6) rfl) (roLe _ (H.get (k:=0) rfl)) ip)) rfl rfl (by simp only [List.all_cons,List.all_nil,Bool.true_and,Bool.and_true,Sl.oc (rowSl rfl (H.get (k:=6) rfl) (roLe _ (H.get (k:=0) rfl)) ip)]; try rfl) ?_;intro yT H;refine s_nil ?_
   replace H:=H.er 5 |>.er 4 |>.er 3 |>.er 2 |>.er 1
   obtain ⟨yU,hM⟩:=M.e_gd hM;refine kg 5 ?_
   exact ⟨rf,rg,i+1,dA++([(⟨((([(0:Int),(1:Int),(2:Int)]).drop (Int.toNat ((n2:Int) % 3))).getD (Int.toNat ((i:Int) % ((([(0:Int),(1:Int),(2:Int)]).drop (Int.toNat ((n2:Int) % 3))).length:Int))) 0:Int),l9⟩:Flood)]),iq,cu++([dE]),rt,_,upds_of _ _ ⟨rfl,rfl,rfl,trivial⟩,M.e_inl hM ky,(H.mv 1 |>.er 2),ip⟩
  replace hM:=M.e_f hM dC
  replace dC:=dI dC
  refine W.exit ?_
  have rx:=M.e_inr hM ky
  subst rx;replace hM:=re;(try dsimp only at hM);refine kg 2 ?_;refine t_bs (α:=Int) T22 [I 0] [(0:Int)] H rfl (.cons rfl (Flat.rep_enc _ (0:Int))<|.nil) rfl rfl rfl ?_;intro ir yV H;refine t_bs (α:=Int) T22 [I 2] [(2:Int)] H rfl (.cons rfl (Flat.rep_enc _ (2:Int))<|.nil) rfl rfl rfl ?_;intro iu yW H;refine t_bs (α:=Int) T22 [I 0,I 2] [(0:Int),(2:Int)] H rfl (.cons rfl (Flat.rep_enc _ (0:Int))<|.cons rfl (Flat.rep_enc _ (2:Int))<|.nil) rfl rfl rfl ?_;intro iw yX H;refine t_bs (α:=Int) T22 [I 1,I 3] [(1:Int),(3:Int)] H rfl (.cons rfl (Flat.rep_enc _ (1:Int))<|.cons rfl (Flat.rep_enc _ (3:Int))<|.nil) rfl rfl rfl ?_;intro iy yY H;refine t_bs (α:=Int) T22 [I 1,I 2] [(1:Int),(2:Int)] H rfl (.cons rfl (Flat.rep_enc _ (1:Int))<|.cons rfl (Flat.rep_enc _ (2:Int))<|.nil) rfl rfl rfl ?_;intro iz yZ H;refine t_bs (α:=Int) T22 [I 0,I 1,I 2,I 3] [(0:Int),(1:Int),(2:Int),(3:Int)] H rfl (.cons rfl (Flat.rep_enc _ (0:Int))<|.cons rfl (Flat.rep_enc _ (1:Int))<|.cons rfl (Flat.rep_enc _ (2:Int))<|.cons rfl (Flat.rep_enc _ (3:Int))<|.nil) rfl rfl rfl ?_;intro iA y7 H
  obtain ⟨y8,H⟩:=H.emptyE
  obtain ⟨y9,H,ry⟩:=H.freezeE (k:=6) rfl
  replace H:=H.nf
  have bN:=ry
  obtain ⟨za,H,zb,rz⟩:=H.joinE (i:=0) (j:=6) rfl rfl
  replace bN:=bN.mono rz
  obtain ⟨zc,H,rA⟩:=H.freezeE (k:=6) rfl
  replace H:=H.nf
  have b7:=rA
  obtain ⟨zd,H,rB,rC⟩:=H.joinE (i:=0) (j:=6) rfl rfl
  replace bN:=bN.mono rB
  replace b7:=b7.mono rC
  obtain ⟨ze,H,rD⟩:=H.freezeE (k:=6) rfl
  replace H:=H.nf
  have cn:=rD
  obtain ⟨zf,H,kC,rE⟩:=H.joinE (i:=0) (j:=6) rfl rfl
  replace bN:=bN.mono kC
  replace b7:=b7.mono kC
  replace cn:=cn.mono rE
  obtain ⟨zg,H,rF⟩:=H.freezeE (k:=6) rfl
  replace H:=H.nf
  have cA:=rF
  obtain ⟨zh,H,iB,rG⟩:=H.joinE (i:=0) (j:=6) rfl rfl
  replace bN:=bN.mono iB
  replace b7:=b7.mono iB
  replace cn:=cn.mono iB
  replace cA:=cA.mono rG
  obtain ⟨zi,H,rH⟩:=H.freezeE (k:=6) rfl
  replace H:=H.nf
  have dF:=rH
  obtain ⟨zj,H,gy,rI⟩:=H.joinE (i:=0) (j:=6) rfl rfl
  replace bN:=bN.mono gy
  replace b7:=b7.mono gy
  replace cn:=cn.mono gy
  replace cA:=cA.mono gy
  replace dF:=dF.mono rI
  obtain ⟨zk,H,rJ⟩:=H.freezeE (k:=6) rfl
  replace H:=H.nf
  have fx:=rJ
  obtain ⟨kD,H,fy,rK⟩:=H.joinE (i:=0) (j:=6) rfl rfl
  replace bN:=bN.mono fy
  replace b7:=b7.mono fy
  replace cn:=cn.mono fy
  replace cA:=cA.mono fy
  replace dF:=dF.mono fy
  replace fx:=fx.mono rK
  obtain ⟨fA,kE⟩:∃ r:Raw 0,r.cs=[.slice none 0 0]:=⟨Raw.of [.slice none 0 0] rfl rfl,rfl⟩
  obtain ⟨fB,kF⟩:∃ r:Raw 0,r.cs=[ir]:=⟨Raw.of [ir] rfl (by simp only [List.all_cons,List.all_nil,Bool.true_and,Bool.and_true,Sl.oc bN]; try rfl),rfl⟩
  obtain ⟨fC,kG⟩:∃ r:Raw 0,r.cs=[iu]:=⟨Raw.of [iu] rfl (by simp only [List.all_cons,List.all_nil,Bool.true_and,Bool.and_true,Sl.oc b7]; try rfl),rfl⟩
  obtain ⟨fD,kH⟩:∃ r:Raw 0,r.cs=[iw]:=⟨Raw.of [iw] rfl (by simp only [List.all_cons,List.all_nil,Bool.true_and,Bool.and_true,Sl.oc cn]; try rfl),rfl⟩
  obtain ⟨fE,kI⟩:∃ r:Raw 0,r.cs=[iy]:=⟨Raw.of [iy] rfl (by simp only [List.all_cons,List.all_nil,Bool.true_and,Bool.and_true,Sl.oc cA]; try rfl),rfl⟩
  obtain ⟨fG,kJ⟩:∃ r:Raw 0,r.cs=[iz]:=⟨Raw.of [iz] rfl (by simp only [List.all_cons,List.all_nil,Bool.true_and,Bool.and_true,Sl.oc dF]; try rfl),rfl⟩
  obtain ⟨fH,kK⟩:∃ r:Raw 0,r.cs=[iA]:=⟨Raw.of [iA] rfl (by simp only [List.all_cons,List.all_nil,Bool.true_and,Bool.and_true,Sl.oc fx]; try rfl),rfl⟩
  have kL:RepR (α:=List Int) kD.cells [fA,fB,fC,fD,fE,fG,fH] [[],[(0:Int)],[(2:Int)],[(0:Int),(2:Int)],[(1:Int),(3:Int)],[(1:Int),(2:Int)],[(0:Int),(1:Int),(2:Int),(3:Int)]]:=.cons (by rw [kE]; exact ⟨_,rfl,(Sl.nil _)⟩)<|.cons (by rw [kF]; exact ⟨_,rfl,bN⟩)<|.cons (by rw [kG]; exact ⟨_,rfl,b7⟩)<|.cons (by rw [kH]; exact ⟨_,rfl,cn⟩)<|.cons (by rw [kI]; exact ⟨_,rfl,cA⟩)<|.cons (by rw [kJ]; exact ⟨_,rfl,dF⟩)<|.cons (by rw [kK]; exact ⟨_,rfl,fx⟩)<|.nil
  refine t_bs (α:=Raw 0) T44 [.slice none 0 0,ir,iu,iw,iy,iz,iA] [fA,fB,fC,fD,fE,fG,fH] H rfl (.cons (by rw [show (Flat.enc fA:List Value)=fA.cs from rfl,kE]; rfl) (Flat.rep_enc _ _)<|.cons (by rw [show (Flat.enc fB:List Value)=fB.cs from rfl,kF]; exact Sl.cells bN) (Flat.rep_enc _ _)<|.cons (by rw [show (Flat.enc fC:List Value)=fC.cs from rfl,kG]; exact Sl.cells b7) (Flat.rep_enc _ _)<|.cons (by rw [show (Flat.enc fD:List Value)=fD.cs from rfl,kH]; exact Sl.cells cn) (Flat.rep_enc _ _)<|.cons (by rw [show (Flat.enc fE:List Value)=fE.cs from rfl,kI]; exact Sl.cells cA) (Flat.rep_enc _ _)<|.cons (by rw [show (Flat.enc fG:List Value)=fG.cs from rfl,kJ]; exact Sl.cells dF) (Flat.rep_enc _ _)<|.cons (by rw [show (Flat.enc fH:List Value)=fH.cs from rfl,kK]; exact Sl.cells fx) (Flat.rep_enc _ _)<|.nil) rfl rfl rfl ?_;intro kM zl H;replace H:=H.nf;refine kg 1 ?_;refine s_val (x_rem' (a:=(n2:Int)) (b:=7) rfl rfl (by omega)) ?_;obtain ⟨zm,hM⟩:=M.e_gd hM;refine s_val (x_ix (v:=vat kM 1 (Int.toNat ((n2:Int) % 7))) rfl rfl (Sl.ix (α:=List Int) T44.und T44.size (rowSl rfl (H.get (k:=0) rfl) (roLe _ (H.get (k:=1) rfl)) kL) (by omega) (by omega))) ?_
  obtain ⟨dG,rL,d8⟩:=List_at (rowSl rfl (H.get (k:=0) rfl) (roLe _ (H.get (k:=1) rfl)) kL) (i:=(n2:Int) % 7) (by omega) (by omega)
  replace d8:Sl _ dG (([[],[(0:Int)],[(2:Int)],[(0:Int),(2:Int)],[(1:Int),(3:Int)],[(1:Int),(2:Int)],[(0:Int),(1:Int),(2:Int),(3:Int)]]).getD (Int.toNat ((n2:Int) % 7)) ([])):=d8
  have zn:=d8.len_le
  refine s_val (x_ld (v:=dG) rfl (ld_sc Sc22 (At.mono (rL) (Cells.sup_le (H.ol 0) (roLe _ (H.get (k:=1) rfl)))))) ?_;refine kg 2 ?_;replace H:=H.pk [0,1,14,15,16,18,19,20,21,22];refine kg 3 ?_;refine s_val (x_rem' (a:=(n2:Int)) (b:=8) rfl rfl (by omega)) ?_;obtain ⟨zo,hM⟩:=M.e_gd hM;refine kg 2 ?_;refine s_val (x_rem' (a:=(n2:Int) / 8) (b:=8) rfl rfl (by omega)) ?_;obtain ⟨zp,hM⟩:=M.e_gd hM;refine kg 2 ?_;refine s_val (x_rem' (a:=(n2:Int) / 64) (b:=8) rfl rfl (by omega)) ?_;refine t_bs (α:=Int) T22 [I ((n2:Int) % 8),I (((n2:Int) / 8) % 8),I (((n2:Int) / 64) % 8),I 3] [((n2:Int) % 8:Int),(((n2:Int) / 8) % 8:Int),(((n2:Int) / 64) % 8:Int),(3:Int)] H rfl (.cons rfl (Flat.rep_enc _ ((n2:Int) % 8:Int))<|.cons rfl (Flat.rep_enc _ (((n2:Int) / 8) % 8:Int))<|.cons rfl (Flat.rep_enc _ (((n2:Int) / 64) % 8:Int))<|.cons rfl (Flat.rep_enc _ (3:Int))<|.nil) rfl rfl rfl ?_;intro kN zq H
  have zr:=(d8).len_le
  obtain ⟨zt,hM⟩:=M.e_gd hM;refine kg 2 ?_
  obtain ⟨fI,rM,iC⟩:=sl_hi T22.und T22.size (H.os 0) (j:=((([[],[(0:Int)],[(2:Int)],[(0:Int),(2:Int)],[(1:Int),(3:Int)],[(1:Int),(2:Int)],[(0:Int),(1:Int),(2:Int),(3:Int)]]).getD (Int.toNat ((n2:Int) % 7)) ([])).length:Int)) (by omega) (by omega)
  replace iC:Sl _ fI (([((n2:Int) % 8:Int),(((n2:Int) / 8) % 8:Int),(((n2:Int) / 64) % 8:Int),(3:Int)]).take ((([[],[(0:Int)],[(2:Int)],[(0:Int),(2:Int)],[(1:Int),(3:Int)],[(1:Int),(2:Int)],[(0:Int),(1:Int),(2:Int),(3:Int)]]).getD (Int.toNat ((n2:Int) % 7)) ([])).length)):=iC
  refine s_val (x_sl (v:=kN) (u:=fI) (lo':=none) (hi':=some (I ((([[],[(0:Int)],[(2:Int)],[(0:Int),(2:Int)],[(1:Int),(3:Int)],[(1:Int),(2:Int)],[(0:Int),(1:Int),(2:Int),(3:Int)]]).getD (Int.toNat ((n2:Int) % 7)) ([])).length:Int))) (mx':=none) rfl rfl rfl rfl (rM _)) ?_;refine kg 3 ?_;refine W.draw (fun W=>St w W [cOwn (α:=Int) 3 kN ([((n2:Int) % 8:Int),(((n2:Int) / 8) % 8:Int),(((n2:Int) / 64) % 8:Int),(3:Int)]),cOwn (α:=Raw 0) 22 kM ([fA,fB,fC,fD,fE,fG,fH]),cRo kD,cOwn (α:=Raw 1) 38 bv cu,cRo B_l12,cOwn (α:=Int) 3 ap vl29,cOwn (α:=Int) 3 bp ([(1+((n2:Int) % 3):Int),(2+(((n2:Int) / 3) % 2):Int),(([(3:Int),(-1:Int)]).getD (Int.toNat (((n2:Int) / 6) % 2)) 0:Int),(-1:Int)]),cOwn (α:=Span) 26 br ([(⟨(r0:Int),(r1:Int)⟩:Span),(⟨(bT:Int),(bU:Int)⟩:Span),(⟨(bV:Int),(bW:Int)⟩:Span),(⟨(0:Int),(0:Int)⟩:Span)]),cOwn (α:=Int) 3 d6 ([(0:Int),(1:Int),(2:Int)]),cOwn (α:=Town) 36 d7 ([(⟨(1+(((n2:Int) / 5) % 3):Int),(((n2:Int) / 7) % 5:Int),(3+((n2:Int) % 3):Int)⟩:Town),(⟨(((n2:Int) / 11) % 4:Int),(((n2:Int) / 9) % 4:Int),(2+(((n2:Int) / 4) % 4):Int)⟩:Town)]),cBlk cE [bp,br,bE,bF,I bc,I bf,bv] 29] R) [(0,true),(1,true),(2,true),(3,true),(4,true),(5,true),(6,true),(7,true),(8,false),(9,true),(10,true),(11,true),(12,true),(13,true),(14,true),(15,true),(16,true),(17,true),(18,true),(19,true),(20,true),(21,true),(22,true),(23,true),(24,true),(25,true),(26,true),(27,true),(28,true),(29,true),(31,true),(32,true),(30,false),(33,true),(34,false),(35,true),(36,true),(37,true),(38,true),(39,true),(40,true),(41,true),(42,true),(43,false),(44,true),(45,true)] mixed (by decide +kernel) rfl ?_;intro zu ao;replace H:=H.ext ao;clear ao
  refine ⟨(H),?_⟩
  refine kg 2 ?_;refine d_q rfl (fun w' H=>x_rem' (a:=(n2:Int)) (b:=4) rfl rfl (by omega)) ?_;refine kg 2 ?_;refine d_q rfl (fun w' H=>x_rem' (a:=(n2:Int) / 4) (b:=4) rfl rfl (by omega)) ?_;refine kg 1 ?_;refine d_q rfl (fun w' H=>x_rem' (a:=(n2:Int)) (b:=2) rfl rfl (by omega))<|d_l rfl ?_;obtain ⟨zv,rN,hM⟩:=M.e_bind hM;refine s_call cf5 [.agg #[bp,br,bE,bF,I bc,I bf,bv],I ((n2:Int) % 4),I (((n2:Int) / 4) % 4),I ((n2:Int) % 2)] rfl (zaq ([(1+((n2:Int) % 3):Int),(2+(((n2:Int) / 3) % 2):Int),(([(3:Int),(-1:Int)]).getD (Int.toNat (((n2:Int) / 6) % 2)) 0:Int),(-1:Int)]) ([(⟨(r0:Int),(r1:Int)⟩:Span),(⟨(bT:Int),(bU:Int)⟩:Span),(⟨(bV:Int),(bW:Int)⟩:Span),(⟨(0:Int),(0:Int)⟩:Span)]) (([(0:Int),(1:Int),(2:Int)]).drop (Int.toNat ((n2:Int) % 3))) (([(⟨(1+(((n2:Int) / 5) % 3):Int),(((n2:Int) / 7) % 5:Int),(3+((n2:Int) % 3):Int)⟩:Town),(⟨(((n2:Int) / 11) % 4:Int),(((n2:Int) / 9) % 4:Int),(2+(((n2:Int) / 4) % 4):Int)⟩:Town)]).take (Int.toNat (((n2:Int) / 13) % 3))) bc bf dA ((n2:Int) % 4) (((n2:Int) / 4) % 4) ((n2:Int) % 2) (rdo 6) (H.os 6) (rdo 7) (H.os 7) (rdo 8) bM (rdo 9) bX (Reads.sup (rdo 3) (Reads.of (k:=4) rfl roLe)) (rowSl rfl (H.get (k:=3) rfl) (roLe _ (H.get (k:=4) rfl)) dB) rN _ (H.gt 11)) ?_
  rintro vq zw ⟨r5,rfl,hvq,ak⟩
  subst vq;(try dsimp only at hM);replace H:=H.bk ak;clear ak
  refine s_nil ⟨(H),?_⟩
  refine kg 4 ?_;refine d_qg (!(!r5)) rfl (gy_f rfl) (fun hg=>(fun w' H=>x_rem' (a:=(n2:Int)) (b:=3) (gd_of hg (I (n2:Int))) rfl (by first | omega | (have ao:=hg; simp at ao; omega)))) ?_;refine kg 2 ?_;refine d_qg (!(!r5)) rfl (gy_f rfl) (fun hg=>(fun w' H=>x_rem' (a:=(n2:Int) / 3) (b:=2) (gd_of hg (I ((n2:Int) / 3))) rfl (by first | omega | (have ao:=hg; simp at ao; omega))))<|d_qg (!(!r5)) rfl (gy_f rfl) (fun hg=>(fun w' H=>x_bld (ps:=[(0,I ((n2:Int) % 3)),(1,I (((n2:Int) / 3) % 2))]) (zs:=[I 0,I 0]) (L':=[I ((n2:Int) % 3),I (((n2:Int) / 3) % 2)]) (by exact prs2 (gd_of hg (I ((n2:Int) % 3))) (gd_of hg (I (((n2:Int) / 3) % 2)))) Tryz.underlying32 Al32 rfl (Bd32 Tryz.underlying32) (.cons (cs:=[I ((n2:Int) % 3)]) rfl rfl rfl rfl rfl<|.cons (cs:=[I (((n2:Int) / 3) % 2)]) rfl rfl rfl rfl rfl<|.nil))) ?_;refine kg 2 ?_;refine d_qg (!(!r5)) rfl (gy_f rfl) (fun hg=>(fun w' H=>x_rem' (a:=(n2:Int)) (b:=4) (gd_of hg (I (n2:Int))) rfl (by first | omega | (have ao:=hg; simp at ao; omega)))) ?_;refine kg 1 ?_;refine d_qg (!(!r5)) rfl (gy_f rfl) (fun hg=>(fun w' H=>x_rem' (a:=(n2:Int)) (b:=3) (gd_of hg (I (n2:Int))) rfl (by first | omega | (have ao:=hg; simp at ao; omega))))<|d_qg (!(!r5)) rfl (gy_f rfl) (fun hg=>(fun w' H=>x_bld (ps:=[(0,I ((n2:Int) % 3))]) (zs:=[I 0,I 0]) (L':=[I ((n2:Int) % 3),I 0]) (by exact prs1 (gd_of hg (I ((n2:Int) % 3)))) Tryz.underlying32 Al32 rfl (Bd32 Tryz.underlying32) (.cons (cs:=[I ((n2:Int) % 3)]) rfl rfl rfl rfl rfl<|.nil))) ?_;refine kg 2 ?_;refine d_qg (!(!r5)) rfl (gy_f rfl) (fun hg=>(fun w' H=>x_rem' (a:=(n2:Int) / 2) (b:=3) (gd_of hg (I ((n2:Int) / 2))) rfl (by first | omega | (have ao:=hg; simp at ao; omega)))) ?_;refine kg 1 ?_;refine d_qg (!(!r5)) rfl (gy_f rfl) (fun hg=>(fun w' H=>x_rem' (a:=(n2:Int)) (b:=2) (gd_of hg (I (n2:Int))) rfl (by first | omega | (have ao:=hg; simp at ao; omega))))<|d_qg (!(!r5)) rfl (gy_f rfl) (fun hg=>(fun w' H=>x_bld (ps:=[(0,I (((n2:Int) / 2) % 3)),(1,I ((n2:Int) % 2))]) (zs:=[I 0,I 0]) (L':=[I (((n2:Int) / 2) % 3),I ((n2:Int) % 2)]) (by exact prs2 (gd_of hg (I (((n2:Int) / 2) % 3))) (gd_of hg (I ((n2:Int) % 2)))) Tryz.underlying32 Al32 rfl (Bd32 Tryz.underlying32) (.cons (cs:=[I (((n2:Int) / 2) % 3)]) rfl rfl rfl rfl rfl<|.cons (cs:=[I ((n2:Int) % 2)]) rfl rfl rfl rfl rfl<|.nil))) ?_;refine kg 1 ?_;refine d_qg (!(!r5)) rfl (gy_f rfl) (fun hg=>(fun w' H=>x_rem' (a:=(n2:Int)) (b:=3) (gd_of hg (I (n2:Int))) rfl (by first | omega | (have ao:=hg; simp at ao; omega))))<|d_l rfl ?_;refine t_gbs (α:=Dem) T33 (!(!r5)) (gy_f rfl) [.agg #[I ((n2:Int) % 3),I 0],.agg #[I (((n2:Int) / 2) % 3),I ((n2:Int) % 2)]] [(⟨((n2:Int) % 3:Int),(0:Int)⟩:Dem),(⟨(((n2:Int) / 2) % 3:Int),((n2:Int) % 2:Int)⟩:Dem)] H (fun hg=>by exact prs2 (gd_of hg (.agg #[I ((n2:Int) % 3),I 0])) (gd_of hg (.agg #[I (((n2:Int) / 2) % 3),I ((n2:Int) % 2)]))) (.cons rfl (Flat.rep_enc _ (⟨((n2:Int) % 3:Int),(0:Int)⟩:Dem))<|.cons rfl (Flat.rep_enc _ (⟨(((n2:Int) / 2) % 3:Int),((n2:Int) % 2:Int)⟩:Dem))<|.nil) rfl rfl rfl ?_;intro kO zx zy H rO
  refine s_nil ⟨(H.dp 1),?_⟩
  obtain ⟨fJ,hM⟩:=M.e_grd hM
  replace fJ:=M.imp_of fJ
  simp only [Bool.and_eq_true,decide_eq_true_eq] at fJ
  obtain ⟨gz,rP,iD⟩:=gd_ex (c:=!(!r5)) fun hg=>sl_hi T33.und T33.size (rO hg) (j:=(n2:Int) % 3) (by have ba:=fJ.resolve_left (by rw [hg]; decide); first | exact ba | exact ba.1 | exact ba.2 | omega | (have ao:=hg; simp at ao; omega)) (by have ba:=fJ.resolve_left (by rw [hg]; decide); first | exact ba | exact ba.1 | exact ba.2 | omega | (have ao:=hg; simp at ao; omega))
  replace iD:(!(!r5))=true->Sl _ gz (([(⟨((n2:Int) % 3:Int),(0:Int)⟩:Dem),(⟨(((n2:Int) / 2) % 3:Int),((n2:Int) % 2:Int)⟩:Dem)]).take (Int.toNat ((n2:Int) % 3))):=iD
  refine d_qg (!(!r5)) rfl (gy_f rfl) (fun hg=>(fun w' H=>x_sl (v:=kO) (u:=gz) (lo':=none) (hi':=some (I ((n2:Int) % 3))) (mx':=none) (gd_of hg (kO)) rfl (congrArg some (gd_of hg (I ((n2:Int) % 3)))) rfl (rP hg _)))<|d_l rfl ?_;obtain ⟨r6,rQ,hM⟩:=M.e_bind hM;refine t_gcall (!(!r5)) (gy_f rfl) cf6 (B r6) (fun _=>[.agg #[bp,br,bE,bF,I bc,I bf,bv],.agg #[I ((n2:Int) % 3),I (((n2:Int) / 3) % 2)],dG,I ((n2:Int) % 4),gz]) (fun hg=>lst5 (gd_of hg (.agg #[bp,br,bE,bF,I bc,I bf,bv])) (gd_of hg (.agg #[I ((n2:Int) % 3),I (((n2:Int) / 3) % 2)])) (gd_of hg (dG)) (gd_of hg (I ((n2:Int) % 4))) (gd_of hg (gz))) H (fun hg=>(zae ([(1+((n2:Int) % 3):Int),(2+(((n2:Int) / 3) % 2):Int),(([(3:Int),(-1:Int)]).getD (Int.toNat (((n2:Int) / 6) % 2)) 0:Int),(-1:Int)]) ([(⟨(r0:Int),(r1:Int)⟩:Span),(⟨(bT:Int),(bU:Int)⟩:Span),(⟨(bV:Int),(bW:Int)⟩:Span),(⟨(0:Int),(0:Int)⟩:Span)]) (([(0:Int),(1:Int),(2:Int)]).drop (Int.toNat ((n2:Int) % 3))) (([(⟨(1+(((n2:Int) / 5) % 3):Int),(((n2:Int) / 7) % 5:Int),(3+((n2:Int) % 3):Int)⟩:Town),(⟨(((n2:Int) / 11) % 4:Int),(((n2:Int) / 9) % 4:Int),(2+(((n2:Int) / 4) % 4):Int)⟩:Town)]).take (Int.toNat (((n2:Int) / 13) % 3))) bc bf dA (⟨((n2:Int) % 3:Int),(((n2:Int) / 3) % 2:Int)⟩:Dem) (([[],[(0:Int)],[(2:Int)],[(0:Int),(2:Int)],[(1:Int),(3:Int)],[(1:Int),(2:Int)],[(0:Int),(1:Int),(2:Int),(3:Int)]]).getD (Int.toNat ((n2:Int) % 7)) ([])) ((n2:Int) % 4) (([(⟨((n2:Int) % 3:Int),(0:Int)⟩:Dem),(⟨(((n2:Int) / 2) % 3:Int),((n2:Int) % 2:Int)⟩:Dem)]).take (Int.toNat ((n2:Int) % 3))) (rdo 7) (H.os 7) (rdo 8) (H.os 8) (rdo 9) bM (rdo 10) bX (Reads.sup (rdo 4) (Reads.of (k:=5) rfl roLe)) (rowSl rfl (H.get (k:=4) rfl) (roLe _ (H.get (k:=5) rfl)) dB) (Reads.sup (rdo 2) (Reads.of (k:=3) rfl roLe)) d8 (Reads.of (k:=0) rfl roLe) (iD hg) (M.e_opt rQ hg) _ (H.give (A:=[]) rfl)).mono fun v_ w_ ⟨y_,ag,ai,H_⟩=>by subst ag; exact ⟨ai,H.via H_⟩) ?_;intro zz H
  refine s_nil ⟨(H.dp 1),?_⟩
  refine kg 1 ?_;refine d_q rfl (fun w' H=>x_por (b:=!r5) (r:=!r6) rfl rfl (fun hb=>gd_of (c:=!(!r5)) (by first | exact hb | (rw [hb]; rfl) | (rw [hg,hb]; rfl) | simp_all) (B (!r6))))<|d_q rfl (fun w' H=>x_mv (v:=B ((!r5)||(!r6))) rfl)<|d_qg (!((!r5)||(!r6))) rfl (gy_f rfl) (fun hg=>(fun w' H=>x_ld (v:=.agg #[bp,br,bE,bF,I bc,I bf,bv]) rfl (ldb_ag (ds:=[bp,br,bE,bF,I bc,I bf,bv]) Ag29 Sz29 (H.bl 10) rfl rfl)))<|d_qg (!((!r5)||(!r6))) rfl (gy_f rfl) (fun hg=>(fun w' H=>x_mv (v:=dG) rfl))<|d_qg (!((!r5)||(!r6))) rfl (gy_f rfl) (fun hg=>(fun w' H=>x_mv (v:=I (n2:Int)) rfl))<|d_qg (!((!r5)||(!r6))) rfl (gy_f rfl) (fun hg=>(fun w' H=>x_rem' (a:=(n2:Int)) (b:=4) (gd_of hg (I (n2:Int))) rfl (by first | omega | (have ao:=hg; simp at ao; omega))))<|d_qg (!((!r5)||(!r6))) rfl (gy_f rfl) (fun hg=>(fun w' H=>x_mv (v:=fI) rfl))<|d_l rfl ?_;obtain ⟨r7,rR,hM⟩:=M.e_bind hM;refine t_gcall (!((!r5)||(!r6))) (gy_f rfl) cf7 (B r7) (fun _=>[.agg #[bp,br,bE,bF,I bc,I bf,bv],dG,I ((n2:Int) % 4),fI]) (fun hg=>lst4 (gd_of hg (.agg #[bp,br,bE,bF,I bc,I bf,bv])) (gd_of hg (dG)) (gd_of hg (I ((n2:Int) % 4))) (gd_of hg (fI))) H (fun hg=>(zar ([(1+((n2:Int) % 3):Int),(2+(((n2:Int) / 3) % 2):Int),(([(3:Int),(-1:Int)]).getD (Int.toNat (((n2:Int) / 6) % 2)) 0:Int),(-1:Int)]) ([(⟨(r0:Int),(r1:Int)⟩:Span),(⟨(bT:Int),(bU:Int)⟩:Span),(⟨(bV:Int),(bW:Int)⟩:Span),(⟨(0:Int),(0:Int)⟩:Span)]) (([(0:Int),(1:Int),(2:Int)]).drop (Int.toNat ((n2:Int) % 3))) (([(⟨(1+(((n2:Int) / 5) % 3):Int),(((n2:Int) / 7) % 5:Int),(3+((n2:Int) % 3):Int)⟩:Town),(⟨(((n2:Int) / 11) % 4:Int),(((n2:Int) / 9) % 4:Int),(2+(((n2:Int) / 4) % 4):Int)⟩:Town)]).take (Int.toNat (((n2:Int) / 13) % 3))) bc bf dA (([[],[(0:Int)],[(2:Int)],[(0:Int),(2:Int)],[(1:Int),(3:Int)],[(1:Int),(2:Int)],[(0:Int),(1:Int),(2:Int),(3:Int)]]).getD (Int.toNat ((n2:Int) % 7)) ([])) ((n2:Int) % 4) (([((n2:Int) % 8:Int),(((n2:Int) / 8) % 8:Int),(((n2:Int) / 64) % 8:Int),(3:Int)]).take ((([[],[(0:Int)],[(2:Int)],[(0:Int),(2:Int)],[(1:Int),(3:Int)],[(1:Int),(2:Int)],[(0:Int),(1:Int),(2:Int),(3:Int)]]).getD (Int.toNat ((n2:Int) % 7)) ([])).length)) (rdo 7) (H.os 7) (rdo 8) (H.os 8) (rdo 9) bM (rdo 10) bX (Reads.sup (rdo 4) (Reads.of (k:=5) rfl roLe)) (rowSl rfl (H.get (k:=4) rfl) (roLe _ (H.get (k:=5) rfl)) dB) (Reads.sup (rdo 2) (Reads.of (k:=3) rfl roLe)) d8 (rdo 1) iC (M.e_opt rR hg) _ (H.give (A:=[]) rfl)).mono fun v_ w_ ⟨y_,ag,ai,H_⟩=>by subst ag; exact ⟨ai,H.via H_⟩) ?_;intro zB H
  refine s_nil ⟨(H.dp 1),?_⟩
  refine d_qg (!((!r5)||(!r6))) rfl (gy_f rfl) (fun hg=>(fun w' H=>x_not (b:=r7) (gd_of hg (B r7))))<|d_q rfl (fun w' H=>x_por (b:=((!r5)||(!r6))) (r:=!r7) rfl rfl (fun hb=>gd_of (c:=!((!r5)||(!r6))) (by first | exact hb | (rw [hb]; rfl) | (rw [hg,hb]; rfl) | simp_all) (B (!r7)))) ?_;refine d_nil ?_
  refine W.cond (((!r5)||(!r6))||(!r7)) rfl (fun iE=>?_) (fun iE=>?_)
  ·replace hM:=M.e_t hM iE;refine kg 4 ?_
   replace H:=H.er 11 |>.er 10 |>.er 9 |>.er 8 |>.er 7 |>.dp 6
   refine W.ret ?_
   have rS:=M.e_inr hM ig
   subst rS;replace hM:=ku;(try dsimp only at hM)
   have ag:=M.e_pure hM
   exact ⟨_,resE_tmp rfl,⟨false,ag,rfl,(H.pk [])⟩⟩
  replace hM:=M.e_f hM iE;refine kg 6 ?_
  exact ⟨qR,qS,n2+1,_,upds_of _ _ ⟨rfl,trivial⟩,M.e_inl hM ig,(H.er 11 |>.er 10 |>.er 9 |>.er 8 |>.er 7 |>.dp 6)⟩
 replace hM:=M.e_f hM dy
 replace dy:=dI dy
 refine W.exit ?_
 have rT:=M.e_inr hM ig
 subst rT;replace hM:=ku;(try dsimp only at hM);refine kg 3 ?_;refine t_bs (α:=Int) T22 [I 0,I 1,I 2,I 7,I 8,I 9,I 10,I 12,I 13,I 14,I 19,I 20,I 21,I 22] vl14 H rfl (.cons rfl (Flat.rep_enc _ (0:Int))<|.cons rfl (Flat.rep_enc _ (1:Int))<|.cons rfl (Flat.rep_enc _ (2:Int))<|.cons rfl (Flat.rep_enc _ (7:Int))<|.cons rfl (Flat.rep_enc _ (8:Int))<|.cons rfl (Flat.rep_enc _ (9:Int))<|.cons rfl (Flat.rep_enc _ (10:Int))<|.cons rfl (Flat.rep_enc _ (12:Int))<|.cons rfl (Flat.rep_enc _ (13:Int))<|.cons rfl (Flat.rep_enc _ (14:Int))<|.cons rfl (Flat.rep_enc _ (19:Int))<|.cons rfl (Flat.rep_enc _ (20:Int))<|.cons rfl (Flat.rep_enc _ (21:Int))<|.cons rfl (Flat.rep_enc _ (22:Int))<|.nil) rfl rfl rfl ?_;intro bG zC H
 have zD:=((H.os 0)).len_le
 refine kg 4 ?_;obtain ⟨rU,iF,iG⟩:=M.e_bind hM
 obtain ⟨ct,iF⟩:=M.e_iter iF
 refine W.loop (fun m σ W=>∃ (aa:Nat) (ρ:Env),σ=upds ρ [(389,bG),(390,I (vl14.length:Int)),(391,I (aa:Int))]/\M.iterN (zdg) m aa=some rU/\St w W [cOwn (α:=Int) 3 bG vl14,cOwn (α:=Int) 3 ap vl29] R) ?_ ?_
 ·exact ⟨_,0,_,upds_of _ _ ⟨rfl,rfl,rfl,trivial⟩,iF,H⟩
 rintro zE σ zF ⟨aa,ρ,rfl,kP,H⟩
 obtain ⟨rV,rW,rX,hM,gA⟩:=M.e_iterN kP
 clear kP;refine kg 5 ?_
 refine W.cond (decide ((aa:Int)<(vl14.length:Int))) rfl (fun dH=>?_) (fun dH=>?_)
 ·replace hM:=M.e_t hM dH
  replace dH:=dI dH
  obtain ⟨zG,hM⟩:=M.e_gd hM;refine kg 11 ?_;refine t_bs (α:=Int) T22 [I 0] [(0:Int)] H rfl (.cons rfl (Flat.rep_enc _ (0:Int))<|.nil) rfl rfl rfl ?_;intro aY zH H;refine s_val (x_bld (ps:=[(2,aY)]) (zs:=[.slice none 0 0,.slice none 0 0,.slice none 0 0,.slice none 0 0,I 0,I 0,.slice none 0 0]) (L':=[.slice none 0 0,.slice none 0 0,aY,.slice none 0 0,I 0,I 0,.slice none 0 0]) rfl Tryz.underlying29 Al29 rfl (Bd29 Tryz.underlying29) (.cons (cs:=[aY]) (Sl.cells (H.os 0)) rfl rfl rfl rfl<|.nil)) ?_;obtain ⟨zI,rY,hM⟩:=M.e_bind hM;refine s_call cf4 [I 1] rfl (zac 1 rY _ (H.gt 3)) ?_
  rintro vq zJ ⟨ca,cb,cc,iH,bw,bx,iI,aZ,a6,a7,cG,a8,cB,cC,rfl,hvq,ak,iJ⟩
  subst vq;(try dsimp only at hM);replace H:=H.bk ak;clear ak;obtain ⟨zK,rZ,hM⟩:=M.e_bind hM;refine s_call cf4 [I 1] rfl (zac 1 rZ _ (H.gt 9)) ?_
  rintro vq zL ⟨cd,ce,cf,cg,bg,bh,zN,aQ,aR,aS,aT,cH,iK,iL,rfl,hvq,ak,sa⟩
  subst vq;(try dsimp only at hM);replace H:=H.bk ak;clear ak;obtain ⟨zO,sb,hM⟩:=M.e_bind hM;refine s_call cf4 [I 1] rfl (zac 1 sb _ (H.gt 15)) ?_
  rintro vq zP ⟨iM,iN,iO,ci,bi,bj,zQ,cI,cJ,cK,aU,cL,iP,iQ,rfl,hvq,ak,sc⟩
  subst vq;(try dsimp only at hM);replace H:=H.bk ak;clear ak;refine t_alloc (cs:=[.slice none 0 0,.slice none 0 0,.slice none 0 0,.slice none 0 0,I 0,I 0,.slice none 0 0]) H Al29 rfl ?_;intro bz zR H;refine t_alloc (cs:=[.slice none 0 0,.slice none 0 0,.slice none 0 0,.slice none 0 0,I 0,I 0,.slice none 0 0]) H Al29 rfl ?_;intro bO zS H;refine t_alloc (cs:=[.slice none 0 0,.slice none 0 0,.slice none 0 0,.slice none 0 0,I 0,I 0,.slice none 0 0]) H Al29 rfl ?_;intro bP zT H;refine t_alloc (cs:=[.slice none 0 0,.slice none 0 0,.slice none 0 0,.slice none 0 0,I 0,I 0,.slice none 0 0]) H Al29 rfl ?_;intro aW zU H;refine t_sw 3 0 [.slice none 0 0,.slice none 0 0,aY,.slice none 0 0,I 0,I 0,.slice none 0 0] (.agg #[.slice none 0 0,.slice none 0 0,aY,.slice none 0 0,I 0,I 0,.slice none 0 0]) H rfl rfl Sz29 rfl rfl rfl (by simp only [List.all_cons,List.all_nil,Bool.true_and,Bool.and_true,Sl.oc (H.os 22)]; try rfl) ?_;intro zV H;refine t_sw 2 0 [aZ,a6,a7,cG,I bw,I bx,a8] (.agg #[aZ,a6,a7,cG,I bw,I bx,a8]) H rfl rfl Sz29 rfl rfl rfl (by simp only [List.all_cons,List.all_nil,Bool.true_and,Bool.and_true,Sl.oc (H.os 16),Sl.oc (H.os 17),Sl.oc (H.os 18),Sl.oc (H.os 19),Sl.oc (rowSl rfl (H.get (k:=20) rfl) (roLe _ (H.get (k:=21) rfl)) iJ)]; try rfl) ?_;intro zW H;refine t_sw 1 0 [aQ,aR,aS,aT,I bg,I bh,cH] (.agg #[aQ,aR,aS,aT,I bg,I bh,cH]) H rfl rfl Sz29 rfl rfl rfl (by simp only [List.all_cons,List.all_nil,Bool.true_and,Bool.and_true,Sl.oc (H.os 10),Sl.oc (H.os 11),Sl.oc (H.os 12),Sl.oc (H.os 13),Sl.oc (rowSl rfl (H.get (k:=14) rfl) (roLe _ (H.get (k:=15) rfl)) sa)]; try rfl) ?_;intro zX H;refine t_sw 0 0 [cI,cJ,cK,aU,I bi,I bj,cL] (.agg #[cI,cJ,cK,aU,I bi,I bj,cL]) H rfl rfl Sz29 rfl rfl rfl (by simp only [List.all_cons,List.all_nil,Bool.true_and,Bool.and_true,Sl.oc (H.os 4),Sl.oc (H.os 5),Sl.oc (H.os 6),Sl.oc (H.os 7),Sl.oc (rowSl rfl (H.get (k:=8) rfl) (roLe _ (H.get (k:=9) rfl)) sc)]; try rfl) ?_;intro zY H;refine kg 7 ?_
  replace H:=H.nilOwn (α:=Int) 3
  replace H:=H.nilOwn (α:=Span) 26
  obtain ⟨sd,iR,se⟩:=M.e_bind hM
  obtain ⟨ct,iR⟩:=M.e_iter iR
  refine W.loop (fun m σ W=>∃ (i2:Nat) (b8:List Int) (bJ:List Span) (dJ:Value) (bn:Value) (ρ:Env),σ=upds ρ [(24,I (vl14.getD aa 0)),(25,Pq bz),(26,Pq bO),(27,Pq bP),(28,Pq aW),(29,I (i2:Int)),(389,bG),(390,I (vl14.length:Int)),(391,I (aa:Int))]/\M.iterN (zd1 aa) m (i2,b8,bJ)=some sd/\St w W [cOwn (α:=Span) 26 bn bJ,cOwn (α:=Int) 3 dJ b8,cBlk aW [cI,cJ,cK,aU,I bi,I bj,cL] 29,cBlk bP [aQ,aR,aS,aT,I bg,I bh,cH] 29,cBlk bO [aZ,a6,a7,cG,I bw,I bx,a8] 29,cBlk bz [dJ,bn,aY,.slice none 0 0,I 0,I 0,.slice none 0 0] 29,cOwn (α:=Int) 3 cI iM,cOwn (α:=Span) 26 cJ iN,cOwn (α:=Int) 3 cK iO,cOwn (α:=Town) 36 aU ci,cOwn (α:=Raw 1) 38 cL iP,cRo iQ,cOwn (α:=Int) 3 aQ cd,cOwn (α:=Span) 26 aR ce,cOwn (α:=Int) 3 aS cf,cOwn (α:=Town) 36 aT cg,cOwn (α:=Raw 1) 38 cH iK,cRo iL,cOwn (α:=Int) 3 aZ ca,cOwn (α:=Span) 26 a6 cb,cOwn (α:=Int) 3 a7 cc,cOwn (α:=Town) 36 cG iH,cOwn (α:=Raw 1) 38 a8 cB,cRo cC,cOwn (α:=Int) 3 aY ([(0:Int)]),cOwn (α:=Int) 3 bG vl14,cOwn (α:=Int) 3 ap vl29] R) ?_ ?_
  ·exact ⟨_,0,[],[],(.slice none 0 0),(.slice none 0 0),_,upds_of _ _ ⟨rfl,rfl,rfl,rfl,rfl,rfl,rfl,rfl,rfl,trivial⟩,iR,H⟩
  rintro zZ σ z1 ⟨i2,b8,bJ,dJ,bn,ρ,rfl,kQ,H⟩
  obtain ⟨sf,sh,z2,hM,kR⟩:=M.e_iterN kQ
  clear kQ;refine kg 8 ?_
  refine W.cond (decide ((i2:Int)<(min (vl14.getD aa 0) 15))) rfl (fun dK=>?_) (fun dK=>?_)
  ·replace hM:=M.e_t hM dK
   replace dK:=dI dK
   refine kg 3 ?_;refine W.drawTS (fun W=>St w W [cBlk aW [cI,cJ,cK,aU,I bi,I bj,cL] 29,cBlk bP [aQ,aR,aS,aT,I bg,I bh,cH] 29,cBlk bO [aZ,a6,a7,cG,I bw,I bx,a8] 29,cBlk bz [dJ,bn,aY,.slice none 0 0,I 0,I 0,.slice none 0 0] 29,cOwn (α:=Int) 3 cI iM,cOwn (α:=Span) 26 cJ iN,cOwn (α:=Int) 3 cK iO,cOwn (α:=Town) 36 aU ci,cOwn (α:=Raw 1) 38 cL iP,cRo iQ,cOwn (α:=Int) 3 aQ cd,cOwn (α:=Span) 26 aR ce,cOwn (α:=Int) 3 aS cf,cOwn (α:=Town) 36 aT cg,cOwn (α:=Raw 1) 38 cH iK,cRo iL,cOwn (α:=Int) 3 aZ ca,cOwn (α:=Span) 26 a6 cb,cOwn (α:=Int) 3 a7 cc,cOwn (α:=Town) 36 cG iH,cOwn (α:=Raw 1) 38 a8 cB,cRo cC,cOwn (α:=Int) 3 aY ([(0:Int)]),cOwn (α:=Int) 3 bG vl14,cOwn (α:=Int) 3 ap vl29] R) (.q 0 (.q 1 (.q 2 (.q 3 (.q 6 (.q 7 (.q 8 (.l 4 (.l 5 (.q 12 (.l 9 (.l 10 (.l 11 .nil))))))))))))) 13 [13,14,15] mixed (by decide +kernel) rfl ?_;intro z6 ao;replace H:=H.ext ao;clear ao
   refine ⟨(H.dp 2),?_⟩
   refine ts_q rfl (fun w' H=>x_fa (v:=Pq bz) rfl (fa_blk (o:=0) Fd29_0 Sz22)) ?_;refine ts_q rfl (fun w' H=>x_ld (v:=dJ) rfl (ldb_sc Sc22 (H.bl 3) rfl)) ?_;refine ts_q rfl (fun w' H=>x_mv (v:=I (i2:Int)) rfl) ?_;obtain ⟨z7,hM⟩:=M.e_gd hM;refine ts_q rfl (fun w' H=>x_ari (r:=(i2:Int)+1) rfl rfl rfl (by omega)) ?_;refine ts_q rfl (fun w' H=>x_fa (v:=Oq bz 1) rfl (fa_blk (o:=0) Fd29_1 Sz23)) ?_;refine ts_q rfl (fun w' H=>x_ld (v:=bn) rfl (ldb_sc Sc23 (H.bl 3) rfl)) ?_;refine ts_q rfl (fun w' H=>x_mv (v:=I (i2:Int)) rfl) ?_;refine ts_l rfl ?_;refine t_bs (α:=Int) T22 [I ((i2:Int)+1)] [((i2:Int)+1:Int)] H rfl (.cons rfl (Flat.rep_enc _ ((i2:Int)+1:Int))<|.nil) rfl rfl rfl ?_;intro si z8 H
   have Aa:=Sl.cells (H.os 0)
   have Ab:=Sl.oc (H.os 0)
   have Ac:=ownSl (H.get (k:=0) rfl)
   have Ad:=Sl.cells (H.os 1)
   have Ae:=Sl.oc (H.os 1)
   have Af:=ownSl (H.get (k:=1) rfl)
   have Ag:=Sl.cells (H.os 2)
   have Ah:=Sl.oc (H.os 2)
   have Ai:=ownSl (H.get (k:=2) rfl)
   refine s_nil ⟨(H.dp 3),?_⟩
   refine ts_l rfl ?_;obtain ⟨Aj,hM⟩:=M.e_gd hM;refine t_app (α:=Int) (k:=2) (l:=b8) (l2:=[((i2:Int)+1:Int)]) (l':=b8++([((i2:Int)+1:Int)])) (vy:=si) T22 rfl H rfl rfl rfl (H.os 0) (H.ol 0) (rfl) (by first | omega | (simp only [List.length_nil] at *; omega)) ?_;intro iS Ak H;replace H:=H.nf
   have Al:=Sl.cells (H.os 2)
   have Am:=Sl.oc (H.os 2)
   have Ao:=ownSl (H.get (k:=2) rfl)
   refine s_nil ⟨(H.dp 3),?_⟩
   refine ts_q rfl (fun w' H=>x_fa (v:=Pq bz) rfl (fa_blk (o:=0) Fd29_0 Sz22)) ?_;refine ts_l rfl ?_;obtain ⟨Ap,sj,hM⟩:=M.e_bind hM;refine s_call cf8 [I (i2:Int),I 1000] rfl (zah (i2:Int) 1000 sj _ (H.gt 28)) ?_
   rintro vq Aq ⟨d9,ea,rfl,hvq,ak⟩
   subst vq;(try dsimp only at hM);replace H:=H.bk ak;clear ak
   refine s_nil ⟨(H.dp 3),?_⟩
   refine ts_l rfl ?_;refine t_bs (α:=Span) T23 [.agg #[I d9,I ea]] [(⟨(d9:Int),(ea:Int)⟩:Span)] H rfl (.cons rfl (Flat.rep_enc _ (⟨(d9:Int),(ea:Int)⟩:Span))<|.nil) rfl rfl rfl ?_;intro sk Ar H
   have As:=Sl.cells (H.os 0)
   have Au:=Sl.oc (H.os 0)
   have Av:=ownSl (H.get (k:=0) rfl)
   refine s_nil ⟨(H.dp 4),?_⟩
   refine ts_l rfl ?_;obtain ⟨Aw,hM⟩:=M.e_gd hM;refine t_app (α:=Span) (k:=2) (l:=bJ) (l2:=[(⟨(d9:Int),(ea:Int)⟩:Span)]) (l':=bJ++([(⟨(d9:Int),(ea:Int)⟩:Span)])) (vy:=sk) T23 rfl H rfl rfl rfl (H.os 0) (H.ol 0) (rfl) (by first | omega | (simp only [List.length_nil] at *; omega)) ?_;intro iT Ax H;replace H:=H.nf
   have Ay:=Sl.cells (H.os 2)
   have Az:=Sl.oc (H.os 2)
   have AA:=ownSl (H.get (k:=2) rfl)
   refine s_nil ⟨(H.dp 4),?_⟩
   refine ts_nil ?_;refine sr_l rfl ?_;refine t_sw 7 0 [iS] iS H rfl rfl Sz22 (Sl.cells (H.os 3)) rfl rfl (by simp only [List.all_cons,List.all_nil,Bool.true_and,Bool.and_true,Sl.oc (H.os 3)]; try rfl) ?_;intro AB H
   refine s_nil ⟨trivial,?_⟩
   refine sr_l rfl ?_;refine kg 1 ?_
   refine s_nil ⟨trivial,?_⟩
   refine sr_l rfl ?_;refine t_sw 7 1 [iT] iT H rfl rfl Sz23 (Sl.cells (H.os 2)) rfl rfl (by simp only [List.all_cons,List.all_nil,Bool.true_and,Bool.and_true,Sl.oc (H.os 2)]; try rfl) ?_;intro AC H
   refine s_nil ⟨trivial,?_⟩
   refine sr_nil ?_;replace H:=H.dp 2;refine kg 5 ?_
   exact ⟨sf,sh,i2+1,b8++([((i2:Int)+1:Int)]),bJ++([(⟨(d9:Int),(ea:Int)⟩:Span)]),iS,iT,_,upds_of _ _ ⟨rfl,rfl,rfl,rfl,rfl,rfl,rfl,rfl,rfl,trivial⟩,M.e_inl hM kR,H⟩
  replace hM:=M.e_f hM dK
  replace dK:=dI dK
  refine W.exit ?_
  have sm:=M.e_inr hM kR
  subst sm;replace hM:=se;(try dsimp only at hM);refine W.seqJ (fun σ W=>∃ (co:List Int) (bH:Value) (ρ:Env),σ=upds ρ [(24,I (vl14.getD aa 0)),(25,Pq bz),(26,Pq bO),(27,Pq bP),(28,Pq aW),(389,bG),(390,I (vl14.length:Int)),(391,I (aa:Int))]/\(zbn aa ca cb cc bw bx iI cd ce cf cg bg bh ci bi bj bJ co).Ends rX/\St w W [cOwn (α:=Span) 26 bn bJ,cOwn (α:=Int) 3 bH co,cBlk aW [cI,cJ,cK,aU,I bi,I bj,cL] 29,cBlk bP [aQ,aR,aS,aT,I bg,I bh,cH] 29,cBlk bO [aZ,a6,a7,cG,I bw,I bx,a8] 29,cBlk bz [bH,bn,aY,.slice none 0 0,I 0,I 0,.slice none 0 0] 29,cOwn (α:=Int) 3 cI iM,cOwn (α:=Span) 26 cJ iN,cOwn (α:=Int) 3 cK iO,cOwn (α:=Town) 36 aU ci,cOwn (α:=Raw 1) 38 cL iP,cRo iQ,cOwn (α:=Int) 3 aQ cd,cOwn (α:=Span) 26 aR ce,cOwn (α:=Int) 3 aS cf,cOwn (α:=Town) 36 aT cg,cOwn (α:=Raw 1) 38 cH iK,cRo iL,cOwn (α:=Int) 3 aZ ca,cOwn (α:=Span) 26 a6 cb,cOwn (α:=Int) 3 a7 cc,cOwn (α:=Town) 36 cG iH,cOwn (α:=Raw 1) 38 a8 cB,cRo cC,cOwn (α:=Int) 3 aY ([(0:Int)]),cOwn (α:=Int) 3 bG vl14,cOwn (α:=Int) 3 ap vl29] R) ?_ ?_
  ·skip
   refine kg 5 ?_
   refine W.cond (decide (0<(vl14.getD aa 0))) rfl (fun dL=>?_) (fun dL=>?_)
   ·replace hM:=M.e_t hM dL
    replace dL:=dI dL
    have AD:=((H.os 1)).len_le
    obtain ⟨AE,hM⟩:=M.e_gd hM;refine kg 8 ?_;refine t_ost (k:=1) (i:=(b8.length:Int)-1) (l:=b8) (l':=b8.set (Int.toNat ((b8.length:Int)-1)) (-1:Int)) (val:=I (-1)) H rfl Sz3 (by omega) (by omega) (-1:Int) rfl rfl rfl rfl rfl ?_;intro AF H;replace H:=H.nf;refine s_nil ?_
    exact ⟨b8.set (Int.toNat ((b8.length:Int)-1)) (-1:Int),dJ,_,upds_of _ _ ⟨rfl,rfl,rfl,rfl,rfl,rfl,rfl,rfl,trivial⟩,hM,H⟩
   replace hM:=M.e_f hM dL
   replace dL:=dI dL
   refine W.skip ?_
   exact ⟨b8,dJ,_,upds_of _ _ ⟨rfl,rfl,rfl,rfl,rfl,rfl,rfl,rfl,trivial⟩,hM,H⟩
  rintro _ AG ⟨co,bH,ρ,rfl,hM,H⟩
  unfold zbn at hM
  refine kg 3 ?_;refine t_sw 4 3 [.slice none 0 0] (.slice none 0 0) H rfl rfl Sz24 rfl rfl rfl rfl ?_;intro AH H;refine kg 1 ?_;refine t_sw 3 6 [.slice none 0 0] (.slice none 0 0) H rfl rfl Sz27 rfl rfl rfl rfl ?_;intro AI H;refine kg 1 ?_;refine t_sw 2 0 [.slice none 0 0] (.slice none 0 0) H rfl rfl Sz22 rfl rfl rfl rfl ?_;intro AJ H;refine kg 1 ?_;refine t_sw 2 1 [.slice none 0 0] (.slice none 0 0) H rfl rfl Sz23 rfl rfl rfl rfl ?_;intro AK H;refine kg 1 ?_;refine t_sw 2 2 [.slice none 0 0] (.slice none 0 0) H rfl rfl Sz22 rfl rfl rfl rfl ?_;intro AL H;refine kg 1 ?_;refine t_sw 2 6 [.slice none 0 0] (.slice none 0 0) H rfl rfl Sz27 rfl rfl rfl rfl ?_;intro AM H;refine s_nil ?_
  replace H:=H.er 21 |>.er 17 |>.er 16 |>.er 11 |>.er 10 |>.er 8 |>.er 7 |>.er 6
  refine kg 6 ?_
  replace H:=H.nilOwn (α:=Town) 36
  replace H:=H.nilOwn (α:=Int) 3
  replace H:=H.nilOwn (α:=Span) 26
  replace H:=H.nilOwn (α:=Int) 3
  obtain ⟨sn,iU,sq⟩:=M.e_bind hM
  obtain ⟨ct,iU⟩:=M.e_iter iU
  refine W.loop (fun m σ W=>∃ (i3:Nat) (bA:List Town) (bK:List Int) (bm:List Span) (aV:List Int) (bQ:Value) (eb:Value) (ec:Value) (bo:Value) (ρ:Env),σ=upds ρ [(24,I (vl14.getD aa 0)),(25,Pq bz),(26,Pq bO),(27,Pq bP),(28,Pq aW),(30,I (i3:Int)),(389,bG),(390,I (vl14.length:Int)),(391,I (aa:Int))]/\M.iterN (zdI aa) m (i3,bA,bK,bm,aV)=some sn/\St w W [cOwn (α:=Int) 3 bo aV,cOwn (α:=Span) 26 ec bm,cOwn (α:=Int) 3 eb bK,cOwn (α:=Town) 36 bQ bA,cOwn (α:=Span) 26 bn bJ,cOwn (α:=Int) 3 bH co,cBlk aW [eb,ec,bo,aU,I bi,I bj,.slice none 0 0] 29,cBlk bP [aQ,aR,aS,aT,I bg,I bh,.slice none 0 0] 29,cBlk bO [aZ,a6,a7,bQ,I bw,I bx,a8] 29,cBlk bz [bH,bn,aY,.slice none 0 0,I 0,I 0,.slice none 0 0] 29,cOwn (α:=Town) 36 aU ci,cOwn (α:=Int) 3 aQ cd,cOwn (α:=Span) 26 aR ce,cOwn (α:=Int) 3 aS cf,cOwn (α:=Town) 36 aT cg,cOwn (α:=Int) 3 aZ ca,cOwn (α:=Span) 26 a6 cb,cOwn (α:=Int) 3 a7 cc,cOwn (α:=Raw 1) 38 a8 cB,cRo cC,cOwn (α:=Int) 3 aY ([(0:Int)]),cOwn (α:=Int) 3 bG vl14,cOwn (α:=Int) 3 ap vl29] R) ?_ ?_
  ·exact ⟨_,0,[],[],[],[],(.slice none 0 0),(.slice none 0 0),(.slice none 0 0),(.slice none 0 0),_,upds_of _ _ ⟨rfl,rfl,rfl,rfl,rfl,rfl,rfl,rfl,rfl,trivial⟩,iU,H⟩
  rintro AN σ AO ⟨i3,bA,bK,bm,aV,bQ,eb,ec,bo,ρ,rfl,kS,H⟩
  obtain ⟨ed,ee,AP,hM,dM⟩:=M.e_iterN kS
  clear kS;refine kg 8 ?_
  refine W.cond (decide ((i3:Int)<(min (vl14.getD aa 0) 10))) rfl (fun dN=>?_) (fun dN=>?_)
  ·replace hM:=M.e_t hM dN
   replace dN:=dI dN
   obtain ⟨AQ,hM⟩:=M.e_gd hM;refine kg 8 ?_;refine s_val (x_rem' (a:=(i3:Int)) (b:=4) rfl rfl (by omega)) ?_;refine kg 1 ?_;refine s_val (x_rem' (a:=(i3:Int)) (b:=2) rfl rfl (by omega)) ?_;obtain ⟨AS,hM⟩:=M.e_gd hM;refine kg 2 ?_;refine s_val (x_bld (ps:=[(0,I ((i3:Int) % 4)),(1,I ((i3:Int) % 2)),(2,I (250+(i3:Int)))]) (zs:=[I 0,I 0,I 0]) (L':=[I ((i3:Int) % 4),I ((i3:Int) % 2),I (250+(i3:Int))]) rfl Tryz.underlying36 Al36 rfl (Bd36 Tryz.underlying36) (.cons (cs:=[I ((i3:Int) % 4)]) rfl rfl rfl rfl rfl<|.cons (cs:=[I ((i3:Int) % 2)]) rfl rfl rfl rfl rfl<|.cons (cs:=[I (250+(i3:Int))]) rfl rfl rfl rfl rfl<|.nil)) ?_;refine t_bs (α:=Town) T24 [.agg #[I ((i3:Int) % 4),I ((i3:Int) % 2),I (250+(i3:Int))]] [(⟨((i3:Int) % 4:Int),((i3:Int) % 2:Int),250+(i3:Int)⟩:Town)] H rfl (.cons rfl (Flat.rep_enc _ (⟨((i3:Int) % 4:Int),((i3:Int) % 2:Int),250+(i3:Int)⟩:Town))<|.nil) rfl rfl rfl ?_;intro kT AT H;obtain ⟨AU,hM⟩:=M.e_gd hM;refine t_app (α:=Town) (k:=4) (l:=bA) (l2:=[(⟨((i3:Int) % 4:Int),((i3:Int) % 2:Int),250+(i3:Int)⟩:Town)]) (l':=bA++([(⟨((i3:Int) % 4:Int),((i3:Int) % 2:Int),250+(i3:Int)⟩:Town)])) (vy:=kT) T24 rfl H rfl rfl rfl (H.os 0) (H.ol 0) (rfl) (by first | omega | (simp only [List.length_nil] at *; omega)) ?_;intro cv AV H;replace H:=H.nf;refine kg 1 ?_;refine t_sw 9 3 [cv] cv H rfl rfl Sz24 (Sl.cells (H.os 4)) rfl rfl (by simp only [List.all_cons,List.all_nil,Bool.true_and,Bool.and_true,Sl.oc (H.os 4)]; try rfl) ?_;intro AW H;refine s_nil ?_;refine W.drawTS (fun W=>St w W [cOwn (α:=Town) 36 kT ([(⟨((i3:Int) % 4:Int),((i3:Int) % 2:Int),250+(i3:Int)⟩:Town)]),cOwn (α:=Town) 36 cv (bA++([(⟨((i3:Int) % 4:Int),((i3:Int) % 2:Int),250+(i3:Int)⟩:Town)])),cOwn (α:=Span) 26 bn bJ,cOwn (α:=Int) 3 bH co,cBlk aW [eb,ec,bo,aU,I bi,I bj,.slice none 0 0] 29,cBlk bP [aQ,aR,aS,aT,I bg,I bh,.slice none 0 0] 29,cBlk bO [aZ,a6,a7,cv,I bw,I bx,a8] 29,cBlk bz [bH,bn,aY,.slice none 0 0,I 0,I 0,.slice none 0 0] 29,cOwn (α:=Town) 36 aU ci,cOwn (α:=Int) 3 aQ cd,cOwn (α:=Span) 26 aR ce,cOwn (α:=Int) 3 aS cf,cOwn (α:=Town) 36 aT cg,cOwn (α:=Int) 3 aZ ca,cOwn (α:=Span) 26 a6 cb,cOwn (α:=Int) 3 a7 cc,cOwn (α:=Raw 1) 38 a8 cB,cRo cC,cOwn (α:=Int) 3 aY ([(0:Int)]),cOwn (α:=Int) 3 bG vl14,cOwn (α:=Int) 3 ap vl29] R) (.q 0 (.q 1 (.q 4 (.q 5 (.q 9 (.q 10 (.q 11 (.l2 2 (.l2 3 (.q 14 (.l2 6 (.l2 7 (.l2 8 (.l 12 (.l 13 .nil)) 12 (.l 8 (.l 13 .nil))) 12 (.l 7 (.l 8 (.l 13 .nil)))) 12 (.l 6 (.l 7 (.l 8 (.l 13 .nil)))))) 12 (.l 3 (.q 14 (.l 6 (.l 7 (.l 8 (.l 13 .nil))))))) 12 (.l 2 (.l 3 (.q 14 (.l 6 (.l 7 (.l 8 (.l 13 .nil))))))))))))))) 15 [15,16,17,18,19] mixed (by decide +kernel) rfl ?_;intro AX ao;replace H:=H.ext ao;clear ao
   refine ⟨(H.er 3 |>.er 2 |>.er 1),?_⟩
   refine ts_q rfl (fun w' H=>x_fa (v:=Pq aW) rfl (fa_blk (o:=0) Fd29_0 Sz22)) ?_;refine ts_q rfl (fun w' H=>x_ld (v:=eb) rfl (ldb_sc Sc22 (H.bl 4) rfl)) ?_;refine ts_q rfl (fun w' H=>x_fa (v:=Oq aW 1) rfl (fa_blk (o:=0) Fd29_1 Sz23)) ?_;refine ts_q rfl (fun w' H=>x_ld (v:=ec) rfl (ldb_sc Sc23 (H.bl 4) rfl)) ?_;refine ts_q rfl (fun w' H=>x_fa (v:=Oq aW 2) rfl (fa_blk (o:=0) Fd29_2 Sz22)) ?_;refine ts_q rfl (fun w' H=>x_ld (v:=bo) rfl (ldb_sc Sc22 (H.bl 4) rfl)) ?_;refine ts_q rfl (fun w' H=>x_mv (v:=I (i3:Int)) rfl) ?_;obtain ⟨AY,hM⟩:=M.e_gd hM;refine ts_l2 rfl rfl ?_ ?_
   ·skip
    refine t_bs (α:=Int) T22 [I 9] [(9:Int)] H rfl (.cons rfl (Flat.rep_enc _ (9:Int))<|.nil) rfl rfl rfl ?_;intro kU AZ H
    have A0:=Sl.cells (H.os 0)
    have A1:=Sl.oc (H.os 0)
    have A2:=ownSl (H.get (k:=0) rfl)
    have A3:=Sl.cells (H.os 2)
    have A4:=Sl.oc (H.os 2)
    have A5:=ownSl (H.get (k:=2) rfl)
    have A6:=Sl.cells (H.os 3)
    have A7:=Sl.oc (H.os 3)
    have A8:=ownSl (H.get (k:=3) rfl)
    have A9:=Sl.cells (H.os 4)
    have Ba:=Sl.oc (H.os 4)
    have Bb:=ownSl (H.get (k:=4) rfl)
    refine s_nil ⟨(H.er 4 |>.er 3 |>.er 2 |>.dp 1),?_⟩
    refine ts_l2 rfl rfl ?_ ?_
    ·skip
     refine t_app (α:=Int) (k:=4) (l:=bK) (l2:=[(9:Int)]) (l':=bK++([(9:Int)])) (vy:=kU) T22 rfl H rfl rfl rfl (H.os 0) (H.ol 0) (rfl) (by first | omega | (simp only [List.length_nil] at *; omega)) ?_;intro cj Bc H;replace H:=H.nf
     have Bd:=Sl.cells (H.os 4)
     have Be:=Sl.oc (H.os 4)
     have Bf:=ownSl (H.get (k:=4) rfl)
     refine s_nil ⟨(H.er 4 |>.er 3 |>.er 2 |>.dp 1),?_⟩
     refine ts_q rfl (fun w' H=>x_fa (v:=Pq aW) rfl (fa_blk (o:=0) Fd29_0 Sz22)) ?_;refine ts_l2 rfl rfl ?_ ?_
     ·skip
      obtain ⟨Bg,sr,hM⟩:=M.e_bind hM;refine s_call cf8 [I 1,I 2] rfl (zah 1 2 sr _ (H.gt 25)) ?_
      rintro vq Bh ⟨ax,ay,rfl,hvq,ak⟩
      subst vq;(try dsimp only at hM);replace H:=H.bk ak;clear ak
      refine s_nil ⟨(H.er 4 |>.er 3 |>.er 2 |>.dp 1),?_⟩
      obtain ⟨Bi,hM⟩:=M.e_gd hM;obtain ⟨Bj,hM⟩:=M.e_gd hM;refine ts_l2 rfl rfl ?_ ?_
      ·skip
       refine t_bs (α:=Span) T23 [.agg #[I ax,I ay]] [(⟨(ax:Int),(ay:Int)⟩:Span)] H rfl (.cons rfl (Flat.rep_enc _ (⟨(ax:Int),(ay:Int)⟩:Span))<|.nil) rfl rfl rfl ?_;intro kV Bk H
       have Bl:=Sl.cells (H.os 0)
       have Bm:=Sl.oc (H.os 0)
       have Bn:=ownSl (H.get (k:=0) rfl)
       refine s_nil ⟨(H.er 5 |>.er 4 |>.er 3 |>.dp 2),?_⟩
       refine ts_l2 rfl rfl ?_ ?_
       ·skip
        refine t_app (α:=Span) (k:=4) (l:=bm) (l2:=[(⟨(ax:Int),(ay:Int)⟩:Span)]) (l':=bm++([(⟨(ax:Int),(ay:Int)⟩:Span)])) (vy:=kV) T23 rfl H rfl rfl rfl (H.os 0) (H.ol 0) (rfl) (by first | omega | (simp only [List.length_nil] at *; omega)) ?_;intro iV Bo H;replace H:=H.nf
        have Bp:=Sl.cells (H.os 4)
        have Bq:=Sl.oc (H.os 4)
        have Br:=ownSl (H.get (k:=4) rfl)
        refine s_nil ⟨(H.er 5 |>.er 4 |>.er 3 |>.dp 2),?_⟩
        refine ts_l rfl ?_;refine t_bs (α:=Int) T22 [I (i3:Int)] [(i3:Int)] H rfl (.cons rfl (Flat.rep_enc _ (i3:Int))<|.nil) rfl rfl rfl ?_;intro su Bs H
        have Bt:=Sl.cells (H.os 0)
        have Bu:=Sl.oc (H.os 0)
        have Bv:=ownSl (H.get (k:=0) rfl)
        refine s_nil ⟨(H.er 6 |>.er 5 |>.er 4 |>.dp 3),?_⟩
        refine ts_l rfl ?_;refine t_app (α:=Int) (k:=4) (l:=aV) (l2:=[(i3:Int)]) (l':=aV++([(i3:Int)])) (vy:=su) T22 rfl H rfl rfl rfl (H.os 0) (H.ol 0) (rfl) (by first | omega | (simp only [List.length_nil] at *; omega)) ?_;intro iW Bw H;replace H:=H.nf
        have Bx:=Sl.cells (H.os 4)
        have By:=Sl.oc (H.os 4)
        have Bz:=ownSl (H.get (k:=4) rfl)
        refine s_nil ⟨(H.er 6 |>.er 5 |>.er 4 |>.dp 3),?_⟩
        refine ts_nil ?_;refine sr_l rfl ?_;refine t_sw 10 0 [cj] cj H rfl rfl Sz22 (Sl.cells (H.os 6)) rfl rfl (by simp only [List.all_cons,List.all_nil,Bool.true_and,Bool.and_true,Sl.oc (H.os 6)]; try rfl) ?_;intro BA H
        refine s_nil ⟨trivial,?_⟩
        refine sr_l rfl ?_;refine kg 1 ?_
        refine s_nil ⟨trivial,?_⟩
        refine sr_l rfl ?_;refine t_sw 10 1 [iV] iV H rfl rfl Sz23 (Sl.cells (H.os 5)) rfl rfl (by simp only [List.all_cons,List.all_nil,Bool.true_and,Bool.and_true,Sl.oc (H.os 5)]; try rfl) ?_;intro BB H
        refine s_nil ⟨trivial,?_⟩
        refine sr_l rfl ?_;refine kg 1 ?_
        refine s_nil ⟨trivial,?_⟩
        refine sr_l rfl ?_;refine t_sw 10 2 [iW] iW H rfl rfl Sz22 (Sl.cells (H.os 4)) rfl rfl (by simp only [List.all_cons,List.all_nil,Bool.true_and,Bool.and_true,Sl.oc (H.os 4)]; try rfl) ?_;intro BC H
        refine s_nil ⟨trivial,?_⟩
        refine sr_nil ?_;replace H:=H.dp 4;obtain ⟨BD,hM⟩:=M.e_gd hM;refine kg 5 ?_
        exact ⟨ed,ee,i3+1,bA++([(⟨((i3:Int) % 4:Int),((i3:Int) % 2:Int),250+(i3:Int)⟩:Town)]),bK++([(9:Int)]),bm++([(⟨(ax:Int),(ay:Int)⟩:Span)]),aV++([(i3:Int)]),cv,cj,iV,iW,_,upds_of _ _ ⟨rfl,rfl,rfl,rfl,rfl,rfl,rfl,rfl,rfl,trivial⟩,M.e_inl hM dM,H⟩
       skip
       refine t_bs (α:=Int) T22 [I (i3:Int)] [(i3:Int)] H rfl (.cons rfl (Flat.rep_enc _ (i3:Int))<|.nil) rfl rfl rfl ?_;intro sw BE H
       have BF:=Sl.cells (H.os 0)
       have BG:=Sl.oc (H.os 0)
       have BH:=ownSl (H.get (k:=0) rfl)
       refine s_nil ⟨(H.er 6 |>.er 5 |>.er 4 |>.dp 3),?_⟩
       refine ts_l rfl ?_;refine t_app (α:=Span) (k:=5) (l:=bm) (l2:=[(⟨(ax:Int),(ay:Int)⟩:Span)]) (l':=bm++([(⟨(ax:Int),(ay:Int)⟩:Span)])) (vy:=kV) T23 rfl H rfl rfl rfl (H.os 1) (H.ol 1) (rfl) (by first | omega | (simp only [List.length_nil] at *; omega)) ?_;intro iX BI H;replace H:=H.nf
       have BJ:=Sl.cells (H.os 5)
       have BK:=Sl.oc (H.os 5)
       have BL:=ownSl (H.get (k:=5) rfl)
       refine s_nil ⟨(H.er 6 |>.er 5 |>.er 4 |>.dp 3),?_⟩
       refine ts_l rfl ?_;refine t_app (α:=Int) (k:=4) (l:=aV) (l2:=[(i3:Int)]) (l':=aV++([(i3:Int)])) (vy:=sw) T22 rfl H rfl rfl rfl (H.os 0) (H.ol 0) (rfl) (by first | omega | (simp only [List.length_nil] at *; omega)) ?_;intro iY BM H;replace H:=H.nf
       have BN:=Sl.cells (H.os 4)
       have BO:=Sl.oc (H.os 4)
       have BP:=ownSl (H.get (k:=4) rfl)
       refine s_nil ⟨(H.er 6 |>.er 5 |>.er 4 |>.dp 3),?_⟩
       refine ts_nil ?_;refine sr_l rfl ?_;refine t_sw 10 0 [cj] cj H rfl rfl Sz22 (Sl.cells (H.os 6)) rfl rfl (by simp only [List.all_cons,List.all_nil,Bool.true_and,Bool.and_true,Sl.oc (H.os 6)]; try rfl) ?_;intro BQ H
       refine s_nil ⟨trivial,?_⟩
       refine sr_l rfl ?_;refine kg 1 ?_
       refine s_nil ⟨trivial,?_⟩
       refine sr_l rfl ?_;refine t_sw 10 1 [iX] iX H rfl rfl Sz23 (Sl.cells (H.os 5)) rfl rfl (by simp only [List.all_cons,List.all_nil,Bool.true_and,Bool.and_true,Sl.oc (H.os 5)]; try rfl) ?_;intro BR H
       refine s_nil ⟨trivial,?_⟩
       refine sr_l rfl ?_;refine kg 1 ?_
       refine s_nil ⟨trivial,?_⟩
       refine sr_l rfl ?_;refine t_sw 10 2 [iY] iY H rfl rfl Sz22 (Sl.cells (H.os 4)) rfl rfl (by simp only [List.all_cons,List.all_nil,Bool.true_and,Bool.and_true,Sl.oc (H.os 4)]; try rfl) ?_;intro BS H
       refine s_nil ⟨trivial,?_⟩
       refine sr_nil ?_;replace H:=H.dp 4;obtain ⟨BU,hM⟩:=M.e_gd hM;refine kg 5 ?_
       exact ⟨ed,ee,i3+1,bA++([(⟨((i3:Int) % 4:Int),((i3:Int) % 2:Int),250+(i3:Int)⟩:Town)]),bK++([(9:Int)]),bm++([(⟨(ax:Int),(ay:Int)⟩:Span)]),aV++([(i3:Int)]),cv,cj,iX,iY,_,upds_of _ _ ⟨rfl,rfl,rfl,rfl,rfl,rfl,rfl,rfl,rfl,trivial⟩,M.e_inl hM dM,H⟩
      skip
      refine t_bs (α:=Int) T22 [I (i3:Int)] [(i3:Int)] H rfl (.cons rfl (Flat.rep_enc _ (i3:Int))<|.nil) rfl rfl rfl ?_;intro sx BV H
      have BW:=Sl.cells (H.os 0)
      have BX:=Sl.oc (H.os 0)
      have BY:=ownSl (H.get (k:=0) rfl)
      refine s_nil ⟨(H.er 5 |>.er 4 |>.er 3 |>.dp 2),?_⟩
      refine ts_l rfl ?_;refine t_bs (α:=Span) T23 [.agg #[I ax,I ay]] [(⟨(ax:Int),(ay:Int)⟩:Span)] H rfl (.cons rfl (Flat.rep_enc _ (⟨(ax:Int),(ay:Int)⟩:Span))<|.nil) rfl rfl rfl ?_;intro sy BZ H
      have B0:=Sl.cells (H.os 0)
      have B1:=Sl.oc (H.os 0)
      have B2:=ownSl (H.get (k:=0) rfl)
      refine s_nil ⟨(H.er 6 |>.er 5 |>.er 4 |>.dp 3),?_⟩
      refine ts_l rfl ?_;refine t_app (α:=Span) (k:=5) (l:=bm) (l2:=[(⟨(ax:Int),(ay:Int)⟩:Span)]) (l':=bm++([(⟨(ax:Int),(ay:Int)⟩:Span)])) (vy:=sy) T23 rfl H rfl rfl rfl (H.os 0) (H.ol 0) (rfl) (by first | omega | (simp only [List.length_nil] at *; omega)) ?_;intro iZ B3 H;replace H:=H.nf
      have B4:=Sl.cells (H.os 5)
      have B5:=Sl.oc (H.os 5)
      have B6:=ownSl (H.get (k:=5) rfl)
      refine s_nil ⟨(H.er 6 |>.er 5 |>.er 4 |>.dp 3),?_⟩
      refine ts_l rfl ?_;refine t_app (α:=Int) (k:=4) (l:=aV) (l2:=[(i3:Int)]) (l':=aV++([(i3:Int)])) (vy:=sx) T22 rfl H rfl rfl rfl (H.os 1) (H.ol 1) (rfl) (by first | omega | (simp only [List.length_nil] at *; omega)) ?_;intro i0 B7 H;replace H:=H.nf
      have B8:=Sl.cells (H.os 4)
      have B9:=Sl.oc (H.os 4)
      have Ca:=ownSl (H.get (k:=4) rfl)
      refine s_nil ⟨(H.er 6 |>.er 5 |>.er 4 |>.dp 3),?_⟩
      refine ts_nil ?_;refine sr_l rfl ?_;refine t_sw 10 0 [cj] cj H rfl rfl Sz22 (Sl.cells (H.os 6)) rfl rfl (by simp only [List.all_cons,List.all_nil,Bool.true_and,Bool.and_true,Sl.oc (H.os 6)]; try rfl) ?_;intro Cb H
      refine s_nil ⟨trivial,?_⟩
      refine sr_l rfl ?_;refine kg 1 ?_
      refine s_nil ⟨trivial,?_⟩
      refine sr_l rfl ?_;refine t_sw 10 1 [iZ] iZ H rfl rfl Sz23 (Sl.cells (H.os 5)) rfl rfl (by simp only [List.all_cons,List.all_nil,Bool.true_and,Bool.and_true,Sl.oc (H.os 5)]; try rfl) ?_;intro Cc H
      refine s_nil ⟨trivial,?_⟩
      refine sr_l rfl ?_;refine kg 1 ?_
      refine s_nil ⟨trivial,?_⟩
      refine sr_l rfl ?_;refine t_sw 10 2 [i0] i0 H rfl rfl Sz22 (Sl.cells (H.os 4)) rfl rfl (by simp only [List.all_cons,List.all_nil,Bool.true_and,Bool.and_true,Sl.oc (H.os 4)]; try rfl) ?_;intro Cd H
      refine s_nil ⟨trivial,?_⟩
      refine sr_nil ?_;replace H:=H.dp 4;obtain ⟨Ce,hM⟩:=M.e_gd hM;refine kg 5 ?_
      exact ⟨ed,ee,i3+1,bA++([(⟨((i3:Int) % 4:Int),((i3:Int) % 2:Int),250+(i3:Int)⟩:Town)]),bK++([(9:Int)]),bm++([(⟨(ax:Int),(ay:Int)⟩:Span)]),aV++([(i3:Int)]),cv,cj,iZ,i0,_,upds_of _ _ ⟨rfl,rfl,rfl,rfl,rfl,rfl,rfl,rfl,rfl,trivial⟩,M.e_inl hM dM,H⟩
     skip
     refine t_bs (α:=Int) T22 [I (i3:Int)] [(i3:Int)] H rfl (.cons rfl (Flat.rep_enc _ (i3:Int))<|.nil) rfl rfl rfl ?_;intro sA Cf H
     have Cg:=Sl.cells (H.os 0)
     have Ch:=Sl.oc (H.os 0)
     have Ci:=ownSl (H.get (k:=0) rfl)
     refine s_nil ⟨(H.er 5 |>.er 4 |>.er 3 |>.dp 2),?_⟩
     refine ts_l rfl ?_;obtain ⟨Cj,sB,hM⟩:=M.e_bind hM;refine s_call cf8 [I 1,I 2] rfl (zah 1 2 sB _ (H.gt 26)) ?_
     rintro vq Ck ⟨ax,ay,rfl,hvq,ak⟩
     subst vq;(try dsimp only at hM);replace H:=H.bk ak;clear ak
     refine s_nil ⟨(H.er 5 |>.er 4 |>.er 3 |>.dp 2),?_⟩
     refine ts_l rfl ?_;refine t_bs (α:=Span) T23 [.agg #[I ax,I ay]] [(⟨(ax:Int),(ay:Int)⟩:Span)] H rfl (.cons rfl (Flat.rep_enc _ (⟨(ax:Int),(ay:Int)⟩:Span))<|.nil) rfl rfl rfl ?_;intro sC Cl H
     have Cm:=Sl.cells (H.os 0)
     have Cn:=Sl.oc (H.os 0)
     have Co:=ownSl (H.get (k:=0) rfl)
     refine s_nil ⟨(H.er 6 |>.er 5 |>.er 4 |>.dp 3),?_⟩
     refine ts_l rfl ?_;obtain ⟨Cp,hM⟩:=M.e_gd hM;refine t_app (α:=Span) (k:=5) (l:=bm) (l2:=[(⟨(ax:Int),(ay:Int)⟩:Span)]) (l':=bm++([(⟨(ax:Int),(ay:Int)⟩:Span)])) (vy:=sC) T23 rfl H rfl rfl rfl (H.os 0) (H.ol 0) (rfl) (by first | omega | (simp only [List.length_nil] at *; omega)) ?_;intro i1 Cq H;replace H:=H.nf
     have Cr:=Sl.cells (H.os 5)
     have Cs:=Sl.oc (H.os 5)
     have Ct:=ownSl (H.get (k:=5) rfl)
     refine s_nil ⟨(H.er 6 |>.er 5 |>.er 4 |>.dp 3),?_⟩
     refine ts_l rfl ?_;obtain ⟨Cu,hM⟩:=M.e_gd hM;refine t_app (α:=Int) (k:=4) (l:=aV) (l2:=[(i3:Int)]) (l':=aV++([(i3:Int)])) (vy:=sA) T22 rfl H rfl rfl rfl (H.os 1) (H.ol 1) (rfl) (by first | omega | (simp only [List.length_nil] at *; omega)) ?_;intro i6 Cv H;replace H:=H.nf
     have Cw:=Sl.cells (H.os 4)
     have Cx:=Sl.oc (H.os 4)
     have Cy:=ownSl (H.get (k:=4) rfl)
     refine s_nil ⟨(H.er 6 |>.er 5 |>.er 4 |>.dp 3),?_⟩
     refine ts_nil ?_;refine sr_l rfl ?_;refine t_sw 10 0 [cj] cj H rfl rfl Sz22 (Sl.cells (H.os 6)) rfl rfl (by simp only [List.all_cons,List.all_nil,Bool.true_and,Bool.and_true,Sl.oc (H.os 6)]; try rfl) ?_;intro Cz H
     refine s_nil ⟨trivial,?_⟩
     refine sr_l rfl ?_;refine kg 1 ?_
     refine s_nil ⟨trivial,?_⟩
     refine sr_l rfl ?_;refine t_sw 10 1 [i1] i1 H rfl rfl Sz23 (Sl.cells (H.os 5)) rfl rfl (by simp only [List.all_cons,List.all_nil,Bool.true_and,Bool.and_true,Sl.oc (H.os 5)]; try rfl) ?_;intro CA H
     refine s_nil ⟨trivial,?_⟩
     refine sr_l rfl ?_;refine kg 1 ?_
     refine s_nil ⟨trivial,?_⟩
     refine sr_l rfl ?_;refine t_sw 10 2 [i6] i6 H rfl rfl Sz22 (Sl.cells (H.os 4)) rfl rfl (by simp only [List.all_cons,List.all_nil,Bool.true_and,Bool.and_true,Sl.oc (H.os 4)]; try rfl) ?_;intro CC H
     refine s_nil ⟨trivial,?_⟩
     refine sr_nil ?_;replace H:=H.dp 4;obtain ⟨CE,hM⟩:=M.e_gd hM;refine kg 5 ?_
     exact ⟨ed,ee,i3+1,bA++([(⟨((i3:Int) % 4:Int),((i3:Int) % 2:Int),250+(i3:Int)⟩:Town)]),bK++([(9:Int)]),bm++([(⟨(ax:Int),(ay:Int)⟩:Span)]),aV++([(i3:Int)]),cv,cj,i1,i6,_,upds_of _ _ ⟨rfl,rfl,rfl,rfl,rfl,rfl,rfl,rfl,rfl,trivial⟩,M.e_inl hM dM,H⟩
    skip
    refine t_bs (α:=Int) T22 [I (i3:Int)] [(i3:Int)] H rfl (.cons rfl (Flat.rep_enc _ (i3:Int))<|.nil) rfl rfl rfl ?_;intro sD CG H
    have CH:=Sl.cells (H.os 0)
    have CI:=Sl.oc (H.os 0)
    have CJ:=ownSl (H.get (k:=0) rfl)
    refine s_nil ⟨(H.er 5 |>.er 4 |>.er 3 |>.dp 2),?_⟩
    refine ts_l rfl ?_;refine t_app (α:=Int) (k:=5) (l:=bK) (l2:=[(9:Int)]) (l':=bK++([(9:Int)])) (vy:=kU) T22 rfl H rfl rfl rfl (H.os 1) (H.ol 1) (rfl) (by first | omega | (simp only [List.length_nil] at *; omega)) ?_;intro i7 CK H;replace H:=H.nf
    have CL:=Sl.cells (H.os 5)
    have CM:=Sl.oc (H.os 5)
    have CN:=ownSl (H.get (k:=5) rfl)
    refine s_nil ⟨(H.er 5 |>.er 4 |>.er 3 |>.dp 2),?_⟩
    refine ts_q rfl (fun w' H=>x_fa (v:=Pq aW) rfl (fa_blk (o:=0) Fd29_0 Sz22)) ?_;refine ts_l rfl ?_;obtain ⟨CO,sE,hM⟩:=M.e_bind hM;refine s_call cf8 [I 1,I 2] rfl (zah 1 2 sE _ (H.gt 26)) ?_
    rintro vq CP ⟨ax,ay,rfl,hvq,ak⟩
    subst vq;(try dsimp only at hM);replace H:=H.bk ak;clear ak
    refine s_nil ⟨(H.er 5 |>.er 4 |>.er 3 |>.dp 2),?_⟩
    refine ts_l rfl ?_;refine t_bs (α:=Span) T23 [.agg #[I ax,I ay]] [(⟨(ax:Int),(ay:Int)⟩:Span)] H rfl (.cons rfl (Flat.rep_enc _ (⟨(ax:Int),(ay:Int)⟩:Span))<|.nil) rfl rfl rfl ?_;intro sF CQ H
    have CR:=Sl.cells (H.os 0)
    have CS:=Sl.oc (H.os 0)
    have CT:=ownSl (H.get (k:=0) rfl)
    refine s_nil ⟨(H.er 6 |>.er 5 |>.er 4 |>.dp 3),?_⟩
    refine ts_l rfl ?_;obtain ⟨CU,hM⟩:=M.e_gd hM;refine t_app (α:=Span) (k:=5) (l:=bm) (l2:=[(⟨(ax:Int),(ay:Int)⟩:Span)]) (l':=bm++([(⟨(ax:Int),(ay:Int)⟩:Span)])) (vy:=sF) T23 rfl H rfl rfl rfl (H.os 0) (H.ol 0) (rfl) (by first | omega | (simp only [List.length_nil] at *; omega)) ?_;intro i8 CV H;replace H:=H.nf
    have CW:=Sl.cells (H.os 5)
    have CX:=Sl.oc (H.os 5)
    have CY:=ownSl (H.get (k:=5) rfl)
    refine s_nil ⟨(H.er 6 |>.er 5 |>.er 4 |>.dp 3),?_⟩
    refine ts_l rfl ?_;obtain ⟨CZ,hM⟩:=M.e_gd hM;refine t_app (α:=Int) (k:=4) (l:=aV) (l2:=[(i3:Int)]) (l':=aV++([(i3:Int)])) (vy:=sD) T22 rfl H rfl rfl rfl (H.os 1) (H.ol 1) (rfl) (by first | omega | (simp only [List.length_nil] at *; omega)) ?_;intro i9 C0 H;replace H:=H.nf
    have C1:=Sl.cells (H.os 4)
    have C2:=Sl.oc (H.os 4)
    have C3:=ownSl (H.get (k:=4) rfl)
    refine s_nil ⟨(H.er 6 |>.er 5 |>.er 4 |>.dp 3),?_⟩
    refine ts_nil ?_;refine sr_l rfl ?_;refine t_sw 10 0 [i7] i7 H rfl rfl Sz22 (Sl.cells (H.os 6)) rfl rfl (by simp only [List.all_cons,List.all_nil,Bool.true_and,Bool.and_true,Sl.oc (H.os 6)]; try rfl) ?_;intro C4 H
    refine s_nil ⟨trivial,?_⟩
    refine sr_l rfl ?_;refine kg 1 ?_
    refine s_nil ⟨trivial,?_⟩
    refine sr_l rfl ?_;refine t_sw 10 1 [i8] i8 H rfl rfl Sz23 (Sl.cells (H.os 5)) rfl rfl (by simp only [List.all_cons,List.all_nil,Bool.true_and,Bool.and_true,Sl.oc (H.os 5)]; try rfl) ?_;intro C5 H
    refine s_nil ⟨trivial,?_⟩
    refine sr_l rfl ?_;refine kg 1 ?_
    refine s_nil ⟨trivial,?_⟩
    refine sr_l rfl ?_;refine t_sw 10 2 [i9] i9 H rfl rfl Sz22 (Sl.cells (H.os 4)) rfl rfl (by simp only [List.all_cons,List.all_nil,Bool.true_and,Bool.and_true,Sl.oc (H.os 4)]; try rfl) ?_;intro C6 H
    refine s_nil ⟨trivial,?_⟩
    refine sr_nil ?_;replace H:=H.dp 4;obtain ⟨C7,hM⟩:=M.e_gd hM;refine kg 5 ?_
    exact ⟨ed,ee,i3+1,bA++([(⟨((i3:Int) % 4:Int),((i3:Int) % 2:Int),250+(i3:Int)⟩:Town)]),bK++([(9:Int)]),bm++([(⟨(ax:Int),(ay:Int)⟩:Span)]),aV++([(i3:Int)]),cv,i7,i8,i9,_,upds_of _ _ ⟨rfl,rfl,rfl,rfl,rfl,rfl,rfl,rfl,rfl,trivial⟩,M.e_inl hM dM,H⟩
   skip
   refine t_bs (α:=Int) T22 [I (i3:Int)] [(i3:Int)] H rfl (.cons rfl (Flat.rep_enc _ (i3:Int))<|.nil) rfl rfl rfl ?_;intro sG C8 H
   have C9:=Sl.cells (H.os 0)
   have Da:=Sl.oc (H.os 0)
   have Db:=ownSl (H.get (k:=0) rfl)
   have Dc:=Sl.cells (H.os 2)
   have Dd:=Sl.oc (H.os 2)
   have De:=ownSl (H.get (k:=2) rfl)
   have Df:=Sl.cells (H.os 3)
   have Dg:=Sl.oc (H.os 3)
   have Dh:=ownSl (H.get (k:=3) rfl)
   have Di:=Sl.cells (H.os 4)
   have Dj:=Sl.oc (H.os 4)
   have Dk:=ownSl (H.get (k:=4) rfl)
   refine s_nil ⟨(H.er 4 |>.er 3 |>.er 2 |>.dp 1),?_⟩
   refine ts_l rfl ?_;refine t_bs (α:=Int) T22 [I 9] [(9:Int)] H rfl (.cons rfl (Flat.rep_enc _ (9:Int))<|.nil) rfl rfl rfl ?_;intro sH Dl H
   have Dm:=Sl.cells (H.os 0)
   have Dn:=Sl.oc (H.os 0)
   have Do:=ownSl (H.get (k:=0) rfl)
   refine s_nil ⟨(H.er 5 |>.er 4 |>.er 3 |>.dp 2),?_⟩
   refine ts_l rfl ?_;refine t_app (α:=Int) (k:=5) (l:=bK) (l2:=[(9:Int)]) (l':=bK++([(9:Int)])) (vy:=sH) T22 rfl H rfl rfl rfl (H.os 0) (H.ol 0) (rfl) (by first | omega | (simp only [List.length_nil] at *; omega)) ?_;intro ja Dp H;replace H:=H.nf
   have Dq:=Sl.cells (H.os 5)
   have Dr:=Sl.oc (H.os 5)
   have Dt:=ownSl (H.get (k:=5) rfl)
   refine s_nil ⟨(H.er 5 |>.er 4 |>.er 3 |>.dp 2),?_⟩
   refine ts_q rfl (fun w' H=>x_fa (v:=Pq aW) rfl (fa_blk (o:=0) Fd29_0 Sz22)) ?_;refine ts_l rfl ?_;obtain ⟨Du,sI,hM⟩:=M.e_bind hM;refine s_call cf8 [I 1,I 2] rfl (zah 1 2 sI _ (H.gt 26)) ?_
   rintro vq Dv ⟨ax,ay,rfl,hvq,ak⟩
   subst vq;(try dsimp only at hM);replace H:=H.bk ak;clear ak
   refine s_nil ⟨(H.er 5 |>.er 4 |>.er 3 |>.dp 2),?_⟩
   refine ts_l rfl ?_;refine t_bs (α:=Span) T23 [.agg #[I ax,I ay]] [(⟨(ax:Int),(ay:Int)⟩:Span)] H rfl (.cons rfl (Flat.rep_enc _ (⟨(ax:Int),(ay:Int)⟩:Span))<|.nil) rfl rfl rfl ?_;intro sJ Dw H
   have Dx:=Sl.cells (H.os 0)
   have Dy:=Sl.oc (H.os 0)
   have Dz:=ownSl (H.get (k:=0) rfl)
   refine s_nil ⟨(H.er 6 |>.er 5 |>.er 4 |>.dp 3),?_⟩
   refine ts_l rfl ?_;obtain ⟨DA,hM⟩:=M.e_gd hM;refine t_app (α:=Span) (k:=5) (l:=bm) (l2:=[(⟨(ax:Int),(ay:Int)⟩:Span)]) (l':=bm++([(⟨(ax:Int),(ay:Int)⟩:Span)])) (vy:=sJ) T23 rfl H rfl rfl rfl (H.os 0) (H.ol 0) (rfl) (by first | omega | (simp only [List.length_nil] at *; omega)) ?_;intro jb DB H;replace H:=H.nf
   have DC:=Sl.cells (H.os 5)
   have DD:=Sl.oc (H.os 5)
   have DE:=ownSl (H.get (k:=5) rfl)
   refine s_nil ⟨(H.er 6 |>.er 5 |>.er 4 |>.dp 3),?_⟩
   refine ts_l rfl ?_;obtain ⟨DF,hM⟩:=M.e_gd hM;refine t_app (α:=Int) (k:=4) (l:=aV) (l2:=[(i3:Int)]) (l':=aV++([(i3:Int)])) (vy:=sG) T22 rfl H rfl rfl rfl (H.os 2) (H.ol 2) (rfl) (by first | omega | (simp only [List.length_nil] at *; omega)) ?_;intro jc DH H;replace H:=H.nf
   have DI:=Sl.cells (H.os 4)
   have DJ:=Sl.oc (H.os 4)
   have DK:=ownSl (H.get (k:=4) rfl)
   refine s_nil ⟨(H.er 6 |>.er 5 |>.er 4 |>.dp 3),?_⟩
   refine ts_nil ?_;refine sr_l rfl ?_;refine t_sw 10 0 [ja] ja H rfl rfl Sz22 (Sl.cells (H.os 6)) rfl rfl (by simp only [List.all_cons,List.all_nil,Bool.true_and,Bool.and_true,Sl.oc (H.os 6)]; try rfl) ?_;intro DL H
   refine s_nil ⟨trivial,?_⟩
   refine sr_l rfl ?_;refine kg 1 ?_
   refine s_nil ⟨trivial,?_⟩
   refine sr_l rfl ?_;refine t_sw 10 1 [jb] jb H rfl rfl Sz23 (Sl.cells (H.os 5)) rfl rfl (by simp only [List.all_cons,List.all_nil,Bool.true_and,Bool.and_true,Sl.oc (H.os 5)]; try rfl) ?_;intro DM H
   refine s_nil ⟨trivial,?_⟩
   refine sr_l rfl ?_;refine kg 1 ?_
   refine s_nil ⟨trivial,?_⟩
   refine sr_l rfl ?_;refine t_sw 10 2 [jc] jc H rfl rfl Sz22 (Sl.cells (H.os 4)) rfl rfl (by simp only [List.all_cons,List.all_nil,Bool.true_and,Bool.and_true,Sl.oc (H.os 4)]; try rfl) ?_;intro DN H
   refine s_nil ⟨trivial,?_⟩
   refine sr_nil ?_;replace H:=H.dp 4;obtain ⟨DO,hM⟩:=M.e_gd hM;refine kg 5 ?_
   exact ⟨ed,ee,i3+1,bA++([(⟨((i3:Int) % 4:Int),((i3:Int) % 2:Int),250+(i3:Int)⟩:Town)]),bK++([(9:Int)]),bm++([(⟨(ax:Int),(ay:Int)⟩:Span)]),aV++([(i3:Int)]),cv,ja,jb,jc,_,upds_of _ _ ⟨rfl,rfl,rfl,rfl,rfl,rfl,rfl,rfl,rfl,trivial⟩,M.e_inl hM dM,H⟩
  replace hM:=M.e_f hM dN
  replace dN:=dI dN
  refine W.exit ?_
  have sK:=M.e_inr hM dM
  subst sK;replace hM:=sq;(try dsimp only at hM);refine kg 2 ?_;obtain ⟨sL,jd,sM⟩:=M.e_bind hM
  obtain ⟨ct,jd⟩:=M.e_iter jd
  refine W.loop (fun m σ W=>∃ (bY:List Int) (bL:List Span) (ef:Value) (bI:Value) (ρ:Env),σ=upds ρ [(24,I (vl14.getD aa 0)),(25,Pq bz),(26,Pq bO),(27,Pq bP),(28,Pq aW),(389,bG),(390,I (vl14.length:Int)),(391,I (aa:Int))]/\M.iterN (zdX) m (bY,bL)=some sL/\St w W [cOwn (α:=Int) 3 bo aV,cOwn (α:=Span) 26 bI bL,cOwn (α:=Int) 3 ef bY,cOwn (α:=Town) 36 bQ bA,cOwn (α:=Span) 26 bn bJ,cOwn (α:=Int) 3 bH co,cBlk aW [ef,bI,bo,aU,I bi,I bj,.slice none 0 0] 29,cBlk bP [aQ,aR,aS,aT,I bg,I bh,.slice none 0 0] 29,cBlk bO [aZ,a6,a7,bQ,I bw,I bx,a8] 29,cBlk bz [bH,bn,aY,.slice none 0 0,I 0,I 0,.slice none 0 0] 29,cOwn (α:=Town) 36 aU ci,cOwn (α:=Int) 3 aQ cd,cOwn (α:=Span) 26 aR ce,cOwn (α:=Int) 3 aS cf,cOwn (α:=Town) 36 aT cg,cOwn (α:=Int) 3 aZ ca,cOwn (α:=Span) 26 a6 cb,cOwn (α:=Int) 3 a7 cc,cOwn (α:=Raw 1) 38 a8 cB,cRo cC,cOwn (α:=Int) 3 aY ([(0:Int)]),cOwn (α:=Int) 3 bG vl14,cOwn (α:=Int) 3 ap vl29] R) ?_ ?_
  ·exact ⟨_,bK,bm,eb,ec,_,upds_of _ _ ⟨rfl,rfl,rfl,rfl,rfl,rfl,rfl,rfl,trivial⟩,jd,H⟩
  rintro DQ σ DR ⟨bY,bL,ef,bI,ρ,rfl,kW,H⟩
  obtain ⟨je,jf,DS,hM,gB⟩:=M.e_iterN kW
  clear kW
  have DT:=((H.os 2)).len_le
  refine kg 8 ?_
  refine W.cond (decide ((bY.length:Int)<9)) rfl (fun dO=>?_) (fun dO=>?_)
  ·replace hM:=M.e_t hM dO
   replace dO:=dI dO
   refine kg 2 ?_;refine W.drawTS (fun W=>St w W [cOwn (α:=Int) 3 bo aV,cOwn (α:=Town) 36 bQ bA,cOwn (α:=Span) 26 bn bJ,cOwn (α:=Int) 3 bH co,cBlk aW [ef,bI,bo,aU,I bi,I bj,.slice none 0 0] 29,cBlk bP [aQ,aR,aS,aT,I bg,I bh,.slice none 0 0] 29,cBlk bO [aZ,a6,a7,bQ,I bw,I bx,a8] 29,cBlk bz [bH,bn,aY,.slice none 0 0,I 0,I 0,.slice none 0 0] 29,cOwn (α:=Town) 36 aU ci,cOwn (α:=Int) 3 aQ cd,cOwn (α:=Span) 26 aR ce,cOwn (α:=Int) 3 aS cf,cOwn (α:=Town) 36 aT cg,cOwn (α:=Int) 3 aZ ca,cOwn (α:=Span) 26 a6 cb,cOwn (α:=Int) 3 a7 cc,cOwn (α:=Raw 1) 38 a8 cB,cRo cC,cOwn (α:=Int) 3 aY ([(0:Int)]),cOwn (α:=Int) 3 bG vl14,cOwn (α:=Int) 3 ap vl29] R) (.q 0 (.q 1 (.q 4 (.q 5 (.q 6 (.l2 2 (.l2 3 (.q 9 (.l 7 (.l 8 .nil))) 7 (.l 3 (.q 9 (.l 8 .nil)))) 7 (.l 2 (.l 3 (.q 9 (.l 8 .nil)))))))))) 10 [10,11,12] mixed (by decide +kernel) rfl ?_;intro DU ao;replace H:=H.ext ao;clear ao
   refine ⟨(H.er 2 |>.er 1),?_⟩
   refine ts_q rfl (fun w' H=>x_fa (v:=Pq aW) rfl (fa_blk (o:=0) Fd29_0 Sz22)) ?_;refine ts_q rfl (fun w' H=>x_ld (v:=ef) rfl (ldb_sc Sc22 (H.bl 4) rfl)) ?_;refine ts_q rfl (fun w' H=>x_fa (v:=Oq aW 1) rfl (fa_blk (o:=0) Fd29_1 Sz23)) ?_;refine ts_q rfl (fun w' H=>x_ld (v:=bI) rfl (ldb_sc Sc23 (H.bl 4) rfl)) ?_;refine ts_q rfl (fun w' H=>x_bld (ps:=[]) (zs:=[I 0,I 0]) (L':=[I 0,I 0]) rfl Tryz.underlying26 Al26 rfl (Bd26 Tryz.underlying26) (.nil)) ?_;obtain ⟨DV,hM⟩:=M.e_gd hM;obtain ⟨DW,hM⟩:=M.e_gd hM;refine ts_l2 rfl rfl ?_ ?_
   ·skip
    refine t_bs (α:=Int) T22 [I (-1)] [(-1:Int)] H rfl (.cons rfl (Flat.rep_enc _ (-1:Int))<|.nil) rfl rfl rfl ?_;intro kX DX H
    have DY:=Sl.cells (H.os 0)
    have DZ:=Sl.oc (H.os 0)
    have D0:=ownSl (H.get (k:=0) rfl)
    have D1:=Sl.cells (H.os 2)
    have D7:=Sl.oc (H.os 2)
    have D8:=ownSl (H.get (k:=2) rfl)
    have D9:=Sl.cells (H.os 3)
    have Ea:=Sl.oc (H.os 3)
    have Eb:=ownSl (H.get (k:=3) rfl)
    refine s_nil ⟨(H.er 3 |>.er 2 |>.dp 1),?_⟩
    refine ts_l2 rfl rfl ?_ ?_
    ·skip
     refine t_app (α:=Int) (k:=3) (l:=bY) (l2:=[(-1:Int)]) (l':=bY++([(-1:Int)])) (vy:=kX) T22 rfl H rfl rfl rfl (H.os 0) (H.ol 0) (rfl) (by first | omega | (simp only [List.length_nil] at *; omega)) ?_;intro jg Ec H;replace H:=H.nf
     have Ed:=Sl.cells (H.os 3)
     have Ee:=Sl.oc (H.os 3)
     have Ef:=ownSl (H.get (k:=3) rfl)
     refine s_nil ⟨(H.er 3 |>.er 2 |>.dp 1),?_⟩
     refine ts_q rfl (fun w' H=>x_fa (v:=Pq aW) rfl (fa_blk (o:=0) Fd29_0 Sz22)) ?_;refine ts_l rfl ?_;refine t_bs (α:=Span) T23 [.agg #[I 0,I 0]] [(⟨(0:Int),(0:Int)⟩:Span)] H rfl (.cons rfl (Flat.rep_enc _ (⟨(0:Int),(0:Int)⟩:Span))<|.nil) rfl rfl rfl ?_;intro sN Eg H
     have Eh:=Sl.cells (H.os 0)
     have Ei:=Sl.oc (H.os 0)
     have Ej:=ownSl (H.get (k:=0) rfl)
     refine s_nil ⟨(H.er 4 |>.er 3 |>.dp 2),?_⟩
     refine ts_l rfl ?_;refine t_app (α:=Span) (k:=3) (l:=bL) (l2:=[(⟨(0:Int),(0:Int)⟩:Span)]) (l':=bL++([(⟨(0:Int),(0:Int)⟩:Span)])) (vy:=sN) T23 rfl H rfl rfl rfl (H.os 0) (H.ol 0) (rfl) (by first | omega | (simp only [List.length_nil] at *; omega)) ?_;intro jh Ek H;replace H:=H.nf
     have El:=Sl.cells (H.os 3)
     have Em:=Sl.oc (H.os 3)
     have En:=ownSl (H.get (k:=3) rfl)
     refine s_nil ⟨(H.er 4 |>.er 3 |>.dp 2),?_⟩
     refine ts_nil ?_;refine sr_l rfl ?_;refine t_sw 8 0 [jg] jg H rfl rfl Sz22 (Sl.cells (H.os 4)) rfl rfl (by simp only [List.all_cons,List.all_nil,Bool.true_and,Bool.and_true,Sl.oc (H.os 4)]; try rfl) ?_;intro Eo H
     refine s_nil ⟨trivial,?_⟩
     refine sr_l rfl ?_;refine kg 1 ?_
     refine s_nil ⟨trivial,?_⟩
     refine sr_l rfl ?_;refine t_sw 8 1 [jh] jh H rfl rfl Sz23 (Sl.cells (H.os 3)) rfl rfl (by simp only [List.all_cons,List.all_nil,Bool.true_and,Bool.and_true,Sl.oc (H.os 3)]; try rfl) ?_;intro Ep H
     refine s_nil ⟨trivial,?_⟩
     refine sr_nil ?_
     exact ⟨je,jf,bY++([(-1:Int)]),bL++([(⟨(0:Int),(0:Int)⟩:Span)]),jg,jh,_,upds_of _ _ ⟨rfl,rfl,rfl,rfl,rfl,rfl,rfl,rfl,trivial⟩,M.e_inl hM gB,(H.dp 2)⟩
    skip
    refine t_bs (α:=Span) T23 [.agg #[I 0,I 0]] [(⟨(0:Int),(0:Int)⟩:Span)] H rfl (.cons rfl (Flat.rep_enc _ (⟨(0:Int),(0:Int)⟩:Span))<|.nil) rfl rfl rfl ?_;intro sO Er H
    have Es:=Sl.cells (H.os 0)
    have Et:=Sl.oc (H.os 0)
    have Eu:=ownSl (H.get (k:=0) rfl)
    refine s_nil ⟨(H.er 4 |>.er 3 |>.dp 2),?_⟩
    refine ts_l rfl ?_;refine t_app (α:=Int) (k:=4) (l:=bY) (l2:=[(-1:Int)]) (l':=bY++([(-1:Int)])) (vy:=kX) T22 rfl H rfl rfl rfl (H.os 1) (H.ol 1) (rfl) (by first | omega | (simp only [List.length_nil] at *; omega)) ?_;intro ji Ev H;replace H:=H.nf
    have Ew:=Sl.cells (H.os 4)
    have Ex:=Sl.oc (H.os 4)
    have Ey:=ownSl (H.get (k:=4) rfl)
    refine s_nil ⟨(H.er 4 |>.er 3 |>.dp 2),?_⟩
    refine ts_q rfl (fun w' H=>x_fa (v:=Pq aW) rfl (fa_blk (o:=0) Fd29_0 Sz22)) ?_;refine ts_l rfl ?_;refine t_app (α:=Span) (k:=3) (l:=bL) (l2:=[(⟨(0:Int),(0:Int)⟩:Span)]) (l':=bL++([(⟨(0:Int),(0:Int)⟩:Span)])) (vy:=sO) T23 rfl H rfl rfl rfl (H.os 0) (H.ol 0) (rfl) (by first | omega | (simp only [List.length_nil] at *; omega)) ?_;intro jj Ez H;replace H:=H.nf
    have EA:=Sl.cells (H.os 3)
    have EB:=Sl.oc (H.os 3)
    have EC:=ownSl (H.get (k:=3) rfl)
    refine s_nil ⟨(H.er 4 |>.er 3 |>.dp 2),?_⟩
    refine ts_nil ?_;refine sr_l rfl ?_;refine t_sw 8 0 [ji] ji H rfl rfl Sz22 (Sl.cells (H.os 4)) rfl rfl (by simp only [List.all_cons,List.all_nil,Bool.true_and,Bool.and_true,Sl.oc (H.os 4)]; try rfl) ?_;intro ED H
    refine s_nil ⟨trivial,?_⟩
    refine sr_l rfl ?_;refine kg 1 ?_
    refine s_nil ⟨trivial,?_⟩
    refine sr_l rfl ?_;refine t_sw 8 1 [jj] jj H rfl rfl Sz23 (Sl.cells (H.os 3)) rfl rfl (by simp only [List.all_cons,List.all_nil,Bool.true_and,Bool.and_true,Sl.oc (H.os 3)]; try rfl) ?_;intro EE H
    refine s_nil ⟨trivial,?_⟩
    refine sr_nil ?_
    exact ⟨je,jf,bY++([(-1:Int)]),bL++([(⟨(0:Int),(0:Int)⟩:Span)]),ji,jj,_,upds_of _ _ ⟨rfl,rfl,rfl,rfl,rfl,rfl,rfl,rfl,trivial⟩,M.e_inl hM gB,(H.dp 2)⟩
   skip
   refine t_bs (α:=Span) T23 [.agg #[I 0,I 0]] [(⟨(0:Int),(0:Int)⟩:Span)] H rfl (.cons rfl (Flat.rep_enc _ (⟨(0:Int),(0:Int)⟩:Span))<|.nil) rfl rfl rfl ?_;intro sP EF H
   have EG:=Sl.cells (H.os 0)
   have EH:=Sl.oc (H.os 0)
   have EI:=ownSl (H.get (k:=0) rfl)
   have EJ:=Sl.cells (H.os 2)
   have EK:=Sl.oc (H.os 2)
   have EL:=ownSl (H.get (k:=2) rfl)
   have EM:=Sl.cells (H.os 3)
   have EN:=Sl.oc (H.os 3)
   have EO:=ownSl (H.get (k:=3) rfl)
   refine s_nil ⟨(H.er 3 |>.er 2 |>.dp 1),?_⟩
   refine ts_l rfl ?_;refine t_bs (α:=Int) T22 [I (-1)] [(-1:Int)] H rfl (.cons rfl (Flat.rep_enc _ (-1:Int))<|.nil) rfl rfl rfl ?_;intro sQ EP H
   have EQ:=Sl.cells (H.os 0)
   have ER:=Sl.oc (H.os 0)
   have ES:=ownSl (H.get (k:=0) rfl)
   refine s_nil ⟨(H.er 4 |>.er 3 |>.dp 2),?_⟩
   refine ts_l rfl ?_;refine t_app (α:=Int) (k:=4) (l:=bY) (l2:=[(-1:Int)]) (l':=bY++([(-1:Int)])) (vy:=sQ) T22 rfl H rfl rfl rfl (H.os 0) (H.ol 0) (rfl) (by first | omega | (simp only [List.length_nil] at *; omega)) ?_;intro jk ET H;replace H:=H.nf
   have EU:=Sl.cells (H.os 4)
   have EV:=Sl.oc (H.os 4)
   have EW:=ownSl (H.get (k:=4) rfl)
   refine s_nil ⟨(H.er 4 |>.er 3 |>.dp 2),?_⟩
   refine ts_q rfl (fun w' H=>x_fa (v:=Pq aW) rfl (fa_blk (o:=0) Fd29_0 Sz22)) ?_;refine ts_l rfl ?_;refine t_app (α:=Span) (k:=3) (l:=bL) (l2:=[(⟨(0:Int),(0:Int)⟩:Span)]) (l':=bL++([(⟨(0:Int),(0:Int)⟩:Span)])) (vy:=sP) T23 rfl H rfl rfl rfl (H.os 1) (H.ol 1) (rfl) (by first | omega | (simp only [List.length_nil] at *; omega)) ?_;intro jl EX H;replace H:=H.nf
   have EY:=Sl.cells (H.os 3)
   have EZ:=Sl.oc (H.os 3)
   have E0:=ownSl (H.get (k:=3) rfl)
   refine s_nil ⟨(H.er 4 |>.er 3 |>.dp 2),?_⟩
   refine ts_nil ?_;refine sr_l rfl ?_;refine t_sw 8 0 [jk] jk H rfl rfl Sz22 (Sl.cells (H.os 4)) rfl rfl (by simp only [List.all_cons,List.all_nil,Bool.true_and,Bool.and_true,Sl.oc (H.os 4)]; try rfl) ?_;intro E1 H
   refine s_nil ⟨trivial,?_⟩
   refine sr_l rfl ?_;refine kg 1 ?_
   refine s_nil ⟨trivial,?_⟩
   refine sr_l rfl ?_;refine t_sw 8 1 [jl] jl H rfl rfl Sz23 (Sl.cells (H.os 3)) rfl rfl (by simp only [List.all_cons,List.all_nil,Bool.true_and,Bool.and_true,Sl.oc (H.os 3)]; try rfl) ?_;intro E2 H
   refine s_nil ⟨trivial,?_⟩
   refine sr_nil ?_
   exact ⟨je,jf,bY++([(-1:Int)]),bL++([(⟨(0:Int),(0:Int)⟩:Span)]),jk,jl,_,upds_of _ _ ⟨rfl,rfl,rfl,rfl,rfl,rfl,rfl,rfl,trivial⟩,M.e_inl hM gB,(H.dp 2)⟩
  replace hM:=M.e_f hM dO
  replace dO:=dI dO
  refine W.exit ?_
  have sR:=M.e_inr hM gB
  subst sR;replace hM:=sM;(try dsimp only at hM);refine kg 6 ?_;obtain ⟨sS,jm,sT⟩:=M.e_bind hM
  obtain ⟨ct,jm⟩:=M.e_iter jm
  refine W.loop (fun m σ W=>∃ (bB:List Int) (i4:Nat) (bR:Value) (ρ:Env),σ=upds ρ [(24,I (vl14.getD aa 0)),(25,Pq bz),(26,Pq bO),(27,Pq bP),(28,Pq aW),(31,I (i4:Int)),(389,bG),(390,I (vl14.length:Int)),(391,I (aa:Int))]/\M.iterN (zdt) m (bB,i4)=some sS/\St w W [cOwn (α:=Int) 3 bo aV,cOwn (α:=Span) 26 bI bL,cOwn (α:=Int) 3 bR bB,cOwn (α:=Town) 36 bQ bA,cOwn (α:=Span) 26 bn bJ,cOwn (α:=Int) 3 bH co,cBlk aW [bR,bI,bo,aU,I bi,I bj,.slice none 0 0] 29,cBlk bP [aQ,aR,aS,aT,I bg,I bh,.slice none 0 0] 29,cBlk bO [aZ,a6,a7,bQ,I bw,I bx,a8] 29,cBlk bz [bH,bn,aY,.slice none 0 0,I 0,I 0,.slice none 0 0] 29,cOwn (α:=Town) 36 aU ci,cOwn (α:=Int) 3 aQ cd,cOwn (α:=Span) 26 aR ce,cOwn (α:=Int) 3 aS cf,cOwn (α:=Town) 36 aT cg,cOwn (α:=Int) 3 aZ ca,cOwn (α:=Span) 26 a6 cb,cOwn (α:=Int) 3 a7 cc,cOwn (α:=Raw 1) 38 a8 cB,cRo cC,cOwn (α:=Int) 3 aY ([(0:Int)]),cOwn (α:=Int) 3 bG vl14,cOwn (α:=Int) 3 ap vl29] R) ?_ ?_
  ·exact ⟨_,bY,0,ef,_,upds_of _ _ ⟨rfl,rfl,rfl,rfl,rfl,rfl,rfl,rfl,rfl,trivial⟩,jm,H⟩
  rintro E3 σ E4 ⟨bB,i4,bR,ρ,rfl,kY,H⟩
  obtain ⟨kZ,k4,E5,hM,jn⟩:=M.e_iterN kY
  clear kY
  have E6:=((H.os 2)).len_le
  refine kg 9 ?_
  refine W.cond (decide ((i4:Int)<(bB.length:Int))) rfl (fun dP=>?_) (fun dP=>?_)
  ·replace hM:=M.e_t hM dP
   replace dP:=dI dP
   obtain ⟨E7,hM⟩:=M.e_gd hM;refine kg 9 ?_;refine t_ost (k:=2) (i:=(i4:Int)) (l:=bB) (l':=bB.set i4 (-1:Int)) (val:=I (-1)) H rfl Sz3 (by omega) (by omega) (-1:Int) rfl rfl rfl rfl rfl ?_;intro E8 H;replace H:=H.nf
   have E9:=((H.os 2)).len_le
   refine kg 10 ?_
   refine W.cond (decide (((i4:Int)+1)<((bB.set i4 (-1:Int)).length:Int))) rfl (fun dQ=>?_) (fun dQ=>?_)
   ·replace hM:=M.e_t hM dQ
    replace dQ:=dI dQ
    have Fa:=((H.os 2)).len_le
    obtain ⟨Fb,hM⟩:=M.e_gd hM;refine kg 9 ?_;refine t_ost (k:=2) (i:=(i4:Int)) (l:=bB.set i4 (-1:Int)) (l':=(bB.set i4 (-1:Int)).set i4 (((bB.set i4 (-1:Int)).length:Int)-1:Int)) (val:=I (((bB.set i4 (-1:Int)).length:Int)-1)) H rfl Sz3 (by omega) (by omega) (((bB.set i4 (-1:Int)).length:Int)-1:Int) rfl rfl rfl rfl rfl ?_;intro Fc H;replace H:=H.nf;refine kg 6 ?_
    exact ⟨kZ,k4,(bB.set i4 (-1:Int)).set i4 (((bB.set i4 (-1:Int)).length:Int)-1:Int),i4+1,bR,_,upds_of _ _ ⟨rfl,rfl,rfl,rfl,rfl,rfl,rfl,rfl,rfl,trivial⟩,M.e_inl hM jn,H⟩
   replace hM:=M.e_f hM dQ
   replace dQ:=dI dQ
   refine kg 6 ?_
   exact ⟨kZ,k4,bB.set i4 (-1:Int),i4+1,bR,_,upds_of _ _ ⟨rfl,rfl,rfl,rfl,rfl,rfl,rfl,rfl,rfl,trivial⟩,M.e_inl hM jn,H⟩
  replace hM:=M.e_f hM dP
  replace dP:=dI dP
  refine W.exit ?_
  have sU:=M.e_inr hM jn
  subst sU;replace hM:=sT;(try dsimp only at hM);refine kg 6 ?_
  obtain ⟨k6,H⟩:=H.emptyE
  replace H:=H.nilOwn (α:=Raw 1) 38
  have sV:RepR (α:=Flood) (n:=1) k6.cells [] []:=.nil
  obtain ⟨sW,jo,sX⟩:=M.e_bind hM
  obtain ⟨ct,jo⟩:=M.e_iter jo
  refine W.loop (fun m σ W=>∃ (i5:Nat) (eg:List Flood) (cp:Value) (eh:List (Raw 1)) (B_l43:Base) (ρ:Env),σ=upds ρ [(24,I (vl14.getD aa 0)),(25,Pq bz),(26,Pq bO),(27,Pq bP),(28,Pq aW),(32,I (i5:Int)),(389,bG),(390,I (vl14.length:Int)),(391,I (aa:Int))]/\M.iterN (zdu aa) m (i5,eg)=some sW/\St w W [cOwn (α:=Raw 1) 38 cp eh,cRo B_l43,cOwn (α:=Int) 3 bo aV,cOwn (α:=Span) 26 bI bL,cOwn (α:=Int) 3 bR bB,cOwn (α:=Town) 36 bQ bA,cOwn (α:=Span) 26 bn bJ,cOwn (α:=Int) 3 bH co,cBlk aW [bR,bI,bo,aU,I bi,I bj,.slice none 0 0] 29,cBlk bP [aQ,aR,aS,aT,I bg,I bh,cp] 29,cBlk bO [aZ,a6,a7,bQ,I bw,I bx,a8] 29,cBlk bz [bH,bn,aY,.slice none 0 0,I 0,I 0,.slice none 0 0] 29,cOwn (α:=Town) 36 aU ci,cOwn (α:=Int) 3 aQ cd,cOwn (α:=Span) 26 aR ce,cOwn (α:=Int) 3 aS cf,cOwn (α:=Town) 36 aT cg,cOwn (α:=Int) 3 aZ ca,cOwn (α:=Span) 26 a6 cb,cOwn (α:=Int) 3 a7 cc,cOwn (α:=Raw 1) 38 a8 cB,cRo cC,cOwn (α:=Int) 3 aY ([(0:Int)]),cOwn (α:=Int) 3 bG vl14,cOwn (α:=Int) 3 ap vl29] R/\RepR (α:=Flood) B_l43.cells eh eg) ?_ ?_
  ·exact ⟨_,0,[],(.slice none 0 0),[],k6,_,upds_of _ _ ⟨rfl,rfl,rfl,rfl,rfl,rfl,rfl,rfl,rfl,trivial⟩,jo,H,sV⟩
  rintro Fd σ Fe ⟨i5,eg,cp,eh,B_l43,ρ,rfl,k7,H,ei⟩
  obtain ⟨sY,sZ,Ff,hM,k8⟩:=M.e_iterN k7
  clear k7;refine kg 7 ?_
  refine W.cond (decide ((i5:Int)<(vl14.getD aa 0))) rfl (fun dR=>?_) (fun dR=>?_)
  ·replace hM:=M.e_t hM dR
   replace dR:=dI dR
   obtain ⟨Fg,hM⟩:=M.e_gd hM;refine kg 7 ?_;refine s_val (x_rem' (a:=(i5:Int)) (b:=2) rfl rfl (by omega)) ?_;obtain ⟨Fh,hM⟩:=M.e_gd hM;obtain ⟨Fi,hM⟩:=M.e_gd hM;refine kg 5 ?_;refine s_val (x_rem' (a:=(i5:Int)) (b:=10) rfl rfl (by omega)) ?_;obtain ⟨Fj,hM⟩:=M.e_gd hM;refine kg 1 ?_;refine t_bs (α:=Int) T22 [I (10*(i5:Int)),I (300-(i5:Int)),I (295+((i5:Int) % 10))] [10*(i5:Int),300-(i5:Int),(295+((i5:Int) % 10):Int)] H rfl (.cons rfl (Flat.rep_enc _ (10*(i5:Int)))<|.cons rfl (Flat.rep_enc _ (300-(i5:Int)))<|.cons rfl (Flat.rep_enc _ (295+((i5:Int) % 10):Int))<|.nil) rfl rfl rfl ?_;intro ej Fk H;refine s_val (x_bld (ps:=[(0,I ((i5:Int) % 2)),(1,ej)]) (zs:=[I 0,.slice none 0 0]) (L':=[I ((i5:Int) % 2),ej]) rfl Tryz.underlying38 Al38 rfl (Bd38 Tryz.underlying38) (.cons (cs:=[I ((i5:Int) % 2)]) rfl rfl rfl rfl rfl<|.cons (cs:=[ej]) (Sl.cells (H.os 0)) rfl rfl rfl rfl<|.nil)) ?_
   obtain ⟨Fl,H⟩:=H.emptyE
   obtain ⟨Fm,H,s0⟩:=H.freezeE (k:=1) rfl
   replace H:=H.nf
   have gC:=s0
   obtain ⟨s1,H,Fo,ta⟩:=H.joinE (i:=0) (j:=1) rfl rfl
   replace gC:=gC.mono ta
   obtain ⟨dS,k9⟩:∃ r:Raw 1,r.cs=[I ((i5:Int) % 2),ej]:=⟨Raw.of [I ((i5:Int) % 2),ej] rfl (by simp only [List.all_cons,List.all_nil,Bool.true_and,Bool.and_true,Sl.oc gC]; try rfl),rfl⟩
   have tb:RepR (α:=Flood) s1.cells [dS] [(⟨((i5:Int) % 2:Int),([10*(i5:Int),300-(i5:Int),(295+((i5:Int) % 10):Int)])⟩:Flood)]:=.cons (by rw [k9]; exact ⟨_,rfl,gC⟩)<|.nil
   refine t_bs (α:=Raw 1) T27 [.agg #[I ((i5:Int) % 2),ej]] [dS] H rfl (.cons (by rw [show (Flat.enc dS:List Value)=dS.cs from rfl,k9]; rfl) (Flat.rep_enc _ _)<|.nil) rfl rfl rfl ?_;intro tc Fp H;replace H:=H.nf;obtain ⟨Fq,hM⟩:=M.e_gd hM
   have gD:=tb
   obtain ⟨td,H,te,tf⟩:=H.joinE (i:=5) (j:=1) rfl rfl
   replace ei:=ei.mono te
   replace gD:=gD.mono tf
   have jp:=ei.app gD
   refine t_app (α:=Raw 1) (k:=5) (l:=eh) (l2:=[dS]) (l':=eh++([dS])) (vy:=tc) T27 rfl H rfl rfl rfl (H.os 1) (H.ol 1) (rfl) (by have a_:=ei.len; have b_:=gD.len; (try simp only [List.length_nil] at *); first | omega | (rw [a_,b_]; omega)) ?_;intro jq Fs H;replace H:=H.nf;refine kg 1 ?_;refine t_sw 14 6 [jq] jq H rfl rfl Sz27 (Sl.cells (rowSl rfl (H.get (k:=5) rfl) (roLe _ (H.get (k:=0) rfl)) jp)) rfl rfl (by simp only [List.all_cons,List.all_nil,Bool.true_and,Bool.and_true,Sl.oc (rowSl rfl (H.get (k:=5) rfl) (roLe _ (H.get (k:=0) rfl)) jp)]; try rfl) ?_;intro Ft H;refine s_nil ?_
   replace H:=H.er 4 |>.er 3 |>.er 2 |>.er 1
   obtain ⟨Fu,hM⟩:=M.e_gd hM;refine kg 5 ?_
   exact ⟨sY,sZ,i5+1,eg++([(⟨((i5:Int) % 2:Int),([10*(i5:Int),300-(i5:Int),(295+((i5:Int) % 10):Int)])⟩:Flood)]),jq,eh++([dS]),td,_,upds_of _ _ ⟨rfl,rfl,rfl,rfl,rfl,rfl,rfl,rfl,rfl,trivial⟩,M.e_inl hM k8,(H.mv 1 |>.er 2),jp⟩
  replace hM:=M.e_f hM dR
  replace dR:=dI dR
  refine W.exit ?_
  have tg:=M.e_inr hM k8
  subst tg;replace hM:=sX;(try dsimp only at hM);obtain ⟨Fv,hM⟩:=M.e_gd hM;obtain ⟨Fw,hM⟩:=M.e_gd hM;refine kg 5 ?_;refine t_mk (α:=Dem) T33 (default:Dem) rfl (n:=min 70 (3*(vl14.getD aa 0))) H rfl rfl (by omega) (by omega) (by omega) ?_;intro la Fx H;replace H:=H.nf;obtain ⟨Fy,hM⟩:=M.e_gd hM;refine kg 8 ?_;obtain ⟨Fz,th,hM⟩:=M.e_bind hM;refine s_call cf5 [.agg #[bH,bn,aY,.slice none 0 0,I 0,I 0,.slice none 0 0],I 0,I ((vl14.getD aa 0)-1),I 0] rfl (zaq co bJ ([(0:Int)]) ([]:List Town) 0 0 ([]:List Flood) 0 ((vl14.getD aa 0)-1) 0 (rdo 8) (H.os 8) (rdo 7) (H.os 7) (rdo 23) (H.os 23) Reads.none (Sl.nil (fun _=>none)) Reads.none (Sl.nil (fun _=>none)) th _ (H.gt 26)) ?_
  rintro vq FA ⟨r8,rfl,hvq,ak⟩
  subst vq;(try dsimp only at hM);replace H:=H.bk ak;clear ak;refine kg 5 ?_;refine g_val (!(!r8)) (gy_f rfl) (fun hg=>x_bld (ps:=[(1,I ((vl14.getD aa 0)-1))]) (zs:=[I 0,I 0]) (L':=[I 0,I ((vl14.getD aa 0)-1)]) (by exact prs1 (gd_of hg (I ((vl14.getD aa 0)-1)))) Tryz.underlying32 Al32 rfl (Bd32 Tryz.underlying32) (.cons (cs:=[I ((vl14.getD aa 0)-1)]) rfl rfl rfl rfl rfl<|.nil)) ?_;refine t_gbs (α:=Int) T22 (!(!r8)) (gy_f rfl) [I 0,I 1] [(0:Int),(1:Int)] H (fun _=>rfl) (.cons rfl (Flat.rep_enc _ (0:Int))<|.cons rfl (Flat.rep_enc _ (1:Int))<|.nil) rfl rfl rfl ?_;intro lb FB FC H ti;refine kg 1 ?_;obtain ⟨r9,tj,hM⟩:=M.e_bind hM;refine t_gcall (!(!r8)) (gy_f rfl) cf6 (B r9) (fun _=>[.agg #[aZ,a6,a7,bQ,I bw,I bx,a8],.agg #[I 0,I ((vl14.getD aa 0)-1)],lb,I 2,la]) (fun hg=>lst5 (gd_of hg (.agg #[aZ,a6,a7,bQ,I bw,I bx,a8])) (gd_of hg (.agg #[I 0,I ((vl14.getD aa 0)-1)])) (gd_of hg (lb)) rfl (gd_of hg (la))) H (fun hg=>(zae ca cb cc bA bw bx iI (⟨(0:Int),((vl14.getD aa 0)-1:Int)⟩:Dem) ([(0:Int),(1:Int)]) 2 (List.replicate (Int.toNat (min 70 (3*(vl14.getD aa 0)))) (default:Dem)) (rdo 19) (H.os 19) (rdo 20) (H.os 20) (rdo 21) (H.os 21) (rdo 7) (H.os 7) (Reads.sup (rdo 22) (Reads.of (k:=23) rfl roLe)) (rowSl rfl (H.get (k:=22) rfl) (roLe _ (H.get (k:=23) rfl)) iJ) (Reads.of (k:=0) rfl roLe) (ti hg) (rdo 1) (H.os 1) (M.e_opt tj hg) _ (H.give (A:=[]) rfl)).mono fun v_ w_ ⟨y_,ag,ai,H_⟩=>by subst ag; exact ⟨ai,H.via H_⟩) ?_;intro FD H;refine kg 1 ?_;refine s_val (x_por (b:=!r8) (r:=!r9) rfl rfl (fun hb=>gd_of (c:=!(!r8)) (by first | exact hb | (rw [hb]; rfl) | (rw [hg,hb]; rfl) | simp_all) (B (!r9))))<|zM (B ((!r8)||(!r9))) rfl<|g_val (!((!r8)||(!r9))) (gy_f rfl) (fun hg=>x_ld (v:=.agg #[aQ,aR,aS,aT,I bg,I bh,cp]) rfl (ldb_ag (ds:=[aQ,aR,aS,aT,I bg,I bh,cp]) Ag29 Sz29 (H.bl 11) rfl rfl)) ?_;refine t_gbs (α:=Int) T22 (!((!r8)||(!r9))) (gy_f rfl) [I 0,I 1] [(0:Int),(1:Int)] H (fun _=>rfl) (.cons rfl (Flat.rep_enc _ (0:Int))<|.cons rfl (Flat.rep_enc _ (1:Int))<|.nil) rfl rfl rfl ?_;intro lc FE FF H tk;refine g_val (!((!r8)||(!r9))) (gy_f rfl) (fun hg=>x_mv (v:=I (vl14.getD aa 0)) rfl)<|g_val (!((!r8)||(!r9))) (gy_f rfl) (fun hg=>x_ari (r:=(vl14.getD aa 0)-1) (gd_of hg (I (vl14.getD aa 0))) rfl rfl (by first | omega | (have ao:=hg; simp at ao; omega))) ?_;refine t_gbs (α:=Int) T22 (!((!r8)||(!r9))) (gy_f rfl) [I 100,I 50] [(100:Int),(50:Int)] H (fun _=>rfl) (.cons rfl (Flat.rep_enc _ (100:Int))<|.cons rfl (Flat.rep_enc _ (50:Int))<|.nil) rfl rfl rfl ?_;intro ld FG FH H tm;obtain ⟨b9,tn,hM⟩:=M.e_bind hM;refine t_gcall (!((!r8)||(!r9))) (gy_f rfl) cf7 (B b9) (fun _=>[.agg #[aQ,aR,aS,aT,I bg,I bh,cp],lc,I ((vl14.getD aa 0)-1),ld]) (fun hg=>lst4 (gd_of hg (.agg #[aQ,aR,aS,aT,I bg,I bh,cp])) (gd_of hg (lc)) (gd_of hg (I ((vl14.getD aa 0)-1))) (gd_of hg (ld))) H (fun hg=>(zar cd ce cf cg bg bh eg ([(0:Int),(1:Int)]) ((vl14.getD aa 0)-1) ([(100:Int),(50:Int)]) (rdo 17) (H.os 17) (rdo 18) (H.os 18) (rdo 19) (H.os 19) (rdo 20) (H.os 20) (Reads.sup (rdo 4) (Reads.of (k:=5) rfl roLe)) (rowSl rfl (H.get (k:=4) rfl) (roLe _ (H.get (k:=5) rfl)) ei) (Reads.of (k:=1) rfl roLe) (tk hg) (Reads.of (k:=0) rfl roLe) (tm hg) (M.e_opt tn hg) _ (H.give (A:=[]) rfl)).mono fun v_ w_ ⟨y_,ag,ai,H_⟩=>by subst ag; exact ⟨ai,H.via H_⟩) ?_;intro FI H;refine g_val (!((!r8)||(!r9))) (gy_f rfl) (fun hg=>x_not (b:=b9) (gd_of hg (B b9)))<|s_val (x_por (b:=((!r8)||(!r9))) (r:=!b9) rfl rfl (fun hb=>gd_of (c:=!((!r8)||(!r9))) (by first | exact hb | (rw [hb]; rfl) | (rw [hg,hb]; rfl) | simp_all) (B (!b9))))<|zM (B (((!r8)||(!r9))||(!b9))) rfl<|g_val (!(((!r8)||(!r9))||(!b9))) (gy_f rfl) (fun hg=>x_ld (v:=.agg #[bR,bI,bo,aU,I bi,I bj,.slice none 0 0]) rfl (ldb_ag (ds:=[bR,bI,bo,aU,I bi,I bj,.slice none 0 0]) Ag29 Sz29 (H.bl 12) rfl rfl))<|g_val (!(((!r8)||(!r9))||(!b9))) (gy_f rfl) (fun hg=>x_bld (ps:=[]) (zs:=[I 0,I 0]) (L':=[I 0,I 0]) rfl Tryz.underlying32 Al32 rfl (Bd32 Tryz.underlying32) (.nil)) ?_;obtain ⟨el,tp,hM⟩:=M.e_bind hM;refine t_gcall (!(((!r8)||(!r9))||(!b9))) (gy_f rfl) cf6 (B el) (fun _=>[.agg #[bR,bI,bo,aU,I bi,I bj,.slice none 0 0],.agg #[I 0,I 0],.slice none 0 0,I 1,.slice none 0 0]) (fun hg=>lst5 (gd_of hg (.agg #[bR,bI,bo,aU,I bi,I bj,.slice none 0 0])) (gd_of hg (.agg #[I 0,I 0])) rfl rfl rfl) H (fun hg=>(zae bB bL aV ci bi bj ([]:List Flood) (⟨(0:Int),(0:Int)⟩:Dem) ([]:List Int) 1 ([]:List Dem) (rdo 8) (H.os 8) (rdo 7) (H.os 7) (rdo 6) (H.os 6) (rdo 16) (H.os 16) Reads.none (Sl.nil (fun _=>none)) Reads.none (Sl.nil (fun _=>none)) Reads.none (Sl.nil (fun _=>none)) (M.e_opt tp hg) _ (H.give (A:=[]) rfl)).mono fun v_ w_ ⟨y_,ag,ai,H_⟩=>by subst ag; exact ⟨ai,H.via H_⟩) ?_;intro FJ H;refine g_val (!(((!r8)||(!r9))||(!b9))) (gy_f rfl) (fun hg=>x_not (b:=el) (gd_of hg (B el)))<|s_val (x_por (b:=(((!r8)||(!r9))||(!b9))) (r:=!el) rfl rfl (fun hb=>gd_of (c:=!(((!r8)||(!r9))||(!b9))) (by first | exact hb | (rw [hb]; rfl) | (rw [hg,hb]; rfl) | simp_all) (B (!el))))<|s_nil ?_
  refine W.cond ((((!r8)||(!r9))||(!b9))||(!el)) rfl (fun jr=>?_) (fun jr=>?_)
  ·replace hM:=M.e_t hM jr;refine kg 4 ?_;replace H:=H.dp 27;refine W.ret ?_
   have tq:=M.e_inr hM gA
   subst tq;replace hM:=iG;(try dsimp only at hM)
   have ag:=M.e_pure hM
   exact ⟨_,resE_tmp rfl,⟨false,ag,rfl,(H.pk [])⟩⟩
  replace hM:=M.e_f hM jr;refine kg 4 ?_;obtain ⟨FK,tr,hM⟩:=M.e_bind hM;refine s_call cf9 [.agg #[bH,bn,aY,.slice none 0 0,I 0,I 0,.slice none 0 0]] rfl (zaK co bJ ([(0:Int)]) ([]:List Town) 0 0 ([]:List Flood) (rdo 11) (H.os 11) (rdo 10) (H.os 10) (rdo 26) (H.os 26) Reads.none (Sl.nil (fun _=>none)) Reads.none (Sl.nil (fun _=>none)) tr _ (H.gt 29)) ?_
  rintro vq FL ⟨aN,rfl,hvq,ak⟩
  subst vq;(try dsimp only at hM);replace H:=H.bk ak;clear ak;refine kg 6 ?_;refine s_val (x_pand (b:=decide (0<(vl14.getD aa 0))) (r:=decide ((vl14.getD aa 0)<13)) rfl (fun hb=>gd_of (c:=decide (0<(vl14.getD aa 0))) (by first | exact hb | (rw [hb]; rfl) | (rw [hg,hb]; rfl) | simp_all) (B (decide ((vl14.getD aa 0)<13)))) rfl)<|s_val (x_eqb (a:=aN==0) (b:=((decide (0<(vl14.getD aa 0)))&&(decide ((vl14.getD aa 0)<13)))) (r:=((aN==0) != ((decide (0<(vl14.getD aa 0)))&&(decide ((vl14.getD aa 0)<13))))) rfl rfl Tryz.underlying4 rfl) ?_;refine kg 2 ?_;obtain ⟨aO,tt,hM⟩:=M.e_bind hM;refine t_gcall (!((aN==0) != ((decide (0<(vl14.getD aa 0)))&&(decide ((vl14.getD aa 0)<13))))) (gy_f rfl) cf9 (I aO) (fun _=>[.agg #[aZ,a6,a7,bQ,I bw,I bx,a8]]) (fun hg=>lst1 (gd_of hg (.agg #[aZ,a6,a7,bQ,I bw,I bx,a8]))) H (fun hg=>(zaK ca cb cc bA bw bx iI (rdo 21) (H.os 21) (rdo 22) (H.os 22) (rdo 23) (H.os 23) (rdo 9) (H.os 9) (Reads.sup (rdo 24) (Reads.of (k:=25) rfl roLe)) (rowSl rfl (H.get (k:=24) rfl) (roLe _ (H.get (k:=25) rfl)) iJ) (M.e_opt tt hg) _ (H.give (A:=[]) rfl)).mono fun v_ w_ ⟨y_,ag,ai,H_⟩=>by subst ag; exact ⟨ai,H.via H_⟩) ?_;intro FM H;refine kg 3 ?_;refine g_val (!((aN==0) != ((decide (0<(vl14.getD aa 0)))&&(decide ((vl14.getD aa 0)<13))))) (gy_f rfl) (fun hg=>x_eqb (a:=aO==0) (b:=decide ((vl14.getD aa 0)<9)) (r:=((aO==0) != (decide ((vl14.getD aa 0)<9)))) (gd_of hg (B (aO==0))) (gd_of hg (B (decide ((vl14.getD aa 0)<9)))) Tryz.underlying4 rfl)<|s_val (x_por (b:=((aN==0) != ((decide (0<(vl14.getD aa 0)))&&(decide ((vl14.getD aa 0)<13))))) (r:=((aO==0) != (decide ((vl14.getD aa 0)<9)))) rfl rfl (fun hb=>gd_of (c:=!((aN==0) != ((decide (0<(vl14.getD aa 0)))&&(decide ((vl14.getD aa 0)<13))))) (by first | exact hb | (rw [hb]; rfl) | (rw [hg,hb]; rfl) | simp_all) (B ((aO==0) != (decide ((vl14.getD aa 0)<9))))))<|zM (B (((aN==0) != ((decide (0<(vl14.getD aa 0)))&&(decide ((vl14.getD aa 0)<13))))||((aO==0) != (decide ((vl14.getD aa 0)<9))))) rfl<|g_val (!(((aN==0) != ((decide (0<(vl14.getD aa 0)))&&(decide ((vl14.getD aa 0)<13))))||((aO==0) != (decide ((vl14.getD aa 0)<9))))) (gy_f rfl) (fun hg=>x_ld (v:=.agg #[aQ,aR,aS,aT,I bg,I bh,cp]) rfl (ldb_ag (ds:=[aQ,aR,aS,aT,I bg,I bh,cp]) Ag29 Sz29 (H.bl 13) rfl rfl)) ?_;obtain ⟨bb,tu,hM⟩:=M.e_bind hM;refine t_gcall (!(((aN==0) != ((decide (0<(vl14.getD aa 0)))&&(decide ((vl14.getD aa 0)<13))))||((aO==0) != (decide ((vl14.getD aa 0)<9))))) (gy_f rfl) cf9 (I bb) (fun _=>[.agg #[aQ,aR,aS,aT,I bg,I bh,cp]]) (fun hg=>lst1 (gd_of hg (.agg #[aQ,aR,aS,aT,I bg,I bh,cp]))) H (fun hg=>(zaK cd ce cf cg bg bh eg (rdo 17) (H.os 17) (rdo 18) (H.os 18) (rdo 19) (H.os 19) (rdo 20) (H.os 20) (Reads.sup (rdo 4) (Reads.of (k:=5) rfl roLe)) (rowSl rfl (H.get (k:=4) rfl) (roLe _ (H.get (k:=5) rfl)) ei) (M.e_opt tu hg) _ (H.give (A:=[]) rfl)).mono fun v_ w_ ⟨y_,ag,ai,H_⟩=>by subst ag; exact ⟨ai,H.via H_⟩) ?_;intro FN H;refine g_val (!(((aN==0) != ((decide (0<(vl14.getD aa 0)))&&(decide ((vl14.getD aa 0)<13))))||((aO==0) != (decide ((vl14.getD aa 0)<9))))) (gy_f rfl) (fun hg=>x_cmp (kd:=.i64) (r:=bb==0) (gd_of hg (I bb)) rfl rfl)<|g_val (!(((aN==0) != ((decide (0<(vl14.getD aa 0)))&&(decide ((vl14.getD aa 0)<13))))||((aO==0) != (decide ((vl14.getD aa 0)<9))))) (gy_f rfl) (fun hg=>x_mv (v:=I (vl14.getD aa 0)) rfl)<|g_val (!(((aN==0) != ((decide (0<(vl14.getD aa 0)))&&(decide ((vl14.getD aa 0)<13))))||((aO==0) != (decide ((vl14.getD aa 0)<9))))) (gy_f rfl) (fun hg=>x_cmp (kd:=.i64) (r:=decide ((vl14.getD aa 0)<21)) (gd_of hg (I (vl14.getD aa 0))) rfl rfl)<|g_val (!(((aN==0) != ((decide (0<(vl14.getD aa 0)))&&(decide ((vl14.getD aa 0)<13))))||((aO==0) != (decide ((vl14.getD aa 0)<9))))) (gy_f rfl) (fun hg=>x_eqb (a:=bb==0) (b:=decide ((vl14.getD aa 0)<21)) (r:=((bb==0) != (decide ((vl14.getD aa 0)<21)))) (gd_of hg (B (bb==0))) (gd_of hg (B (decide ((vl14.getD aa 0)<21)))) Tryz.underlying4 rfl)<|s_val (x_por (b:=(((aN==0) != ((decide (0<(vl14.getD aa 0)))&&(decide ((vl14.getD aa 0)<13))))||((aO==0) != (decide ((vl14.getD aa 0)<9))))) (r:=((bb==0) != (decide ((vl14.getD aa 0)<21)))) rfl rfl (fun hb=>gd_of (c:=!(((aN==0) != ((decide (0<(vl14.getD aa 0)))&&(decide ((vl14.getD aa 0)<13))))||((aO==0) != (decide ((vl14.getD aa 0)<9))))) (by first | exact hb | (rw [hb]; rfl) | (rw [hg,hb]; rfl) | simp_all) (B ((bb==0) != (decide ((vl14.getD aa 0)<21))))))<|zM (B ((((aN==0) != ((decide (0<(vl14.getD aa 0)))&&(decide ((vl14.getD aa 0)<13))))||((aO==0) != (decide ((vl14.getD aa 0)<9))))||((bb==0) != (decide ((vl14.getD aa 0)<21))))) rfl<|g_val (!((((aN==0) != ((decide (0<(vl14.getD aa 0)))&&(decide ((vl14.getD aa 0)<13))))||((aO==0) != (decide ((vl14.getD aa 0)<9))))||((bb==0) != (decide ((vl14.getD aa 0)<21))))) (gy_f rfl) (fun hg=>x_ld (v:=.agg #[bR,bI,bo,aU,I bi,I bj,.slice none 0 0]) rfl (ldb_ag (ds:=[bR,bI,bo,aU,I bi,I bj,.slice none 0 0]) Ag29 Sz29 (H.bl 12) rfl rfl)) ?_;obtain ⟨cD,tv,hM⟩:=M.e_bind hM;refine t_gcall (!((((aN==0) != ((decide (0<(vl14.getD aa 0)))&&(decide ((vl14.getD aa 0)<13))))||((aO==0) != (decide ((vl14.getD aa 0)<9))))||((bb==0) != (decide ((vl14.getD aa 0)<21))))) (gy_f rfl) cf9 (I cD) (fun _=>[.agg #[bR,bI,bo,aU,I bi,I bj,.slice none 0 0]]) (fun hg=>lst1 (gd_of hg (.agg #[bR,bI,bo,aU,I bi,I bj,.slice none 0 0]))) H (fun hg=>(zaK bB bL aV ci bi bj ([]:List Flood) (rdo 8) (H.os 8) (rdo 7) (H.os 7) (rdo 6) (H.os 6) (rdo 16) (H.os 16) Reads.none (Sl.nil (fun _=>none)) (M.e_opt tv hg) _ (H.give (A:=[]) rfl)).mono fun v_ w_ ⟨y_,ag,ai,H_⟩=>by subst ag; exact ⟨ai,H.via H_⟩) ?_;intro FO H;refine g_val (!((((aN==0) != ((decide (0<(vl14.getD aa 0)))&&(decide ((vl14.getD aa 0)<13))))||((aO==0) != (decide ((vl14.getD aa 0)<9))))||((bb==0) != (decide ((vl14.getD aa 0)<21))))) (gy_f rfl) (fun hg=>x_cmp (kd:=.i64) (r:=cD==0) (gd_of hg (I cD)) rfl rfl)<|g_val (!((((aN==0) != ((decide (0<(vl14.getD aa 0)))&&(decide ((vl14.getD aa 0)<13))))||((aO==0) != (decide ((vl14.getD aa 0)<9))))||((bb==0) != (decide ((vl14.getD aa 0)<21))))) (gy_f rfl) (fun hg=>x_mv (v:=I (vl14.getD aa 0)) rfl)<|g_val (!((((aN==0) != ((decide (0<(vl14.getD aa 0)))&&(decide ((vl14.getD aa 0)<13))))||((aO==0) != (decide ((vl14.getD aa 0)<9))))||((bb==0) != (decide ((vl14.getD aa 0)<21))))) (gy_f rfl) (fun hg=>x_cmp (kd:=.i64) (r:=decide (0<(vl14.getD aa 0))) (gd_of hg (I (vl14.getD aa 0))) rfl rfl)<|g_val (!((((aN==0) != ((decide (0<(vl14.getD aa 0)))&&(decide ((vl14.getD aa 0)<13))))||((aO==0) != (decide ((vl14.getD aa 0)<9))))||((bb==0) != (decide ((vl14.getD aa 0)<21))))) (gy_f rfl) (fun hg=>x_mv (v:=B (decide (0<(vl14.getD aa 0)))) (gd_of hg (B (decide (0<(vl14.getD aa 0))))))<|g_val ((!((((aN==0) != ((decide (0<(vl14.getD aa 0)))&&(decide ((vl14.getD aa 0)<13))))||((aO==0) != (decide ((vl14.getD aa 0)<9))))||((bb==0) != (decide ((vl14.getD aa 0)<21)))))&&(decide (0<(vl14.getD aa 0)))) (gy_gt rfl rfl) (fun hg=>x_mv (v:=I (vl14.getD aa 0)) rfl)<|g_val ((!((((aN==0) != ((decide (0<(vl14.getD aa 0)))&&(decide ((vl14.getD aa 0)<13))))||((aO==0) != (decide ((vl14.getD aa 0)<9))))||((bb==0) != (decide ((vl14.getD aa 0)<21)))))&&(decide (0<(vl14.getD aa 0)))) (gy_gt rfl rfl) (fun hg=>x_cmp (kd:=.i64) (r:=decide ((vl14.getD aa 0)<9)) (gd_of hg (I (vl14.getD aa 0))) rfl rfl)<|g_val (!((((aN==0) != ((decide (0<(vl14.getD aa 0)))&&(decide ((vl14.getD aa 0)<13))))||((aO==0) != (decide ((vl14.getD aa 0)<9))))||((bb==0) != (decide ((vl14.getD aa 0)<21))))) (gy_f rfl) (fun hg=>x_pand (b:=decide (0<(vl14.getD aa 0))) (r:=decide ((vl14.getD aa 0)<9)) (gd_of hg (B (decide (0<(vl14.getD aa 0))))) (fun hb=>gd_of (c:=((!((((aN==0) != ((decide (0<(vl14.getD aa 0)))&&(decide ((vl14.getD aa 0)<13))))||((aO==0) != (decide ((vl14.getD aa 0)<9))))||((bb==0) != (decide ((vl14.getD aa 0)<21)))))&&(decide (0<(vl14.getD aa 0))))) (by first | exact hb | (rw [hb]; rfl) | (rw [hg,hb]; rfl) | simp_all) (B (decide ((vl14.getD aa 0)<9)))) rfl)<|g_val (!((((aN==0) != ((decide (0<(vl14.getD aa 0)))&&(decide ((vl14.getD aa 0)<13))))||((aO==0) != (decide ((vl14.getD aa 0)<9))))||((bb==0) != (decide ((vl14.getD aa 0)<21))))) (gy_f rfl) (fun hg=>x_eqb (a:=cD==0) (b:=((decide (0<(vl14.getD aa 0)))&&(decide ((vl14.getD aa 0)<9)))) (r:=((cD==0) != ((decide (0<(vl14.getD aa 0)))&&(decide ((vl14.getD aa 0)<9))))) (gd_of hg (B (cD==0))) (gd_of hg (B ((decide (0<(vl14.getD aa 0)))&&(decide ((vl14.getD aa 0)<9))))) Tryz.underlying4 rfl)<|s_val (x_por (b:=((((aN==0) != ((decide (0<(vl14.getD aa 0)))&&(decide ((vl14.getD aa 0)<13))))||((aO==0) != (decide ((vl14.getD aa 0)<9))))||((bb==0) != (decide ((vl14.getD aa 0)<21))))) (r:=((cD==0) != ((decide (0<(vl14.getD aa 0)))&&(decide ((vl14.getD aa 0)<9))))) rfl rfl (fun hb=>gd_of (c:=!((((aN==0) != ((decide (0<(vl14.getD aa 0)))&&(decide ((vl14.getD aa 0)<13))))||((aO==0) != (decide ((vl14.getD aa 0)<9))))||((bb==0) != (decide ((vl14.getD aa 0)<21))))) (by first | exact hb | (rw [hb]; rfl) | (rw [hg,hb]; rfl) | simp_all) (B ((cD==0) != ((decide (0<(vl14.getD aa 0)))&&(decide ((vl14.getD aa 0)<9)))))))<|s_nil ?_
  replace H:=H.er 26 |>.er 15 |>.er 14 |>.er 13 |>.er 12 |>.er 11 |>.er 10
  refine W.cond (((((aN==0) != ((decide (0<(vl14.getD aa 0)))&&(decide ((vl14.getD aa 0)<13))))||((aO==0) != (decide ((vl14.getD aa 0)<9))))||((bb==0) != (decide ((vl14.getD aa 0)<21))))||((cD==0) != ((decide (0<(vl14.getD aa 0)))&&(decide ((vl14.getD aa 0)<9))))) rfl (fun js=>?_) (fun js=>?_)
  ·replace hM:=M.e_t hM js;refine kg 4 ?_;replace H:=H.dp 20;refine W.ret ?_
   have tw:=M.e_inr hM gA
   subst tw;replace hM:=iG;(try dsimp only at hM)
   have ag:=M.e_pure hM
   exact ⟨_,resE_tmp rfl,⟨false,ag,rfl,(H.pk [])⟩⟩
  replace hM:=M.e_f hM js;refine kg 5 ?_
  exact ⟨rV,rW,aa+1,_,upds_of _ _ ⟨rfl,rfl,rfl,trivial⟩,M.e_inl hM gA,(H.dp 20)⟩
 replace hM:=M.e_f hM dH
 replace dH:=dI dH
 refine W.exit ?_
 have tx:=M.e_inr hM gA
 subst tx;replace hM:=iG;(try dsimp only at hM);replace H:=H.pk [];obtain ⟨FP,hM⟩:=M.e_gd hM;refine kg 2 ?_;refine t_mk (α:=Dem) T33 (default:Dem) rfl (n:=65) H rfl rfl (by omega) (by omega) (by omega) ?_;intro dT FQ H;replace H:=H.nf;refine kg 3 ?_;refine W.drawT (fun W=>St w W [cOwn (α:=Dem) 32 dT (List.replicate 65 (default:Dem))] R) (.q 1 (.q 3 (.l2 0 (.l 2 (.l 4 (.q 5 (.q 7 (.q 9 (.q 10 (.l2 6 (.l 8 (.l 11 (.q 12 (.q 13 (.q 14 (.l 15 (.q 16 (.q 17 (.q 18 (.q 19 (.l 20 (.q 21 (.q 22 (.q 23 (.l 24 (.q 25 (.q 26 (.l 27 (.q 28 (.q 29 .nil)))))))))))))))))))) 8 (.l 6 (.l 11 (.q 12 (.q 13 (.q 14 (.l 15 (.q 16 (.q 17 (.q 18 (.q 19 (.l 20 (.q 21 (.q 22 (.q 23 (.l 24 (.q 25 (.q 26 (.l 27 (.q 28 (.q 29 .nil))))))))))))))))))))))))))) 2 (.l 0 (.l 4 (.q 5 (.q 7 (.q 9 (.q 10 (.l2 6 (.l 8 (.l 11 (.q 12 (.q 13 (.q 14 (.l 15 (.q 16 (.q 17 (.q 18 (.q 19 (.l 20 (.q 21 (.q 22 (.q 23 (.l 24 (.q 25 (.q 26 (.l 27 (.q 28 (.q 29 .nil)))))))))))))))))))) 8 (.l 6 (.l 11 (.q 12 (.q 13 (.q 14 (.l 15 (.q 16 (.q 17 (.q 18 (.q 19 (.l 20 (.q 21 (.q 22 (.q 23 (.l 24 (.q 25 (.q 26 (.l 27 (.q 28 (.q 29 .nil)))))))))))))))))))))))))))))) mixed (by decide +kernel) rfl ?_;intro FS ao;replace H:=H.ext ao;clear ao
 refine ⟨(H.pk [0]),?_⟩
 refine t_q rfl (fun w' H=>x_bld (ps:=[]) (zs:=[I 0,I 0]) (L':=[I 0,I 0]) rfl Tryz.underlying32 Al32 rfl (Bd32 Tryz.underlying32) (.nil)) ?_;refine kg 1 ?_;refine t_l2 rfl rfl ?_ ?_
 ·skip
  obtain ⟨FT,tz,hM⟩:=M.e_bind hM;refine s_call cf4 [I 1] rfl (zac 1 tz _ (H.gt 1)) ?_
  rintro vq FU ⟨jt,ju,jv,jw,fK,fL,jx,jy,jz,jA,jC,jD,tA,tB,rfl,hvq,ak,tC⟩
  subst vq;(try dsimp only at hM);replace H:=H.bk ak;clear ak
  have FV:=Sl.cells (H.os 0)
  have FW:=Sl.oc (H.os 0)
  have FX:=ownSl (H.get (k:=0) rfl)
  have FY:=Sl.cells (H.os 1)
  have FZ:=Sl.oc (H.os 1)
  have F0:=ownSl (H.get (k:=1) rfl)
  have F1:=Sl.cells (H.os 2)
  have F2:=Sl.oc (H.os 2)
  have F3:=ownSl (H.get (k:=2) rfl)
  have F4:=Sl.cells (H.os 3)
  have F5:=Sl.oc (H.os 3)
  have F6:=ownSl (H.get (k:=3) rfl)
  have F7:=Sl.cells (H.os 4)
  have F8:=Sl.oc (H.os 4)
  have F9:=ownSl (H.get (k:=4) rfl)
  refine s_nil ⟨(H.pk [6]),?_⟩
  refine t_l rfl ?_;refine t_bs (α:=Int) T22 [I 2] [(2:Int)] H rfl (.cons rfl (Flat.rep_enc _ (2:Int))<|.nil) rfl rfl rfl ?_;intro tD Ga H
  have Gb:=Sl.cells (H.os 0)
  have Gc:=Sl.oc (H.os 0)
  have Gd:=ownSl (H.get (k:=0) rfl)
  refine s_nil ⟨(H.pk [7]),?_⟩
  refine t_l rfl ?_;obtain ⟨Ge,tE,hM⟩:=M.e_bind hM;refine s_call cf6 [.agg #[jy,jz,jA,jC,I fK,I fL,jD],.agg #[I 0,I 0],tD,I 1,dT] rfl (zae jt ju jv jw fK fL jx (⟨(0:Int),(0:Int)⟩:Dem) ([(2:Int)]) 1 (List.replicate 65 (default:Dem)) (rdo 1) (H.os 1) (rdo 2) (H.os 2) (rdo 3) (H.os 3) (rdo 4) (H.os 4) (Reads.sup (rdo 5) (Reads.of (k:=6) rfl roLe)) (rowSl rfl (H.get (k:=5) rfl) (roLe _ (H.get (k:=6) rfl)) tC) (rdo 0) (H.os 0) (rdo 7) (H.os 7) tE _ (H.gt 8)) ?_
  rintro vq Gf ⟨ab,rfl,hvq,ak⟩
  subst vq;(try dsimp only at hM);replace H:=H.bk ak;clear ak
  refine s_nil ⟨(H.pk [7]),?_⟩
  refine kg 1 ?_;refine t_qg ab rfl (gy_t rfl) (fun hg=>(fun w' H=>x_bld (ps:=[]) (zs:=[I 0,I 0]) (L':=[I 0,I 0]) rfl Tryz.underlying32 Al32 rfl (Bd32 Tryz.underlying32) (.nil))) ?_;obtain ⟨fM,hM⟩:=M.e_grd hM
  replace fM:=M.imp_of fM
  simp only [Bool.and_eq_true,decide_eq_true_eq] at fM
  refine kg 1 ?_
  obtain ⟨cw,tF,em⟩:=gd_ex (c:=ab) fun hg=>sl_hi T33.und T33.size (H.os 7) (j:=64) (by have ba:=fM.resolve_left (by rw [hg]; decide); first | exact ba | exact ba.1 | exact ba.2 | omega | (have ao:=hg; simp at ao; omega)) (by have ba:=fM.resolve_left (by rw [hg]; decide); first | exact ba | exact ba.1 | exact ba.2 | omega | (have ao:=hg; simp at ao; omega))
  replace em:ab=true->Sl _ cw ((List.replicate 65 (default:Dem)).take 64):=em
  refine t_qg ab rfl (gy_t rfl) (fun hg=>(fun w' H=>x_sl (v:=dT) (u:=cw) (lo':=none) (hi':=some (I 64)) (mx':=none) (gd_of hg (dT)) rfl rfl rfl (tF hg _))) ?_;refine t_l2 rfl rfl ?_ ?_
  ·skip
   refine g_splitV ab (.agg #[.slice none 0 0,.slice none 0 0,.slice none 0 0,.slice none 0 0,I 0,I 0,.slice none 0 0]) (gy_t rfl) (fun bS=>?_) (fun bS=>?_)
   ·replace hM:=M.e_t hM bS;obtain ⟨Gg,tG,hM⟩:=M.e_bind hM;refine s_call cf4 [I 1] rfl (zac 1 tG _ (H.gt 8)) ?_
    rintro vq Gh ⟨dU,dV,dW,dX,cq,cr,dY,dZ,d0,d1,d2,d3,jF,jH,rfl,hvq,ak,tH⟩
    subst vq;(try dsimp only at hM);replace H:=H.bk ak;clear ak
    have Gi:=Sl.cells (H.os 0)
    have Gj:=Sl.oc (H.os 0)
    have Gk:=ownSl (H.get (k:=0) rfl)
    have Gl:=Sl.cells (H.os 1)
    have Gm:=Sl.oc (H.os 1)
    have Gn:=ownSl (H.get (k:=1) rfl)
    have Gp:=Sl.cells (H.os 2)
    have Gq:=Sl.oc (H.os 2)
    have Gr:=ownSl (H.get (k:=2) rfl)
    have Gs:=Sl.cells (H.os 3)
    have Gt:=Sl.oc (H.os 3)
    have Gu:=ownSl (H.get (k:=3) rfl)
    have Gv:=Sl.cells (H.os 4)
    have Gw:=Sl.oc (H.os 4)
    have Gx:=ownSl (H.get (k:=4) rfl)
    refine s_nil ⟨(H.dp 13),?_⟩
    refine t_l rfl ?_;refine t_gbs (α:=Int) T22 ab (gy_t rfl) [I 2] [(2:Int)] H (fun _=>rfl) (.cons rfl (Flat.rep_enc _ (2:Int))<|.nil) rfl rfl rfl ?_;intro lf fN Gy H tI
    refine s_nil ⟨(H.dp 14),?_⟩
    refine t_l rfl ?_;obtain ⟨ac,tJ,hM⟩:=M.e_bind hM;refine t_gcall ab (gy_t rfl) cf6 (B ac) (fun _=>[.agg #[dZ,d0,d1,d2,I cq,I cr,d3],.agg #[I 0,I 0],lf,I 1,cw]) (fun hg=>lst5 rfl (gd_of hg (.agg #[I 0,I 0])) (gd_of hg (lf)) rfl (gd_of hg (cw))) H (fun hg=>(zae dU dV dW dX cq cr dY (⟨(0:Int),(0:Int)⟩:Dem) ([(2:Int)]) 1 ((List.replicate 65 (default:Dem)).take 64) (rdo 1) (H.os 1) (rdo 2) (H.os 2) (rdo 3) (H.os 3) (rdo 4) (H.os 4) (Reads.sup (rdo 5) (Reads.of (k:=6) rfl roLe)) (rowSl rfl (H.get (k:=5) rfl) (roLe _ (H.get (k:=6) rfl)) tH) (Reads.of (k:=0) rfl roLe) (tI hg) (rdo 14) (em hg) (M.e_opt tJ hg) _ (H.give (A:=[]) rfl)).mono fun v_ w_ ⟨y_,ag,ai,H_⟩=>by subst ag; exact ⟨ai,H.via H_⟩) ?_;intro Gz H
    refine s_nil ⟨(H.dp 14),?_⟩
    refine t_q rfl (fun w' H=>x_pand (b:=ab) (r:=ac) rfl (fun hb=>gd_of (c:=ab) (by first | exact hb | (rw [hb]; rfl) | (rw [hg,hb]; rfl) | simp_all) (B ac)) rfl) ?_;refine kg 1 ?_;refine t_qg (ab&&ac) rfl (gy_t rfl) (fun hg=>(fun w' H=>x_bld (ps:=[]) (zs:=[.slice none 0 0,.slice none 0 0,.slice none 0 0,.slice none 0 0,I 0,I 0,.slice none 0 0]) (L':=[.slice none 0 0,.slice none 0 0,.slice none 0 0,.slice none 0 0,I 0,I 0,.slice none 0 0]) rfl Tryz.underlying29 Al29 rfl (Bd29 Tryz.underlying29) (.nil)))<|t_l rfl ?_;obtain ⟨ae,tK,hM⟩:=M.e_bind hM;refine t_gcall (ab&&ac) (gy_t rfl) cf5 (B ae) (fun _=>[.agg #[.slice none 0 0,.slice none 0 0,.slice none 0 0,.slice none 0 0,I 0,I 0,.slice none 0 0],I 0,I 0,I 0]) (fun hg=>lst4 (gd_of hg (.agg #[.slice none 0 0,.slice none 0 0,.slice none 0 0,.slice none 0 0,I 0,I 0,.slice none 0 0])) rfl rfl rfl) H (fun hg=>(zaq ([]:List Int) ([]:List Span) ([]:List Int) ([]:List Town) 0 0 ([]:List Flood) 0 0 0 Reads.none (Sl.nil (fun _=>none)) Reads.none (Sl.nil (fun _=>none)) Reads.none (Sl.nil (fun _=>none)) Reads.none (Sl.nil (fun _=>none)) Reads.none (Sl.nil (fun _=>none)) (M.e_opt tK hg) _ (H.give (A:=[]) rfl)).mono fun v_ w_ ⟨y_,ag,ai,H_⟩=>by subst ag; exact ⟨ai,H.via H_⟩) ?_;intro GA H
    refine s_nil ⟨(H.dp 14),?_⟩
    refine t_q rfl (fun w' H=>x_pand (b:=(ab&&ac)) (r:=ae) rfl (fun hb=>gd_of (c:=(ab&&ac)) (by first | exact hb | (rw [hb]; rfl) | (rw [hg,hb]; rfl) | simp_all) (B ae)) rfl) ?_;refine kg 1 ?_;refine t_qg ((ab&&ac)&&ae) rfl (gy_t rfl) (fun hg=>(fun w' H=>x_bld (ps:=[]) (zs:=[.slice none 0 0,.slice none 0 0,.slice none 0 0,.slice none 0 0,I 0,I 0,.slice none 0 0]) (L':=[.slice none 0 0,.slice none 0 0,.slice none 0 0,.slice none 0 0,I 0,I 0,.slice none 0 0]) rfl Tryz.underlying29 Al29 rfl (Bd29 Tryz.underlying29) (.nil)))<|t_qg ((ab&&ac)&&ae) rfl (gy_t rfl) (fun hg=>(fun w' H=>x_bld (ps:=[]) (zs:=[I 0,I 0]) (L':=[I 0,I 0]) rfl Tryz.underlying32 Al32 rfl (Bd32 Tryz.underlying32) (.nil)))<|t_l rfl ?_;obtain ⟨aj,tL,hM⟩:=M.e_bind hM;refine t_gcall ((ab&&ac)&&ae) (gy_t rfl) cf6 (B aj) (fun _=>[.agg #[.slice none 0 0,.slice none 0 0,.slice none 0 0,.slice none 0 0,I 0,I 0,.slice none 0 0],.agg #[I 0,I 0],.slice none 0 0,I 0,.slice none 0 0]) (fun hg=>lst5 (gd_of hg (.agg #[.slice none 0 0,.slice none 0 0,.slice none 0 0,.slice none 0 0,I 0,I 0,.slice none 0 0])) (gd_of hg (.agg #[I 0,I 0])) rfl rfl rfl) H (fun hg=>(zae ([]:List Int) ([]:List Span) ([]:List Int) ([]:List Town) 0 0 ([]:List Flood) (⟨(0:Int),(0:Int)⟩:Dem) ([]:List Int) 0 ([]:List Dem) Reads.none (Sl.nil (fun _=>none)) Reads.none (Sl.nil (fun _=>none)) Reads.none (Sl.nil (fun _=>none)) Reads.none (Sl.nil (fun _=>none)) Reads.none (Sl.nil (fun _=>none)) Reads.none (Sl.nil (fun _=>none)) Reads.none (Sl.nil (fun _=>none)) (M.e_opt tL hg) _ (H.give (A:=[]) rfl)).mono fun v_ w_ ⟨y_,ag,ai,H_⟩=>by subst ag; exact ⟨ai,H.via H_⟩) ?_;intro GB H
    refine s_nil ⟨(H.dp 14),?_⟩
    refine t_q rfl (fun w' H=>x_pand (b:=((ab&&ac)&&ae)) (r:=aj) rfl (fun hb=>gd_of (c:=((ab&&ac)&&ae)) (by first | exact hb | (rw [hb]; rfl) | (rw [hg,hb]; rfl) | simp_all) (B aj)) rfl) ?_;refine kg 1 ?_;refine t_qg (((ab&&ac)&&ae)&&aj) rfl (gy_t rfl) (fun hg=>(fun w' H=>x_bld (ps:=[]) (zs:=[.slice none 0 0,.slice none 0 0,.slice none 0 0,.slice none 0 0,I 0,I 0,.slice none 0 0]) (L':=[.slice none 0 0,.slice none 0 0,.slice none 0 0,.slice none 0 0,I 0,I 0,.slice none 0 0]) rfl Tryz.underlying29 Al29 rfl (Bd29 Tryz.underlying29) (.nil)))<|t_l rfl ?_;obtain ⟨al,tM,hM⟩:=M.e_bind hM;refine t_gcall (((ab&&ac)&&ae)&&aj) (gy_t rfl) cf7 (B al) (fun _=>[.agg #[.slice none 0 0,.slice none 0 0,.slice none 0 0,.slice none 0 0,I 0,I 0,.slice none 0 0],.slice none 0 0,I 0,.slice none 0 0]) (fun hg=>lst4 (gd_of hg (.agg #[.slice none 0 0,.slice none 0 0,.slice none 0 0,.slice none 0 0,I 0,I 0,.slice none 0 0])) rfl rfl rfl) H (fun hg=>(zar ([]:List Int) ([]:List Span) ([]:List Int) ([]:List Town) 0 0 ([]:List Flood) ([]:List Int) 0 ([]:List Int) Reads.none (Sl.nil (fun _=>none)) Reads.none (Sl.nil (fun _=>none)) Reads.none (Sl.nil (fun _=>none)) Reads.none (Sl.nil (fun _=>none)) Reads.none (Sl.nil (fun _=>none)) Reads.none (Sl.nil (fun _=>none)) Reads.none (Sl.nil (fun _=>none)) (M.e_opt tM hg) _ (H.give (A:=[]) rfl)).mono fun v_ w_ ⟨y_,ag,ai,H_⟩=>by subst ag; exact ⟨ai,H.via H_⟩) ?_;intro GC H
    refine s_nil ⟨(H.dp 14),?_⟩
    refine t_q rfl (fun w' H=>x_pand (b:=(((ab&&ac)&&ae)&&aj)) (r:=al) rfl (fun hb=>gd_of (c:=(((ab&&ac)&&ae)&&aj)) (by first | exact hb | (rw [hb]; rfl) | (rw [hg,hb]; rfl) | simp_all) (B al)) rfl) ?_;refine kg 1 ?_;refine t_l rfl ?_;obtain ⟨aq,tN,hM⟩:=M.e_bind hM;refine t_gcall ((((ab&&ac)&&ae)&&aj)&&al) (gy_t rfl) cf10 (B aq) (fun _=>[]) (fun _=>rfl) H (fun hg=>(zao (M.e_opt tN hg) _ (H.give (A:=[]) rfl)).mono fun v_ w_ ⟨y_,ag,ai,H_⟩=>by subst ag; exact ⟨ai,H.via H_⟩) ?_;intro GD H
    refine s_nil ⟨(H.dp 14),?_⟩
    refine t_q rfl (fun w' H=>x_pand (b:=((((ab&&ac)&&ae)&&aj)&&al)) (r:=aq) rfl (fun hb=>gd_of (c:=((((ab&&ac)&&ae)&&aj)&&al)) (by first | exact hb | (rw [hb]; rfl) | (rw [hg,hb]; rfl) | simp_all) (B aq)) rfl) ?_;refine kg 2 ?_;replace H:=H.dp 15;refine W.ret ?_
    have ag:=M.e_pure hM
    exact ⟨_,resE_tmp rfl,⟨(((((ab&&ac)&&ae)&&aj)&&al)&&aq),ag,rfl,H⟩⟩
   replace hM:=M.e_f hM bS
   refine s_nil ⟨(H.pk [7]),?_⟩
   refine t_l rfl ?_;refine t_gbs (α:=Int) T22 ab (gy_t rfl) [I 2] [(2:Int)] H (fun _=>rfl) (.cons rfl (Flat.rep_enc _ (2:Int))<|.nil) rfl rfl rfl ?_;intro lg fN GE H tO
   refine s_nil ⟨(H.dp 8),?_⟩
   refine t_l rfl ?_;obtain ⟨ac,tP,hM⟩:=M.e_bind hM;refine t_gcall ab (gy_t rfl) cf6 (B ac) (fun _=>[.agg #[.slice none 0 0,.slice none 0 0,.slice none 0 0,.slice none 0 0,I 0,I 0,.slice none 0 0],.agg #[I 0,I 0],lg,I 1,cw]) (fun hg=>lst5 (gd_of hg (.agg #[.slice none 0 0,.slice none 0 0,.slice none 0 0,.slice none 0 0,I 0,I 0,.slice none 0 0])) (gd_of hg (.agg #[I 0,I 0])) (gd_of hg (lg)) rfl (gd_of hg (cw))) H (fun hg=>(zae ([]:List Int) ([]:List Span) ([]:List Int) ([]:List Town) 0 0 ([]:List Flood) (⟨(0:Int),(0:Int)⟩:Dem) ([(2:Int)]) 1 ((List.replicate 65 (default:Dem)).take 64) Reads.none (Sl.nil (fun _=>none)) Reads.none (Sl.nil (fun _=>none)) Reads.none (Sl.nil (fun _=>none)) Reads.none (Sl.nil (fun _=>none)) Reads.none (Sl.nil (fun _=>none)) (Reads.of (k:=0) rfl roLe) (tO hg) (rdo 8) (em hg) (M.e_opt tP hg) _ (H.give (A:=[]) rfl)).mono fun v_ w_ ⟨y_,ag,ai,H_⟩=>by subst ag; exact ⟨ai,H.via H_⟩) ?_;intro GF H
   refine s_nil ⟨(H.dp 8),?_⟩
   refine t_q rfl (fun w' H=>x_pand (b:=ab) (r:=ac) rfl (fun hb=>gd_of (c:=ab) (by first | exact hb | (rw [hb]; rfl) | (rw [hg,hb]; rfl) | simp_all) (B ac)) rfl) ?_;refine kg 1 ?_;refine t_qg (ab&&ac) rfl (gy_t rfl) (fun hg=>(fun w' H=>x_bld (ps:=[]) (zs:=[.slice none 0 0,.slice none 0 0,.slice none 0 0,.slice none 0 0,I 0,I 0,.slice none 0 0]) (L':=[.slice none 0 0,.slice none 0 0,.slice none 0 0,.slice none 0 0,I 0,I 0,.slice none 0 0]) rfl Tryz.underlying29 Al29 rfl (Bd29 Tryz.underlying29) (.nil)))<|t_l rfl ?_;obtain ⟨ae,tQ,hM⟩:=M.e_bind hM;refine t_gcall (ab&&ac) (gy_t rfl) cf5 (B ae) (fun _=>[.agg #[.slice none 0 0,.slice none 0 0,.slice none 0 0,.slice none 0 0,I 0,I 0,.slice none 0 0],I 0,I 0,I 0]) (fun hg=>lst4 (gd_of hg (.agg #[.slice none 0 0,.slice none 0 0,.slice none 0 0,.slice none 0 0,I 0,I 0,.slice none 0 0])) rfl rfl rfl) H (fun hg=>(zaq ([]:List Int) ([]:List Span) ([]:List Int) ([]:List Town) 0 0 ([]:List Flood) 0 0 0 Reads.none (Sl.nil (fun _=>none)) Reads.none (Sl.nil (fun _=>none)) Reads.none (Sl.nil (fun _=>none)) Reads.none (Sl.nil (fun _=>none)) Reads.none (Sl.nil (fun _=>none)) (M.e_opt tQ hg) _ (H.give (A:=[]) rfl)).mono fun v_ w_ ⟨y_,ag,ai,H_⟩=>by subst ag; exact ⟨ai,H.via H_⟩) ?_;intro GG H
   refine s_nil ⟨(H.dp 8),?_⟩
   refine t_q rfl (fun w' H=>x_pand (b:=(ab&&ac)) (r:=ae) rfl (fun hb=>gd_of (c:=(ab&&ac)) (by first | exact hb | (rw [hb]; rfl) | (rw [hg,hb]; rfl) | simp_all) (B ae)) rfl) ?_;refine kg 1 ?_;refine t_qg ((ab&&ac)&&ae) rfl (gy_t rfl) (fun hg=>(fun w' H=>x_bld (ps:=[]) (zs:=[.slice none 0 0,.slice none 0 0,.slice none 0 0,.slice none 0 0,I 0,I 0,.slice none 0 0]) (L':=[.slice none 0 0,.slice none 0 0,.slice none 0 0,.slice none 0 0,I 0,I 0,.slice none 0 0]) rfl Tryz.underlying29 Al29 rfl (Bd29 Tryz.underlying29) (.nil)))<|t_qg ((ab&&ac)&&ae) rfl (gy_t rfl) (fun hg=>(fun w' H=>x_bld (ps:=[]) (zs:=[I 0,I 0]) (L':=[I 0,I 0]) rfl Tryz.underlying32 Al32 rfl (Bd32 Tryz.underlying32) (.nil)))<|t_l rfl ?_;obtain ⟨aj,tR,hM⟩:=M.e_bind hM;refine t_gcall ((ab&&ac)&&ae) (gy_t rfl) cf6 (B aj) (fun _=>[.agg #[.slice none 0 0,.slice none 0 0,.slice none 0 0,.slice none 0 0,I 0,I 0,.slice none 0 0],.agg #[I 0,I 0],.slice none 0 0,I 0,.slice none 0 0]) (fun hg=>lst5 (gd_of hg (.agg #[.slice none 0 0,.slice none 0 0,.slice none 0 0,.slice none 0 0,I 0,I 0,.slice none 0 0])) (gd_of hg (.agg #[I 0,I 0])) rfl rfl rfl) H (fun hg=>(zae ([]:List Int) ([]:List Span) ([]:List Int) ([]:List Town) 0 0 ([]:List Flood) (⟨(0:Int),(0:Int)⟩:Dem) ([]:List Int) 0 ([]:List Dem) Reads.none (Sl.nil (fun _=>none)) Reads.none (Sl.nil (fun _=>none)) Reads.none (Sl.nil (fun _=>none)) Reads.none (Sl.nil (fun _=>none)) Reads.none (Sl.nil (fun _=>none)) Reads.none (Sl.nil (fun _=>none)) Reads.none (Sl.nil (fun _=>none)) (M.e_opt tR hg) _ (H.give (A:=[]) rfl)).mono fun v_ w_ ⟨y_,ag,ai,H_⟩=>by subst ag; exact ⟨ai,H.via H_⟩) ?_;intro GH H
   refine s_nil ⟨(H.dp 8),?_⟩
   refine t_q rfl (fun w' H=>x_pand (b:=((ab&&ac)&&ae)) (r:=aj) rfl (fun hb=>gd_of (c:=((ab&&ac)&&ae)) (by first | exact hb | (rw [hb]; rfl) | (rw [hg,hb]; rfl) | simp_all) (B aj)) rfl) ?_;refine kg 1 ?_;refine t_qg (((ab&&ac)&&ae)&&aj) rfl (gy_t rfl) (fun hg=>(fun w' H=>x_bld (ps:=[]) (zs:=[.slice none 0 0,.slice none 0 0,.slice none 0 0,.slice none 0 0,I 0,I 0,.slice none 0 0]) (L':=[.slice none 0 0,.slice none 0 0,.slice none 0 0,.slice none 0 0,I 0,I 0,.slice none 0 0]) rfl Tryz.underlying29 Al29 rfl (Bd29 Tryz.underlying29) (.nil)))<|t_l rfl ?_;obtain ⟨al,tS,hM⟩:=M.e_bind hM;refine t_gcall (((ab&&ac)&&ae)&&aj) (gy_t rfl) cf7 (B al) (fun _=>[.agg #[.slice none 0 0,.slice none 0 0,.slice none 0 0,.slice none 0 0,I 0,I 0,.slice none 0 0],.slice none 0 0,I 0,.slice none 0 0]) (fun hg=>lst4 (gd_of hg (.agg #[.slice none 0 0,.slice none 0 0,.slice none 0 0,.slice none 0 0,I 0,I 0,.slice none 0 0])) rfl rfl rfl) H (fun hg=>(zar ([]:List Int) ([]:List Span) ([]:List Int) ([]:List Town) 0 0 ([]:List Flood) ([]:List Int) 0 ([]:List Int) Reads.none (Sl.nil (fun _=>none)) Reads.none (Sl.nil (fun _=>none)) Reads.none (Sl.nil (fun _=>none)) Reads.none (Sl.nil (fun _=>none)) Reads.none (Sl.nil (fun _=>none)) Reads.none (Sl.nil (fun _=>none)) Reads.none (Sl.nil (fun _=>none)) (M.e_opt tS hg) _ (H.give (A:=[]) rfl)).mono fun v_ w_ ⟨y_,ag,ai,H_⟩=>by subst ag; exact ⟨ai,H.via H_⟩) ?_;intro GI H
   refine s_nil ⟨(H.dp 8),?_⟩
   refine t_q rfl (fun w' H=>x_pand (b:=(((ab&&ac)&&ae)&&aj)) (r:=al) rfl (fun hb=>gd_of (c:=(((ab&&ac)&&ae)&&aj)) (by first | exact hb | (rw [hb]; rfl) | (rw [hg,hb]; rfl) | simp_all) (B al)) rfl) ?_;refine kg 1 ?_;refine t_l rfl ?_;obtain ⟨aq,tT,hM⟩:=M.e_bind hM;refine t_gcall ((((ab&&ac)&&ae)&&aj)&&al) (gy_t rfl) cf10 (B aq) (fun _=>[]) (fun _=>rfl) H (fun hg=>(zao (M.e_opt tT hg) _ (H.give (A:=[]) rfl)).mono fun v_ w_ ⟨y_,ag,ai,H_⟩=>by subst ag; exact ⟨ai,H.via H_⟩) ?_;intro GJ H
   refine s_nil ⟨(H.dp 8),?_⟩
   refine t_q rfl (fun w' H=>x_pand (b:=((((ab&&ac)&&ae)&&aj)&&al)) (r:=aq) rfl (fun hb=>gd_of (c:=((((ab&&ac)&&ae)&&aj)&&al)) (by first | exact hb | (rw [hb]; rfl) | (rw [hg,hb]; rfl) | simp_all) (B aq)) rfl) ?_;refine kg 2 ?_;replace H:=H.dp 9;refine W.ret ?_
   have ag:=M.e_pure hM
   exact ⟨_,resE_tmp rfl,⟨(((((ab&&ac)&&ae)&&aj)&&al)&&aq),ag,rfl,H⟩⟩
  skip
  refine t_gbs (α:=Int) T22 ab (gy_t rfl) [I 2] [(2:Int)] H (fun _=>rfl) (.cons rfl (Flat.rep_enc _ (2:Int))<|.nil) rfl rfl rfl ?_;intro gE fN GK H lh
  refine s_nil ⟨(H.dp 8),?_⟩
  refine t_l rfl ?_
  refine g_splitV ab (.agg #[.slice none 0 0,.slice none 0 0,.slice none 0 0,.slice none 0 0,I 0,I 0,.slice none 0 0]) (gy_t rfl) (fun bS=>?_) (fun bS=>?_)
  ·replace hM:=M.e_t hM bS;obtain ⟨GL,tU,hM⟩:=M.e_bind hM;refine s_call cf4 [I 1] rfl (zac 1 tU _ (H.gt 9)) ?_
   rintro vq GM ⟨dU,dV,dW,dX,cq,cr,dY,dZ,d0,d1,d2,d3,jF,jH,rfl,hvq,ak,tV⟩
   subst vq;(try dsimp only at hM);replace H:=H.bk ak;clear ak
   have GN:=Sl.cells (H.os 0)
   have GP:=Sl.oc (H.os 0)
   have GQ:=ownSl (H.get (k:=0) rfl)
   have GR:=Sl.cells (H.os 1)
   have GS:=Sl.oc (H.os 1)
   have GT:=ownSl (H.get (k:=1) rfl)
   have GU:=Sl.cells (H.os 2)
   have GV:=Sl.oc (H.os 2)
   have GW:=ownSl (H.get (k:=2) rfl)
   have GX:=Sl.cells (H.os 3)
   have GY:=Sl.oc (H.os 3)
   have GZ:=ownSl (H.get (k:=3) rfl)
   have G0:=Sl.cells (H.os 4)
   have G1:=Sl.oc (H.os 4)
   have G2:=ownSl (H.get (k:=4) rfl)
   refine s_nil ⟨(H.dp 14),?_⟩
   refine t_l rfl ?_;obtain ⟨ac,tW,hM⟩:=M.e_bind hM;refine t_gcall ab (gy_t rfl) cf6 (B ac) (fun _=>[.agg #[dZ,d0,d1,d2,I cq,I cr,d3],.agg #[I 0,I 0],gE,I 1,cw]) (fun hg=>lst5 rfl (gd_of hg (.agg #[I 0,I 0])) (gd_of hg (gE)) rfl (gd_of hg (cw))) H (fun hg=>(zae dU dV dW dX cq cr dY (⟨(0:Int),(0:Int)⟩:Dem) ([(2:Int)]) 1 ((List.replicate 65 (default:Dem)).take 64) (rdo 0) (H.os 0) (rdo 1) (H.os 1) (rdo 2) (H.os 2) (rdo 3) (H.os 3) (Reads.sup (rdo 4) (Reads.of (k:=5) rfl roLe)) (rowSl rfl (H.get (k:=4) rfl) (roLe _ (H.get (k:=5) rfl)) tV) (Reads.of (k:=6) rfl roLe) (lh hg) (rdo 14) (em hg) (M.e_opt tW hg) _ (H.give (A:=[]) rfl)).mono fun v_ w_ ⟨y_,ag,ai,H_⟩=>by subst ag; exact ⟨ai,H.via H_⟩) ?_;intro G3 H
   refine s_nil ⟨(H.dp 14),?_⟩
   refine t_q rfl (fun w' H=>x_pand (b:=ab) (r:=ac) rfl (fun hb=>gd_of (c:=ab) (by first | exact hb | (rw [hb]; rfl) | (rw [hg,hb]; rfl) | simp_all) (B ac)) rfl) ?_;refine kg 1 ?_;refine t_qg (ab&&ac) rfl (gy_t rfl) (fun hg=>(fun w' H=>x_bld (ps:=[]) (zs:=[.slice none 0 0,.slice none 0 0,.slice none 0 0,.slice none 0 0,I 0,I 0,.slice none 0 0]) (L':=[.slice none 0 0,.slice none 0 0,.slice none 0 0,.slice none 0 0,I 0,I 0,.slice none 0 0]) rfl Tryz.underlying29 Al29 rfl (Bd29 Tryz.underlying29) (.nil)))<|t_l rfl ?_;obtain ⟨ae,tX,hM⟩:=M.e_bind hM;refine t_gcall (ab&&ac) (gy_t rfl) cf5 (B ae) (fun _=>[.agg #[.slice none 0 0,.slice none 0 0,.slice none 0 0,.slice none 0 0,I 0,I 0,.slice none 0 0],I 0,I 0,I 0]) (fun hg=>lst4 (gd_of hg (.agg #[.slice none 0 0,.slice none 0 0,.slice none 0 0,.slice none 0 0,I 0,I 0,.slice none 0 0])) rfl rfl rfl) H (fun hg=>(zaq ([]:List Int) ([]:List Span) ([]:List Int) ([]:List Town) 0 0 ([]:List Flood) 0 0 0 Reads.none (Sl.nil (fun _=>none)) Reads.none (Sl.nil (fun _=>none)) Reads.none (Sl.nil (fun _=>none)) Reads.none (Sl.nil (fun _=>none)) Reads.none (Sl.nil (fun _=>none)) (M.e_opt tX hg) _ (H.give (A:=[]) rfl)).mono fun v_ w_ ⟨y_,ag,ai,H_⟩=>by subst ag; exact ⟨ai,H.via H_⟩) ?_;intro G4 H
   refine s_nil ⟨(H.dp 14),?_⟩
   refine t_q rfl (fun w' H=>x_pand (b:=(ab&&ac)) (r:=ae) rfl (fun hb=>gd_of (c:=(ab&&ac)) (by first | exact hb | (rw [hb]; rfl) | (rw [hg,hb]; rfl) | simp_all) (B ae)) rfl) ?_;refine kg 1 ?_;refine t_qg ((ab&&ac)&&ae) rfl (gy_t rfl) (fun hg=>(fun w' H=>x_bld (ps:=[]) (zs:=[.slice none 0 0,.slice none 0 0,.slice none 0 0,.slice none 0 0,I 0,I 0,.slice none 0 0]) (L':=[.slice none 0 0,.slice none 0 0,.slice none 0 0,.slice none 0 0,I 0,I 0,.slice none 0 0]) rfl Tryz.underlying29 Al29 rfl (Bd29 Tryz.underlying29) (.nil)))<|t_qg ((ab&&ac)&&ae) rfl (gy_t rfl) (fun hg=>(fun w' H=>x_bld (ps:=[]) (zs:=[I 0,I 0]) (L':=[I 0,I 0]) rfl Tryz.underlying32 Al32 rfl (Bd32 Tryz.underlying32) (.nil)))<|t_l rfl ?_;obtain ⟨aj,tY,hM⟩:=M.e_bind hM;refine t_gcall ((ab&&ac)&&ae) (gy_t rfl) cf6 (B aj) (fun _=>[.agg #[.slice none 0 0,.slice none 0 0,.slice none 0 0,.slice none 0 0,I 0,I 0,.slice none 0 0],.agg #[I 0,I 0],.slice none 0 0,I 0,.slice none 0 0]) (fun hg=>lst5 (gd_of hg (.agg #[.slice none 0 0,.slice none 0 0,.slice none 0 0,.slice none 0 0,I 0,I 0,.slice none 0 0])) (gd_of hg (.agg #[I 0,I 0])) rfl rfl rfl) H (fun hg=>(zae ([]:List Int) ([]:List Span) ([]:List Int) ([]:List Town) 0 0 ([]:List Flood) (⟨(0:Int),(0:Int)⟩:Dem) ([]:List Int) 0 ([]:List Dem) Reads.none (Sl.nil (fun _=>none)) Reads.none (Sl.nil (fun _=>none)) Reads.none (Sl.nil (fun _=>none)) Reads.none (Sl.nil (fun _=>none)) Reads.none (Sl.nil (fun _=>none)) Reads.none (Sl.nil (fun _=>none)) Reads.none (Sl.nil (fun _=>none)) (M.e_opt tY hg) _ (H.give (A:=[]) rfl)).mono fun v_ w_ ⟨y_,ag,ai,H_⟩=>by subst ag; exact ⟨ai,H.via H_⟩) ?_;intro G5 H
   refine s_nil ⟨(H.dp 14),?_⟩
   refine t_q rfl (fun w' H=>x_pand (b:=((ab&&ac)&&ae)) (r:=aj) rfl (fun hb=>gd_of (c:=((ab&&ac)&&ae)) (by first | exact hb | (rw [hb]; rfl) | (rw [hg,hb]; rfl) | simp_all) (B aj)) rfl) ?_;refine kg 1 ?_;refine t_qg (((ab&&ac)&&ae)&&aj) rfl (gy_t rfl) (fun hg=>(fun w' H=>x_bld (ps:=[]) (zs:=[.slice none 0 0,.slice none 0 0,.slice none 0 0,.slice none 0 0,I 0,I 0,.slice none 0 0]) (L':=[.slice none 0 0,.slice none 0 0,.slice none 0 0,.slice none 0 0,I 0,I 0,.slice none 0 0]) rfl Tryz.underlying29 Al29 rfl (Bd29 Tryz.underlying29) (.nil)))<|t_l rfl ?_;obtain ⟨al,tZ,hM⟩:=M.e_bind hM;refine t_gcall (((ab&&ac)&&ae)&&aj) (gy_t rfl) cf7 (B al) (fun _=>[.agg #[.slice none 0 0,.slice none 0 0,.slice none 0 0,.slice none 0 0,I 0,I 0,.slice none 0 0],.slice none 0 0,I 0,.slice none 0 0]) (fun hg=>lst4 (gd_of hg (.agg #[.slice none 0 0,.slice none 0 0,.slice none 0 0,.slice none 0 0,I 0,I 0,.slice none 0 0])) rfl rfl rfl) H (fun hg=>(zar ([]:List Int) ([]:List Span) ([]:List Int) ([]:List Town) 0 0 ([]:List Flood) ([]:List Int) 0 ([]:List Int) Reads.none (Sl.nil (fun _=>none)) Reads.none (Sl.nil (fun _=>none)) Reads.none (Sl.nil (fun _=>none)) Reads.none (Sl.nil (fun _=>none)) Reads.none (Sl.nil (fun _=>none)) Reads.none (Sl.nil (fun _=>none)) Reads.none (Sl.nil (fun _=>none)) (M.e_opt tZ hg) _ (H.give (A:=[]) rfl)).mono fun v_ w_ ⟨y_,ag,ai,H_⟩=>by subst ag; exact ⟨ai,H.via H_⟩) ?_;intro G6 H
   refine s_nil ⟨(H.dp 14),?_⟩
   refine t_q rfl (fun w' H=>x_pand (b:=(((ab&&ac)&&ae)&&aj)) (r:=al) rfl (fun hb=>gd_of (c:=(((ab&&ac)&&ae)&&aj)) (by first | exact hb | (rw [hb]; rfl) | (rw [hg,hb]; rfl) | simp_all) (B al)) rfl) ?_;refine kg 1 ?_;refine t_l rfl ?_;obtain ⟨aq,t1,hM⟩:=M.e_bind hM;refine t_gcall ((((ab&&ac)&&ae)&&aj)&&al) (gy_t rfl) cf10 (B aq) (fun _=>[]) (fun _=>rfl) H (fun hg=>(zao (M.e_opt t1 hg) _ (H.give (A:=[]) rfl)).mono fun v_ w_ ⟨y_,ag,ai,H_⟩=>by subst ag; exact ⟨ai,H.via H_⟩) ?_;intro G7 H
   refine s_nil ⟨(H.dp 14),?_⟩
   refine t_q rfl (fun w' H=>x_pand (b:=((((ab&&ac)&&ae)&&aj)&&al)) (r:=aq) rfl (fun hb=>gd_of (c:=((((ab&&ac)&&ae)&&aj)&&al)) (by first | exact hb | (rw [hb]; rfl) | (rw [hg,hb]; rfl) | simp_all) (B aq)) rfl) ?_;refine kg 2 ?_;replace H:=H.dp 15;refine W.ret ?_
   have ag:=M.e_pure hM
   exact ⟨_,resE_tmp rfl,⟨(((((ab&&ac)&&ae)&&aj)&&al)&&aq),ag,rfl,H⟩⟩
  replace hM:=M.e_f hM bS
  refine s_nil ⟨(H.dp 8),?_⟩
  refine t_l rfl ?_;obtain ⟨ac,t6,hM⟩:=M.e_bind hM;refine t_gcall ab (gy_t rfl) cf6 (B ac) (fun _=>[.agg #[.slice none 0 0,.slice none 0 0,.slice none 0 0,.slice none 0 0,I 0,I 0,.slice none 0 0],.agg #[I 0,I 0],gE,I 1,cw]) (fun hg=>lst5 (gd_of hg (.agg #[.slice none 0 0,.slice none 0 0,.slice none 0 0,.slice none 0 0,I 0,I 0,.slice none 0 0])) (gd_of hg (.agg #[I 0,I 0])) (gd_of hg (gE)) rfl (gd_of hg (cw))) H (fun hg=>(zae ([]:List Int) ([]:List Span) ([]:List Int) ([]:List Town) 0 0 ([]:List Flood) (⟨(0:Int),(0:Int)⟩:Dem) ([(2:Int)]) 1 ((List.replicate 65 (default:Dem)).take 64) Reads.none (Sl.nil (fun _=>none)) Reads.none (Sl.nil (fun _=>none)) Reads.none (Sl.nil (fun _=>none)) Reads.none (Sl.nil (fun _=>none)) Reads.none (Sl.nil (fun _=>none)) (Reads.of (k:=0) rfl roLe) (lh hg) (rdo 8) (em hg) (M.e_opt t6 hg) _ (H.give (A:=[]) rfl)).mono fun v_ w_ ⟨y_,ag,ai,H_⟩=>by subst ag; exact ⟨ai,H.via H_⟩) ?_;intro G8 H
  refine s_nil ⟨(H.dp 8),?_⟩
  refine t_q rfl (fun w' H=>x_pand (b:=ab) (r:=ac) rfl (fun hb=>gd_of (c:=ab) (by first | exact hb | (rw [hb]; rfl) | (rw [hg,hb]; rfl) | simp_all) (B ac)) rfl) ?_;refine kg 1 ?_;refine t_qg (ab&&ac) rfl (gy_t rfl) (fun hg=>(fun w' H=>x_bld (ps:=[]) (zs:=[.slice none 0 0,.slice none 0 0,.slice none 0 0,.slice none 0 0,I 0,I 0,.slice none 0 0]) (L':=[.slice none 0 0,.slice none 0 0,.slice none 0 0,.slice none 0 0,I 0,I 0,.slice none 0 0]) rfl Tryz.underlying29 Al29 rfl (Bd29 Tryz.underlying29) (.nil)))<|t_l rfl ?_;obtain ⟨ae,t7,hM⟩:=M.e_bind hM;refine t_gcall (ab&&ac) (gy_t rfl) cf5 (B ae) (fun _=>[.agg #[.slice none 0 0,.slice none 0 0,.slice none 0 0,.slice none 0 0,I 0,I 0,.slice none 0 0],I 0,I 0,I 0]) (fun hg=>lst4 (gd_of hg (.agg #[.slice none 0 0,.slice none 0 0,.slice none 0 0,.slice none 0 0,I 0,I 0,.slice none 0 0])) rfl rfl rfl) H (fun hg=>(zaq ([]:List Int) ([]:List Span) ([]:List Int) ([]:List Town) 0 0 ([]:List Flood) 0 0 0 Reads.none (Sl.nil (fun _=>none)) Reads.none (Sl.nil (fun _=>none)) Reads.none (Sl.nil (fun _=>none)) Reads.none (Sl.nil (fun _=>none)) Reads.none (Sl.nil (fun _=>none)) (M.e_opt t7 hg) _ (H.give (A:=[]) rfl)).mono fun v_ w_ ⟨y_,ag,ai,H_⟩=>by subst ag; exact ⟨ai,H.via H_⟩) ?_;intro G9 H
  refine s_nil ⟨(H.dp 8),?_⟩
  refine t_q rfl (fun w' H=>x_pand (b:=(ab&&ac)) (r:=ae) rfl (fun hb=>gd_of (c:=(ab&&ac)) (by first | exact hb | (rw [hb]; rfl) | (rw [hg,hb]; rfl) | simp_all) (B ae)) rfl) ?_;refine kg 1 ?_;refine t_qg ((ab&&ac)&&ae) rfl (gy_t rfl) (fun hg=>(fun w' H=>x_bld (ps:=[]) (zs:=[.slice none 0 0,.slice none 0 0,.slice none 0 0,.slice none 0 0,I 0,I 0,.slice none 0 0]) (L':=[.slice none 0 0,.slice none 0 0,.slice none 0 0,.slice none 0 0,I 0,I 0,.slice none 0 0]) rfl Tryz.underlying29 Al29 rfl (Bd29 Tryz.underlying29) (.nil)))<|t_qg ((ab&&ac)&&ae) rfl (gy_t rfl) (fun hg=>(fun w' H=>x_bld (ps:=[]) (zs:=[I 0,I 0]) (L':=[I 0,I 0]) rfl Tryz.underlying32 Al32 rfl (Bd32 Tryz.underlying32) (.nil)))<|t_l rfl ?_;obtain ⟨aj,t8,hM⟩:=M.e_bind hM;refine t_gcall ((ab&&ac)&&ae) (gy_t rfl) cf6 (B aj) (fun _=>[.agg #[.slice none 0 0,.slice none 0 0,.slice none 0 0,.slice none 0 0,I 0,I 0,.slice none 0 0],.agg #[I 0,I 0],.slice none 0 0,I 0,.slice none 0 0]) (fun hg=>lst5 (gd_of hg (.agg #[.slice none 0 0,.slice none 0 0,.slice none 0 0,.slice none 0 0,I 0,I 0,.slice none 0 0])) (gd_of hg (.agg #[I 0,I 0])) rfl rfl rfl) H (fun hg=>(zae ([]:List Int) ([]:List Span) ([]:List Int) ([]:List Town) 0 0 ([]:List Flood) (⟨(0:Int),(0:Int)⟩:Dem) ([]:List Int) 0 ([]:List Dem) Reads.none (Sl.nil (fun _=>none)) Reads.none (Sl.nil (fun _=>none)) Reads.none (Sl.nil (fun _=>none)) Reads.none (Sl.nil (fun _=>none)) Reads.none (Sl.nil (fun _=>none)) Reads.none (Sl.nil (fun _=>none)) Reads.none (Sl.nil (fun _=>none)) (M.e_opt t8 hg) _ (H.give (A:=[]) rfl)).mono fun v_ w_ ⟨y_,ag,ai,H_⟩=>by subst ag; exact ⟨ai,H.via H_⟩) ?_;intro Ha H
  refine s_nil ⟨(H.dp 8),?_⟩
  refine t_q rfl (fun w' H=>x_pand (b:=((ab&&ac)&&ae)) (r:=aj) rfl (fun hb=>gd_of (c:=((ab&&ac)&&ae)) (by first | exact hb | (rw [hb]; rfl) | (rw [hg,hb]; rfl) | simp_all) (B aj)) rfl) ?_;refine kg 1 ?_;refine t_qg (((ab&&ac)&&ae)&&aj) rfl (gy_t rfl) (fun hg=>(fun w' H=>x_bld (ps:=[]) (zs:=[.slice none 0 0,.slice none 0 0,.slice none 0 0,.slice none 0 0,I 0,I 0,.slice none 0 0]) (L':=[.slice none 0 0,.slice none 0 0,.slice none 0 0,.slice none 0 0,I 0,I 0,.slice none 0 0]) rfl Tryz.underlying29 Al29 rfl (Bd29 Tryz.underlying29) (.nil)))<|t_l rfl ?_;obtain ⟨al,ua,hM⟩:=M.e_bind hM;refine t_gcall (((ab&&ac)&&ae)&&aj) (gy_t rfl) cf7 (B al) (fun _=>[.agg #[.slice none 0 0,.slice none 0 0,.slice none 0 0,.slice none 0 0,I 0,I 0,.slice none 0 0],.slice none 0 0,I 0,.slice none 0 0]) (fun hg=>lst4 (gd_of hg (.agg #[.slice none 0 0,.slice none 0 0,.slice none 0 0,.slice none 0 0,I 0,I 0,.slice none 0 0])) rfl rfl rfl) H (fun hg=>(zar ([]:List Int) ([]:List Span) ([]:List Int) ([]:List Town) 0 0 ([]:List Flood) ([]:List Int) 0 ([]:List Int) Reads.none (Sl.nil (fun _=>none)) Reads.none (Sl.nil (fun _=>none)) Reads.none (Sl.nil (fun _=>none)) Reads.none (Sl.nil (fun _=>none)) Reads.none (Sl.nil (fun _=>none)) Reads.none (Sl.nil (fun _=>none)) Reads.none (Sl.nil (fun _=>none)) (M.e_opt ua hg) _ (H.give (A:=[]) rfl)).mono fun v_ w_ ⟨y_,ag,ai,H_⟩=>by subst ag; exact ⟨ai,H.via H_⟩) ?_;intro Hb H
  refine s_nil ⟨(H.dp 8),?_⟩
  refine t_q rfl (fun w' H=>x_pand (b:=(((ab&&ac)&&ae)&&aj)) (r:=al) rfl (fun hb=>gd_of (c:=(((ab&&ac)&&ae)&&aj)) (by first | exact hb | (rw [hb]; rfl) | (rw [hg,hb]; rfl) | simp_all) (B al)) rfl) ?_;refine kg 1 ?_;refine t_l rfl ?_;obtain ⟨aq,ub,hM⟩:=M.e_bind hM;refine t_gcall ((((ab&&ac)&&ae)&&aj)&&al) (gy_t rfl) cf10 (B aq) (fun _=>[]) (fun _=>rfl) H (fun hg=>(zao (M.e_opt ub hg) _ (H.give (A:=[]) rfl)).mono fun v_ w_ ⟨y_,ag,ai,H_⟩=>by subst ag; exact ⟨ai,H.via H_⟩) ?_;intro Hc H
  refine s_nil ⟨(H.dp 8),?_⟩
  refine t_q rfl (fun w' H=>x_pand (b:=((((ab&&ac)&&ae)&&aj)&&al)) (r:=aq) rfl (fun hb=>gd_of (c:=((((ab&&ac)&&ae)&&aj)&&al)) (by first | exact hb | (rw [hb]; rfl) | (rw [hg,hb]; rfl) | simp_all) (B aq)) rfl) ?_;refine kg 2 ?_;replace H:=H.dp 9;refine W.ret ?_
  have ag:=M.e_pure hM
  exact ⟨_,resE_tmp rfl,⟨(((((ab&&ac)&&ae)&&aj)&&al)&&aq),ag,rfl,H⟩⟩
 skip
 refine t_bs (α:=Int) T22 [I 2] [(2:Int)] H rfl (.cons rfl (Flat.rep_enc _ (2:Int))<|.nil) rfl rfl rfl ?_;intro uc Hd H
 have He:=Sl.cells (H.os 0)
 have Hf:=Sl.oc (H.os 0)
 have Hg:=ownSl (H.get (k:=0) rfl)
 refine s_nil ⟨(H.pk [1]),?_⟩
 refine t_l rfl ?_;obtain ⟨Hh,ud,hM⟩:=M.e_bind hM;refine s_call cf4 [I 1] rfl (zac 1 ud _ (H.gt 2)) ?_
 rintro vq Hi ⟨jt,ju,jv,jw,fK,fL,jx,jy,jz,jA,jC,jD,tA,tB,rfl,hvq,ak,ue⟩
 subst vq;(try dsimp only at hM);replace H:=H.bk ak;clear ak
 have Hj:=Sl.cells (H.os 0)
 have Hk:=Sl.oc (H.os 0)
 have Hl:=ownSl (H.get (k:=0) rfl)
 have Hm:=Sl.cells (H.os 1)
 have Hn:=Sl.oc (H.os 1)
 have Ho:=ownSl (H.get (k:=1) rfl)
 have Hp:=Sl.cells (H.os 2)
 have Hq:=Sl.oc (H.os 2)
 have Hr:=ownSl (H.get (k:=2) rfl)
 have Hs:=Sl.cells (H.os 3)
 have Ht:=Sl.oc (H.os 3)
 have Hu:=ownSl (H.get (k:=3) rfl)
 have Hv:=Sl.cells (H.os 4)
 have Hw:=Sl.oc (H.os 4)
 have Hx:=ownSl (H.get (k:=4) rfl)
 refine s_nil ⟨(H.pk [7]),?_⟩
 refine t_l rfl ?_;obtain ⟨Hy,uf,hM⟩:=M.e_bind hM;refine s_call cf6 [.agg #[jy,jz,jA,jC,I fK,I fL,jD],.agg #[I 0,I 0],uc,I 1,dT] rfl (zae jt ju jv jw fK fL jx (⟨(0:Int),(0:Int)⟩:Dem) ([(2:Int)]) 1 (List.replicate 65 (default:Dem)) (rdo 0) (H.os 0) (rdo 1) (H.os 1) (rdo 2) (H.os 2) (rdo 3) (H.os 3) (Reads.sup (rdo 4) (Reads.of (k:=5) rfl roLe)) (rowSl rfl (H.get (k:=4) rfl) (roLe _ (H.get (k:=5) rfl)) ue) (rdo 6) (H.os 6) (rdo 7) (H.os 7) uf _ (H.gt 8)) ?_
 rintro vq Hz ⟨ab,rfl,hvq,ak⟩
 subst vq;(try dsimp only at hM);replace H:=H.bk ak;clear ak
 refine s_nil ⟨(H.pk [7]),?_⟩
 refine kg 1 ?_;refine t_qg ab rfl (gy_t rfl) (fun hg=>(fun w' H=>x_bld (ps:=[]) (zs:=[I 0,I 0]) (L':=[I 0,I 0]) rfl Tryz.underlying32 Al32 rfl (Bd32 Tryz.underlying32) (.nil))) ?_;obtain ⟨fO,hM⟩:=M.e_grd hM
 replace fO:=M.imp_of fO
 simp only [Bool.and_eq_true,decide_eq_true_eq] at fO
 refine kg 1 ?_
 obtain ⟨cx,ug,eo⟩:=gd_ex (c:=ab) fun hg=>sl_hi T33.und T33.size (H.os 7) (j:=64) (by have ba:=fO.resolve_left (by rw [hg]; decide); first | exact ba | exact ba.1 | exact ba.2 | omega | (have ao:=hg; simp at ao; omega)) (by have ba:=fO.resolve_left (by rw [hg]; decide); first | exact ba | exact ba.1 | exact ba.2 | omega | (have ao:=hg; simp at ao; omega))
 replace eo:ab=true->Sl _ cx ((List.replicate 65 (default:Dem)).take 64):=eo
 refine t_qg ab rfl (gy_t rfl) (fun hg=>(fun w' H=>x_sl (v:=dT) (u:=cx) (lo':=none) (hi':=some (I 64)) (mx':=none) (gd_of hg (dT)) rfl rfl rfl (ug hg _))) ?_;refine t_l2 rfl rfl ?_ ?_
 ·skip
  refine g_splitV ab (.agg #[.slice none 0 0,.slice none 0 0,.slice none 0 0,.slice none 0 0,I 0,I 0,.slice none 0 0]) (gy_t rfl) (fun bS=>?_) (fun bS=>?_)
  ·replace hM:=M.e_t hM bS;obtain ⟨HA,uh,hM⟩:=M.e_bind hM;refine s_call cf4 [I 1] rfl (zac 1 uh _ (H.gt 8)) ?_
   rintro vq HB ⟨dU,dV,dW,dX,cq,cr,dY,dZ,d0,d1,d2,d3,jF,jH,rfl,hvq,ak,ui⟩
   subst vq;(try dsimp only at hM);replace H:=H.bk ak;clear ak
   have HC:=Sl.cells (H.os 0)
   have HD:=Sl.oc (H.os 0)
   have HE:=ownSl (H.get (k:=0) rfl)
   have HF:=Sl.cells (H.os 1)
   have HG:=Sl.oc (H.os 1)
   have HH:=ownSl (H.get (k:=1) rfl)
   have HI:=Sl.cells (H.os 2)
   have HJ:=Sl.oc (H.os 2)
   have HK:=ownSl (H.get (k:=2) rfl)
   have HL:=Sl.cells (H.os 3)
   have HM:=Sl.oc (H.os 3)
   have HO:=ownSl (H.get (k:=3) rfl)
   have HP:=Sl.cells (H.os 4)
   have HQ:=Sl.oc (H.os 4)
   have HR:=ownSl (H.get (k:=4) rfl)
   refine s_nil ⟨(H.dp 13),?_⟩
   refine t_l rfl ?_;refine t_gbs (α:=Int) T22 ab (gy_t rfl) [I 2] [(2:Int)] H (fun _=>rfl) (.cons rfl (Flat.rep_enc _ (2:Int))<|.nil) rfl rfl rfl ?_;intro li fN HS H uj
   refine s_nil ⟨(H.dp 14),?_⟩
   refine t_l rfl ?_;obtain ⟨ac,uk,hM⟩:=M.e_bind hM;refine t_gcall ab (gy_t rfl) cf6 (B ac) (fun _=>[.agg #[dZ,d0,d1,d2,I cq,I cr,d3],.agg #[I 0,I 0],li,I 1,cx]) (fun hg=>lst5 rfl (gd_of hg (.agg #[I 0,I 0])) (gd_of hg (li)) rfl (gd_of hg (cx))) H (fun hg=>(zae dU dV dW dX cq cr dY (⟨(0:Int),(0:Int)⟩:Dem) ([(2:Int)]) 1 ((List.replicate 65 (default:Dem)).take 64) (rdo 1) (H.os 1) (rdo 2) (H.os 2) (rdo 3) (H.os 3) (rdo 4) (H.os 4) (Reads.sup (rdo 5) (Reads.of (k:=6) rfl roLe)) (rowSl rfl (H.get (k:=5) rfl) (roLe _ (H.get (k:=6) rfl)) ui) (Reads.of (k:=0) rfl roLe) (uj hg) (rdo 14) (eo hg) (M.e_opt uk hg) _ (H.give (A:=[]) rfl)).mono fun v_ w_ ⟨y_,ag,ai,H_⟩=>by subst ag; exact ⟨ai,H.via H_⟩) ?_;intro HT H
   refine s_nil ⟨(H.dp 14),?_⟩
   refine t_q rfl (fun w' H=>x_pand (b:=ab) (r:=ac) rfl (fun hb=>gd_of (c:=ab) (by first | exact hb | (rw [hb]; rfl) | (rw [hg,hb]; rfl) | simp_all) (B ac)) rfl) ?_;refine kg 1 ?_;refine t_qg (ab&&ac) rfl (gy_t rfl) (fun hg=>(fun w' H=>x_bld (ps:=[]) (zs:=[.slice none 0 0,.slice none 0 0,.slice none 0 0,.slice none 0 0,I 0,I 0,.slice none 0 0]) (L':=[.slice none 0 0,.slice none 0 0,.slice none 0 0,.slice none 0 0,I 0,I 0,.slice none 0 0]) rfl Tryz.underlying29 Al29 rfl (Bd29 Tryz.underlying29) (.nil)))<|t_l rfl ?_;obtain ⟨ae,ul,hM⟩:=M.e_bind hM;refine t_gcall (ab&&ac) (gy_t rfl) cf5 (B ae) (fun _=>[.agg #[.slice none 0 0,.slice none 0 0,.slice none 0 0,.slice none 0 0,I 0,I 0,.slice none 0 0],I 0,I 0,I 0]) (fun hg=>lst4 (gd_of hg (.agg #[.slice none 0 0,.slice none 0 0,.slice none 0 0,.slice none 0 0,I 0,I 0,.slice none 0 0])) rfl rfl rfl) H (fun hg=>(zaq ([]:List Int) ([]:List Span) ([]:List Int) ([]:List Town) 0 0 ([]:List Flood) 0 0 0 Reads.none (Sl.nil (fun _=>none)) Reads.none (Sl.nil (fun _=>none)) Reads.none (Sl.nil (fun _=>none)) Reads.none (Sl.nil (fun _=>none)) Reads.none (Sl.nil (fun _=>none)) (M.e_opt ul hg) _ (H.give (A:=[]) rfl)).mono fun v_ w_ ⟨y_,ag,ai,H_⟩=>by subst ag; exact ⟨ai,H.via H_⟩) ?_;intro HU H
   refine s_nil ⟨(H.dp 14),?_⟩
   refine t_q rfl (fun w' H=>x_pand (b:=(ab&&ac)) (r:=ae) rfl (fun hb=>gd_of (c:=(ab&&ac)) (by first | exact hb | (rw [hb]; rfl) | (rw [hg,hb]; rfl) | simp_all) (B ae)) rfl) ?_;refine kg 1 ?_;refine t_qg ((ab&&ac)&&ae) rfl (gy_t rfl) (fun hg=>(fun w' H=>x_bld (ps:=[]) (zs:=[.slice none 0 0,.slice none 0 0,.slice none 0 0,.slice none 0 0,I 0,I 0,.slice none 0 0]) (L':=[.slice none 0 0,.slice none 0 0,.slice none 0 0,.slice none 0 0,I 0,I 0,.slice none 0 0]) rfl Tryz.underlying29 Al29 rfl (Bd29 Tryz.underlying29) (.nil)))<|t_qg ((ab&&ac)&&ae) rfl (gy_t rfl) (fun hg=>(fun w' H=>x_bld (ps:=[]) (zs:=[I 0,I 0]) (L':=[I 0,I 0]) rfl Tryz.underlying32 Al32 rfl (Bd32 Tryz.underlying32) (.nil)))<|t_l rfl ?_;obtain ⟨aj,um,hM⟩:=M.e_bind hM;refine t_gcall ((ab&&ac)&&ae) (gy_t rfl) cf6 (B aj) (fun _=>[.agg #[.slice none 0 0,.slice none 0 0,.slice none 0 0,.slice none 0 0,I 0,I 0,.slice none 0 0],.agg #[I 0,I 0],.slice none 0 0,I 0,.slice none 0 0]) (fun hg=>lst5 (gd_of hg (.agg #[.slice none 0 0,.slice none 0 0,.slice none 0 0,.slice none 0 0,I 0,I 0,.slice none 0 0])) (gd_of hg (.agg #[I 0,I 0])) rfl rfl rfl) H (fun hg=>(zae ([]:List Int) ([]:List Span) ([]:List Int) ([]:List Town) 0 0 ([]:List Flood) (⟨(0:Int),(0:Int)⟩:Dem) ([]:List Int) 0 ([]:List Dem) Reads.none (Sl.nil (fun _=>none)) Reads.none (Sl.nil (fun _=>none)) Reads.none (Sl.nil (fun _=>none)) Reads.none (Sl.nil (fun _=>none)) Reads.none (Sl.nil (fun _=>none)) Reads.none (Sl.nil (fun _=>none)) Reads.none (Sl.nil (fun _=>none)) (M.e_opt um hg) _ (H.give (A:=[]) rfl)).mono fun v_ w_ ⟨y_,ag,ai,H_⟩=>by subst ag; exact ⟨ai,H.via H_⟩) ?_;intro HV H
   refine s_nil ⟨(H.dp 14),?_⟩
   refine t_q rfl (fun w' H=>x_pand (b:=((ab&&ac)&&ae)) (r:=aj) rfl (fun hb=>gd_of (c:=((ab&&ac)&&ae)) (by first | exact hb | (rw [hb]; rfl) | (rw [hg,hb]; rfl) | simp_all) (B aj)) rfl) ?_;refine kg 1 ?_;refine t_qg (((ab&&ac)&&ae)&&aj) rfl (gy_t rfl) (fun hg=>(fun w' H=>x_bld (ps:=[]) (zs:=[.slice none 0 0,.slice none 0 0,.slice none 0 0,.slice none 0 0,I 0,I 0,.slice none 0 0]) (L':=[.slice none 0 0,.slice none 0 0,.slice none 0 0,.slice none 0 0,I 0,I 0,.slice none 0 0]) rfl Tryz.underlying29 Al29 rfl (Bd29 Tryz.underlying29) (.nil)))<|t_l rfl ?_;obtain ⟨al,un,hM⟩:=M.e_bind hM;refine t_gcall (((ab&&ac)&&ae)&&aj) (gy_t rfl) cf7 (B al) (fun _=>[.agg #[.slice none 0 0,.slice none 0 0,.slice none 0 0,.slice none 0 0,I 0,I 0,.slice none 0 0],.slice none 0 0,I 0,.slice none 0 0]) (fun hg=>lst4 (gd_of hg (.agg #[.slice none 0 0,.slice none 0 0,.slice none 0 0,.slice none 0 0,I 0,I 0,.slice none 0 0])) rfl rfl rfl) H (fun hg=>(zar ([]:List Int) ([]:List Span) ([]:List Int) ([]:List Town) 0 0 ([]:List Flood) ([]:List Int) 0 ([]:List Int) Reads.none (Sl.nil (fun _=>none)) Reads.none (Sl.nil (fun _=>none)) Reads.none (Sl.nil (fun _=>none)) Reads.none (Sl.nil (fun _=>none)) Reads.none (Sl.nil (fun _=>none)) Reads.none (Sl.nil (fun _=>none)) Reads.none (Sl.nil (fun _=>none)) (M.e_opt un hg) _ (H.give (A:=[]) rfl)).mono fun v_ w_ ⟨y_,ag,ai,H_⟩=>by subst ag; exact ⟨ai,H.via H_⟩) ?_;intro HW H
   refine s_nil ⟨(H.dp 14),?_⟩
   refine t_q rfl (fun w' H=>x_pand (b:=(((ab&&ac)&&ae)&&aj)) (r:=al) rfl (fun hb=>gd_of (c:=(((ab&&ac)&&ae)&&aj)) (by first | exact hb | (rw [hb]; rfl) | (rw [hg,hb]; rfl) | simp_all) (B al)) rfl) ?_;refine kg 1 ?_;refine t_l rfl ?_;obtain ⟨aq,uo,hM⟩:=M.e_bind hM;refine t_gcall ((((ab&&ac)&&ae)&&aj)&&al) (gy_t rfl) cf10 (B aq) (fun _=>[]) (fun _=>rfl) H (fun hg=>(zao (M.e_opt uo hg) _ (H.give (A:=[]) rfl)).mono fun v_ w_ ⟨y_,ag,ai,H_⟩=>by subst ag; exact ⟨ai,H.via H_⟩) ?_;intro HX H
   refine s_nil ⟨(H.dp 14),?_⟩
   refine t_q rfl (fun w' H=>x_pand (b:=((((ab&&ac)&&ae)&&aj)&&al)) (r:=aq) rfl (fun hb=>gd_of (c:=((((ab&&ac)&&ae)&&aj)&&al)) (by first | exact hb | (rw [hb]; rfl) | (rw [hg,hb]; rfl) | simp_all) (B aq)) rfl) ?_;refine kg 2 ?_;replace H:=H.dp 15;refine W.ret ?_
   have ag:=M.e_pure hM
   exact ⟨_,resE_tmp rfl,⟨(((((ab&&ac)&&ae)&&aj)&&al)&&aq),ag,rfl,H⟩⟩
  replace hM:=M.e_f hM bS
  refine s_nil ⟨(H.pk [7]),?_⟩
  refine t_l rfl ?_;refine t_gbs (α:=Int) T22 ab (gy_t rfl) [I 2] [(2:Int)] H (fun _=>rfl) (.cons rfl (Flat.rep_enc _ (2:Int))<|.nil) rfl rfl rfl ?_;intro lj fN HY H uq
  refine s_nil ⟨(H.dp 8),?_⟩
  refine t_l rfl ?_;obtain ⟨ac,ur,hM⟩:=M.e_bind hM;refine t_gcall ab (gy_t rfl) cf6 (B ac) (fun _=>[.agg #[.slice none 0 0,.slice none 0 0,.slice none 0 0,.slice none 0 0,I 0,I 0,.slice none 0 0],.agg #[I 0,I 0],lj,I 1,cx]) (fun hg=>lst5 (gd_of hg (.agg #[.slice none 0 0,.slice none 0 0,.slice none 0 0,.slice none 0 0,I 0,I 0,.slice none 0 0])) (gd_of hg (.agg #[I 0,I 0])) (gd_of hg (lj)) rfl (gd_of hg (cx))) H (fun hg=>(zae ([]:List Int) ([]:List Span) ([]:List Int) ([]:List Town) 0 0 ([]:List Flood) (⟨(0:Int),(0:Int)⟩:Dem) ([(2:Int)]) 1 ((List.replicate 65 (default:Dem)).take 64) Reads.none (Sl.nil (fun _=>none)) Reads.none (Sl.nil (fun _=>none)) Reads.none (Sl.nil (fun _=>none)) Reads.none (Sl.nil (fun _=>none)) Reads.none (Sl.nil (fun _=>none)) (Reads.of (k:=0) rfl roLe) (uq hg) (rdo 8) (eo hg) (M.e_opt ur hg) _ (H.give (A:=[]) rfl)).mono fun v_ w_ ⟨y_,ag,ai,H_⟩=>by subst ag; exact ⟨ai,H.via H_⟩) ?_;intro HZ H
  refine s_nil ⟨(H.dp 8),?_⟩
  refine t_q rfl (fun w' H=>x_pand (b:=ab) (r:=ac) rfl (fun hb=>gd_of (c:=ab) (by first | exact hb | (rw [hb]; rfl) | (rw [hg,hb]; rfl) | simp_all) (B ac)) rfl) ?_;refine kg 1 ?_;refine t_qg (ab&&ac) rfl (gy_t rfl) (fun hg=>(fun w' H=>x_bld (ps:=[]) (zs:=[.slice none 0 0,.slice none 0 0,.slice none 0 0,.slice none 0 0,I 0,I 0,.slice none 0 0]) (L':=[.slice none 0 0,.slice none 0 0,.slice none 0 0,.slice none 0 0,I 0,I 0,.slice none 0 0]) rfl Tryz.underlying29 Al29 rfl (Bd29 Tryz.underlying29) (.nil)))<|t_l rfl ?_;obtain ⟨ae,ut,hM⟩:=M.e_bind hM;refine t_gcall (ab&&ac) (gy_t rfl) cf5 (B ae) (fun _=>[.agg #[.slice none 0 0,.slice none 0 0,.slice none 0 0,.slice none 0 0,I 0,I 0,.slice none 0 0],I 0,I 0,I 0]) (fun hg=>lst4 (gd_of hg (.agg #[.slice none 0 0,.slice none 0 0,.slice none 0 0,.slice none 0 0,I 0,I 0,.slice none 0 0])) rfl rfl rfl) H (fun hg=>(zaq ([]:List Int) ([]:List Span) ([]:List Int) ([]:List Town) 0 0 ([]:List Flood) 0 0 0 Reads.none (Sl.nil (fun _=>none)) Reads.none (Sl.nil (fun _=>none)) Reads.none (Sl.nil (fun _=>none)) Reads.none (Sl.nil (fun _=>none)) Reads.none (Sl.nil (fun _=>none)) (M.e_opt ut hg) _ (H.give (A:=[]) rfl)).mono fun v_ w_ ⟨y_,ag,ai,H_⟩=>by subst ag; exact ⟨ai,H.via H_⟩) ?_;intro H3 H
  refine s_nil ⟨(H.dp 8),?_⟩
  refine t_q rfl (fun w' H=>x_pand (b:=(ab&&ac)) (r:=ae) rfl (fun hb=>gd_of (c:=(ab&&ac)) (by first | exact hb | (rw [hb]; rfl) | (rw [hg,hb]; rfl) | simp_all) (B ae)) rfl) ?_;refine kg 1 ?_;refine t_qg ((ab&&ac)&&ae) rfl (gy_t rfl) (fun hg=>(fun w' H=>x_bld (ps:=[]) (zs:=[.slice none 0 0,.slice none 0 0,.slice none 0 0,.slice none 0 0,I 0,I 0,.slice none 0 0]) (L':=[.slice none 0 0,.slice none 0 0,.slice none 0 0,.slice none 0 0,I 0,I 0,.slice none 0 0]) rfl Tryz.underlying29 Al29 rfl (Bd29 Tryz.underlying29) (.nil)))<|t_qg ((ab&&ac)&&ae) rfl (gy_t rfl) (fun hg=>(fun w' H=>x_bld (ps:=[]) (zs:=[I 0,I 0]) (L':=[I 0,I 0]) rfl Tryz.underlying32 Al32 rfl (Bd32 Tryz.underlying32) (.nil)))<|t_l rfl ?_;obtain ⟨aj,uu,hM⟩:=M.e_bind hM;refine t_gcall ((ab&&ac)&&ae) (gy_t rfl) cf6 (B aj) (fun _=>[.agg #[.slice none 0 0,.slice none 0 0,.slice none 0 0,.slice none 0 0,I 0,I 0,.slice none 0 0],.agg #[I 0,I 0],.slice none 0 0,I 0,.slice none 0 0]) (fun hg=>lst5 (gd_of hg (.agg #[.slice none 0 0,.slice none 0 0,.slice none 0 0,.slice none 0 0,I 0,I 0,.slice none 0 0])) (gd_of hg (.agg #[I 0,I 0])) rfl rfl rfl) H (fun hg=>(zae ([]:List Int) ([]:List Span) ([]:List Int) ([]:List Town) 0 0 ([]:List Flood) (⟨(0:Int),(0:Int)⟩:Dem) ([]:List Int) 0 ([]:List Dem) Reads.none (Sl.nil (fun _=>none)) Reads.none (Sl.nil (fun _=>none)) Reads.none (Sl.nil (fun _=>none)) Reads.none (Sl.nil (fun _=>none)) Reads.none (Sl.nil (fun _=>none)) Reads.none (Sl.nil (fun _=>none)) Reads.none (Sl.nil (fun _=>none)) (M.e_opt uu hg) _ (H.give (A:=[]) rfl)).mono fun v_ w_ ⟨y_,ag,ai,H_⟩=>by subst ag; exact ⟨ai,H.via H_⟩) ?_;intro H6 H
  refine s_nil ⟨(H.dp 8),?_⟩
  refine t_q rfl (fun w' H=>x_pand (b:=((ab&&ac)&&ae)) (r:=aj) rfl (fun hb=>gd_of (c:=((ab&&ac)&&ae)) (by first | exact hb | (rw [hb]; rfl) | (rw [hg,hb]; rfl) | simp_all) (B aj)) rfl) ?_;refine kg 1 ?_;refine t_qg (((ab&&ac)&&ae)&&aj) rfl (gy_t rfl) (fun hg=>(fun w' H=>x_bld (ps:=[]) (zs:=[.slice none 0 0,.slice none 0 0,.slice none 0 0,.slice none 0 0,I 0,I 0,.slice none 0 0]) (L':=[.slice none 0 0,.slice none 0 0,.slice none 0 0,.slice none 0 0,I 0,I 0,.slice none 0 0]) rfl Tryz.underlying29 Al29 rfl (Bd29 Tryz.underlying29) (.nil)))<|t_l rfl ?_;obtain ⟨al,uv,hM⟩:=M.e_bind hM;refine t_gcall (((ab&&ac)&&ae)&&aj) (gy_t rfl) cf7 (B al) (fun _=>[.agg #[.slice none 0 0,.slice none 0 0,.slice none 0 0,.slice none 0 0,I 0,I 0,.slice none 0 0],.slice none 0 0,I 0,.slice none 0 0]) (fun hg=>lst4 (gd_of hg (.agg #[.slice none 0 0,.slice none 0 0,.slice none 0 0,.slice none 0 0,I 0,I 0,.slice none 0 0])) rfl rfl rfl) H (fun hg=>(zar ([]:List Int) ([]:List Span) ([]:List Int) ([]:List Town) 0 0 ([]:List Flood) ([]:List Int) 0 ([]:List Int) Reads.none (Sl.nil (fun _=>none)) Reads.none (Sl.nil (fun _=>none)) Reads.none (Sl.nil (fun _=>none)) Reads.none (Sl.nil (fun _=>none)) Reads.none (Sl.nil (fun _=>none)) Reads.none (Sl.nil (fun _=>none)) Reads.none (Sl.nil (fun _=>none)) (M.e_opt uv hg) _ (H.give (A:=[]) rfl)).mono fun v_ w_ ⟨y_,ag,ai,H_⟩=>by subst ag; exact ⟨ai,H.via H_⟩) ?_;intro H7 H
  refine s_nil ⟨(H.dp 8),?_⟩
  refine t_q rfl (fun w' H=>x_pand (b:=(((ab&&ac)&&ae)&&aj)) (r:=al) rfl (fun hb=>gd_of (c:=(((ab&&ac)&&ae)&&aj)) (by first | exact hb | (rw [hb]; rfl) | (rw [hg,hb]; rfl) | simp_all) (B al)) rfl) ?_;refine kg 1 ?_;refine t_l rfl ?_;obtain ⟨aq,uw,hM⟩:=M.e_bind hM;refine t_gcall ((((ab&&ac)&&ae)&&aj)&&al) (gy_t rfl) cf10 (B aq) (fun _=>[]) (fun _=>rfl) H (fun hg=>(zao (M.e_opt uw hg) _ (H.give (A:=[]) rfl)).mono fun v_ w_ ⟨y_,ag,ai,H_⟩=>by subst ag; exact ⟨ai,H.via H_⟩) ?_;intro H8 H
  refine s_nil ⟨(H.dp 8),?_⟩
  refine t_q rfl (fun w' H=>x_pand (b:=((((ab&&ac)&&ae)&&aj)&&al)) (r:=aq) rfl (fun hb=>gd_of (c:=((((ab&&ac)&&ae)&&aj)&&al)) (by first | exact hb | (rw [hb]; rfl) | (rw [hg,hb]; rfl) | simp_all) (B aq)) rfl) ?_;refine kg 2 ?_;replace H:=H.dp 9;refine W.ret ?_
  have ag:=M.e_pure hM
  exact ⟨_,resE_tmp rfl,⟨(((((ab&&ac)&&ae)&&aj)&&al)&&aq),ag,rfl,H⟩⟩
 skip
 refine t_gbs (α:=Int) T22 ab (gy_t rfl) [I 2] [(2:Int)] H (fun _=>rfl) (.cons rfl (Flat.rep_enc _ (2:Int))<|.nil) rfl rfl rfl ?_;intro gF fN H9 H lk
 refine s_nil ⟨(H.dp 8),?_⟩
 refine t_l rfl ?_
 refine g_splitV ab (.agg #[.slice none 0 0,.slice none 0 0,.slice none 0 0,.slice none 0 0,I 0,I 0,.slice none 0 0]) (gy_t rfl) (fun bS=>?_) (fun bS=>?_)
 ·replace hM:=M.e_t hM bS;obtain ⟨Ia,ux,hM⟩:=M.e_bind hM;refine s_call cf4 [I 1] rfl (zac 1 ux _ (H.gt 9)) ?_
  rintro vq Ib ⟨dU,dV,dW,dX,cq,cr,dY,dZ,d0,d1,d2,d3,jF,jH,rfl,hvq,ak,uy⟩
  subst vq;(try dsimp only at hM);replace H:=H.bk ak;clear ak
  have Ic:=Sl.cells (H.os 0)
  have Id:=Sl.oc (H.os 0)
  have Ie:=ownSl (H.get (k:=0) rfl)
  have If:=Sl.cells (H.os 1)
  have Ig:=Sl.oc (H.os 1)
  have Ih:=ownSl (H.get (k:=1) rfl)
  have Ii:=Sl.cells (H.os 2)
  have Ij:=Sl.oc (H.os 2)
  have Ik:=ownSl (H.get (k:=2) rfl)
  have Il:=Sl.cells (H.os 3)
  have Im:=Sl.oc (H.os 3)
  have Io:=ownSl (H.get (k:=3) rfl)
  have Ip:=Sl.cells (H.os 4)
  have Iq:=Sl.oc (H.os 4)
  have Ir:=ownSl (H.get (k:=4) rfl)
  refine s_nil ⟨(H.dp 14),?_⟩
  refine t_l rfl ?_;obtain ⟨ac,uz,hM⟩:=M.e_bind hM;refine t_gcall ab (gy_t rfl) cf6 (B ac) (fun _=>[.agg #[dZ,d0,d1,d2,I cq,I cr,d3],.agg #[I 0,I 0],gF,I 1,cx]) (fun hg=>lst5 rfl (gd_of hg (.agg #[I 0,I 0])) (gd_of hg (gF)) rfl (gd_of hg (cx))) H (fun hg=>(zae dU dV dW dX cq cr dY (⟨(0:Int),(0:Int)⟩:Dem) ([(2:Int)]) 1 ((List.replicate 65 (default:Dem)).take 64) (rdo 0) (H.os 0) (rdo 1) (H.os 1) (rdo 2) (H.os 2) (rdo 3) (H.os 3) (Reads.sup (rdo 4) (Reads.of (k:=5) rfl roLe)) (rowSl rfl (H.get (k:=4) rfl) (roLe _ (H.get (k:=5) rfl)) uy) (Reads.of (k:=6) rfl roLe) (lk hg) (rdo 14) (eo hg) (M.e_opt uz hg) _ (H.give (A:=[]) rfl)).mono fun v_ w_ ⟨y_,ag,ai,H_⟩=>by subst ag; exact ⟨ai,H.via H_⟩) ?_;intro Is H
  refine s_nil ⟨(H.dp 14),?_⟩
  refine t_q rfl (fun w' H=>x_pand (b:=ab) (r:=ac) rfl (fun hb=>gd_of (c:=ab) (by first | exact hb | (rw [hb]; rfl) | (rw [hg,hb]; rfl) | simp_all) (B ac)) rfl) ?_;refine kg 1 ?_;refine t_qg (ab&&ac) rfl (gy_t rfl) (fun hg=>(fun w' H=>x_bld (ps:=[]) (zs:=[.slice none 0 0,.slice none 0 0,.slice none 0 0,.slice none 0 0,I 0,I 0,.slice none 0 0]) (L':=[.slice none 0 0,.slice none 0 0,.slice none 0 0,.slice none 0 0,I 0,I 0,.slice none 0 0]) rfl Tryz.underlying29 Al29 rfl (Bd29 Tryz.underlying29) (.nil)))<|t_l rfl ?_;obtain ⟨ae,uA,hM⟩:=M.e_bind hM;refine t_gcall (ab&&ac) (gy_t rfl) cf5 (B ae) (fun _=>[.agg #[.slice none 0 0,.slice none 0 0,.slice none 0 0,.slice none 0 0,I 0,I 0,.slice none 0 0],I 0,I 0,I 0]) (fun hg=>lst4 (gd_of hg (.agg #[.slice none 0 0,.slice none 0 0,.slice none 0 0,.slice none 0 0,I 0,I 0,.slice none 0 0])) rfl rfl rfl) H (fun hg=>(zaq ([]:List Int) ([]:List Span) ([]:List Int) ([]:List Town) 0 0 ([]:List Flood) 0 0 0 Reads.none (Sl.nil (fun _=>none)) Reads.none (Sl.nil (fun _=>none)) Reads.none (Sl.nil (fun _=>none)) Reads.none (Sl.nil (fun _=>none)) Reads.none (Sl.nil (fun _=>none)) (M.e_opt uA hg) _ (H.give (A:=[]) rfl)).mono fun v_ w_ ⟨y_,ag,ai,H_⟩=>by subst ag; exact ⟨ai,H.via H_⟩) ?_;intro It H
  refine s_nil ⟨(H.dp 14),?_⟩
  refine t_q rfl (fun w' H=>x_pand (b:=(ab&&ac)) (r:=ae) rfl (fun hb=>gd_of (c:=(ab&&ac)) (by first | exact hb | (rw [hb]; rfl) | (rw [hg,hb]; rfl) | simp_all) (B ae)) rfl) ?_;refine kg 1 ?_;refine t_qg ((ab&&ac)&&ae) rfl (gy_t rfl) (fun hg=>(fun w' H=>x_bld (ps:=[]) (zs:=[.slice none 0 0,.slice none 0 0,.slice none 0 0,.slice none 0 0,I 0,I 0,.slice none 0 0]) (L':=[.slice none 0 0,.slice none 0 0,.slice none 0 0,.slice none 0 0,I 0,I 0,.slice none 0 0]) rfl Tryz.underlying29 Al29 rfl (Bd29 Tryz.underlying29) (.nil)))<|t_qg ((ab&&ac)&&ae) rfl (gy_t rfl) (fun hg=>(fun w' H=>x_bld (ps:=[]) (zs:=[I 0,I 0]) (L':=[I 0,I 0]) rfl Tryz.underlying32 Al32 rfl (Bd32 Tryz.underlying32) (.nil)))<|t_l rfl ?_;obtain ⟨aj,uB,hM⟩:=M.e_bind hM;refine t_gcall ((ab&&ac)&&ae) (gy_t rfl) cf6 (B aj) (fun _=>[.agg #[.slice none 0 0,.slice none 0 0,.slice none 0 0,.slice none 0 0,I 0,I 0,.slice none 0 0],.agg #[I 0,I 0],.slice none 0 0,I 0,.slice none 0 0]) (fun hg=>lst5 (gd_of hg (.agg #[.slice none 0 0,.slice none 0 0,.slice none 0 0,.slice none 0 0,I 0,I 0,.slice none 0 0])) (gd_of hg (.agg #[I 0,I 0])) rfl rfl rfl) H (fun hg=>(zae ([]:List Int) ([]:List Span) ([]:List Int) ([]:List Town) 0 0 ([]:List Flood) (⟨(0:Int),(0:Int)⟩:Dem) ([]:List Int) 0 ([]:List Dem) Reads.none (Sl.nil (fun _=>none)) Reads.none (Sl.nil (fun _=>none)) Reads.none (Sl.nil (fun _=>none)) Reads.none (Sl.nil (fun _=>none)) Reads.none (Sl.nil (fun _=>none)) Reads.none (Sl.nil (fun _=>none)) Reads.none (Sl.nil (fun _=>none)) (M.e_opt uB hg) _ (H.give (A:=[]) rfl)).mono fun v_ w_ ⟨y_,ag,ai,H_⟩=>by subst ag; exact ⟨ai,H.via H_⟩) ?_;intro Iu H
  refine s_nil ⟨(H.dp 14),?_⟩
  refine t_q rfl (fun w' H=>x_pand (b:=((ab&&ac)&&ae)) (r:=aj) rfl (fun hb=>gd_of (c:=((ab&&ac)&&ae)) (by first | exact hb | (rw [hb]; rfl) | (rw [hg,hb]; rfl) | simp_all) (B aj)) rfl) ?_;refine kg 1 ?_;refine t_qg (((ab&&ac)&&ae)&&aj) rfl (gy_t rfl) (fun hg=>(fun w' H=>x_bld (ps:=[]) (zs:=[.slice none 0 0,.slice none 0 0,.slice none 0 0,.slice none 0 0,I 0,I 0,.slice none 0 0]) (L':=[.slice none 0 0,.slice none 0 0,.slice none 0 0,.slice none 0 0,I 0,I 0,.slice none 0 0]) rfl Tryz.underlying29 Al29 rfl (Bd29 Tryz.underlying29) (.nil)))<|t_l rfl ?_;obtain ⟨al,uC,hM⟩:=M.e_bind hM;refine t_gcall (((ab&&ac)&&ae)&&aj) (gy_t rfl) cf7 (B al) (fun _=>[.agg #[.slice none 0 0,.slice none 0 0,.slice none 0 0,.slice none 0 0,I 0,I 0,.slice none 0 0],.slice none 0 0,I 0,.slice none 0 0]) (fun hg=>lst4 (gd_of hg (.agg #[.slice none 0 0,.slice none 0 0,.slice none 0 0,.slice none 0 0,I 0,I 0,.slice none 0 0])) rfl rfl rfl) H (fun hg=>(zar ([]:List Int) ([]:List Span) ([]:List Int) ([]:List Town) 0 0 ([]:List Flood) ([]:List Int) 0 ([]:List Int) Reads.none (Sl.nil (fun _=>none)) Reads.none (Sl.nil (fun _=>none)) Reads.none (Sl.nil (fun _=>none)) Reads.none (Sl.nil (fun _=>none)) Reads.none (Sl.nil (fun _=>none)) Reads.none (Sl.nil (fun _=>none)) Reads.none (Sl.nil (fun _=>none)) (M.e_opt uC hg) _ (H.give (A:=[]) rfl)).mono fun v_ w_ ⟨y_,ag,ai,H_⟩=>by subst ag; exact ⟨ai,H.via H_⟩) ?_;intro Iv H
  refine s_nil ⟨(H.dp 14),?_⟩
  refine t_q rfl (fun w' H=>x_pand (b:=(((ab&&ac)&&ae)&&aj)) (r:=al) rfl (fun hb=>gd_of (c:=(((ab&&ac)&&ae)&&aj)) (by first | exact hb | (rw [hb]; rfl) | (rw [hg,hb]; rfl) | simp_all) (B al)) rfl) ?_;refine kg 1 ?_;refine t_l rfl ?_;obtain ⟨aq,uD,hM⟩:=M.e_bind hM;refine t_gcall ((((ab&&ac)&&ae)&&aj)&&al) (gy_t rfl) cf10 (B aq) (fun _=>[]) (fun _=>rfl) H (fun hg=>(zao (M.e_opt uD hg) _ (H.give (A:=[]) rfl)).mono fun v_ w_ ⟨y_,ag,ai,H_⟩=>by subst ag; exact ⟨ai,H.via H_⟩) ?_;intro Iw H
  refine s_nil ⟨(H.dp 14),?_⟩
  refine t_q rfl (fun w' H=>x_pand (b:=((((ab&&ac)&&ae)&&aj)&&al)) (r:=aq) rfl (fun hb=>gd_of (c:=((((ab&&ac)&&ae)&&aj)&&al)) (by first | exact hb | (rw [hb]; rfl) | (rw [hg,hb]; rfl) | simp_all) (B aq)) rfl) ?_;refine kg 2 ?_;replace H:=H.dp 15;refine W.ret ?_
  have ag:=M.e_pure hM
  exact ⟨_,resE_tmp rfl,⟨(((((ab&&ac)&&ae)&&aj)&&al)&&aq),ag,rfl,H⟩⟩
 replace hM:=M.e_f hM bS
 refine s_nil ⟨(H.dp 8),?_⟩
 refine t_l rfl ?_;obtain ⟨ac,uE,hM⟩:=M.e_bind hM;refine t_gcall ab (gy_t rfl) cf6 (B ac) (fun _=>[.agg #[.slice none 0 0,.slice none 0 0,.slice none 0 0,.slice none 0 0,I 0,I 0,.slice none 0 0],.agg #[I 0,I 0],gF,I 1,cx]) (fun hg=>lst5 (gd_of hg (.agg #[.slice none 0 0,.slice none 0 0,.slice none 0 0,.slice none 0 0,I 0,I 0,.slice none 0 0])) (gd_of hg (.agg #[I 0,I 0])) (gd_of hg (gF)) rfl (gd_of hg (cx))) H (fun hg=>(zae ([]:List Int) ([]:List Span) ([]:List Int) ([]:List Town) 0 0 ([]:List Flood) (⟨(0:Int),(0:Int)⟩:Dem) ([(2:Int)]) 1 ((List.replicate 65 (default:Dem)).take 64) Reads.none (Sl.nil (fun _=>none)) Reads.none (Sl.nil (fun _=>none)) Reads.none (Sl.nil (fun _=>none)) Reads.none (Sl.nil (fun _=>none)) Reads.none (Sl.nil (fun _=>none)) (Reads.of (k:=0) rfl roLe) (lk hg) (rdo 8) (eo hg) (M.e_opt uE hg) _ (H.give (A:=[]) rfl)).mono fun v_ w_ ⟨y_,ag,ai,H_⟩=>by subst ag; exact ⟨ai,H.via H_⟩) ?_;intro Ix H
 refine s_nil ⟨(H.dp 8),?_⟩
 refine t_q rfl (fun w' H=>x_pand (b:=ab) (r:=ac) rfl (fun hb=>gd_of (c:=ab) (by first | exact hb | (rw [hb]; rfl) | (rw [hg,hb]; rfl) | simp_all) (B ac)) rfl) ?_;refine kg 1 ?_;refine t_qg (ab&&ac) rfl (gy_t rfl) (fun hg=>(fun w' H=>x_bld (ps:=[]) (zs:=[.slice none 0 0,.slice none 0 0,.slice none 0 0,.slice none 0 0,I 0,I 0,.slice none 0 0]) (L':=[.slice none 0 0,.slice none 0 0,.slice none 0 0,.slice none 0 0,I 0,I 0,.slice none 0 0]) rfl Tryz.underlying29 Al29 rfl (Bd29 Tryz.underlying29) (.nil)))<|t_l rfl ?_;obtain ⟨ae,uF,hM⟩:=M.e_bind hM;refine t_gcall (ab&&ac) (gy_t rfl) cf5 (B ae) (fun _=>[.agg #[.slice none 0 0,.slice none 0 0,.slice none 0 0,.slice none 0 0,I 0,I 0,.slice none 0 0],I 0,I 0,I 0]) (fun hg=>lst4 (gd_of hg (.agg #[.slice none 0 0,.slice none 0 0,.slice none 0 0,.slice none 0 0,I 0,I 0,.slice none 0 0])) rfl rfl rfl) H (fun hg=>(zaq ([]:List Int) ([]:List Span) ([]:List Int) ([]:List Town) 0 0 ([]:List Flood) 0 0 0 Reads.none (Sl.nil (fun _=>none)) Reads.none (Sl.nil (fun _=>none)) Reads.none (Sl.nil (fun _=>none)) Reads.none (Sl.nil (fun _=>none)) Reads.none (Sl.nil (fun _=>none)) (M.e_opt uF hg) _ (H.give (A:=[]) rfl)).mono fun v_ w_ ⟨y_,ag,ai,H_⟩=>by subst ag; exact ⟨ai,H.via H_⟩) ?_;intro Iy H
 refine s_nil ⟨(H.dp 8),?_⟩
 refine t_q rfl (fun w' H=>x_pand (b:=(ab&&ac)) (r:=ae) rfl (fun hb=>gd_of (c:=(ab&&ac)) (by first | exact hb | (rw [hb]; rfl) | (rw [hg,hb]; rfl) | simp_all) (B ae)) rfl) ?_;refine kg 1 ?_;refine t_qg ((ab&&ac)&&ae) rfl (gy_t rfl) (fun hg=>(fun w' H=>x_bld (ps:=[]) (zs:=[.slice none 0 0,.slice none 0 0,.slice none 0 0,.slice none 0 0,I 0,I 0,.slice none 0 0]) (L':=[.slice none 0 0,.slice none 0 0,.slice none 0 0,.slice none 0 0,I 0,I 0,.slice none 0 0]) rfl Tryz.underlying29 Al29 rfl (Bd29 Tryz.underlying29) (.nil)))<|t_qg ((ab&&ac)&&ae) rfl (gy_t rfl) (fun hg=>(fun w' H=>x_bld (ps:=[]) (zs:=[I 0,I 0]) (L':=[I 0,I 0]) rfl Tryz.underlying32 Al32 rfl (Bd32 Tryz.underlying32) (.nil)))<|t_l rfl ?_;obtain ⟨aj,uG,hM⟩:=M.e_bind hM;refine t_gcall ((ab&&ac)&&ae) (gy_t rfl) cf6 (B aj) (fun _=>[.agg #[.slice none 0 0,.slice none 0 0,.slice none 0 0,.slice none 0 0,I 0,I 0,.slice none 0 0],.agg #[I 0,I 0],.slice none 0 0,I 0,.slice none 0 0]) (fun hg=>lst5 (gd_of hg (.agg #[.slice none 0 0,.slice none 0 0,.slice none 0 0,.slice none 0 0,I 0,I 0,.slice none 0 0])) (gd_of hg (.agg #[I 0,I 0])) rfl rfl rfl) H (fun hg=>(zae ([]:List Int) ([]:List Span) ([]:List Int) ([]:List Town) 0 0 ([]:List Flood) (⟨(0:Int),(0:Int)⟩:Dem) ([]:List Int) 0 ([]:List Dem) Reads.none (Sl.nil (fun _=>none)) Reads.none (Sl.nil (fun _=>none)) Reads.none (Sl.nil (fun _=>none)) Reads.none (Sl.nil (fun _=>none)) Reads.none (Sl.nil (fun _=>none)) Reads.none (Sl.nil (fun _=>none)) Reads.none (Sl.nil (fun _=>none)) (M.e_opt uG hg) _ (H.give (A:=[]) rfl)).mono fun v_ w_ ⟨y_,ag,ai,H_⟩=>by subst ag; exact ⟨ai,H.via H_⟩) ?_;intro Iz H
 refine s_nil ⟨(H.dp 8),?_⟩
 refine t_q rfl (fun w' H=>x_pand (b:=((ab&&ac)&&ae)) (r:=aj) rfl (fun hb=>gd_of (c:=((ab&&ac)&&ae)) (by first | exact hb | (rw [hb]; rfl) | (rw [hg,hb]; rfl) | simp_all) (B aj)) rfl) ?_;refine kg 1 ?_;refine t_qg (((ab&&ac)&&ae)&&aj) rfl (gy_t rfl) (fun hg=>(fun w' H=>x_bld (ps:=[]) (zs:=[.slice none 0 0,.slice none 0 0,.slice none 0 0,.slice none 0 0,I 0,I 0,.slice none 0 0]) (L':=[.slice none 0 0,.slice none 0 0,.slice none 0 0,.slice none 0 0,I 0,I 0,.slice none 0 0]) rfl Tryz.underlying29 Al29 rfl (Bd29 Tryz.underlying29) (.nil)))<|t_l rfl ?_;obtain ⟨al,uH,hM⟩:=M.e_bind hM;refine t_gcall (((ab&&ac)&&ae)&&aj) (gy_t rfl) cf7 (B al) (fun _=>[.agg #[.slice none 0 0,.slice none 0 0,.slice none 0 0,.slice none 0 0,I 0,I 0,.slice none 0 0],.slice none 0 0,I 0,.slice none 0 0]) (fun hg=>lst4 (gd_of hg (.agg #[.slice none 0 0,.slice none 0 0,.slice none 0 0,.slice none 0 0,I 0,I 0,.slice none 0 0])) rfl rfl rfl) H (fun hg=>(zar ([]:List Int) ([]:List Span) ([]:List Int) ([]:List Town) 0 0 ([]:List Flood) ([]:List Int) 0 ([]:List Int) Reads.none (Sl.nil (fun _=>none)) Reads.none (Sl.nil (fun _=>none)) Reads.none (Sl.nil (fun _=>none)) Reads.none (Sl.nil (fun _=>none)) Reads.none (Sl.nil (fun _=>none)) Reads.none (Sl.nil (fun _=>none)) Reads.none (Sl.nil (fun _=>none)) (M.e_opt uH hg) _ (H.give (A:=[]) rfl)).mono fun v_ w_ ⟨y_,ag,ai,H_⟩=>by subst ag; exact ⟨ai,H.via H_⟩) ?_;intro IA H
 refine s_nil ⟨(H.dp 8),?_⟩
 refine t_q rfl (fun w' H=>x_pand (b:=(((ab&&ac)&&ae)&&aj)) (r:=al) rfl (fun hb=>gd_of (c:=(((ab&&ac)&&ae)&&aj)) (by first | exact hb | (rw [hb]; rfl) | (rw [hg,hb]; rfl) | simp_all) (B al)) rfl) ?_;refine kg 1 ?_;refine t_l rfl ?_;obtain ⟨aq,uI,hM⟩:=M.e_bind hM;refine t_gcall ((((ab&&ac)&&ae)&&aj)&&al) (gy_t rfl) cf10 (B aq) (fun _=>[]) (fun _=>rfl) H (fun hg=>(zao (M.e_opt uI hg) _ (H.give (A:=[]) rfl)).mono fun v_ w_ ⟨y_,ag,ai,H_⟩=>by subst ag; exact ⟨ai,H.via H_⟩) ?_;intro IB H
 refine s_nil ⟨(H.dp 8),?_⟩
 refine t_q rfl (fun w' H=>x_pand (b:=((((ab&&ac)&&ae)&&aj)&&al)) (r:=aq) rfl (fun hb=>gd_of (c:=((((ab&&ac)&&ae)&&aj)&&al)) (by first | exact hb | (rw [hb]; rfl) | (rw [hg,hb]; rfl) | simp_all) (B aq)) rfl) ?_;refine kg 2 ?_;replace H:=H.dp 9;refine W.ret ?_
 have ag:=M.e_pure hM
 exact ⟨_,resE_tmp rfl,⟨(((((ab&&ac)&&ae)&&aj)&&al)&&aq),ag,rfl,H⟩⟩

end Go.Proofs.YtbldmjejckjflabGreat
end
