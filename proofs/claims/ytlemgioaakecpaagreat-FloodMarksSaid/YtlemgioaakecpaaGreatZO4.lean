/- Part 4 of the texts on which the proof rests. Conditions: none. -/
import Derived.KernelRfl
import Derived.Test.YtlemgioaakecpaaGreatZO3
set_option linter.unusedVariables false
set_option linter.unusedSimpArgs false
set_option linter.unusedSectionVars false
section
set_option maxRecDepth 100000
set_option maxHeartbeats 16000000
namespace Go.Proofs.YtlemgioaakecpaaGreat
open Go Go.Nm
def zaO (a:Int) (ai:List Sect) (aa:List Mrk) (aj:List Rch) (ab:List Sect) (ac:List Mrk) (ae:List Rch) (ak:(Int × (List Sect) × (List Mrk) × (List Rch) × (List Sect) × (List Mrk) × (List Rch) × (Int->Option Bool) × (List Int) × (List Int))->M (Bool × (Int->Option Bool) × (List Int) × (List Int))):(Nat × (Int->Option Bool) × (List Int) × (List Int))->M ((Nat × (Int->Option Bool) × (List Int) × (List Int)) ⊕ (((Int->Option Bool) × (List Int) × (List Int)) ⊕ ((Int->Option Bool) × (List Int) × (List Int)))):=fun (s,mp,s2,s3) =>
  bif decide ((s:Int)<(aa.length:Int)) then (
  M.bind (zah ab ac ae a (s:Int)) fun r2 =>
  bif ((!r2)||((mp (s:Int)).getD false)) then (
  M.pure (.inl (s+1,mp,s2,s3)))
  else (
  M.grd (decide ((0:Int)<=(s:Int))&&decide ((s:Int)<(16:Int))) <|
  bif !((s3.getD s 0)==(-1)) then (
  M.bind (ak ((s3.getD s 0),ai,aa,aj,ab,ac,ae,(updF mp (s:Int) true),s2,s3)) fun (r3,ag,q0,q1) =>
  bif (((s3.getD s 0)==(-1))||r3) then (
  M.grd (decide ((0:Int)<=a)&&decide (a<(16:Int))) <|
  M.pure (.inr (.inl (ag,q0.set (Int.toNat a) (s:Int),q1.set s a))))
  else (
  M.pure (.inl (s+1,ag,q0,q1))))
  else (
  bif (((s3.getD s 0)==(-1))||false) then (
  M.grd (decide ((0:Int)<=a)&&decide (a<(16:Int))) <|
  M.pure (.inr (.inl (updF mp (s:Int) true,s2.set (Int.toNat a) (s:Int),s3.set s a))))
  else (
  M.pure (.inl (s+1,updF mp (s:Int) true,s2,s3))))))
  else (
  M.pure (.inr (.inr (mp,s2,s3))))
def zam (aa:(Int × (List Sect) × (List Mrk) × (List Rch) × (List Sect) × (List Mrk) × (List Rch) × (Int->Option Bool) × (List Int) × (List Int))->M (Bool × (Int->Option Bool) × (List Int) × (List Int))):(Int × (List Sect) × (List Mrk) × (List Rch) × (List Sect) × (List Mrk) × (List Rch) × (Int->Option Bool) × (List Int) × (List Int))->M (Bool × (Int->Option Bool) × (List Int) × (List Int)):=fun (a,ab,ac,ae,ag,ai,aj,ak,am,ao) =>
  M.bind (M.iter (zaO a ab ac ae ag ai aj aa) (0,ak,am,ao)) fun x_=>match x_ with
  | (.inl (ap,l,l2))=>(
  M.pure (true,ap,l,l2))
  | (.inr (aq,l3,l4))=>(
  M.pure (false,aq,l3,l4))
theorem zcX:M.Mon zam:=by
  intro n f g h a
  obtain ⟨a,aa,ab,ac,ae,ag,ai,aj,ak,am⟩:=a
  simp only [zam,zaO]
  repeat' (first | exact M.le_same _ _ | exact h _ | refine M.le_grd ?_ | refine M.le_if ?_ ?_ | refine M.le_bind ?_ (fun x=>?_) | refine M.le_opt ?_ | refine M.le_iter (fun x=>?_) _ | refine zdB (M.le_yl (fun s_ a_=>?_)) _ _ _ | (rename_i x; cases x) | (rename_i x; obtain ⟨_,_⟩:=x))
def zbX (a:Int) (aa:List Sect) (ab:List Mrk) (ac:List Rch) (ae:List Sect) (ag:List Mrk) (ai:List Rch) (aj:Int->Option Bool) (ak:List Int) (am:List Int):M (Bool × (Int->Option Bool) × (List Int) × (List Int)):=M.fix zam zcX (a,aa,ab,ac,ae,ag,ai,aj,ak,am)
theorem zdI (n_:Nat):∀ {R:List Chunk} {ap:Nat} {ag:Nat} {aO:Cells} {aP:Value} {aQ:Cells} {aE:Value} {aR:Cells} {aS:Value} {bm:Nat} {ak:Nat} {ay:Nat} {aT:Cells} {aU:Value} {aV:Cells} {aW:Value} {aX:Cells} {aY:Value} {bn:Nat} {ai:Nat} {ab:Nat} {ac:Nat} {aa:Nat} {am:Nat} (a:Int) (az:List Sect) (aj:List Mrk) (aA:List Rch) (av:List Sect) (aw:List Mrk) (ax:List Rch) (aF:Int->Option Bool) (aB:List Int) (aC:List Int) (bo:Reads R aO) (bp:Sl aO aP az) (bq:Reads R aQ) (aG:Sl aQ aE aj) (br:Reads R aR) (bt:Sl aR aS aA) (aZ:Has R (cBlk ag [aP,aE,aS,.map (some bm)] 177)) (a6:Has R (cBlk ap [Pq ag] 112)) (a7:Reads R aT) (a8:Sl aT aU av) (ba:Reads R aV) (bb:Sl aV aW aw) (bc:Reads R aX) (bf:Sl aX aY ax) (bh:Has R (cBlk ay [aU,aW,aY,.map (some bn)] 177)) (bi:Has R (cBlk ak [.func (.func 51) #[Pq ay] #[]] 116)) (aH:Has R (cBlk ai [.map (some ab)] 191)) (bu:aB.length=16) (bv:aC.length=16) (ao:Has R (cBlk ac [Pq aa] 178)) (bj:Has R (cBlk am [.func (.func 120) #[] #[Pq ap,Pq ak,Pq ai,Pq ac,Pq am]] 157)) {r:(Bool × (Int->Option Bool) × (List Int) × (List Int))} (hM:(M.fixN zam n_ (a,az,aj,aA,av,aw,ax,aF,aB,aC)).Ends r) (w:World) (H:St w w [cMap I B ab aF,cBlk aa (List.flatten [[],encF (α:=Int) aB,encF (α:=Int) aC]) 182] R),Ret Tryz.prog 120 #[I a,Pq ap,Pq ak,Pq ai,Pq ac,Pq am] w fun v w'=>∃ (y0:Bool) (y1:Int->Option Bool) (y2:List Int) (y3:List Int),(y0,y1,y2,y3)=r/\v=B y0/\St w w' [cMap I B ab y1,cBlk aa (List.flatten [[],encF (α:=Int) y2,encF (α:=Int) y3]) 182] R/\y2.length=16/\y3.length=16:=by
  induction n_ with
  | zero=>intro R ap ag aO aP aQ aE aR aS bm ak ay aT aU aV aW aX aY bn ai ab ac aa am a az aj aA av aw ax aF aB aC bo bp bq aG br bt aZ a6 a7 a8 ba bb bc bf bh bi aH bu bv ao bj r hM w H; exact (M.e_fail hM).elim
  | succ n_ ih =>
    intro R ap ag aO aP aQ aE aR aS bm ak ay aT aU aV aW aX aY bn ai ab ac aa am a az aj aA av aw ax aF aB aC bo bp bq aG br bt aZ a6 a7 a8 ba bb bc bf bh bi aH bu bv ao bj r hM w H
    refine ret_of_W Tryz.func120 rfl rfl rfl ?_
    refine W.seq ?_
    refine W.region rfl ?_
    refine zA (B false) rfl ?_
    refine s_nil ?_
    refine W.seq ?_
    refine W.seq ?_
    refine W.region rfl ?_
    refine s_val (x_ld (p:=Pq ap) (v:=Pq ag) rfl (ldb_sc Sc112 (a6.blk H) rfl)) ?_
    refine s_val (x_nc (a:=⟨ag,0,none⟩) rfl) ?_
    refine s_val (x_fa (a:=Pq ag) (v:=Pq ag) rfl (fa_blk (o:=0) Fd177_0 Sz27)) ?_
    refine s_val (x_fa (a:=Pq ag) (v:=Oq ag 1) rfl (fa_blk (o:=0) Fd27_1 Sz24)) ?_
    refine s_val (x_ld (p:=Oq ag 1) (v:=aE) rfl (ldb_sc Sc24 (aZ.blk H) rfl)) ?_
    have bW:=(aG).len_le
    refine s_val (x_lenS T24.und rfl aG) ?_
    refine zM (I 0) rfl ?_
    refine s_nil ?_
    refine W.block ?_
    obtain ⟨bJ,bw,bx⟩:=M.e_bind hM
    obtain ⟨bX,bw⟩:=M.e_iter bw
    refine W.loop (fun m σ W=>∃ (s:Nat) (mp:Int->Option Bool) (s2:List Int) (s3:List Int) (ρ:Env),σ=upds ρ [(0,I a),(2,Pq ak),(3,Pq ai),(4,Pq ac),(5,Pq am),(14,I (aj.length:Int)),(15,I (s:Int))]/\M.iterN (zaO a az aj aA av aw ax (M.fixN zam n_)) m (s,mp,s2,s3)=some bJ/\St w W [cMap I B ab mp,cBlk aa (List.flatten [[],encF (α:=Int) s2,encF (α:=Int) s3]) 182] R/\s2.length=16/\s3.length=16) ?_ ?_
    ·exact ⟨_,0,aF,aB,aC,_,upds_of _ _ ⟨rfl,rfl,rfl,rfl,rfl,rfl,rfl,trivial⟩,bw,H,bu,bv⟩
    rintro bY σ bZ ⟨s,mp,s2,s3,ρ,rfl,bG,H,aq,au⟩
    obtain ⟨bz,bA,b4,hM,aD⟩:=M.e_iterN bG
    simp only [zaO] at hM
    clear bG
    refine W.seq ?_
    refine W.region rfl ?_
    refine zC (s:Int) (aj.length:Int) (decide ((s:Int)<(aj.length:Int))) rfl rfl rfl ?_
    refine s_nil ?_
    refine W.seq ?_
    refine W.cond (decide ((s:Int)<(aj.length:Int))) rfl (fun aI=>?_) (fun aI=>?_)
    ·replace hM:=M.e_t hM aI
     simp only [qy1,qy2,qy3,qy4,qy5,qy6,ne_eq,qy7] at aI
     refine W.skip ?_
     refine W.seq ?_
     refine W.block ?_
     refine W.seq ?_
     refine W.region rfl ?_
     refine zM (I (s:Int)) rfl ?_
     refine zA (I (s:Int)) rfl ?_
     refine s_nil ?_
     refine W.seq ?_
     refine W.seq ?_
     refine W.region rfl ?_
     refine s_val (x_ld (p:=Pq ak) (v:=.func (.func 51) #[Pq ay] #[]) rfl (ldb_sc Sc116 (bi.blk H) rfl)) ?_
     refine zM (I a) rfl ?_
     refine zM (I (s:Int)) rfl ?_
     obtain ⟨b5,bK,hM⟩:=M.e_bind hM
     refine s_callm (f:=51) (fs:=[Pq ay]) rfl cf51 [I a,I (s:Int)] rfl (zav av aw ax a (s:Int) (a7.app _) a8 (ba.app _) bb (bc.app _) bf (bh.app _) bK _ (H.gt 2)) ?_
     rintro vq b6 ⟨r2,bL,hvq,aJ⟩
     subst bL
     subst vq
     try dsimp only at hM
     replace H:=H.bk aJ
     clear aJ
     refine s_val (x_not (b:=r2) rfl) ?_
     refine zM (B (!r2)) rfl ?_
     refine g_val (!(!r2)) (gy_f rfl) (fun hg=>x_ld (p:=Pq ai) (v:=.map (some ab)) rfl (ldb_sc Sc191 (aH.blk H) rfl)) ?_
     refine g_val (!(!r2)) (gy_f rfl) (fun hg=>x_mv (v:=I (s:Int)) rfl) ?_
     refine g_val (!(!r2)) (gy_f rfl) (fun hg=>q_look (kenc:=I) (venc:=B) (f:=mp) (k:=(s:Int)) (v:=B ((mp (s:Int)).getD false)) keyIntB Tryz.underlying191 Al4 (by exact (gd_of (c:=!(!r2)) hg (.map (some ab)))) (by exact (gd_of (c:=!(!r2)) hg (I (s:Int)))) (H.get (k:=0) rfl) false (by rw [if_neg (by decide),bool_val])) ?_
     refine s_val (x_por (b:=!r2) (r:=(mp (s:Int)).getD false) rfl rfl (fun hb=>gd_of (c:=!(!r2)) (by first | exact hb | (rw [hb]; rfl) | simp_all) (B ((mp (s:Int)).getD false)))) ?_
     refine s_nil ?_
     refine W.cond ((!r2)||((mp (s:Int)).getD false)) rfl (fun bB=>?_) (fun bB=>?_)
     ·replace hM:=M.e_t hM bB
      refine W.exit ?_
      refine W.region rfl ?_
      refine zR (s:Int) 1 ((s:Int)+1) rfl rfl rfl (by omega) ?_
      refine zM (I ((s:Int)+1)) rfl ?_
      refine s_nil ?_
      exact ⟨bz,bA,s+1,mp,s2,s3,_,upds_of _ _ ⟨rfl,rfl,rfl,rfl,rfl,rfl,rfl,trivial⟩,M.e_inl hM aD,H,aq,au⟩
     replace hM:=M.e_f hM bB
     refine W.skip ?_
     refine W.seq ?_
     refine W.region rfl ?_
     refine s_val (x_ld (p:=Pq ai) (v:=.map (some ab)) rfl (ldb_sc Sc191 (aH.blk H) rfl)) ?_
     refine zM (I (s:Int)) rfl ?_
     refine t_mapu (i:=0) (kenc:=I) (venc:=B) (f:=mp) (k:=(s:Int)) (v:=true) (L':=[cMap I B ab (updF mp (s:Int) true),cBlk aa (List.flatten [[],encF (α:=Int) s2,encF (α:=Int) s3]) 182]) keyIntB Tryz.underlying191 H rfl rfl rfl rfl rfl ?_
     intro b7 H
     refine s_nil ?_
     refine W.seq ?_
     refine W.draw (fun W=>St w W [] R) [(0,true),(1,true),(2,true),(3,true),(4,true),(5,false),(6,true),(7,true),(8,true),(9,true),(10,true),(11,true),(12,true),(13,true),(14,false),(15,false),(16,true)] mixed (by decide +kernel) rfl ?_
     intro b8 ae
     replace H:=H.ext ae
     clear ae
     refine ⟨(H.pk []),?_⟩
     refine d_q rfl (fun w' H=>x_ld (p:=Pq ac) (v:=Pq aa) rfl (ldb_sc Sc178 (ao.blk H) rfl)) ?_
     refine d_q rfl (fun w' H=>x_mv (v:=I (s:Int)) rfl) ?_
     refine d_q rfl (fun w' H=>x_nc (a:=⟨aa,0,none⟩) rfl) ?_
     refine d_q rfl (fun w' H=>x_fa (a:=Pq aa) (v:=Oq aa 16) rfl (fa_blk (o:=0) Fd182_1 Sz180)) ?_
     obtain ⟨bM,hM⟩:=M.e_grd hM
     simp only [Bool.and_eq_true,decide_eq_true_eq] at bM
     refine d_q rfl (fun w' H=>x_ix (a:=Oq aa 16) (b:=I (s:Int)) (v:=.pointer (some ⟨aa,16+Int.toNat (s:Int)*1,none⟩)) rfl rfl (run_indexS Tryz.underlying180 Sz3 (by omega) (by omega))) ?_
     refine d_l rfl ?_
     refine s_val (x_ld (p:=.pointer (some ⟨aa,16+Int.toNat (s:Int)*1,none⟩)) (v:=I (s3.getD s 0)) rfl (ldS (α:=Int) (k:=2) (off:=16) (i:=s) (f:=0) (sz:=1) 0 Sc3 (H.bl 1) rfl (sgo2 aq rfl) rfl (by decide) (by have aK:=au; omega) (by omega) rfl)) ?_
     refine s_nil ⟨(H.pk []),?_⟩
     refine d_q rfl (fun w' H=>x_cmp (kd:=.i64) (a:=s3.getD s 0) (b:=-1) (r:=(s3.getD s 0)==(-1)) rfl rfl rfl) ?_
     refine d_q rfl (fun w' H=>x_mv (v:=B ((s3.getD s 0)==(-1))) rfl) ?_
     refine d_qg (!((s3.getD s 0)==(-1))) rfl (gy_f rfl) (fun hg=>(fun w' H=>x_ld (p:=Pq am) (v:=.func (.func 120) #[] #[Pq ap,Pq ak,Pq ai,Pq ac,Pq am]) rfl (ldb_sc Sc157 (bj.blk H) rfl))) ?_
     refine d_qg (!((s3.getD s 0)==(-1))) rfl (gy_f rfl) (fun hg=>(fun w' H=>x_ld (p:=Pq ac) (v:=Pq aa) rfl (ldb_sc Sc178 (ao.blk H) rfl))) ?_
     refine d_qg (!((s3.getD s 0)==(-1))) rfl (gy_f rfl) (fun hg=>(fun w' H=>x_mv (v:=I (s:Int)) rfl)) ?_
     refine d_qg (!((s3.getD s 0)==(-1))) rfl (gy_f rfl) (fun hg=>(fun w' H=>x_nc (a:=⟨aa,0,none⟩) (gd_of (c:=!((s3.getD s 0)==(-1))) hg (Pq aa)))) ?_
     refine d_qg (!((s3.getD s 0)==(-1))) rfl (gy_f rfl) (fun hg=>(fun w' H=>x_fa (a:=Pq aa) (v:=Oq aa 16) (gd_of (c:=!((s3.getD s 0)==(-1))) hg (Pq aa)) (fa_blk (o:=0) Fd182_1 Sz180))) ?_
     refine d_qg (!((s3.getD s 0)==(-1))) rfl (gy_f rfl) (fun hg=>(fun w' H=>x_ix (a:=Oq aa 16) (b:=I (s:Int)) (v:=.pointer (some ⟨aa,16+Int.toNat (s:Int)*1,none⟩)) (gd_of (c:=!((s3.getD s 0)==(-1))) hg (Oq aa 16)) (gd_of (c:=!((s3.getD s 0)==(-1))) hg (I (s:Int))) (run_indexS Tryz.underlying180 Sz3 (by first | omega | (have ae:=hg; simp at ae; omega)) (by first | omega | (have ae:=hg; simp at ae; omega))))) ?_
     refine d_l rfl ?_
     refine g_val (!((s3.getD s 0)==(-1))) (gy_f rfl) (fun hg=>x_ld (p:=.pointer (some ⟨aa,16+Int.toNat (s:Int)*1,none⟩)) (v:=I (s3.getD s 0)) (gd_of (c:=!((s3.getD s 0)==(-1))) hg (.pointer (some ⟨aa,16+Int.toNat (s:Int)*1,none⟩))) (ldS (α:=Int) (k:=2) (off:=16) (i:=s) (f:=0) (sz:=1) 0 Sc3 (H.bl 1) rfl (sgo2 aq rfl) rfl (by decide) (by have aK:=au; first | omega | (have ae:=hg; simp at ae; omega)) (by omega) rfl)) ?_
     refine s_nil ⟨(H.pk []),?_⟩
     refine d_l rfl ?_
     refine g_splitV (!((s3.getD s 0)==(-1))) (B false) (gy_f rfl) (fun aL=>?_) (fun aL=>?_)
     ·replace hM:=M.e_t hM aL
      obtain ⟨b9,bN,hM⟩:=M.e_bind hM
      refine s_callv (f:=120) (by exact (gd_of (c:=!((s3.getD s 0)==(-1))) aL (.func (.func 120) #[] #[Pq ap,Pq ak,Pq ai,Pq ac,Pq am]))) cf120 [I (s3.getD s 0)] (by exact (lst1 (gd_of (c:=!((s3.getD s 0)==(-1))) aL (I (s3.getD s 0))))) (ih (s3.getD s 0) az aj aA av aw ax (updF mp (s:Int) true) s2 s3 (bo.app _) bp (bq.app _) aG (br.app _) bt (aZ.app _) (a6.app _) (a7.app _) a8 (ba.app _) bb (bc.app _) bf (bh.app _) (bi.app _) (aH.app _) aq au (ao.app _) (bj.app _) bN _ (H.gt 0)) ?_
      rintro vq cb ⟨r3,aM,q0,q1,bO,hvq,aJ,bC,bD⟩
      subst bO
      subst vq
      try dsimp only at hM
      replace H:=H.bk aJ
      clear aJ
      refine s_nil ⟨(H.pk []),?_⟩
      refine d_q rfl (fun w' H=>x_por (b:=(s3.getD s 0)==(-1)) (r:=r3) rfl rfl (fun _=>rfl)) ?_
      refine d_nil ?_
      refine W.cond (((s3.getD s 0)==(-1))||r3) rfl (fun bE=>?_) (fun bE=>?_)
      ·replace hM:=M.e_t hM bE
       refine W.seq ?_
       refine W.draw (fun W=>St w W [cMap I B ab aM] R) [(0,true),(1,true),(2,true),(3,true),(4,true),(5,true),(6,true),(7,true),(8,true),(10,true),(11,true),(9,false),(12,true),(13,false)] mixed (by decide +kernel) rfl ?_
       intro cc ae
       replace H:=H.ext ae
       clear ae
       refine ⟨(H.pk [0]),?_⟩
       refine d_q rfl (fun w' H=>x_ld (p:=Pq ac) (v:=Pq aa) rfl (ldb_sc Sc178 (ao.blk H) rfl)) ?_
       refine d_q rfl (fun w' H=>x_mv (v:=I a) rfl) ?_
       refine d_q rfl (fun w' H=>x_ld (p:=Pq ac) (v:=Pq aa) rfl (ldb_sc Sc178 (ao.blk H) rfl)) ?_
       refine d_q rfl (fun w' H=>x_mv (v:=I (s:Int)) rfl) ?_
       refine d_q rfl (fun w' H=>x_mv (v:=I (s:Int)) rfl) ?_
       refine d_q rfl (fun w' H=>x_mv (v:=I a) rfl) ?_
       refine d_q rfl (fun w' H=>x_nc (a:=⟨aa,0,none⟩) rfl) ?_
       refine d_q rfl (fun w' H=>x_fa (a:=Pq aa) (v:=Pq aa) rfl (fa_blk (o:=0) Fd182_0 Sz180)) ?_
       obtain ⟨bP,hM⟩:=M.e_grd hM
       simp only [Bool.and_eq_true,decide_eq_true_eq] at bP
       refine d_q rfl (fun w' H=>x_ix (a:=Pq aa) (b:=I a) (v:=.pointer (some ⟨aa,0+Int.toNat a*1,none⟩)) rfl rfl (run_indexS Tryz.underlying180 Sz3 (by omega) (by omega))) ?_
       refine d_q rfl (fun w' H=>x_nc (a:=⟨aa,0,none⟩) rfl) ?_
       refine d_q rfl (fun w' H=>x_fa (a:=Pq aa) (v:=Oq aa 16) rfl (fa_blk (o:=0) Fd182_1 Sz180)) ?_
       refine d_l rfl ?_
       refine t_stS (α:=Int) (kc:=1) (b:=aa) (k:=1) (off:=0) (i:=(Int.toNat a)) (f:=0) (sz:=1) (segs:=[[],encF (α:=Int) q0,encF (α:=Int) q1]) (segs':=[[],encF (α:=Int) (q0.set (Int.toNat a) (s:Int)),encF (α:=Int) q1]) (l:=q0) (l':=q0.set (Int.toNat a) (s:Int)) (vs:=[I (s:Int)]) (L':=[cMap I B ab aM,cBlk aa (List.flatten [[],encF (α:=Int) (q0.set (Int.toNat a) (s:Int)),encF (α:=Int) q1]) 182]) H rfl rfl rfl Sz3 rfl rfl rfl rfl (sgo1 rfl) rfl rfl (by have aK:=bC; omega) (by omega) 0 (s:Int) rfl rfl rfl rfl ?_
       intro cd H
       have bH:(q0.set (Int.toNat a) (s:Int)).length=16:=List.length_set.trans bC
       refine s_nil ⟨(H.pk [0]),?_⟩
       refine d_q rfl (fun w' H=>x_ix (a:=Oq aa 16) (b:=I (s:Int)) (v:=.pointer (some ⟨aa,16+Int.toNat (s:Int)*1,none⟩)) rfl rfl (run_indexS Tryz.underlying180 Sz3 (by omega) (by omega))) ?_
       refine d_l rfl ?_
       refine t_stS (α:=Int) (kc:=1) (b:=aa) (k:=2) (off:=16) (i:=s) (f:=0) (sz:=1) (segs:=[[],encF (α:=Int) (q0.set (Int.toNat a) (s:Int)),encF (α:=Int) q1]) (segs':=[[],encF (α:=Int) (q0.set (Int.toNat a) (s:Int)),encF (α:=Int) (q1.set s a)]) (l:=q1) (l':=q1.set s a) (vs:=[I a]) (L':=[cMap I B ab aM,cBlk aa (List.flatten [[],encF (α:=Int) (q0.set (Int.toNat a) (s:Int)),encF (α:=Int) (q1.set s a)]) 182]) H rfl rfl rfl Sz3 rfl rfl rfl rfl (sgo2 bH rfl) rfl rfl (by have aK:=bD; omega) (by omega) 0 a rfl rfl rfl rfl ?_
       intro ce H
       have bQ:(q1.set s a).length=16:=List.length_set.trans bD
       refine s_nil ⟨(H.pk [0]),?_⟩
       refine d_nil ?_
       refine W.seq ?_
       refine W.region rfl ?_
       refine zA (B true) rfl ?_
       refine s_nil ?_
       refine W.ret ?_
       have bR:=M.e_inr hM aD
       subst bR
       replace hM:=bx
       try dsimp only at hM
       have aN:=M.e_pure hM
       exact ⟨_,resE_tmp rfl,⟨true,aM,(q0.set (Int.toNat a) (s:Int)),(q1.set s a),aN,rfl,H,bH,bQ⟩⟩
      replace hM:=M.e_f hM bE
      refine W.skip ?_
      refine W.region rfl ?_
      refine zR (s:Int) 1 ((s:Int)+1) rfl rfl rfl (by omega) ?_
      refine zM (I ((s:Int)+1)) rfl ?_
      refine s_nil ?_
      exact ⟨bz,bA,s+1,aM,q0,q1,_,upds_of _ _ ⟨rfl,rfl,rfl,rfl,rfl,rfl,rfl,trivial⟩,M.e_inl hM aD,H,bC,bD⟩
     replace hM:=M.e_f hM aL
     refine s_nil ⟨(H.pk []),?_⟩
     refine d_q rfl (fun w' H=>x_por (b:=(s3.getD s 0)==(-1)) (r:=false) rfl rfl (fun hb=>gd_of (c:=!((s3.getD s 0)==(-1))) (by first | exact hb | (rw [hb]; rfl) | simp_all) (B false))) ?_
     refine d_nil ?_
     refine W.cond (((s3.getD s 0)==(-1))||false) rfl (fun bF=>?_) (fun bF=>?_)
     ·replace hM:=M.e_t hM bF
      refine W.seq ?_
      refine W.draw (fun W=>St w W [cMap I B ab (updF mp (s:Int) true)] R) [(0,true),(1,true),(2,true),(3,true),(4,true),(5,true),(6,true),(7,true),(8,true),(10,true),(11,true),(9,false),(12,true),(13,false)] mixed (by decide +kernel) rfl ?_
      intro cf ae
      replace H:=H.ext ae
      clear ae
      refine ⟨(H.pk [0]),?_⟩
      refine d_q rfl (fun w' H=>x_ld (p:=Pq ac) (v:=Pq aa) rfl (ldb_sc Sc178 (ao.blk H) rfl)) ?_
      refine d_q rfl (fun w' H=>x_mv (v:=I a) rfl) ?_
      refine d_q rfl (fun w' H=>x_ld (p:=Pq ac) (v:=Pq aa) rfl (ldb_sc Sc178 (ao.blk H) rfl)) ?_
      refine d_q rfl (fun w' H=>x_mv (v:=I (s:Int)) rfl) ?_
      refine d_q rfl (fun w' H=>x_mv (v:=I (s:Int)) rfl) ?_
      refine d_q rfl (fun w' H=>x_mv (v:=I a) rfl) ?_
      refine d_q rfl (fun w' H=>x_nc (a:=⟨aa,0,none⟩) rfl) ?_
      refine d_q rfl (fun w' H=>x_fa (a:=Pq aa) (v:=Pq aa) rfl (fa_blk (o:=0) Fd182_0 Sz180)) ?_
      obtain ⟨bS,hM⟩:=M.e_grd hM
      simp only [Bool.and_eq_true,decide_eq_true_eq] at bS
      refine d_q rfl (fun w' H=>x_ix (a:=Pq aa) (b:=I a) (v:=.pointer (some ⟨aa,0+Int.toNat a*1,none⟩)) rfl rfl (run_indexS Tryz.underlying180 Sz3 (by omega) (by omega))) ?_
      refine d_q rfl (fun w' H=>x_nc (a:=⟨aa,0,none⟩) rfl) ?_
      refine d_q rfl (fun w' H=>x_fa (a:=Pq aa) (v:=Oq aa 16) rfl (fa_blk (o:=0) Fd182_1 Sz180)) ?_
      refine d_l rfl ?_
      refine t_stS (α:=Int) (kc:=1) (b:=aa) (k:=1) (off:=0) (i:=(Int.toNat a)) (f:=0) (sz:=1) (segs:=[[],encF (α:=Int) s2,encF (α:=Int) s3]) (segs':=[[],encF (α:=Int) (s2.set (Int.toNat a) (s:Int)),encF (α:=Int) s3]) (l:=s2) (l':=s2.set (Int.toNat a) (s:Int)) (vs:=[I (s:Int)]) (L':=[cMap I B ab (updF mp (s:Int) true),cBlk aa (List.flatten [[],encF (α:=Int) (s2.set (Int.toNat a) (s:Int)),encF (α:=Int) s3]) 182]) H rfl rfl rfl Sz3 rfl rfl rfl rfl (sgo1 rfl) rfl rfl (by have aK:=aq; omega) (by omega) 0 (s:Int) rfl rfl rfl rfl ?_
      intro cg H
      have bI:(s2.set (Int.toNat a) (s:Int)).length=16:=List.length_set.trans aq
      refine s_nil ⟨(H.pk [0]),?_⟩
      refine d_q rfl (fun w' H=>x_ix (a:=Oq aa 16) (b:=I (s:Int)) (v:=.pointer (some ⟨aa,16+Int.toNat (s:Int)*1,none⟩)) rfl rfl (run_indexS Tryz.underlying180 Sz3 (by omega) (by omega))) ?_
      refine d_l rfl ?_
      refine t_stS (α:=Int) (kc:=1) (b:=aa) (k:=2) (off:=16) (i:=s) (f:=0) (sz:=1) (segs:=[[],encF (α:=Int) (s2.set (Int.toNat a) (s:Int)),encF (α:=Int) s3]) (segs':=[[],encF (α:=Int) (s2.set (Int.toNat a) (s:Int)),encF (α:=Int) (s3.set s a)]) (l:=s3) (l':=s3.set s a) (vs:=[I a]) (L':=[cMap I B ab (updF mp (s:Int) true),cBlk aa (List.flatten [[],encF (α:=Int) (s2.set (Int.toNat a) (s:Int)),encF (α:=Int) (s3.set s a)]) 182]) H rfl rfl rfl Sz3 rfl rfl rfl rfl (sgo2 bI rfl) rfl rfl (by have aK:=au; omega) (by omega) 0 a rfl rfl rfl rfl ?_
      intro cj H
      have bT:(s3.set s a).length=16:=List.length_set.trans au
      refine s_nil ⟨(H.pk [0]),?_⟩
      refine d_nil ?_
      refine W.seq ?_
      refine W.region rfl ?_
      refine zA (B true) rfl ?_
      refine s_nil ?_
      refine W.ret ?_
      have bU:=M.e_inr hM aD
      subst bU
      replace hM:=bx
      try dsimp only at hM
      have aN:=M.e_pure hM
      exact ⟨_,resE_tmp rfl,⟨true,(updF mp (s:Int) true),(s2.set (Int.toNat a) (s:Int)),(s3.set s a),aN,rfl,H,bI,bT⟩⟩
     replace hM:=M.e_f hM bF
     refine W.skip ?_
     refine W.region rfl ?_
     refine zR (s:Int) 1 ((s:Int)+1) rfl rfl rfl (by omega) ?_
     refine zM (I ((s:Int)+1)) rfl ?_
     refine s_nil ?_
     exact ⟨bz,bA,s+1,updF mp (s:Int) true,s2,s3,_,upds_of _ _ ⟨rfl,rfl,rfl,rfl,rfl,rfl,rfl,trivial⟩,M.e_inl hM aD,H,aq,au⟩
    replace hM:=M.e_f hM aI
    simp only [qy1,qy2,qy3,qy4,qy5,qy6,ne_eq,qy7] at aI
    refine W.exit ?_
    have bV:=M.e_inr hM aD
    subst bV
    replace hM:=bx
    try dsimp only at hM
    refine W.seq ?_
    refine W.region rfl ?_
    refine zA (B false) rfl ?_
    refine s_nil ?_
    refine W.ret ?_
    have aN:=M.e_pure hM
    exact ⟨_,resE_tmp rfl,⟨false,mp,s2,s3,aN,rfl,H,aq,au⟩⟩
theorem zdv {R:List Chunk} {ac:Nat} {ay:Nat} {az:Cells} {aA:Value} {aB:Cells} {aC:Value} {aD:Cells} {aE:Value} {aM:Nat} {ae:Nat} {aF:Nat} {aG:Cells} {aH:Value} {aI:Cells} {aJ:Value} {aK:Cells} {aL:Value} {aN:Nat} {ag:Nat} {ai:Nat} {aj:Nat} {ak:Nat} {am:Nat} (a:Int) (ao:List Sect) (ap:List Mrk) (aq:List Rch) (au:List Sect) (av:List Mrk) (aw:List Rch) (ax:Int->Option Bool) (aa:List Int) (ab:List Int) (aO:Reads R az) (aP:Sl az aA ao) (aQ:Reads R aB) (aR:Sl aB aC ap) (aS:Reads R aD) (aT:Sl aD aE aq) (aU:Has R (cBlk ay [aA,aC,aE,.map (some aM)] 177)) (aV:Has R (cBlk ac [Pq ay] 112)) (aW:Reads R aG) (aX:Sl aG aH au) (aY:Reads R aI) (aZ:Sl aI aJ av) (a6:Reads R aK) (a7:Sl aK aL aw) (a8:Has R (cBlk aF [aH,aJ,aL,.map (some aN)] 177)) (ba:Has R (cBlk ae [.func (.func 51) #[Pq aF] #[]] 116)) (bb:Has R (cBlk ag [.map (some ai)] 191)) (bc:aa.length=16) (bf:ab.length=16) (bh:Has R (cBlk aj [Pq ak] 178)) (bi:Has R (cBlk am [.func (.func 120) #[] #[Pq ac,Pq ae,Pq ag,Pq aj,Pq am]] 157)) {r:(Bool × (Int->Option Bool) × (List Int) × (List Int))} (hM:(zbX a ao ap aq au av aw ax aa ab).Ends r) (w:World) (H:St w w [cMap I B ai ax,cBlk ak (List.flatten [[],encF (α:=Int) aa,encF (α:=Int) ab]) 182] R):Ret Tryz.prog 120 #[I a,Pq ac,Pq ae,Pq ag,Pq aj,Pq am] w fun v w'=>∃ (y0:Bool) (y1:Int->Option Bool) (y2:List Int) (y3:List Int),(y0,y1,y2,y3)=r/\v=B y0/\St w w' [cMap I B ai y1,cBlk ak (List.flatten [[],encF (α:=Int) y2,encF (α:=Int) y3]) 182] R/\y2.length=16/\y3.length=16:=by
  obtain ⟨n_,hM⟩:=M.e_fix hM
  exact zdI n_ a ao ap aq au av aw ax aa ab aO aP aQ aR aS aT aU aV aW aX aY aZ a6 a7 a8 ba bb bc bf bh bi hM w H

def zcs:((List Int) × (List Int) × Nat)->M (((List Int) × (List Int) × Nat) ⊕ ((List Int) × (List Int))):=fun (s,s2,s3) =>
  bif decide ((s3:Int)<16) then (
  M.grd (decide ((0:Int)<=(s3:Int))&&decide ((s3:Int)<(16:Int))) <|
  M.pure (.inl (s.set s3 (-1),s2.set s3 (-1),s3+1)))
  else (
  M.pure (.inr (s,s2)))
def zbC (ab:List Sect) (aa:List Mrk) (ac:List Rch):((List Int) × (List Int) × Nat)->M (((List Int) × (List Int) × Nat) ⊕ ((List Int) × (List Int))):=fun (s4,s5,s6) =>
  bif decide ((s6:Int)<(aa.length:Int)) then (
  M.bind (zbX (s6:Int) ab aa ac ab aa ac (fun _=>none) s4 s5) fun (r2,ae,q0,q1) =>
  M.pure (.inl (q0,q1,s6+1)))
  else (
  M.pure (.inr (s4,s5)))
def zbV (aa:List Sect) (ab:List Mrk) (ac:List Rch):M ((List Int) × (List Int)) :=
  M.bind (M.iter (zcs) (List.replicate 16 0,List.replicate 16 0,0)) fun (l,l2) =>
  M.bind (M.iter (zbC aa ab ac) (l,l2,0)) fun (l3,l4) =>
  M.pure (l3,l4)
theorem zdK {R:List Chunk} {ab:Nat} {aB:Cells} {aC:Value} {aD:Cells} {av:Value} {aE:Cells} {aF:Value} {aW:Nat} (aj:List Sect) (ag:List Mrk) (ak:List Rch) (aG:Reads R aB) (aH:Sl aB aC aj) (aI:Reads R aD) (aq:Sl aD av ag) (aJ:Reads R aE) (aK:Sl aE aF ak) (aw:Has R (cBlk ab [aC,av,aF,.map (some aW)] 177)) {r:((List Int) × (List Int))} (hM:(zbV aj ag ak).Ends r) (w:World) (H:St w w [] R):Ret Tryz.prog 96 #[Pq ab] w fun v w'=>∃ (y0:List Int) (y1:List Int) (aL:Nat),(y0,y1)=r/\v=Pq aL/\St w w' [cBlk aL (List.flatten [[],encF (α:=Int) y0,encF (α:=Int) y1]) 182] R/\y0.length=16/\y1.length=16:=by
 refine ret_of_W Tryz.func96 rfl rfl rfl ?_
 refine W.seq ?_
 refine W.region rfl ?_
 refine t_box (v:=Pq ab) (cs:=[Pq ab]) H rfl rfl ?_
 intro ae bt H
 refine zA (.pointer none) rfl ?_
 refine s_nil ?_
 refine W.seq ?_
 refine W.region rfl ?_
 refine s_val (x_bld (ps:=[]) (zs:=(List.flatten [[],encF (α:=Int) (List.replicate 16 0),encF (α:=Int) (List.replicate 16 0)])) (L':=(List.flatten [[],encF (α:=Int) (List.replicate 16 0),encF (α:=Int) (List.replicate 16 0)])) rfl Tryz.underlying182 Al182 rfl (Bd182 Tryz.underlying182) (.nil)) ?_
 refine t_box (v:=.agg (List.flatten [[],encF (α:=Int) (List.replicate 16 0),encF (α:=Int) (List.replicate 16 0)]).toArray) (cs:=(List.flatten [[],encF (α:=Int) (List.replicate 16 0),encF (α:=Int) (List.replicate 16 0)])) H rfl rfl ?_
 intro aa bu H
 refine t_alloc (cs:=[.pointer none]) H Al178 rfl ?_
 intro ac bv H
 refine t_sw 0 0 [Pq aa] (Pq aa) H rfl rfl Sz178 rfl rfl rfl rfl ?_
 intro bw H
 refine s_nil ?_
 refine W.seq ?_
 refine W.seq ?_
 refine W.region rfl ?_
 refine zM (I 0) rfl ?_
 refine s_nil ?_
 refine W.block ?_
 obtain ⟨aX,ax,aY⟩:=M.e_bind hM
 obtain ⟨aZ,ax⟩:=M.e_iter ax
 refine W.loop (fun m σ W=>∃ (s:List Int) (s2:List Int) (s3:Nat) (ρ:Env),σ=upds ρ [(1,Pq ae),(3,Pq ac),(11,I (s3:Int))]/\M.iterN (zcs) m (s,s2,s3)=some aX/\St w W [cBlk ac [Pq aa] 178,cBlk aa (List.flatten [[],encF (α:=Int) s,encF (α:=Int) s2]) 182,cBlk ae [Pq ab] 112] R/\s.length=16/\s2.length=16) ?_ ?_
 ·exact ⟨_,List.replicate 16 0,List.replicate 16 0,0,_,upds_of _ _ ⟨rfl,rfl,rfl,trivial⟩,ax,H,List.length_replicate,List.length_replicate⟩
 rintro bx σ bz ⟨s,s2,s3,ρ,rfl,aM,H,ay,az⟩
 obtain ⟨a6,a7,bA,hM,aN⟩:=M.e_iterN aM
 simp only [zcs] at hM
 clear aM
 refine W.seq ?_
 refine W.region rfl ?_
 refine zC (s3:Int) 16 (decide ((s3:Int)<16)) rfl rfl rfl ?_
 refine s_nil ?_
 refine W.seq ?_
 refine W.cond (decide ((s3:Int)<16)) rfl (fun am=>?_) (fun am=>?_)
 ·replace hM:=M.e_t hM am
  simp only [qy1,qy2,qy3,qy4,qy5,qy6,ne_eq,qy7] at am
  refine W.skip ?_
  refine W.seq ?_
  refine W.block ?_
  refine W.seq ?_
  refine W.region rfl ?_
  refine zM (I (s3:Int)) rfl ?_
  refine zA (I (s3:Int)) rfl ?_
  refine s_nil ?_
  refine W.draw (fun W=>St w W [cBlk ac [Pq aa] 178,cBlk ae [Pq ab] 112] R) [(0,true),(1,true),(2,true),(3,true),(4,true),(5,true),(6,true),(8,true),(9,true),(7,false),(10,true),(11,false)] mixed (by decide +kernel) rfl ?_
  intro bB aO
  replace H:=H.ext aO
  clear aO
  refine ⟨(H.pk [0,2]),?_⟩
  refine d_q rfl (fun w' H=>x_ld (p:=Pq ac) (v:=Pq aa) rfl (ldb_sc Sc178 (H.bl 0) rfl)) ?_
  refine d_q rfl (fun w' H=>x_mv (v:=I (s3:Int)) rfl) ?_
  refine d_q rfl (fun w' H=>x_ld (p:=Pq ac) (v:=Pq aa) rfl (ldb_sc Sc178 (H.bl 0) rfl)) ?_
  refine d_q rfl (fun w' H=>x_mv (v:=I (s3:Int)) rfl) ?_
  refine d_q rfl (fun w' H=>x_nc (a:=⟨aa,0,none⟩) rfl) ?_
  refine d_q rfl (fun w' H=>x_fa (a:=Pq aa) (v:=Pq aa) rfl (fa_blk (o:=0) Fd182_0 Sz180)) ?_
  obtain ⟨a8,hM⟩:=M.e_grd hM
  simp only [Bool.and_eq_true,decide_eq_true_eq] at a8
  refine d_q rfl (fun w' H=>x_ix (a:=Pq aa) (b:=I (s3:Int)) (v:=.pointer (some ⟨aa,0+Int.toNat (s3:Int)*1,none⟩)) rfl rfl (run_indexS Tryz.underlying180 Sz3 (by omega) (by omega))) ?_
  refine d_q rfl (fun w' H=>x_nc (a:=⟨aa,0,none⟩) rfl) ?_
  refine d_q rfl (fun w' H=>x_fa (a:=Pq aa) (v:=Oq aa 16) rfl (fa_blk (o:=0) Fd182_1 Sz180)) ?_
  refine d_l rfl ?_
  refine t_stS (α:=Int) (kc:=1) (b:=aa) (k:=1) (off:=0) (i:=s3) (f:=0) (sz:=1) (segs:=[[],encF (α:=Int) s,encF (α:=Int) s2]) (segs':=[[],encF (α:=Int) (s.set s3 (-1)),encF (α:=Int) s2]) (l:=s) (l':=s.set s3 (-1)) (vs:=[I (-1)]) (L':=[cBlk ac [Pq aa] 178,cBlk aa (List.flatten [[],encF (α:=Int) (s.set s3 (-1)),encF (α:=Int) s2]) 182,cBlk ae [Pq ab] 112]) H rfl rfl rfl Sz3 rfl rfl rfl rfl (sgo1 rfl) rfl rfl (by have ba:=ay; omega) (by omega) 0 (-1) rfl rfl rfl rfl ?_
  intro bC H
  have aP:(s.set s3 (-1)).length=16:=List.length_set.trans ay
  refine s_nil ⟨(H.pk [0,2]),?_⟩
  refine d_q rfl (fun w' H=>x_ix (a:=Oq aa 16) (b:=I (s3:Int)) (v:=.pointer (some ⟨aa,16+Int.toNat (s3:Int)*1,none⟩)) rfl rfl (run_indexS Tryz.underlying180 Sz3 (by omega) (by omega))) ?_
  refine d_l rfl ?_
  refine t_stS (α:=Int) (kc:=1) (b:=aa) (k:=2) (off:=16) (i:=s3) (f:=0) (sz:=1) (segs:=[[],encF (α:=Int) (s.set s3 (-1)),encF (α:=Int) s2]) (segs':=[[],encF (α:=Int) (s.set s3 (-1)),encF (α:=Int) (s2.set s3 (-1))]) (l:=s2) (l':=s2.set s3 (-1)) (vs:=[I (-1)]) (L':=[cBlk ac [Pq aa] 178,cBlk aa (List.flatten [[],encF (α:=Int) (s.set s3 (-1)),encF (α:=Int) (s2.set s3 (-1))]) 182,cBlk ae [Pq ab] 112]) H rfl rfl rfl Sz3 rfl rfl rfl rfl (sgo2 aP rfl) rfl rfl (by have ba:=az; omega) (by omega) 0 (-1) rfl rfl rfl rfl ?_
  intro bD H
  have bb:(s2.set s3 (-1)).length=16:=List.length_set.trans az
  refine s_nil ⟨(H.pk [0,2]),?_⟩
  refine d_nil ?_
  refine W.region rfl ?_
  refine zR (s3:Int) 1 ((s3:Int)+1) rfl rfl rfl (by omega) ?_
  refine zM (I ((s3:Int)+1)) rfl ?_
  refine s_nil ?_
  exact ⟨a6,a7,s.set s3 (-1),s2.set s3 (-1),s3+1,_,upds_of _ _ ⟨rfl,rfl,rfl,trivial⟩,M.e_inl hM aN,H,aP,bb⟩
 replace hM:=M.e_f hM am
 simp only [qy1,qy2,qy3,qy4,qy5,qy6,ne_eq,qy7] at am
 refine W.exit ?_
 have bc:=M.e_inr hM aN
 subst bc
 replace hM:=aY
 try dsimp only at hM
 refine W.seq ?_
 refine W.region rfl ?_
 refine s_val (x_ld (p:=Pq ae) (v:=Pq ab) rfl (ldb_sc Sc112 (H.bl 2) rfl)) ?_
 refine s_val (x_mf (fs:=[Pq ab]) (cs:=[]) rfl rfl) ?_
 refine t_alloc (cs:=[.nilFunc]) H Al116 rfl ?_
 intro ai bE H
 refine t_sw 0 0 [.func (.func 51) #[Pq ab] #[]] (.func (.func 51) #[Pq ab] #[]) H rfl rfl Sz116 rfl rfl rfl rfl ?_
 intro bF H
 refine s_nil ?_
 refine W.seq ?_
 refine W.seq ?_
 refine W.region rfl ?_
 refine s_val (x_ld (p:=Pq ae) (v:=Pq ab) rfl (ldb_sc Sc112 (H.bl 3) rfl)) ?_
 refine s_val (x_nc (a:=⟨ab,0,none⟩) rfl) ?_
 refine s_val (x_fa (a:=Pq ab) (v:=Pq ab) rfl (fa_blk (o:=0) Fd177_0 Sz27)) ?_
 refine s_val (x_fa (a:=Pq ab) (v:=Oq ab 1) rfl (fa_blk (o:=0) Fd27_1 Sz24)) ?_
 refine s_val (x_ld (p:=Oq ab 1) (v:=av) rfl (ldb_sc Sc24 (aw.blk H) rfl)) ?_
 have bG:=(aq).len_le
 refine s_val (x_lenS T24.und rfl aq) ?_
 refine zM (I 0) rfl ?_
 refine s_nil ?_
 refine W.block ?_
 obtain ⟨bf,aA,bh⟩:=M.e_bind hM
 obtain ⟨aZ,aA⟩:=M.e_iter aA
 refine W.loop (fun m σ W=>∃ (s4:List Int) (s5:List Int) (s6:Nat) (ρ:Env),σ=upds ρ [(1,Pq ae),(3,Pq ac),(5,Pq ai),(32,I (ag.length:Int)),(33,I (s6:Int))]/\M.iterN (zbC aj ag ak) m (s4,s5,s6)=some bf/\St w W [cBlk ai [.func (.func 51) #[Pq ab] #[]] 116,cBlk ac [Pq aa] 178,cBlk aa (List.flatten [[],encF (α:=Int) s4,encF (α:=Int) s5]) 182,cBlk ae [Pq ab] 112] R/\s4.length=16/\s5.length=16) ?_ ?_
 ·exact ⟨_,s,s2,0,_,upds_of _ _ ⟨rfl,rfl,rfl,rfl,rfl,trivial⟩,aA,H,ay,az⟩
 rintro bH σ bI ⟨s4,s5,s6,ρ,rfl,aQ,H,aR,aS⟩
 obtain ⟨bi,bj,bJ,hM,aT⟩:=M.e_iterN aQ
 simp only [zbC] at hM
 clear aQ
 refine W.seq ?_
 refine W.region rfl ?_
 refine zC (s6:Int) (ag.length:Int) (decide ((s6:Int)<(ag.length:Int))) rfl rfl rfl ?_
 refine s_nil ?_
 refine W.seq ?_
 refine W.cond (decide ((s6:Int)<(ag.length:Int))) rfl (fun ao=>?_) (fun ao=>?_)
 ·replace hM:=M.e_t hM ao
  simp only [qy1,qy2,qy3,qy4,qy5,qy6,ne_eq,qy7] at ao
  refine W.skip ?_
  refine W.seq ?_
  refine W.block ?_
  refine W.seq ?_
  refine W.region rfl ?_
  refine zM (I (s6:Int)) rfl ?_
  refine zA (I (s6:Int)) rfl ?_
  refine s_nil ?_
  refine W.seq ?_
  refine W.region rfl ?_
  refine t_mkmap (κ:=Int) (ν:=Bool) I B H ?_
  intro aU bK H
  refine t_alloc (cs:=[.map none]) H Al191 rfl ?_
  intro au bL H
  refine t_sw 0 0 [.map (some aU)] (.map (some aU)) H rfl rfl Sz191 rfl rfl rfl rfl ?_
  intro bM H
  refine s_nil ?_
  refine W.seq ?_
  refine W.region rfl ?_
  refine t_alloc (cs:=[.nilFunc]) H Al157 rfl ?_
  intro ap bN H
  refine s_nil ?_
  refine W.seq ?_
  refine W.region rfl ?_
  refine s_val (x_mf (fs:=[]) (cs:=[Pq ae,Pq ai,Pq au,Pq ac,Pq ap]) rfl rfl) ?_
  refine t_sw 0 0 [.func (.func 120) #[] #[Pq ae,Pq ai,Pq au,Pq ac,Pq ap]] (.func (.func 120) #[] #[Pq ae,Pq ai,Pq au,Pq ac,Pq ap]) H rfl rfl Sz157 rfl rfl rfl rfl ?_
  intro bO H
  refine s_nil ?_
  refine W.region rfl ?_
  refine s_val (x_ld (p:=Pq ap) (v:=.func (.func 120) #[] #[Pq ae,Pq ai,Pq au,Pq ac,Pq ap]) rfl (ldb_sc Sc157 (H.bl 0) rfl)) ?_
  refine zM (I (s6:Int)) rfl ?_
  obtain ⟨bP,bm,hM⟩:=M.e_bind hM
  refine s_callv (f:=120) rfl cf120 [I (s6:Int)] rfl (zdv (s6:Int) aj ag ak aj ag ak (fun _=>none) s4 s5 (aG.app _) aH (aI.app _) aq (aJ.app _) aK (aw.app _) (Has.here (k:=4) rfl) (aG.app _) aH (aI.app _) aq (aJ.app _) aK (aw.app _) (Has.here (k:=2) rfl) (Has.here (k:=1) rfl) aR aS (Has.here (k:=3) rfl) (Has.here (k:=0) rfl) bm _ ((H.pk [2,5,0,1,3,4,6]).gt 5)) ?_
  rintro vq bQ ⟨r2,bR,q0,q1,bn,hvq,aV,bo,bp⟩
  subst bn
  subst vq
  try dsimp only at hM
  replace H:=H.pk [2,5,0,1,3,4,6] |>.bk aV
  clear aV
  refine s_nil ?_
  replace H:=H.pk [1,4,5,6]
  refine W.region rfl ?_
  refine zR (s6:Int) 1 ((s6:Int)+1) rfl rfl rfl (by omega) ?_
  refine zM (I ((s6:Int)+1)) rfl ?_
  refine s_nil ?_
  exact ⟨bi,bj,q0,q1,s6+1,_,upds_of _ _ ⟨rfl,rfl,rfl,rfl,rfl,trivial⟩,M.e_inl hM aT,(H.pk [1,2,0,3]),bo,bp⟩
 replace hM:=M.e_f hM ao
 simp only [qy1,qy2,qy3,qy4,qy5,qy6,ne_eq,qy7] at ao
 refine W.exit ?_
 have bq:=M.e_inr hM aT
 subst bq
 replace hM:=bh
 try dsimp only at hM
 replace H:=H.pk [1,2]
 refine W.seq ?_
 refine W.region rfl ?_
 refine s_val (x_ld (p:=Pq ac) (v:=Pq aa) rfl (ldb_sc Sc178 (H.bl 0) rfl)) ?_
 refine zA (Pq aa) rfl ?_
 refine s_nil ?_
 refine W.ret ?_
 have br:=M.e_pure hM
 exact ⟨_,resE_tmp rfl,⟨s4,s5,aa,br,rfl,(H.pk [1]),aR,aS⟩⟩

def zbu (r0:List Int):(Int × (List Int))->M ((Int × (List Int)) ⊕ ((List Int) × (List Int))):=fun (s,l) =>
  bif s != (-1) then (
  M.grd (decide ((l.length+([(s:Int)]).length)*8<=140737488355328)) <|
  M.grd (decide ((0:Int)<=s)&&decide (s<(16:Int))) <|
  M.pure (.inl (r0.getD (Int.toNat s) 0,l++([(s:Int)]))))
  else (
  M.pure (.inr (l,l)))
def zbs (aa:List Mrk) (r0:List Int) (r1:List Int):(Nat × (List (List Int)))->M ((Nat × (List (List Int))) ⊕ ((List (List Int)) × (List (List Int)))):=fun (s2,l4) =>
  bif decide ((s2:Int)<(aa.length:Int)) then (
  M.grd (decide ((0:Int)<=(s2:Int))&&decide ((s2:Int)<(16:Int))) <|
  bif (r1.getD s2 0) != (-1) then (
  M.pure (.inl (s2+1,l4)))
  else (
  M.bind (M.iter (zbu r0) ((s2:Int),[])) fun (l2,l3) =>
  M.grd (decide ((l4.length+([l3]).length)*24<=140737488355328)) <|
  M.pure (.inl (s2+1,l4++([l3])))))
  else (
  M.pure (.inr (l4,l4)))
def zan (ab:List Sect) (aa:List Mrk) (ac:List Rch):M (List (List Int)) :=
  M.bind (zbV ab aa ac) fun (r0,r1) =>
  M.bind (M.iter (zbs aa r0 r1) (0,[])) fun (l5,l6) =>
  M.pure l6
theorem zcW {R:List Chunk} {ab:Nat} {aC:Cells} {aD:Value} {aE:Cells} {av:Value} {aF:Cells} {aG:Value} {aU:Nat} (aw:List Sect) (ae:List Mrk) (ax:List Rch) (aV:Reads R aC) (aW:Sl aC aD aw) (aX:Reads R aE) (ay:Sl aE av ae) (aY:Reads R aF) (aZ:Sl aF aG ax) (aH:Has R (cBlk ab [aD,av,aG,.map (some aU)] 177)) {r:(List (List Int))} (hM:(zan aw ae ax).Ends r) (w:World) (H:St w w [] R):Ret Tryz.prog 50 #[Pq ab] w fun v w'=>∃ (y0:List (List Int)) (u0:Value) (rr1:List (Raw 0)) (aI:Base),y0=r/\v=u0/\St w w' [cOwn (α:=Raw 0) 28 u0 rr1,cRo aI] R/\RepR (α:=List Int) aI.cells rr1 y0:=by
 refine ret_of_W Tryz.func50 rfl rfl rfl ?_
 refine W.seq ?_
 refine W.region rfl ?_
 refine zA (.slice none 0 0) rfl ?_
 refine s_nil ?_
 refine W.seq ?_
 refine W.region rfl ?_
 refine zM (Pq ab) rfl ?_
 obtain ⟨bH,a6,hM⟩:=M.e_bind hM
 refine s_call cf96 [Pq ab] rfl (zdK aw ae ax (aV.app _) aW (aX.app _) ay (aY.app _) aZ (aH.app _) a6 _ (H.gt 0)) ?_
 rintro vq bI ⟨r0,r1,aa,a7,hvq,aJ,aK,a8⟩
 subst a7
 subst vq
 try dsimp only at hM
 replace H:=H.bk aJ
 clear aJ
 refine zA (Pq aa) rfl ?_
 refine s_nil ?_
 refine W.seq ?_
 refine W.region rfl ?_
 refine zA (.slice none 0 0) rfl ?_
 refine s_nil ?_
 refine W.seq ?_
 refine W.seq ?_
 refine W.region rfl ?_
 refine zM (Pq ab) rfl ?_
 refine s_val (x_nc (a:=⟨ab,0,none⟩) rfl) ?_
 refine s_val (x_fa (a:=Pq ab) (v:=Pq ab) rfl (fa_blk (o:=0) Fd177_0 Sz27)) ?_
 refine s_val (x_fa (a:=Pq ab) (v:=Oq ab 1) rfl (fa_blk (o:=0) Fd27_1 Sz24)) ?_
 refine s_val (x_ld (p:=Oq ab 1) (v:=av) rfl (ldb_sc Sc24 (aH.blk H) rfl)) ?_
 have bJ:=(ay).len_le
 refine s_val (x_lenS T24.und rfl ay) ?_
 refine zM (I 0) rfl ?_
 refine s_nil ?_
 refine W.block ?_
 obtain ⟨aL,H⟩:=H.emptyE
 replace H:=H.nilOwn (α:=Raw 0) 28
 have ba:RepR (α:=List Int) (n:=0) aL.cells [] []:=.nil
 obtain ⟨bb,az,bc⟩:=M.e_bind hM
 obtain ⟨bf,az⟩:=M.e_iter az
 refine W.loop (fun m σ W=>∃ (s2:Nat) (l4:List (List Int)) (ac:Value) (ag:List (Raw 0)) (B_l4:Base) (ρ:Env),σ=upds ρ [(3,Pq aa),(4,ac),(15,I (ae.length:Int)),(16,I (s2:Int))]/\M.iterN (zbs ae r0 r1) m (s2,l4)=some bb/\St w W [cOwn (α:=Raw 0) 28 ac ag,cRo B_l4,cBlk aa (List.flatten [[],encF (α:=Int) r0,encF (α:=Int) r1]) 182] R/\RepR (α:=List Int) B_l4.cells ag l4) ?_ ?_
 ·exact ⟨_,0,[],(.slice none 0 0),[],aL,_,upds_of _ _ ⟨rfl,rfl,rfl,rfl,trivial⟩,az,H,ba⟩
 rintro bK σ bL ⟨s2,l4,ac,ag,B_l4,ρ,rfl,aM,H,ak⟩
 obtain ⟨aN,aO,bM,hM,aA⟩:=M.e_iterN aM
 simp only [zbs] at hM
 clear aM
 refine W.seq ?_
 refine W.region rfl ?_
 refine zC (s2:Int) (ae.length:Int) (decide ((s2:Int)<(ae.length:Int))) rfl rfl rfl ?_
 refine s_nil ?_
 refine W.seq ?_
 refine W.cond (decide ((s2:Int)<(ae.length:Int))) rfl (fun am=>?_) (fun am=>?_)
 ·replace hM:=M.e_t hM am
  simp only [qy1,qy2,qy3,qy4,qy5,qy6,ne_eq,qy7] at am
  refine W.skip ?_
  refine W.seq ?_
  refine W.block ?_
  refine W.seq ?_
  refine W.region rfl ?_
  refine zM (I (s2:Int)) rfl ?_
  refine zA (I (s2:Int)) rfl ?_
  refine s_nil ?_
  refine W.seq ?_
  refine W.seq ?_
  refine W.region rfl ?_
  refine zM (Pq aa) rfl ?_
  refine zM (I (s2:Int)) rfl ?_
  refine s_val (x_nc (a:=⟨aa,0,none⟩) rfl) ?_
  refine s_val (x_fa (a:=Pq aa) (v:=Oq aa 16) rfl (fa_blk (o:=0) Fd182_1 Sz180)) ?_
  obtain ⟨bh,hM⟩:=M.e_grd hM
  simp only [Bool.and_eq_true,decide_eq_true_eq] at bh
  refine s_val (x_ix (a:=Oq aa 16) (b:=I (s2:Int)) (v:=.pointer (some ⟨aa,16+Int.toNat (s2:Int)*1,none⟩)) rfl rfl (run_indexS Tryz.underlying180 Sz3 (by omega) (by omega))) ?_
  refine s_val (x_ld (p:=.pointer (some ⟨aa,16+Int.toNat (s2:Int)*1,none⟩)) (v:=I (r1.getD s2 0)) rfl (ldS (α:=Int) (k:=2) (off:=16) (i:=s2) (f:=0) (sz:=1) 0 Sc3 (H.bl 2) rfl (sgo2 aK rfl) rfl (by decide) (by have bi:=a8; omega) (by omega) rfl)) ?_
  refine zC (r1.getD s2 0) (-1) ((r1.getD s2 0) != (-1)) rfl rfl rfl ?_
  refine s_nil ?_
  refine W.cond ((r1.getD s2 0) != (-1)) rfl (fun ao=>?_) (fun ao=>?_)
  ·replace hM:=M.e_t hM ao
   simp only [qy1,qy2,qy3,qy4,qy5,qy6,ne_eq,qy7] at ao
   refine W.exit ?_
   refine W.region rfl ?_
   refine zR (s2:Int) 1 ((s2:Int)+1) rfl rfl rfl (by omega) ?_
   refine zM (I ((s2:Int)+1)) rfl ?_
   refine s_nil ?_
   exact ⟨aN,aO,s2+1,l4,ac,ag,B_l4,_,upds_of _ _ ⟨rfl,rfl,rfl,rfl,trivial⟩,M.e_inl hM aA,H,ak⟩
  replace hM:=M.e_f hM ao
  simp only [qy1,qy2,qy3,qy4,qy5,qy6,ne_eq,qy7] at ao
  refine W.skip ?_
  refine W.seq ?_
  refine W.region rfl ?_
  refine zA (.slice none 0 0) rfl ?_
  refine s_nil ?_
  refine W.seq ?_
  refine W.seq ?_
  refine W.region rfl ?_
  refine zM (I (s2:Int)) rfl ?_
  refine zA (I (s2:Int)) rfl ?_
  refine s_nil ?_
  refine W.block ?_
  replace H:=H.nilOwn (α:=Int) 3
  obtain ⟨bj,aB,bm⟩:=M.e_bind hM
  obtain ⟨bf,aB⟩:=M.e_iter aB
  refine W.loop (fun m σ W=>∃ (s:Int) (l:List Int) (ai:Value) (ρ:Env),σ=upds ρ [(3,Pq aa),(4,ac),(6,ai),(7,I s),(15,I (ae.length:Int)),(16,I (s2:Int))]/\M.iterN (zbu r0) m (s,l)=some bj/\St w W [cOwn (α:=Int) 3 ai l,cOwn (α:=Raw 0) 28 ac ag,cRo B_l4,cBlk aa (List.flatten [[],encF (α:=Int) r0,encF (α:=Int) r1]) 182] R) ?_ ?_
  ·exact ⟨_,(s2:Int),[],(.slice none 0 0),_,upds_of _ _ ⟨rfl,rfl,rfl,rfl,rfl,rfl,trivial⟩,aB,H⟩
  rintro bN σ bO ⟨s,l,ai,ρ,rfl,aP,H⟩
  obtain ⟨bn,bo,bP,hM,aQ⟩:=M.e_iterN aP
  simp only [zbu] at hM
  clear aP
  refine W.seq ?_
  refine W.seq ?_
  refine W.region rfl ?_
  refine zM (I s) rfl ?_
  refine zC s (-1) (s != (-1)) rfl rfl rfl ?_
  refine s_nil ?_
  refine W.cond (s != (-1)) rfl (fun ap=>?_) (fun ap=>?_)
  ·replace hM:=M.e_t hM ap
   simp only [qy1,qy2,qy3,qy4,qy5,qy6,ne_eq,qy7] at ap
   refine W.skip ?_
   refine W.seq ?_
   refine W.block ?_
   refine W.region rfl ?_
   refine zM ai rfl ?_
   refine zM (I s) rfl ?_
   refine t_bs (α:=Int) T28 [I s] [(s:Int)] H rfl (.cons rfl (Flat.rep_enc _ (s:Int))<|.nil) rfl rfl rfl ?_
   intro bp bQ H
   obtain ⟨bq,hM⟩:=M.e_grd hM
   simp only [Bool.and_eq_true,decide_eq_true_eq] at bq
   refine t_app (α:=Int) (k:=1) (l:=l) (l2:=[(s:Int)]) (l':=l++([(s:Int)])) (vy:=bp) T28 rfl H rfl rfl rfl (H.os 0) (H.ol 0) (rfl) (by first | omega | (simp only [List.length_nil] at *; omega)) ?_
   intro aR bR H
   replace H:=H.nf
   refine zA aR rfl ?_
   refine s_nil ?_
   refine W.region rfl ?_
   refine zM (Pq aa) rfl ?_
   refine zM (I s) rfl ?_
   refine s_val (x_nc (a:=⟨aa,0,none⟩) rfl) ?_
   refine s_val (x_fa (a:=Pq aa) (v:=Pq aa) rfl (fa_blk (o:=0) Fd182_0 Sz180)) ?_
   obtain ⟨br,hM⟩:=M.e_grd hM
   simp only [Bool.and_eq_true,decide_eq_true_eq] at br
   refine s_val (x_ix (a:=Pq aa) (b:=I s) (v:=.pointer (some ⟨aa,0+Int.toNat s*1,none⟩)) rfl rfl (run_indexS Tryz.underlying180 Sz3 (by omega) (by omega))) ?_
   refine s_val (x_ld (p:=.pointer (some ⟨aa,0+Int.toNat s*1,none⟩)) (v:=I (r0.getD (Int.toNat s) 0)) rfl (ldS (α:=Int) (k:=1) (off:=0) (i:=(Int.toNat s)) (f:=0) (sz:=1) 0 Sc3 (H.bl 4) rfl (sgo1 rfl) rfl (by decide) (by have bi:=aK; omega) (by omega) rfl)) ?_
   refine zA (I (r0.getD (Int.toNat s) 0)) rfl ?_
   refine s_nil ?_
   exact ⟨bn,bo,r0.getD (Int.toNat s) 0,l++([(s:Int)]),aR,_,upds_of _ _ ⟨rfl,rfl,rfl,rfl,rfl,rfl,trivial⟩,M.e_inl hM aQ,(H.pk [1,2,3,4])⟩
  replace hM:=M.e_f hM ap
  simp only [qy1,qy2,qy3,qy4,qy5,qy6,ne_eq,qy7] at ap
  refine W.exit ?_
  have bt:=M.e_inr hM aQ
  subst bt
  replace hM:=bm
  try dsimp only at hM
  refine W.region rfl ?_
  refine zM ac rfl ?_
  refine zM ai rfl ?_
  obtain ⟨bS,H⟩:=H.emptyE
  obtain ⟨bT,H,bu⟩:=H.freezeE (k:=1) rfl
  replace H:=H.nf
  have aq:=bu
  obtain ⟨bv,H,bU,bw⟩:=H.joinE (i:=0) (j:=1) rfl rfl
  replace aq:=aq.mono bw
  obtain ⟨aj,aS⟩:∃ r:Raw 0,r.cs=[ai]:=⟨Raw.of [ai] rfl (by simp only [List.all_cons,List.all_nil,Bool.true_and,Bool.and_true,Sl.oc aq]; try rfl),rfl⟩
  have bx:RepR (α:=List Int) bv.cells [aj] [l]:=.cons (by rw [aS]; exact ⟨_,rfl,aq⟩)<|.nil
  refine t_bs (α:=Raw 0) T38 [ai] [aj] H rfl (.cons (by rw [show (Flat.enc aj:List Value)=aj.cs from rfl,aS]; exact Sl.cells aq) (Flat.rep_enc _ _)<|.nil) rfl rfl rfl ?_
  intro bz bV H
  replace H:=H.nf
  obtain ⟨bA,hM⟩:=M.e_grd hM
  simp only [Bool.and_eq_true,decide_eq_true_eq] at bA
  have au:=bx
  obtain ⟨bB,H,bC,bD⟩:=H.joinE (i:=5) (j:=1) rfl rfl
  replace ak:=ak.mono bC
  replace au:=au.mono bD
  have bE:=ak.app au
  refine t_app (α:=Raw 0) (k:=5) (l:=ag) (l2:=[aj]) (l':=ag++([aj])) (vy:=bz) T38 rfl H rfl rfl rfl (H.os 1) (H.ol 1) (rfl) (by have a_:=ak.len; have b_:=au.len; (try simp only [List.length_nil] at *); first | omega | (rw [a_,b_]; omega)) ?_
  intro aT bW H
  replace H:=H.nf
  refine zA aT rfl ?_
  refine s_nil ?_
  replace H:=H.pk [0,5,6,7]
  refine W.region rfl ?_
  refine zR (s2:Int) 1 ((s2:Int)+1) rfl rfl rfl (by omega) ?_
  refine zM (I ((s2:Int)+1)) rfl ?_
  refine s_nil ?_
  exact ⟨aN,aO,s2+1,l4++([l]),aT,ag++([aj]),bB,_,upds_of _ _ ⟨rfl,rfl,rfl,rfl,trivial⟩,M.e_inl hM aA,(H.pk [1,0,3]),bE⟩
 replace hM:=M.e_f hM am
 simp only [qy1,qy2,qy3,qy4,qy5,qy6,ne_eq,qy7] at am
 refine W.exit ?_
 have bF:=M.e_inr hM aA
 subst bF
 replace hM:=bc
 try dsimp only at hM
 refine W.seq ?_
 refine W.region rfl ?_
 refine zM ac rfl ?_
 refine zA ac rfl ?_
 refine s_nil ?_
 refine W.ret ?_
 have bG:=M.e_pure hM
 exact ⟨_,resE_tmp rfl,⟨l4,ac,ag,B_l4,bG,rfl,(H.pk [0,1]),ak⟩⟩

def zaB (s_Sections:List Sect) (s_Marks:List Mrk) (s_Reaches:List Rch) (r2:List (List Int)) (l6:List Int) (s3:Nat):Nat->M (Nat ⊕ (Unit ⊕ Unit)):=fun s2 =>
  bif decide ((s2:Int)<(r2.length:Int)) then (
  M.grd (decide ((s2:Int)<(r2.length:Int))) <|
  M.grd ((!((s3:Int) != (s2:Int))||(decide ((s3:Int)<(l6.length:Int))))) <|
  M.grd ((!(((s3:Int) != (s2:Int))&&(decide ((l6.getD s3 0)<((r2.getD s3 ([])).length:Int))))||(decide ((s2:Int)<(l6.length:Int))))) <|
  M.grd ((!((((s3:Int) != (s2:Int))&&(decide ((l6.getD s3 0)<((r2.getD s3 ([])).length:Int))))&&(decide ((l6.getD s2 0)<((r2.getD s2 ([])).length:Int))))||(decide ((s3:Int)<(l6.length:Int))))) <|
  M.grd ((!((((s3:Int) != (s2:Int))&&(decide ((l6.getD s3 0)<((r2.getD s3 ([])).length:Int))))&&(decide ((l6.getD s2 0)<((r2.getD s2 ([])).length:Int))))||(decide ((0:Int)<=(l6.getD s3 0))&&decide ((l6.getD s3 0)<((r2.getD s3 ([])).length:Int))))) <|
  M.grd ((!((((s3:Int) != (s2:Int))&&(decide ((l6.getD s3 0)<((r2.getD s3 ([])).length:Int))))&&(decide ((l6.getD s2 0)<((r2.getD s2 ([])).length:Int))))||(decide ((s2:Int)<(l6.length:Int))))) <|
  M.grd ((!((((s3:Int) != (s2:Int))&&(decide ((l6.getD s3 0)<((r2.getD s3 ([])).length:Int))))&&(decide ((l6.getD s2 0)<((r2.getD s2 ([])).length:Int))))||(decide ((0:Int)<=(l6.getD s2 0))&&decide ((l6.getD s2 0)<((r2.getD s2 ([])).length:Int))))) <|
  M.bind (M.opt ((((s3:Int) != (s2:Int))&&(decide ((l6.getD s3 0)<((r2.getD s3 ([])).length:Int))))&&(decide ((l6.getD s2 0)<((r2.getD s2 ([])).length:Int)))) (zah s_Sections s_Marks s_Reaches ((r2.getD s3 ([])).getD (Int.toNat (l6.getD s3 0)) 0) ((r2.getD s2 ([])).getD (Int.toNat (l6.getD s2 0)) 0)) false) fun r3 =>
  bif (((((s3:Int) != (s2:Int))&&(decide ((l6.getD s3 0)<((r2.getD s3 ([])).length:Int))))&&(decide ((l6.getD s2 0)<((r2.getD s2 ([])).length:Int))))&&r3) then (
  M.grd (decide ((s3:Int)<(l6.length:Int))) <|
  M.grd (decide ((-9223372036854775808:Int)<=((l6.getD s3 0)+1))&&decide (((l6.getD s3 0)+1)<=(9223372036854775807:Int))) <|
  M.pure (.inr (.inl ())))
  else (
  M.pure (.inl (s2+1))))
  else (
  M.pure (.inr (.inr ())))
def zaC (s_Sections:List Sect) (s_Marks:List Mrk) (s_Reaches:List Rch) (r2:List (List Int)) (l6:List Int):Nat->M (Nat ⊕ (((List Int) × (List Int)) ⊕ Unit)):=fun s3 =>
  bif decide ((s3:Int)<(r2.length:Int)) then (
  M.grd (decide ((s3:Int)<(r2.length:Int))) <|
  M.bind (M.iter (zaB s_Sections s_Marks s_Reaches r2 l6 s3) 0) fun x_=>match x_ with
  | (.inl (_:Unit))=>(
  M.pure (.inr (.inl (l6.set s3 ((l6.getD s3 0)+1:Int),l6.set s3 ((l6.getD s3 0)+1:Int)))))
  | (.inr (_:Unit))=>(
  M.pure (.inl (s3+1))))
  else (
  M.pure (.inr (.inr ())))
def zaP (r2:List (List Int)) (l6:List Int):(Nat × (List Int))->M ((Nat × (List Int)) ⊕ ((List Int) × (List Int))):=fun (s4,l3) =>
  bif decide ((s4:Int)<(r2.length:Int)) then (
  M.grd (decide ((s4:Int)<(r2.length:Int))) <|
  M.grd (decide ((s4:Int)<(l6.length:Int))) <|
  bif decide ((l6.getD s4 0)<((r2.getD s4 ([])).length:Int)) then (
  M.grd (decide ((0:Int)<=(l6.getD s4 0))&&decide ((l6.getD s4 0)<((r2.getD s4 ([])).length:Int))) <|
  M.grd (decide ((l3.length+([((r2.getD s4 ([])).getD (Int.toNat (l6.getD s4 0)) 0:Int)]).length)*8<=140737488355328)) <|
  M.pure (.inl (s4+1,l3++([((r2.getD s4 ([])).getD (Int.toNat (l6.getD s4 0)) 0:Int)]))))
  else (
  M.pure (.inl (s4+1,l3))))
  else (
  M.pure (.inr (l3,l3)))
def zbL (s_Sections:List Sect) (s_Marks:List Mrk) (s_Reaches:List Rch) (r2:List (List Int)):(List Int)->M ((List Int) ⊕ ((List Int) × (List Int))):=fun l6 =>
  M.bind (M.iter (zaC s_Sections s_Marks s_Reaches r2 l6) 0) fun x_=>match x_ with
  | (.inl (l,l2))=>(
  M.pure (.inl l2))
  | (.inr (_:Unit))=>(
  M.bind (M.iter (zaP r2 l6) (0,[])) fun (l4,l5) =>
  M.grd (decide (l5.length<=1000000)) <|
  M.pure (.inr (isort l5,l6)))
def zaq (s_Sections:List Sect) (s_Marks:List Mrk) (s_Reaches:List Rch):M ((List Int) × Int) :=
  M.bind (zad s_Sections s_Marks s_Reaches) fun x_=>match x_ with
  | (.inl r1)=>(
  bif r1 != 0 then (
  M.pure (([]),r1))
  else (
  M.fail))
  | (.inr aa)=>(
  bif aa != 0 then (
  M.fail)
  else (
  M.bind (zan s_Sections s_Marks s_Reaches) fun r2 =>
  M.grd (decide ((0:Int)<=(r2.length:Int))&&decide ((8:Int)*(r2.length:Int)<=281474976710656)&&decide ((r2.length:Int)<=(9223372036854775807:Int))) <|
  M.bind (M.iter (zbL s_Sections s_Marks s_Reaches r2) (List.replicate (r2.length) (0:Int))) fun (l7,l8) =>
  M.pure (l7,0)))
theorem zc7 {R:List Chunk} {bj:Cells} {aj:Value} {bm:Cells} {ak:Value} {bn:Cells} {am:Value} (s_Sections:List Sect) (s_Marks:List Mrk) (s_Reaches:List Rch) (aU:Reads R bj) (aV:Sl bj aj s_Sections) (aW:Reads R bm) (aX:Sl bm ak s_Marks) (aY:Reads R bn) (aZ:Sl bn am s_Reaches) {r:((List Int) × Int)} (hM:(zaq s_Sections s_Marks s_Reaches).Ends r) (w:World) (H:St w w [] R):Ret Tryz.prog 10 #[.agg #[aj,ak,am]] w fun v w'=>∃ (y0:List Int) (y1:Int) (u0:Value),(y0,y1)=r/\v = .tuple #[u0,I y1]/\St w w' [cOwn (α:=Int) 3 u0 y0] R:=by
 refine ret_of_W Tryz.func10 rfl rfl rfl ?_
 refine W.seq ?_
 refine W.region rfl ?_
 refine t_box (v:=.agg #[aj,ak,am]) (cs:=[aj,ak,am]) H rfl rfl ?_
 intro aC ct H
 refine zA (.slice none 0 0) rfl ?_
 refine zA (I 0) rfl ?_
 refine s_nil ?_
 refine W.jumpS 0 rfl ?_
 refine W.seq ?_
 refine W.region rfl ?_
 refine s_val (x_ld (p:=Pq aC) (v:=.agg #[aj,ak,am]) rfl (ldb_ag (ds:=[aj,ak,am]) Ag27 Sz27 (H.bl 0) rfl rfl)) ?_
 obtain ⟨cu,bE,hM⟩:=M.e_bind hM
 refine s_call cf49 [.agg #[aj,ak,am]] rfl (zap s_Sections s_Marks s_Reaches (aU.app _) aV (aW.app _) aX (aY.app _) aZ bE _ (H.gt 1)) ?_
 rintro vq cw (⟨r1,bF,hvq,aD⟩ | ⟨aB,ao,av,bG,hvq,aD⟩)
 ·subst bF
  subst vq
  try dsimp only at hM
  replace H:=H.bk aD
  clear aD
  refine zM (.tuple #[.pointer none,I r1]) rfl ?_
  refine zX [.pointer none,I r1] (.pointer none) rfl rfl ?_
  refine zX [.pointer none,I r1] (I r1) rfl rfl ?_
  refine zA (.pointer none) rfl ?_
  refine zA (I r1) rfl ?_
  refine s_nil ?_
  refine W.seq ?_
  refine W.seq ?_
  refine W.region rfl ?_
  refine zM (I r1) rfl ?_
  refine zC r1 0 (r1 != 0) rfl rfl rfl ?_
  refine s_nil ?_
  refine W.cond (r1 != 0) rfl (fun aS=>?_) (fun aS=>?_)
  ·replace hM:=M.e_t hM aS
   simp only [qy1,qy2,qy3,qy4,qy5,qy6,ne_eq,qy7] at aS
   refine W.seq ?_
   refine W.region rfl ?_
   refine zM (I r1) rfl ?_
   refine zA (.slice none 0 0) rfl ?_
   refine zA (I r1) rfl ?_
   refine s_nil ?_
   refine W.ret ?_
   have aN:=M.e_pure hM
   replace H:=H.nilOwn (α:=Int) 3
   exact ⟨_,resE_tmp2 rfl,⟨([]),r1,(.slice none 0 0),aN,rfl,(H.pk [0])⟩⟩
  replace hM:=M.e_f hM aS
  exact (M.e_fail hM).elim
 subst bG
 subst vq
 try dsimp only at hM
 replace H:=H.bk aD
 clear aD
 refine zM (.tuple #[Pq ao,I aB]) rfl ?_
 refine zX [Pq ao,I aB] (Pq ao) rfl rfl ?_
 refine zX [Pq ao,I aB] (I aB) rfl rfl ?_
 refine zA (Pq ao) rfl ?_
 refine zA (I aB) rfl ?_
 refine s_nil ?_
 refine W.seq ?_
 refine W.seq ?_
 refine W.region rfl ?_
 refine zM (I aB) rfl ?_
 refine zC aB 0 (aB != 0) rfl rfl rfl ?_
 refine s_nil ?_
 refine W.cond (aB != 0) rfl (fun aT=>?_) (fun aT=>?_)
 ·replace hM:=M.e_t hM aT
  exact (M.e_fail hM).elim
 replace hM:=M.e_f hM aT
 simp only [qy1,qy2,qy3,qy4,qy5,qy6,ne_eq,qy7] at aT
 refine W.skip ?_
 refine W.seq ?_
 refine W.region rfl ?_
 refine zM (Pq ao) rfl ?_
 obtain ⟨cx,bH,hM⟩:=M.e_bind hM
 refine s_call cf50 [Pq ao] rfl (zcW s_Sections s_Marks s_Reaches (aU.app _) aV (aW.app _) aX (aY.app _) aZ (Has.here (k:=0) rfl) bH _ (H.gt 3)) ?_
 rintro vq cy ⟨r2,ai,aF,aG,bI,hvq,aD,aw⟩
 subst bI
 subst vq
 try dsimp only at hM
 replace H:=H.bk aD
 clear aD
 refine zA ai rfl ?_
 refine s_nil ?_
 refine W.seq ?_
 refine W.region rfl ?_
 refine zM ai rfl ?_
 have cz:=((rowSl rfl (H.get (k:=0) rfl) (roLe _ (H.get (k:=1) rfl)) aw)).len_le
 refine s_val (x_lenS T38.und rfl (rowSl rfl (H.get (k:=0) rfl) (roLe _ (H.get (k:=1) rfl)) aw)) ?_
 obtain ⟨bJ,hM⟩:=M.e_grd hM
 simp only [Bool.and_eq_true,decide_eq_true_eq] at bJ
 refine t_mk (α:=Int) T28 (0:Int) rfl (n:=(r2.length:Int)) H rfl rfl (by omega) (by omega) (by omega) ?_
 intro bo cA H
 replace H:=H.nf
 refine zA bo rfl ?_
 refine s_nil ?_
 obtain ⟨bK,a6,bL⟩:=M.e_bind hM
 obtain ⟨a7,a6⟩:=M.e_iter a6
 refine W.jumpL (fun m σ W=>∃ (l6:List Int) (ab:Value) (ρ:Env),σ=upds ρ [(4,Pq ao),(6,ai),(7,ab)]/\M.iterN (zbL s_Sections s_Marks s_Reaches r2) m l6=some bK/\St w W [cOwn (α:=Int) 3 ab l6,cOwn (α:=Raw 0) 28 ai aF,cRo aG,cBlk ao [aj,ak,am,.map (some av)] 177,cMemI encSpt av (zaa s_Sections s_Marks s_Reaches),cBlk aC [aj,ak,am] 27] R) ?_ ?_
 ·exact ⟨_,List.replicate (r2.length) (0:Int),bo,_,upds_of _ _ ⟨rfl,rfl,rfl,trivial⟩,a6,H⟩
 rintro cB σ cC ⟨l6,ab,ρ,rfl,bp,H⟩
 obtain ⟨bM,bN,cD,hM,bq⟩:=M.e_iterN bp
 simp only [zbL] at hM
 clear bp
 refine W.seq ?_
 refine W.seq ?_
 refine W.region rfl ?_
 refine zM ai rfl ?_
 have cE:=((rowSl rfl (H.get (k:=1) rfl) (roLe _ (H.get (k:=2) rfl)) aw)).len_le
 refine s_val (x_lenS T38.und rfl (rowSl rfl (H.get (k:=1) rfl) (roLe _ (H.get (k:=2) rfl)) aw)) ?_
 refine zM (I 0) rfl ?_
 refine s_nil ?_
 refine W.block ?_
 obtain ⟨bO,a8,br⟩:=M.e_bind hM
 obtain ⟨a7,a8⟩:=M.e_iter a8
 refine W.loop (fun m σ W=>∃ (s3:Nat) (ρ:Env),σ=upds ρ [(4,Pq ao),(6,ai),(7,ab),(28,ai),(29,I (r2.length:Int)),(30,I (s3:Int))]/\M.iterN (zaC s_Sections s_Marks s_Reaches r2 l6) m s3=some bO/\St w W [cOwn (α:=Int) 3 ab l6,cOwn (α:=Raw 0) 28 ai aF,cRo aG,cBlk ao [aj,ak,am,.map (some av)] 177,cMemI encSpt av (zaa s_Sections s_Marks s_Reaches),cBlk aC [aj,ak,am] 27] R) ?_ ?_
 ·exact ⟨_,0,_,upds_of _ _ ⟨rfl,rfl,rfl,rfl,rfl,rfl,trivial⟩,a8,H⟩
 rintro cF σ cG ⟨s3,ρ,rfl,bt,H⟩
 obtain ⟨bP,bQ,cH,hM,ba⟩:=M.e_iterN bt
 simp only [zaC] at hM
 clear bt
 refine W.seq ?_
 refine W.region rfl ?_
 refine zC (s3:Int) (r2.length:Int) (decide ((s3:Int)<(r2.length:Int))) rfl rfl rfl ?_
 refine s_nil ?_
 refine W.seq ?_
 refine W.cond (decide ((s3:Int)<(r2.length:Int))) rfl (fun aO=>?_) (fun aO=>?_)
 ·replace hM:=M.e_t hM aO
  simp only [qy1,qy2,qy3,qy4,qy5,qy6,ne_eq,qy7] at aO
  refine W.skip ?_
  refine W.seq ?_
  refine W.block ?_
  refine W.seq ?_
  refine W.region rfl ?_
  refine zM (I (s3:Int)) rfl ?_
  obtain ⟨bR,hM⟩:=M.e_grd hM
  simp only [Bool.and_eq_true,decide_eq_true_eq] at bR
  refine s_val (x_ix (a:=ai) (b:=I (s3:Int)) (v:=vat ai 1 (Int.toNat (s3:Int))) rfl rfl (Sl.ix (α:=List Int) T38.und T38.size (rowSl rfl (H.get (k:=1) rfl) (roLe _ (H.get (k:=2) rfl)) aw) (by omega) (by omega))) ?_
  obtain ⟨ax,bS,aL⟩:=List_at (rowSl rfl (H.get (k:=1) rfl) (roLe _ (H.get (k:=2) rfl)) aw) (i:=(s3:Int)) (by omega) (by omega)
  replace aL:Sl _ ax (r2.getD s3 ([])):=aL
  have cI:=aL.len_le
  refine s_val (x_ld (p:=vat ai 1 (Int.toNat (s3:Int))) (v:=ax) rfl (ld_sc Sc28 (At.mono (bS) (Cells.sup_le (H.ol 1) (roLe _ (H.get (k:=2) rfl)))))) ?_
  refine zA (I (s3:Int)) rfl ?_
  refine zA ax rfl ?_
  refine s_nil ?_
  refine W.seq ?_
  refine W.region rfl ?_
  refine zM ai rfl ?_
  have cJ:=((rowSl rfl (H.get (k:=1) rfl) (roLe _ (H.get (k:=2) rfl)) aw)).len_le
  refine s_val (x_lenS T38.und rfl (rowSl rfl (H.get (k:=1) rfl) (roLe _ (H.get (k:=2) rfl)) aw)) ?_
  refine zM (I 0) rfl ?_
  refine s_nil ?_
  refine W.block ?_
  obtain ⟨bT,bb,bu⟩:=M.e_bind hM
  obtain ⟨a7,bb⟩:=M.e_iter bb
  refine W.loop (fun m σ W=>∃ (s2:Nat) (ρ:Env),σ=upds ρ [(4,Pq ao),(6,ai),(7,ab),(8,I (s3:Int)),(9,ax),(28,ai),(29,I (r2.length:Int)),(30,I (s3:Int)),(35,ai),(36,I (r2.length:Int)),(37,I (s2:Int))]/\M.iterN (zaB s_Sections s_Marks s_Reaches r2 l6 s3) m s2=some bT/\St w W [cOwn (α:=Int) 3 ab l6,cOwn (α:=Raw 0) 28 ai aF,cRo aG,cBlk ao [aj,ak,am,.map (some av)] 177,cMemI encSpt av (zaa s_Sections s_Marks s_Reaches),cBlk aC [aj,ak,am] 27] R) ?_ ?_
  ·exact ⟨_,0,_,upds_of _ _ ⟨rfl,rfl,rfl,rfl,rfl,rfl,rfl,rfl,rfl,rfl,rfl,trivial⟩,bb,H⟩
  rintro cK σ cL ⟨s2,ρ,rfl,bv,H⟩
  obtain ⟨bU,bV,cM,hM,bc⟩:=M.e_iterN bv
  simp only [zaB] at hM
  clear bv
  refine W.seq ?_
  refine W.region rfl ?_
  refine zC (s2:Int) (r2.length:Int) (decide ((s2:Int)<(r2.length:Int))) rfl rfl rfl ?_
  refine s_nil ?_
  refine W.seq ?_
  refine W.cond (decide ((s2:Int)<(r2.length:Int))) rfl (fun aP=>?_) (fun aP=>?_)
  ·replace hM:=M.e_t hM aP
   simp only [qy1,qy2,qy3,qy4,qy5,qy6,ne_eq,qy7] at aP
   refine W.skip ?_
   refine W.seq ?_
   refine W.block ?_
   refine W.seq ?_
   refine W.region rfl ?_
   refine zM (I (s2:Int)) rfl ?_
   obtain ⟨bW,hM⟩:=M.e_grd hM
   simp only [Bool.and_eq_true,decide_eq_true_eq] at bW
   refine s_val (x_ix (a:=ai) (b:=I (s2:Int)) (v:=vat ai 1 (Int.toNat (s2:Int))) rfl rfl (Sl.ix (α:=List Int) T38.und T38.size (rowSl rfl (H.get (k:=1) rfl) (roLe _ (H.get (k:=2) rfl)) aw) (by omega) (by omega))) ?_
   obtain ⟨ay,bX,aM⟩:=List_at (rowSl rfl (H.get (k:=1) rfl) (roLe _ (H.get (k:=2) rfl)) aw) (i:=(s2:Int)) (by omega) (by omega)
   replace aM:Sl _ ay (r2.getD s2 ([])):=aM
   have cN:=aM.len_le
   refine s_val (x_ld (p:=vat ai 1 (Int.toNat (s2:Int))) (v:=ay) rfl (ld_sc Sc28 (At.mono (bX) (Cells.sup_le (H.ol 1) (roLe _ (H.get (k:=2) rfl)))))) ?_
   refine zA (I (s2:Int)) rfl ?_
   refine zA ay rfl ?_
   refine s_nil ?_
   refine W.seq ?_
   refine W.draw (fun W=>St w W [cOwn (α:=Int) 3 ab l6,cOwn (α:=Raw 0) 28 ai aF,cRo aG,cBlk ao [aj,ak,am,.map (some av)] 177,cMemI encSpt av (zaa s_Sections s_Marks s_Reaches),cBlk aC [aj,ak,am] 27] R) [(0,true),(1,true),(2,true),(3,true),(4,true),(5,true),(6,true),(7,true),(8,true),(9,true),(10,true),(11,true),(12,true),(13,true),(14,true),(15,true),(16,true),(17,true),(18,true),(19,true),(20,true),(21,true),(22,true),(23,true),(24,true),(25,true),(26,true),(27,true),(28,true),(29,true),(30,true),(31,true),(32,true),(33,true),(34,true),(35,true),(36,true),(37,false),(38,true)] mixed (by decide +kernel) rfl ?_
   intro cO ac
   replace H:=H.ext ac
   clear ac
   refine ⟨(H.pk [0,1,2,3,4,5]),?_⟩
   refine d_q rfl (fun w' H=>x_mv (v:=I (s3:Int)) rfl) ?_
   refine d_q rfl (fun w' H=>x_mv (v:=I (s2:Int)) rfl) ?_
   refine d_q rfl (fun w' H=>x_cmp (kd:=.i64) (a:=(s3:Int)) (b:=(s2:Int)) (r:=(s3:Int) != (s2:Int)) rfl rfl rfl) ?_
   refine d_q rfl (fun w' H=>x_mv (v:=B ((s3:Int) != (s2:Int))) rfl) ?_
   refine d_qg ((s3:Int) != (s2:Int)) rfl (gy_t rfl) (fun hg=>(fun w' H=>x_mv (v:=ab) rfl)) ?_
   refine d_qg ((s3:Int) != (s2:Int)) rfl (gy_t rfl) (fun hg=>(fun w' H=>x_mv (v:=I (s3:Int)) rfl)) ?_
   obtain ⟨aH,hM⟩:=M.e_grd hM
   replace aH:=M.imp_of aH
   simp only [Bool.and_eq_true,decide_eq_true_eq] at aH
   refine d_qg ((s3:Int) != (s2:Int)) rfl (gy_t rfl) (fun hg=>(fun w' H=>x_ix (a:=ab) (b:=I (s3:Int)) (v:=vat ab 1 (Int.toNat (s3:Int))) (gd_of (c:=(s3:Int) != (s2:Int)) hg (ab)) (gd_of (c:=(s3:Int) != (s2:Int)) hg (I (s3:Int))) (Sl.ix (α:=Int) T28.und T28.size (H.os 0) (by have aa:=aH.resolve_left (by rw [hg]; decide); first | exact aa | exact aa.1 | exact aa.2 | omega | (have ac:=hg; simp at ac; omega)) (by have aa:=aH.resolve_left (by rw [hg]; decide); first | exact aa | exact aa.1 | exact aa.2 | omega | (have ac:=hg; simp at ac; omega))))) ?_
   refine d_qg ((s3:Int) != (s2:Int)) rfl (gy_t rfl) (fun hg=>(fun w' H=>x_ld (p:=vat ab 1 (Int.toNat (s3:Int))) (v:=I (l6.getD s3 0)) (gd_of (c:=(s3:Int) != (s2:Int)) hg (vat ab 1 (Int.toNat (s3:Int)))) (ld_sc Sc3 (At.mono (Int_at (H.os 0) (i:=(s3:Int)) (by have aa:=aH.resolve_left (by rw [hg]; decide); first | exact aa | exact aa.1 | exact aa.2 | omega | (have ac:=hg; simp at ac; omega)) (by have aa:=aH.resolve_left (by rw [hg]; decide); first | exact aa | exact aa.1 | exact aa.2 | omega | (have ac:=hg; simp at ac; omega))) (H.ol 0))))) ?_
   refine d_qg ((s3:Int) != (s2:Int)) rfl (gy_t rfl) (fun hg=>(fun w' H=>x_mv (v:=ax) rfl)) ?_
   refine d_qg ((s3:Int) != (s2:Int)) rfl (gy_t rfl) (fun hg=>(fun w' H=>x_lenS T28.und (gd_of (c:=(s3:Int) != (s2:Int)) hg (ax)) aL)) ?_
   refine d_qg ((s3:Int) != (s2:Int)) rfl (gy_t rfl) (fun hg=>(fun w' H=>x_cmp (kd:=.i64) (a:=l6.getD s3 0) (b:=((r2.getD s3 ([])).length:Int)) (r:=decide ((l6.getD s3 0)<((r2.getD s3 ([])).length:Int))) (gd_of (c:=(s3:Int) != (s2:Int)) hg (I (l6.getD s3 0))) (gd_of (c:=(s3:Int) != (s2:Int)) hg (I ((r2.getD s3 ([])).length:Int))) rfl)) ?_
   refine d_q rfl (fun w' H=>x_pand (b:=(s3:Int) != (s2:Int)) (r:=decide ((l6.getD s3 0)<((r2.getD s3 ([])).length:Int))) rfl (fun hb=>gd_of (c:=(s3:Int) != (s2:Int)) (by first | exact hb | (rw [hb]; rfl) | simp_all) (B (decide ((l6.getD s3 0)<((r2.getD s3 ([])).length:Int))))) rfl) ?_
   refine d_q rfl (fun w' H=>x_mv (v:=B (((s3:Int) != (s2:Int))&&(decide ((l6.getD s3 0)<((r2.getD s3 ([])).length:Int))))) rfl) ?_
   refine d_qg (((s3:Int) != (s2:Int))&&(decide ((l6.getD s3 0)<((r2.getD s3 ([])).length:Int)))) rfl (gy_t rfl) (fun hg=>(fun w' H=>x_mv (v:=ab) rfl)) ?_
   refine d_qg (((s3:Int) != (s2:Int))&&(decide ((l6.getD s3 0)<((r2.getD s3 ([])).length:Int)))) rfl (gy_t rfl) (fun hg=>(fun w' H=>x_mv (v:=I (s2:Int)) rfl)) ?_
   obtain ⟨aI,hM⟩:=M.e_grd hM
   replace aI:=M.imp_of aI
   simp only [Bool.and_eq_true,decide_eq_true_eq] at aI
   refine d_qg (((s3:Int) != (s2:Int))&&(decide ((l6.getD s3 0)<((r2.getD s3 ([])).length:Int)))) rfl (gy_t rfl) (fun hg=>(fun w' H=>x_ix (a:=ab) (b:=I (s2:Int)) (v:=vat ab 1 (Int.toNat (s2:Int))) (gd_of (c:=(((s3:Int) != (s2:Int))&&(decide ((l6.getD s3 0)<((r2.getD s3 ([])).length:Int))))) hg (ab)) (gd_of (c:=(((s3:Int) != (s2:Int))&&(decide ((l6.getD s3 0)<((r2.getD s3 ([])).length:Int))))) hg (I (s2:Int))) (Sl.ix (α:=Int) T28.und T28.size (H.os 0) (by have aa:=aI.resolve_left (by rw [hg]; decide); first | exact aa | exact aa.1 | exact aa.2 | omega | (have ac:=hg; simp at ac; omega)) (by have aa:=aI.resolve_left (by rw [hg]; decide); first | exact aa | exact aa.1 | exact aa.2 | omega | (have ac:=hg; simp at ac; omega))))) ?_
   refine d_qg (((s3:Int) != (s2:Int))&&(decide ((l6.getD s3 0)<((r2.getD s3 ([])).length:Int)))) rfl (gy_t rfl) (fun hg=>(fun w' H=>x_ld (p:=vat ab 1 (Int.toNat (s2:Int))) (v:=I (l6.getD s2 0)) (gd_of (c:=(((s3:Int) != (s2:Int))&&(decide ((l6.getD s3 0)<((r2.getD s3 ([])).length:Int))))) hg (vat ab 1 (Int.toNat (s2:Int)))) (ld_sc Sc3 (At.mono (Int_at (H.os 0) (i:=(s2:Int)) (by have aa:=aI.resolve_left (by rw [hg]; decide); first | exact aa | exact aa.1 | exact aa.2 | omega | (have ac:=hg; simp at ac; omega)) (by have aa:=aI.resolve_left (by rw [hg]; decide); first | exact aa | exact aa.1 | exact aa.2 | omega | (have ac:=hg; simp at ac; omega))) (H.ol 0))))) ?_
   refine d_qg (((s3:Int) != (s2:Int))&&(decide ((l6.getD s3 0)<((r2.getD s3 ([])).length:Int)))) rfl (gy_t rfl) (fun hg=>(fun w' H=>x_mv (v:=ay) rfl)) ?_
   refine d_qg (((s3:Int) != (s2:Int))&&(decide ((l6.getD s3 0)<((r2.getD s3 ([])).length:Int)))) rfl (gy_t rfl) (fun hg=>(fun w' H=>x_lenS T28.und (gd_of (c:=(((s3:Int) != (s2:Int))&&(decide ((l6.getD s3 0)<((r2.getD s3 ([])).length:Int))))) hg (ay)) aM)) ?_
   refine d_qg (((s3:Int) != (s2:Int))&&(decide ((l6.getD s3 0)<((r2.getD s3 ([])).length:Int)))) rfl (gy_t rfl) (fun hg=>(fun w' H=>x_cmp (kd:=.i64) (a:=l6.getD s2 0) (b:=((r2.getD s2 ([])).length:Int)) (r:=decide ((l6.getD s2 0)<((r2.getD s2 ([])).length:Int))) (gd_of (c:=(((s3:Int) != (s2:Int))&&(decide ((l6.getD s3 0)<((r2.getD s3 ([])).length:Int))))) hg (I (l6.getD s2 0))) (gd_of (c:=(((s3:Int) != (s2:Int))&&(decide ((l6.getD s3 0)<((r2.getD s3 ([])).length:Int))))) hg (I ((r2.getD s2 ([])).length:Int))) rfl)) ?_
   refine d_q rfl (fun w' H=>x_pand (b:=(((s3:Int) != (s2:Int))&&(decide ((l6.getD s3 0)<((r2.getD s3 ([])).length:Int))))) (r:=decide ((l6.getD s2 0)<((r2.getD s2 ([])).length:Int))) rfl (fun hb=>gd_of (c:=(((s3:Int) != (s2:Int))&&(decide ((l6.getD s3 0)<((r2.getD s3 ([])).length:Int))))) (by first | exact hb | (rw [hb]; rfl) | simp_all) (B (decide ((l6.getD s2 0)<((r2.getD s2 ([])).length:Int))))) rfl) ?_
   refine d_q rfl (fun w' H=>x_mv (v:=B ((((s3:Int) != (s2:Int))&&(decide ((l6.getD s3 0)<((r2.getD s3 ([])).length:Int))))&&(decide ((l6.getD s2 0)<((r2.getD s2 ([])).length:Int))))) rfl) ?_
   refine d_qg ((((s3:Int) != (s2:Int))&&(decide ((l6.getD s3 0)<((r2.getD s3 ([])).length:Int))))&&(decide ((l6.getD s2 0)<((r2.getD s2 ([])).length:Int)))) rfl (gy_t rfl) (fun hg=>(fun w' H=>x_mv (v:=Pq ao) rfl)) ?_
   refine d_qg ((((s3:Int) != (s2:Int))&&(decide ((l6.getD s3 0)<((r2.getD s3 ([])).length:Int))))&&(decide ((l6.getD s2 0)<((r2.getD s2 ([])).length:Int)))) rfl (gy_t rfl) (fun hg=>(fun w' H=>x_mv (v:=ax) rfl)) ?_
   refine d_qg ((((s3:Int) != (s2:Int))&&(decide ((l6.getD s3 0)<((r2.getD s3 ([])).length:Int))))&&(decide ((l6.getD s2 0)<((r2.getD s2 ([])).length:Int)))) rfl (gy_t rfl) (fun hg=>(fun w' H=>x_mv (v:=ab) rfl)) ?_
   refine d_qg ((((s3:Int) != (s2:Int))&&(decide ((l6.getD s3 0)<((r2.getD s3 ([])).length:Int))))&&(decide ((l6.getD s2 0)<((r2.getD s2 ([])).length:Int)))) rfl (gy_t rfl) (fun hg=>(fun w' H=>x_mv (v:=I (s3:Int)) rfl)) ?_
   obtain ⟨ap,hM⟩:=M.e_grd hM
   replace ap:=M.imp_of ap
   simp only [Bool.and_eq_true,decide_eq_true_eq] at ap
   refine d_qg ((((s3:Int) != (s2:Int))&&(decide ((l6.getD s3 0)<((r2.getD s3 ([])).length:Int))))&&(decide ((l6.getD s2 0)<((r2.getD s2 ([])).length:Int)))) rfl (gy_t rfl) (fun hg=>(fun w' H=>x_ix (a:=ab) (b:=I (s3:Int)) (v:=vat ab 1 (Int.toNat (s3:Int))) (gd_of (c:=((((s3:Int) != (s2:Int))&&(decide ((l6.getD s3 0)<((r2.getD s3 ([])).length:Int))))&&(decide ((l6.getD s2 0)<((r2.getD s2 ([])).length:Int))))) hg (ab)) (gd_of (c:=((((s3:Int) != (s2:Int))&&(decide ((l6.getD s3 0)<((r2.getD s3 ([])).length:Int))))&&(decide ((l6.getD s2 0)<((r2.getD s2 ([])).length:Int))))) hg (I (s3:Int))) (Sl.ix (α:=Int) T28.und T28.size (H.os 0) (by have aa:=ap.resolve_left (by rw [hg]; decide); first | exact aa | exact aa.1 | exact aa.2 | omega | (have ac:=hg; simp at ac; omega)) (by have aa:=ap.resolve_left (by rw [hg]; decide); first | exact aa | exact aa.1 | exact aa.2 | omega | (have ac:=hg; simp at ac; omega))))) ?_
   refine d_qg ((((s3:Int) != (s2:Int))&&(decide ((l6.getD s3 0)<((r2.getD s3 ([])).length:Int))))&&(decide ((l6.getD s2 0)<((r2.getD s2 ([])).length:Int)))) rfl (gy_t rfl) (fun hg=>(fun w' H=>x_ld (p:=vat ab 1 (Int.toNat (s3:Int))) (v:=I (l6.getD s3 0)) (gd_of (c:=((((s3:Int) != (s2:Int))&&(decide ((l6.getD s3 0)<((r2.getD s3 ([])).length:Int))))&&(decide ((l6.getD s2 0)<((r2.getD s2 ([])).length:Int))))) hg (vat ab 1 (Int.toNat (s3:Int)))) (ld_sc Sc3 (At.mono (Int_at (H.os 0) (i:=(s3:Int)) (by have aa:=ap.resolve_left (by rw [hg]; decide); first | exact aa | exact aa.1 | exact aa.2 | omega | (have ac:=hg; simp at ac; omega)) (by have aa:=ap.resolve_left (by rw [hg]; decide); first | exact aa | exact aa.1 | exact aa.2 | omega | (have ac:=hg; simp at ac; omega))) (H.ol 0))))) ?_
   obtain ⟨aq,hM⟩:=M.e_grd hM
   replace aq:=M.imp_of aq
   simp only [Bool.and_eq_true,decide_eq_true_eq] at aq
   refine d_qg ((((s3:Int) != (s2:Int))&&(decide ((l6.getD s3 0)<((r2.getD s3 ([])).length:Int))))&&(decide ((l6.getD s2 0)<((r2.getD s2 ([])).length:Int)))) rfl (gy_t rfl) (fun hg=>(fun w' H=>x_ix (a:=ax) (b:=I (l6.getD s3 0)) (v:=vat ax 1 (Int.toNat (l6.getD s3 0))) (gd_of (c:=((((s3:Int) != (s2:Int))&&(decide ((l6.getD s3 0)<((r2.getD s3 ([])).length:Int))))&&(decide ((l6.getD s2 0)<((r2.getD s2 ([])).length:Int))))) hg (ax)) (gd_of (c:=((((s3:Int) != (s2:Int))&&(decide ((l6.getD s3 0)<((r2.getD s3 ([])).length:Int))))&&(decide ((l6.getD s2 0)<((r2.getD s2 ([])).length:Int))))) hg (I (l6.getD s3 0))) (Sl.ix (α:=Int) T28.und T28.size aL (by have aa:=ap.resolve_left (by rw [hg]; decide); have ae:=aq.resolve_left (by rw [hg]; decide); first | exact aa | exact aa.1 | exact aa.2 | exact ae | exact ae.1 | exact ae.2 | omega | (have ac:=hg; simp at ac; omega)) (by have aa:=ap.resolve_left (by rw [hg]; decide); have ae:=aq.resolve_left (by rw [hg]; decide); first | exact aa | exact aa.1 | exact aa.2 | exact ae | exact ae.1 | exact ae.2 | omega | (have ac:=hg; simp at ac; omega))))) ?_
   refine d_qg ((((s3:Int) != (s2:Int))&&(decide ((l6.getD s3 0)<((r2.getD s3 ([])).length:Int))))&&(decide ((l6.getD s2 0)<((r2.getD s2 ([])).length:Int)))) rfl (gy_t rfl) (fun hg=>(fun w' H=>x_ld (p:=vat ax 1 (Int.toNat (l6.getD s3 0))) (v:=I ((r2.getD s3 ([])).getD (Int.toNat (l6.getD s3 0)) 0)) (gd_of (c:=((((s3:Int) != (s2:Int))&&(decide ((l6.getD s3 0)<((r2.getD s3 ([])).length:Int))))&&(decide ((l6.getD s2 0)<((r2.getD s2 ([])).length:Int))))) hg (vat ax 1 (Int.toNat (l6.getD s3 0)))) (ld_sc Sc3 (At.mono (Int_at aL (i:=l6.getD s3 0) (by have aa:=ap.resolve_left (by rw [hg]; decide); have ae:=aq.resolve_left (by rw [hg]; decide); first | exact aa | exact aa.1 | exact aa.2 | exact ae | exact ae.1 | exact ae.2 | omega | (have ac:=hg; simp at ac; omega)) (by have aa:=ap.resolve_left (by rw [hg]; decide); have ae:=aq.resolve_left (by rw [hg]; decide); first | exact aa | exact aa.1 | exact aa.2 | exact ae | exact ae.1 | exact ae.2 | omega | (have ac:=hg; simp at ac; omega))) (Cells.sup_le (H.ol 1) (roLe _ (H.get (k:=2) rfl))))))) ?_
   refine d_qg ((((s3:Int) != (s2:Int))&&(decide ((l6.getD s3 0)<((r2.getD s3 ([])).length:Int))))&&(decide ((l6.getD s2 0)<((r2.getD s2 ([])).length:Int)))) rfl (gy_t rfl) (fun hg=>(fun w' H=>x_mv (v:=ay) rfl)) ?_
   refine d_qg ((((s3:Int) != (s2:Int))&&(decide ((l6.getD s3 0)<((r2.getD s3 ([])).length:Int))))&&(decide ((l6.getD s2 0)<((r2.getD s2 ([])).length:Int)))) rfl (gy_t rfl) (fun hg=>(fun w' H=>x_mv (v:=ab) rfl)) ?_
   refine d_qg ((((s3:Int) != (s2:Int))&&(decide ((l6.getD s3 0)<((r2.getD s3 ([])).length:Int))))&&(decide ((l6.getD s2 0)<((r2.getD s2 ([])).length:Int)))) rfl (gy_t rfl) (fun hg=>(fun w' H=>x_mv (v:=I (s2:Int)) rfl)) ?_
   obtain ⟨az,hM⟩:=M.e_grd hM
   replace az:=M.imp_of az
   simp only [Bool.and_eq_true,decide_eq_true_eq] at az
   refine d_qg ((((s3:Int) != (s2:Int))&&(decide ((l6.getD s3 0)<((r2.getD s3 ([])).length:Int))))&&(decide ((l6.getD s2 0)<((r2.getD s2 ([])).length:Int)))) rfl (gy_t rfl) (fun hg=>(fun w' H=>x_ix (a:=ab) (b:=I (s2:Int)) (v:=vat ab 1 (Int.toNat (s2:Int))) (gd_of (c:=((((s3:Int) != (s2:Int))&&(decide ((l6.getD s3 0)<((r2.getD s3 ([])).length:Int))))&&(decide ((l6.getD s2 0)<((r2.getD s2 ([])).length:Int))))) hg (ab)) (gd_of (c:=((((s3:Int) != (s2:Int))&&(decide ((l6.getD s3 0)<((r2.getD s3 ([])).length:Int))))&&(decide ((l6.getD s2 0)<((r2.getD s2 ([])).length:Int))))) hg (I (s2:Int))) (Sl.ix (α:=Int) T28.und T28.size (H.os 0) (by have aa:=ap.resolve_left (by rw [hg]; decide); have ae:=aq.resolve_left (by rw [hg]; decide); have ag:=az.resolve_left (by rw [hg]; decide); first | exact aa | exact aa.1 | exact aa.2 | exact ae | exact ae.1 | exact ae.2 | exact ag | exact ag.1 | exact ag.2 | omega | (have ac:=hg; simp at ac; omega)) (by have aa:=ap.resolve_left (by rw [hg]; decide); have ae:=aq.resolve_left (by rw [hg]; decide); have ag:=az.resolve_left (by rw [hg]; decide); first | exact aa | exact aa.1 | exact aa.2 | exact ae | exact ae.1 | exact ae.2 | exact ag | exact ag.1 | exact ag.2 | omega | (have ac:=hg; simp at ac; omega))))) ?_
   refine d_qg ((((s3:Int) != (s2:Int))&&(decide ((l6.getD s3 0)<((r2.getD s3 ([])).length:Int))))&&(decide ((l6.getD s2 0)<((r2.getD s2 ([])).length:Int)))) rfl (gy_t rfl) (fun hg=>(fun w' H=>x_ld (p:=vat ab 1 (Int.toNat (s2:Int))) (v:=I (l6.getD s2 0)) (gd_of (c:=((((s3:Int) != (s2:Int))&&(decide ((l6.getD s3 0)<((r2.getD s3 ([])).length:Int))))&&(decide ((l6.getD s2 0)<((r2.getD s2 ([])).length:Int))))) hg (vat ab 1 (Int.toNat (s2:Int)))) (ld_sc Sc3 (At.mono (Int_at (H.os 0) (i:=(s2:Int)) (by have aa:=ap.resolve_left (by rw [hg]; decide); have ae:=aq.resolve_left (by rw [hg]; decide); have ag:=az.resolve_left (by rw [hg]; decide); first | exact aa | exact aa.1 | exact aa.2 | exact ae | exact ae.1 | exact ae.2 | exact ag | exact ag.1 | exact ag.2 | omega | (have ac:=hg; simp at ac; omega)) (by have aa:=ap.resolve_left (by rw [hg]; decide); have ae:=aq.resolve_left (by rw [hg]; decide); have ag:=az.resolve_left (by rw [hg]; decide); first | exact aa | exact aa.1 | exact aa.2 | exact ae | exact ae.1 | exact ae.2 | exact ag | exact ag.1 | exact ag.2 | omega | (have ac:=hg; simp at ac; omega))) (H.ol 0))))) ?_
   obtain ⟨aJ,hM⟩:=M.e_grd hM
   replace aJ:=M.imp_of aJ
   simp only [Bool.and_eq_true,decide_eq_true_eq] at aJ
   refine d_qg ((((s3:Int) != (s2:Int))&&(decide ((l6.getD s3 0)<((r2.getD s3 ([])).length:Int))))&&(decide ((l6.getD s2 0)<((r2.getD s2 ([])).length:Int)))) rfl (gy_t rfl) (fun hg=>(fun w' H=>x_ix (a:=ay) (b:=I (l6.getD s2 0)) (v:=vat ay 1 (Int.toNat (l6.getD s2 0))) (gd_of (c:=((((s3:Int) != (s2:Int))&&(decide ((l6.getD s3 0)<((r2.getD s3 ([])).length:Int))))&&(decide ((l6.getD s2 0)<((r2.getD s2 ([])).length:Int))))) hg (ay)) (gd_of (c:=((((s3:Int) != (s2:Int))&&(decide ((l6.getD s3 0)<((r2.getD s3 ([])).length:Int))))&&(decide ((l6.getD s2 0)<((r2.getD s2 ([])).length:Int))))) hg (I (l6.getD s2 0))) (Sl.ix (α:=Int) T28.und T28.size aM (by have aa:=ap.resolve_left (by rw [hg]; decide); have ae:=aq.resolve_left (by rw [hg]; decide); have ag:=az.resolve_left (by rw [hg]; decide); have au:=aJ.resolve_left (by rw [hg]; decide); first | exact aa | exact aa.1 | exact aa.2 | exact ae | exact ae.1 | exact ae.2 | exact ag | exact ag.1 | exact ag.2 | exact au | exact au.1 | exact au.2 | omega | (have ac:=hg; simp at ac; omega)) (by have aa:=ap.resolve_left (by rw [hg]; decide); have ae:=aq.resolve_left (by rw [hg]; decide); have ag:=az.resolve_left (by rw [hg]; decide); have au:=aJ.resolve_left (by rw [hg]; decide); first | exact aa | exact aa.1 | exact aa.2 | exact ae | exact ae.1 | exact ae.2 | exact ag | exact ag.1 | exact ag.2 | exact au | exact au.1 | exact au.2 | omega | (have ac:=hg; simp at ac; omega))))) ?_
   refine d_qg ((((s3:Int) != (s2:Int))&&(decide ((l6.getD s3 0)<((r2.getD s3 ([])).length:Int))))&&(decide ((l6.getD s2 0)<((r2.getD s2 ([])).length:Int)))) rfl (gy_t rfl) (fun hg=>(fun w' H=>x_ld (p:=vat ay 1 (Int.toNat (l6.getD s2 0))) (v:=I ((r2.getD s2 ([])).getD (Int.toNat (l6.getD s2 0)) 0)) (gd_of (c:=((((s3:Int) != (s2:Int))&&(decide ((l6.getD s3 0)<((r2.getD s3 ([])).length:Int))))&&(decide ((l6.getD s2 0)<((r2.getD s2 ([])).length:Int))))) hg (vat ay 1 (Int.toNat (l6.getD s2 0)))) (ld_sc Sc3 (At.mono (Int_at aM (i:=l6.getD s2 0) (by have aa:=ap.resolve_left (by rw [hg]; decide); have ae:=aq.resolve_left (by rw [hg]; decide); have ag:=az.resolve_left (by rw [hg]; decide); have au:=aJ.resolve_left (by rw [hg]; decide); first | exact aa | exact aa.1 | exact aa.2 | exact ae | exact ae.1 | exact ae.2 | exact ag | exact ag.1 | exact ag.2 | exact au | exact au.1 | exact au.2 | omega | (have ac:=hg; simp at ac; omega)) (by have aa:=ap.resolve_left (by rw [hg]; decide); have ae:=aq.resolve_left (by rw [hg]; decide); have ag:=az.resolve_left (by rw [hg]; decide); have au:=aJ.resolve_left (by rw [hg]; decide); first | exact aa | exact aa.1 | exact aa.2 | exact ae | exact ae.1 | exact ae.2 | exact ag | exact ag.1 | exact ag.2 | exact au | exact au.1 | exact au.2 | omega | (have ac:=hg; simp at ac; omega))) (Cells.sup_le (H.ol 1) (roLe _ (H.get (k:=2) rfl))))))) ?_
   refine d_l rfl ?_
   obtain ⟨r3,bY,hM⟩:=M.e_bind hM
   refine t_gcall ((((s3:Int) != (s2:Int))&&(decide ((l6.getD s3 0)<((r2.getD s3 ([])).length:Int))))&&(decide ((l6.getD s2 0)<((r2.getD s2 ([])).length:Int)))) (gy_t rfl) cf51 (B r3) (fun _=>[Pq ao,I ((r2.getD s3 ([])).getD (Int.toNat (l6.getD s3 0)) 0),I ((r2.getD s2 ([])).getD (Int.toNat (l6.getD s2 0)) 0)]) (fun hg=>lst3 (gd_of (c:=((((s3:Int) != (s2:Int))&&(decide ((l6.getD s3 0)<((r2.getD s3 ([])).length:Int))))&&(decide ((l6.getD s2 0)<((r2.getD s2 ([])).length:Int))))) hg (Pq ao)) (gd_of (c:=((((s3:Int) != (s2:Int))&&(decide ((l6.getD s3 0)<((r2.getD s3 ([])).length:Int))))&&(decide ((l6.getD s2 0)<((r2.getD s2 ([])).length:Int))))) hg (I ((r2.getD s3 ([])).getD (Int.toNat (l6.getD s3 0)) 0))) (gd_of (c:=((((s3:Int) != (s2:Int))&&(decide ((l6.getD s3 0)<((r2.getD s3 ([])).length:Int))))&&(decide ((l6.getD s2 0)<((r2.getD s2 ([])).length:Int))))) hg (I ((r2.getD s2 ([])).getD (Int.toNat (l6.getD s2 0)) 0)))) H (fun hg=>(zav s_Sections s_Marks s_Reaches ((r2.getD s3 ([])).getD (Int.toNat (l6.getD s3 0)) 0) ((r2.getD s2 ([])).getD (Int.toNat (l6.getD s2 0)) 0) (aU.app _) aV (aW.app _) aX (aY.app _) aZ (Has.here (k:=3) rfl) (M.e_opt bY hg) _ (H.give (A:=[]) rfl)).mono fun v_ w_ ⟨y_,aN,bZ,H_⟩=>by subst aN; exact ⟨bZ,H.via H_⟩) ?_
   intro cP H
   refine s_nil ⟨(H.pk [0,1,2,3,4,5]),?_⟩
   refine d_q rfl (fun w' H=>x_pand (b:=((((s3:Int) != (s2:Int))&&(decide ((l6.getD s3 0)<((r2.getD s3 ([])).length:Int))))&&(decide ((l6.getD s2 0)<((r2.getD s2 ([])).length:Int))))) (r:=r3) rfl (fun hb=>gd_of (c:=((((s3:Int) != (s2:Int))&&(decide ((l6.getD s3 0)<((r2.getD s3 ([])).length:Int))))&&(decide ((l6.getD s2 0)<((r2.getD s2 ([])).length:Int))))) (by first | exact hb | (rw [hb]; rfl) | simp_all) (B r3)) rfl) ?_
   refine d_nil ?_
   refine W.cond (((((s3:Int) != (s2:Int))&&(decide ((l6.getD s3 0)<((r2.getD s3 ([])).length:Int))))&&(decide ((l6.getD s2 0)<((r2.getD s2 ([])).length:Int))))&&r3) rfl (fun bf=>?_) (fun bf=>?_)
   ·replace hM:=M.e_t hM bf
    refine W.seq ?_
    refine W.region rfl ?_
    refine zM ab rfl ?_
    refine zM (I (s3:Int)) rfl ?_
    obtain ⟨b4,hM⟩:=M.e_grd hM
    simp only [Bool.and_eq_true,decide_eq_true_eq] at b4
    refine s_val (x_ix (a:=ab) (b:=I (s3:Int)) (v:=vat ab 1 (Int.toNat (s3:Int))) rfl rfl (Sl.ix (α:=Int) T28.und T28.size (H.os 0) (by omega) (by omega))) ?_
    refine s_val (x_ld (p:=vat ab 1 (Int.toNat (s3:Int))) (v:=I (l6.getD s3 0)) rfl (ld_sc Sc3 (At.mono (Int_at (H.os 0) (i:=(s3:Int)) (by omega) (by omega)) (H.ol 0)))) ?_
    obtain ⟨b5,hM⟩:=M.e_grd hM
    simp only [Bool.and_eq_true,decide_eq_true_eq] at b5
    refine zR (l6.getD s3 0) 1 ((l6.getD s3 0)+1) rfl rfl rfl (by omega) ?_
    refine s_val (x_ix (a:=ab) (b:=I (s3:Int)) (v:=vat ab 1 (Int.toNat (s3:Int))) rfl rfl (Sl.ix (α:=Int) T28.und T28.size (H.os 0) (by omega) (by omega))) ?_
    refine t_ost (k:=0) (i:=(s3:Int)) (l:=l6) (l':=l6.set s3 ((l6.getD s3 0)+1:Int)) (val:=I ((l6.getD s3 0)+1)) (L':=[cOwn (α:=Int) 3 ab (l6.set s3 ((l6.getD s3 0)+1:Int)),cOwn (α:=Raw 0) 28 ai aF,cRo aG,cBlk ao [aj,ak,am,.map (some av)] 177,cMemI encSpt av (zaa s_Sections s_Marks s_Reaches),cBlk aC [aj,ak,am] 27]) H rfl Sz3 (by omega) (by omega) ((l6.getD s3 0)+1:Int) rfl rfl rfl rfl rfl ?_
    intro cQ H
    refine s_nil ?_
    refine W.goto ?_
    have b6:=M.e_inr hM bc
    subst b6
    replace hM:=bu
    try dsimp only at hM
    have b7:=M.e_inr hM ba
    subst b7
    replace hM:=br
    try dsimp only at hM
    exact ⟨rfl,bM,bN,l6.set s3 ((l6.getD s3 0)+1:Int),ab,_,upds_of _ _ ⟨rfl,rfl,rfl,trivial⟩,M.e_inl hM bq,H⟩
   replace hM:=M.e_f hM bf
   refine W.skip ?_
   refine W.region rfl ?_
   refine zR (s2:Int) 1 ((s2:Int)+1) rfl rfl rfl (by omega) ?_
   refine zM (I ((s2:Int)+1)) rfl ?_
   refine s_nil ?_
   exact ⟨bU,bV,s2+1,_,upds_of _ _ ⟨rfl,rfl,rfl,rfl,rfl,rfl,rfl,rfl,rfl,rfl,rfl,trivial⟩,M.e_inl hM bc,H⟩
  replace hM:=M.e_f hM aP
  simp only [qy1,qy2,qy3,qy4,qy5,qy6,ne_eq,qy7] at aP
  refine W.exit ?_
  have b8:=M.e_inr hM bc
  subst b8
  replace hM:=bu
  try dsimp only at hM
  refine W.region rfl ?_
  refine zR (s3:Int) 1 ((s3:Int)+1) rfl rfl rfl (by omega) ?_
  refine zM (I ((s3:Int)+1)) rfl ?_
  refine s_nil ?_
  exact ⟨bP,bQ,s3+1,_,upds_of _ _ ⟨rfl,rfl,rfl,rfl,rfl,rfl,trivial⟩,M.e_inl hM ba,H⟩
 replace hM:=M.e_f hM aO
 simp only [qy1,qy2,qy3,qy4,qy5,qy6,ne_eq,qy7] at aO
 refine W.exit ?_
 have b9:=M.e_inr hM ba
 subst b9
 replace hM:=br
 try dsimp only at hM
 refine W.seq ?_
 refine W.region rfl ?_
 refine zA (.slice none 0 0) rfl ?_
 refine s_nil ?_
 refine W.seq ?_
 refine W.seq ?_
 refine W.region rfl ?_
 refine zM ai rfl ?_
 have cR:=((rowSl rfl (H.get (k:=1) rfl) (roLe _ (H.get (k:=2) rfl)) aw)).len_le
 refine s_val (x_lenS T38.und rfl (rowSl rfl (H.get (k:=1) rfl) (roLe _ (H.get (k:=2) rfl)) aw)) ?_
 refine zM (I 0) rfl ?_
 refine s_nil ?_
 refine W.block ?_
 replace H:=H.nilOwn (α:=Int) 3
 obtain ⟨cb,bh,cc⟩:=M.e_bind hM
 obtain ⟨a7,bh⟩:=M.e_iter bh
 refine W.loop (fun m σ W=>∃ (s4:Nat) (l3:List Int) (aA:Value) (ρ:Env),σ=upds ρ [(7,ab),(12,aA),(89,ai),(90,I (r2.length:Int)),(91,I (s4:Int))]/\M.iterN (zaP r2 l6) m (s4,l3)=some cb/\St w W [cOwn (α:=Int) 3 aA l3,cOwn (α:=Int) 3 ab l6,cOwn (α:=Raw 0) 28 ai aF,cRo aG,cBlk ao [aj,ak,am,.map (some av)] 177,cMemI encSpt av (zaa s_Sections s_Marks s_Reaches),cBlk aC [aj,ak,am] 27] R) ?_ ?_
 ·exact ⟨_,0,[],(.slice none 0 0),_,upds_of _ _ ⟨rfl,rfl,rfl,rfl,rfl,trivial⟩,bh,H⟩
 rintro cS σ cT ⟨s4,l3,aA,ρ,rfl,bw,H⟩
 obtain ⟨bx,bz,cU,hM,bi⟩:=M.e_iterN bw
 simp only [zaP] at hM
 clear bw
 refine W.seq ?_
 refine W.region rfl ?_
 refine zC (s4:Int) (r2.length:Int) (decide ((s4:Int)<(r2.length:Int))) rfl rfl rfl ?_
 refine s_nil ?_
 refine W.seq ?_
 refine W.cond (decide ((s4:Int)<(r2.length:Int))) rfl (fun aQ=>?_) (fun aQ=>?_)
 ·replace hM:=M.e_t hM aQ
  simp only [qy1,qy2,qy3,qy4,qy5,qy6,ne_eq,qy7] at aQ
  refine W.skip ?_
  refine W.seq ?_
  refine W.block ?_
  refine W.seq ?_
  refine W.region rfl ?_
  refine zM (I (s4:Int)) rfl ?_
  obtain ⟨cd,hM⟩:=M.e_grd hM
  simp only [Bool.and_eq_true,decide_eq_true_eq] at cd
  refine s_val (x_ix (a:=ai) (b:=I (s4:Int)) (v:=vat ai 1 (Int.toNat (s4:Int))) rfl rfl (Sl.ix (α:=List Int) T38.und T38.size (rowSl rfl (H.get (k:=2) rfl) (roLe _ (H.get (k:=3) rfl)) aw) (by omega) (by omega))) ?_
  obtain ⟨aE,ce,aK⟩:=List_at (rowSl rfl (H.get (k:=2) rfl) (roLe _ (H.get (k:=3) rfl)) aw) (i:=(s4:Int)) (by omega) (by omega)
  replace aK:Sl _ aE (r2.getD s4 ([])):=aK
  have cV:=aK.len_le
  refine s_val (x_ld (p:=vat ai 1 (Int.toNat (s4:Int))) (v:=aE) rfl (ld_sc Sc28 (At.mono (ce) (Cells.sup_le (H.ol 2) (roLe _ (H.get (k:=3) rfl)))))) ?_
  refine zA (I (s4:Int)) rfl ?_
  refine zA aE rfl ?_
  refine s_nil ?_
  refine W.seq ?_
  refine W.region rfl ?_
  refine zM ab rfl ?_
  refine zM (I (s4:Int)) rfl ?_
  obtain ⟨cf,hM⟩:=M.e_grd hM
  simp only [Bool.and_eq_true,decide_eq_true_eq] at cf
  refine s_val (x_ix (a:=ab) (b:=I (s4:Int)) (v:=vat ab 1 (Int.toNat (s4:Int))) rfl rfl (Sl.ix (α:=Int) T28.und T28.size (H.os 1) (by omega) (by omega))) ?_
  refine s_val (x_ld (p:=vat ab 1 (Int.toNat (s4:Int))) (v:=I (l6.getD s4 0)) rfl (ld_sc Sc3 (At.mono (Int_at (H.os 1) (i:=(s4:Int)) (by omega) (by omega)) (H.ol 1)))) ?_
  refine zM aE rfl ?_
  have cW:=(aK).len_le
  refine s_val (x_lenS T28.und rfl aK) ?_
  refine zC (l6.getD s4 0) ((r2.getD s4 ([])).length:Int) (decide ((l6.getD s4 0)<((r2.getD s4 ([])).length:Int))) rfl rfl rfl ?_
  refine s_nil ?_
  refine W.cond (decide ((l6.getD s4 0)<((r2.getD s4 ([])).length:Int))) rfl (fun aR=>?_) (fun aR=>?_)
  ·replace hM:=M.e_t hM aR
   simp only [qy1,qy2,qy3,qy4,qy5,qy6,ne_eq,qy7] at aR
   refine W.region rfl ?_
   refine zM aA rfl ?_
   refine zM aE rfl ?_
   refine zM ab rfl ?_
   refine zM (I (s4:Int)) rfl ?_
   refine s_val (x_ix (a:=ab) (b:=I (s4:Int)) (v:=vat ab 1 (Int.toNat (s4:Int))) rfl rfl (Sl.ix (α:=Int) T28.und T28.size (H.os 1) (by omega) (by omega))) ?_
   refine s_val (x_ld (p:=vat ab 1 (Int.toNat (s4:Int))) (v:=I (l6.getD s4 0)) rfl (ld_sc Sc3 (At.mono (Int_at (H.os 1) (i:=(s4:Int)) (by omega) (by omega)) (H.ol 1)))) ?_
   obtain ⟨cg,hM⟩:=M.e_grd hM
   simp only [Bool.and_eq_true,decide_eq_true_eq] at cg
   refine s_val (x_ix (a:=aE) (b:=I (l6.getD s4 0)) (v:=vat aE 1 (Int.toNat (l6.getD s4 0))) rfl rfl (Sl.ix (α:=Int) T28.und T28.size aK (by omega) (by omega))) ?_
   refine s_val (x_ld (p:=vat aE 1 (Int.toNat (l6.getD s4 0))) (v:=I ((r2.getD s4 ([])).getD (Int.toNat (l6.getD s4 0)) 0)) rfl (ld_sc Sc3 (At.mono (Int_at aK (i:=l6.getD s4 0) (by omega) (by omega)) (Cells.sup_le (H.ol 2) (roLe _ (H.get (k:=3) rfl)))))) ?_
   refine t_bs (α:=Int) T28 [I ((r2.getD s4 ([])).getD (Int.toNat (l6.getD s4 0)) 0)] [((r2.getD s4 ([])).getD (Int.toNat (l6.getD s4 0)) 0:Int)] H rfl (.cons rfl (Flat.rep_enc _ ((r2.getD s4 ([])).getD (Int.toNat (l6.getD s4 0)) 0:Int))<|.nil) rfl rfl rfl ?_
   intro cj cX H
   obtain ⟨ck,hM⟩:=M.e_grd hM
   simp only [Bool.and_eq_true,decide_eq_true_eq] at ck
   refine t_app (α:=Int) (k:=1) (l:=l3) (l2:=[((r2.getD s4 ([])).getD (Int.toNat (l6.getD s4 0)) 0:Int)]) (l':=l3++([((r2.getD s4 ([])).getD (Int.toNat (l6.getD s4 0)) 0:Int)])) (vy:=cj) T28 rfl H rfl rfl rfl (H.os 0) (H.ol 0) (rfl) (by first | omega | (simp only [List.length_nil] at *; omega)) ?_
   intro bA cY H
   replace H:=H.nf
   refine zA bA rfl ?_
   refine s_nil ?_
   refine W.region rfl ?_
   refine zR (s4:Int) 1 ((s4:Int)+1) rfl rfl rfl (by omega) ?_
   refine zM (I ((s4:Int)+1)) rfl ?_
   refine s_nil ?_
   exact ⟨bx,bz,s4+1,l3++([((r2.getD s4 ([])).getD (Int.toNat (l6.getD s4 0)) 0:Int)]),bA,_,upds_of _ _ ⟨rfl,rfl,rfl,rfl,rfl,trivial⟩,M.e_inl hM bi,(H.pk [1,2,3,4,5,6,7])⟩
  replace hM:=M.e_f hM aR
  simp only [qy1,qy2,qy3,qy4,qy5,qy6,ne_eq,qy7] at aR
  refine W.skip ?_
  refine W.region rfl ?_
  refine zR (s4:Int) 1 ((s4:Int)+1) rfl rfl rfl (by omega) ?_
  refine zM (I ((s4:Int)+1)) rfl ?_
  refine s_nil ?_
  exact ⟨bx,bz,s4+1,l3,aA,_,upds_of _ _ ⟨rfl,rfl,rfl,rfl,rfl,trivial⟩,M.e_inl hM bi,H⟩
 replace hM:=M.e_f hM aQ
 simp only [qy1,qy2,qy3,qy4,qy5,qy6,ne_eq,qy7] at aQ
 refine W.exit ?_
 have co:=M.e_inr hM bi
 subst co
 replace hM:=cc
 try dsimp only at hM
 refine W.seq ?_
 refine W.region rfl ?_
 refine zM aA rfl ?_
 obtain ⟨cp,hM⟩:=M.e_grd hM
 simp only [Bool.and_eq_true,decide_eq_true_eq] at cp
 refine s_call cf52 [aA] rfl (sort_any (H.get (k:=0) rfl) (by omega)) ?_
 rintro _ cq ⟨rfl,bB,bC,bD⟩
 replace H:St w cq [cOwn (α:=Int) 3 aA (isort l3),cOwn (α:=Int) 3 ab l6,cOwn (α:=Raw 0) 28 ai aF,cRo aG,cBlk ao [aj,ak,am,.map (some av)] 177,cMemI encSpt av (zaa s_Sections s_Marks s_Reaches),cBlk aC [aj,ak,am] 27] R:=H.sorted (k:=0) rfl bB bC bD rfl
 clear bB bC bD
 refine s_nil ?_
 refine W.seq ?_
 refine W.region rfl ?_
 refine zM aA rfl ?_
 refine zA aA rfl ?_
 refine zA (I 0) rfl ?_
 refine s_nil ?_
 refine W.ret ?_
 have cr:=M.e_inr hM bq
 subst cr
 replace hM:=bL
 try dsimp only at hM
 have aN:=M.e_pure hM
 exact ⟨_,resE_tmp2 rfl,⟨(isort l3),0,aA,aN,rfl,(H.pk [0])⟩⟩

def zai (i:Int) (ab:List Sect) (aa:List Mrk) (ac:List Rch):M Bool :=
  M.bind (zab i 0 ((aa.length:Int)-1)) fun r2 =>
  M.pure r2
theorem zdb {R:List Chunk} {ac:Nat} {aa:Nat} {ag:Cells} {ai:Value} {aj:Cells} {ae:Value} {ak:Cells} {am:Value} {av:Nat} (i:Int) (ao:List Sect) (ab:List Mrk) (ap:List Rch) (aB:Reads R ag) (aC:Sl ag ai ao) (aD:Reads R aj) (aq:Sl aj ae ab) (aE:Reads R ak) (aF:Sl ak am ap) (aw:Has R (cBlk aa [ai,ae,am,.map (some av)] 177)) (ax:Has R (cBlk ac [Pq aa] 112)) {r:Bool} (hM:(zai i ao ab ap).Ends r) (w:World) (H:St w w [] R):Ret Tryz.prog 100 #[I i,Pq ac] w fun v w'=>∃ (y0:Bool),y0=r/\v=B y0/\St w w' [] R:=by
 refine ret_of_W Tryz.func100 rfl rfl rfl ?_
 refine W.seq ?_
 refine W.region rfl ?_
 refine zA (B false) rfl ?_
 refine s_nil ?_
 refine W.seq ?_
 refine W.region rfl ?_
 refine zM (I i) rfl ?_
 refine s_val (x_ld (p:=Pq ac) (v:=Pq aa) rfl (ldb_sc Sc112 (ax.blk H) rfl)) ?_
 refine s_val (x_nc (a:=⟨aa,0,none⟩) rfl) ?_
 refine s_val (x_fa (a:=Pq aa) (v:=Pq aa) rfl (fa_blk (o:=0) Fd177_0 Sz27)) ?_
 refine s_val (x_fa (a:=Pq aa) (v:=Oq aa 1) rfl (fa_blk (o:=0) Fd27_1 Sz24)) ?_
 refine s_val (x_ld (p:=Oq aa 1) (v:=ae) rfl (ldb_sc Sc24 (aw.blk H) rfl)) ?_
 have aG:=(aq).len_le
 refine s_val (x_lenS T24.und rfl aq) ?_
 refine zR (ab.length:Int) 1 ((ab.length:Int)-1) rfl rfl rfl (by omega) ?_
 obtain ⟨aH,ay,hM⟩:=M.e_bind hM
 refine s_call cf70 [I i,I 0,I ((ab.length:Int)-1)] rfl (zac i 0 ((ab.length:Int)-1) ay _ (H.gt 0)) ?_
 rintro vq aI ⟨r2,az,hvq,au⟩
 subst az
 subst vq
 try dsimp only at hM
 replace H:=H.bk au
 clear au
 refine zA (B r2) rfl ?_
 refine s_nil ?_
 refine W.ret ?_
 have aA:=M.e_pure hM
 exact ⟨_,resE_tmp rfl,⟨r2,aA,rfl,H⟩⟩

def zbQ (j:Int) (aa:List Sect) (ab:List Mrk) (ac:List Rch) (ae:Int):M Bool :=
  M.bind (zah aa ab ac ae j) fun r2 =>
  M.bind (M.opt (!r2) (zah aa ab ac j ae) false) fun r3 =>
  M.pure (r2||r3)
theorem zdX {R:List Chunk} {ac:Nat} {ab:Nat} {am:Cells} {ao:Value} {ap:Cells} {aq:Value} {au:Cells} {av:Value} {aG:Nat} {ae:Nat} (j:Int) (ag:List Sect) (ai:List Mrk) (aj:List Rch) (aa:Int) (aw:Reads R am) (ax:Sl am ao ag) (ay:Reads R ap) (az:Sl ap aq ai) (aA:Reads R au) (aB:Sl au av aj) (aC:Has R (cBlk ab [ao,aq,av,.map (some aG)] 177)) (aD:Has R (cBlk ac [Pq ab] 112)) (aE:Has R (cBlk ae [I aa] 3)) {r:Bool} (hM:(zbQ j ag ai aj aa).Ends r) (w:World) (H:St w w [] R):Ret Tryz.prog 101 #[I j,Pq ac,Pq ae] w fun v w'=>∃ (y0:Bool),y0=r/\v=B y0/\St w w' [] R:=by
 refine ret_of_W Tryz.func101 rfl rfl rfl ?_
 refine W.seq ?_
 refine W.region rfl ?_
 refine zA (B false) rfl ?_
 refine s_nil ?_
 refine W.seq ?_
 refine W.region rfl ?_
 refine s_val (x_ld (p:=Pq ac) (v:=Pq ab) rfl (ldb_sc Sc112 (aD.blk H) rfl)) ?_
 refine s_val (x_ld (p:=Pq ae) (v:=I aa) rfl (ldb_sc Sc3 (aE.blk H) rfl)) ?_
 refine zM (I j) rfl ?_
 obtain ⟨aL,aH,hM⟩:=M.e_bind hM
 refine s_call cf51 [Pq ab,I aa,I j] rfl (zav ag ai aj aa j (aw.app _) ax (ay.app _) az (aA.app _) aB (aC.app _) aH _ (H.gt 0)) ?_
 rintro vq aM ⟨r2,aI,hvq,aF⟩
 subst aI
 subst vq
 try dsimp only at hM
 replace H:=H.bk aF
 clear aF
 refine zM (B r2) rfl ?_
 refine g_val (!r2) (gy_f rfl) (fun hg=>x_ld (p:=Pq ac) (v:=Pq ab) rfl (ldb_sc Sc112 (aD.blk H) rfl)) ?_
 refine g_val (!r2) (gy_f rfl) (fun hg=>x_mv (v:=I j) rfl) ?_
 refine g_val (!r2) (gy_f rfl) (fun hg=>x_ld (p:=Pq ae) (v:=I aa) rfl (ldb_sc Sc3 (aE.blk H) rfl)) ?_
 obtain ⟨r3,aJ,hM⟩:=M.e_bind hM
 refine t_gcall (!r2) (gy_f rfl) cf51 (B r3) (fun _=>[Pq ab,I j,I aa]) (fun hg=>lst3 (gd_of (c:=!r2) hg (Pq ab)) (gd_of (c:=!r2) hg (I j)) (gd_of (c:=!r2) hg (I aa))) H (fun hg=>(zav ag ai aj j aa (aw.app _) ax (ay.app _) az (aA.app _) aB (aC.app _) (M.e_opt aJ hg) _ (H.give (A:=[]) rfl)).mono fun v_ w_ ⟨y_,ak,aK,H_⟩=>by subst ak; exact ⟨aK,H.via H_⟩) ?_
 intro aN H
 refine s_val (x_por (b:=r2) (r:=r3) rfl rfl (fun hb=>gd_of (c:=!r2) (by first | exact hb | (rw [hb]; rfl) | simp_all) (B r3))) ?_
 refine zA (B (r2||r3)) rfl ?_
 refine s_nil ?_
 refine W.ret ?_
 have ak:=M.e_pure hM
 exact ⟨_,resE_tmp rfl,⟨(r2||r3),ak,rfl,H⟩⟩

def zbA (aa:List Sect) (ab:List Mrk) (ac:List Rch) (row:List Int):((List Bool) × Bool × Nat)->M (((List Bool) × Bool × Nat) ⊕ (Bool × (List Bool))):=fun (ar,out,s) =>
  bif decide ((s:Int)<(row.length:Int)) then (
  M.grd (decide ((s:Int)<(row.length:Int))) <|
  M.grd (decide ((0:Int)<=(row.getD s 0))&&decide ((row.getD s 0)<(16:Int))) <|
  M.bind (M.opt out (zag (row.take s) (fun ae=>zbQ ae aa ab ac (row.getD s 0))) false) fun r3 =>
  M.pure (.inl (ar.set (Int.toNat (row.getD s 0)) true,(out&&r3),s+1)))
  else (
  M.pure (.inr (out,ar)))
def zaZ (aa:List Sect) (ab:List Mrk) (ac:List Rch) (row:List Int) (met:List Bool):M (Bool × (List Bool)) :=
  M.bind (M.opt (!((row.length:Int)==0)) (zag row (fun ae=>zai ae aa ab ac)) false) fun r2 =>
  bif (((row.length:Int)==0)||(!r2)) then (
  M.fail)
  else (
  M.bind (M.iter (zbA aa ab ac row) (met,true,0)) fun (out2,ag) =>
  M.pure (out2,ag))
theorem zcY {R:List Chunk} {ag:Nat} {aK:Cells} {aL:Value} {aM:Cells} {aN:Value} {aO:Cells} {aP:Value} {a6:Nat} {aQ:Cells} {aa:Value} {ac:Nat} (ai:List Sect) (aj:List Mrk) (ak:List Rch) (row:List Int) (met:List Bool) (aR:Reads R aK) (aS:Sl aK aL ai) (aT:Reads R aM) (aU:Sl aM aN aj) (aV:Reads R aO) (aW:Sl aO aP ak) (aX:Has R (cBlk ag [aL,aN,aP,.map (some a6)] 177)) (ax:Reads R aQ) (ae:Sl aQ aa row) (a7:met.length=16) {r:(Bool × (List Bool))} (hM:(zaZ ai aj ak row met).Ends r) (w:World) (H:St w w [cBlk ac (encB met) 121] R):Ret Tryz.prog 54 #[Pq ag,aa,Pq ac] w fun v w'=>∃ (y0:Bool) (y1:List Bool),(y0,y1)=r/\v=B y0/\St w w' [cBlk ac (encB y1) 121] R/\y1.length=16:=by
 refine ret_of_W Tryz.func54 rfl rfl rfl ?_
 refine W.seq ?_
 refine W.region rfl ?_
 refine t_box (v:=Pq ag) (cs:=[Pq ag]) H rfl rfl ?_
 intro ab bv H
 refine zA (B false) rfl ?_
 refine s_nil ?_
 refine W.seq ?_
 refine W.seq ?_
 refine W.region rfl ?_
 refine zM aa rfl ?_
 have bw:=(ae).len_le
 refine s_val (x_lenS T28.und rfl ae) ?_
 refine zC (row.length:Int) 0 ((row.length:Int)==0) rfl rfl rfl ?_
 refine zM (B ((row.length:Int)==0)) rfl ?_
 refine g_val (!((row.length:Int)==0)) (gy_f rfl) (fun hg=>x_mv (v:=aa) rfl) ?_
 refine g_val (!((row.length:Int)==0)) (gy_f rfl) (fun hg=>x_mf (fs:=[]) (cs:=[Pq ab]) rfl rfl) ?_
 obtain ⟨r2,a8,hM⟩:=M.e_bind hM
 refine t_gcall (!((row.length:Int)==0)) (gy_f rfl) cf99 (B r2) (fun _=>[aa,.func (.func 100) #[] #[Pq ab]]) (fun hg=>lst2 (gd_of (c:=!((row.length:Int)==0)) hg (aa)) (gd_of (c:=!((row.length:Int)==0)) hg (.func (.func 100) #[] #[Pq ab]))) H (fun hg=>(zbH row (fun am=>zai am ai aj ak) (ax.app _) ae ⟨100,[Pq ab],rfl,cf100,fun aq ba bb ay am bc az bf aA aB=>by obtain rfl:=Arg.int aA; exact (zdb am ai aj ak (Reads.app (aR.app _) _) aS (Reads.app (aT.app _) _) aU (Reads.app (aV.app _) _) aW (Has.app (aX.app _) _) (Has.app (Has.here (k:=0) rfl) _) aB aq (St.refl az)).mono fun ay aq ⟨bh,aC,aD,aE⟩=>by subst aC; exact ⟨aD,aE⟩⟩ (M.e_opt a8 hg) _ (H.give (A:=[]) rfl)).mono fun v_ w_ ⟨y_,au,aF,H_⟩=>by subst au; exact ⟨aF,H.via H_⟩) ?_
 intro bx H
 refine g_val (!((row.length:Int)==0)) (gy_f rfl) (fun hg=>x_not (b:=r2) (gd_of (c:=!((row.length:Int)==0)) hg (B r2))) ?_
 refine s_val (x_por (b:=(row.length:Int)==0) (r:=!r2) rfl rfl (fun hb=>gd_of (c:=!((row.length:Int)==0)) (by first | exact hb | (rw [hb]; rfl) | simp_all) (B (!r2)))) ?_
 refine s_nil ?_
 refine W.cond (((row.length:Int)==0)||(!r2)) rfl (fun aG=>?_) (fun aG=>?_)
 ·replace hM:=M.e_t hM aG
  refine W.region rfl ?_
  exact (M.e_fail hM).elim
 replace hM:=M.e_f hM aG
 refine W.skip ?_
 refine W.seq ?_
 refine W.region rfl ?_
 refine zA (B true) rfl ?_
 refine s_nil ?_
 refine W.seq ?_
 refine W.seq ?_
 refine W.region rfl ?_
 refine zM aa rfl ?_
 have bz:=(ae).len_le
 refine s_val (x_lenS T28.und rfl ae) ?_
 refine zM (I 0) rfl ?_
 refine s_nil ?_
 refine W.block ?_
 obtain ⟨bi,aH,bj⟩:=M.e_bind hM
 obtain ⟨bA,aH⟩:=M.e_iter aH
 refine W.loop (fun m σ W=>∃ (ar:List Bool) (out:Bool) (s:Nat) (ρ:Env),σ=upds ρ [(1,aa),(2,Pq ac),(3,Pq ab),(7,B out),(21,aa),(22,I (row.length:Int)),(23,I (s:Int))]/\M.iterN (zbA ai aj ak row) m (ar,out,s)=some bi/\St w W [cBlk ab [Pq ag] 112,cBlk ac (encB ar) 121] R/\ar.length=16) ?_ ?_
 ·exact ⟨_,met,true,0,_,upds_of _ _ ⟨rfl,rfl,rfl,rfl,rfl,rfl,rfl,trivial⟩,aH,H,a7⟩
 rintro bB σ bC ⟨ar,out,s,ρ,rfl,aY,H,aI⟩
 obtain ⟨bm,bn,bD,hM,aZ⟩:=M.e_iterN aY
 simp only [zbA] at hM
 clear aY
 refine W.seq ?_
 refine W.region rfl ?_
 refine zC (s:Int) (row.length:Int) (decide ((s:Int)<(row.length:Int))) rfl rfl rfl ?_
 refine s_nil ?_
 refine W.seq ?_
 refine W.cond (decide ((s:Int)<(row.length:Int))) rfl (fun av=>?_) (fun av=>?_)
 ·replace hM:=M.e_t hM av
  simp only [qy1,qy2,qy3,qy4,qy5,qy6,ne_eq,qy7] at av
  refine W.skip ?_
  refine W.seq ?_
  refine W.block ?_
  refine W.seq ?_
  refine W.region rfl ?_
  refine zM (I (s:Int)) rfl ?_
  obtain ⟨bo,hM⟩:=M.e_grd hM
  simp only [Bool.and_eq_true,decide_eq_true_eq] at bo
  refine s_val (x_ix (a:=aa) (b:=I (s:Int)) (v:=vat aa 1 (Int.toNat (s:Int))) rfl rfl (Sl.ix (α:=Int) T28.und T28.size ae (by omega) (by omega))) ?_
  refine s_val (x_ld (p:=vat aa 1 (Int.toNat (s:Int))) (v:=I (row.getD s 0)) rfl (ld_sc Sc3 (At.mono (Int_at ae (i:=(s:Int)) (by omega) (by omega)) (ax.at H)))) ?_
  refine t_alloc (cs:=[I 0]) H Al3 rfl ?_
  intro ao bE H
  refine zA (I (s:Int)) rfl ?_
  refine t_sw 0 0 [I (row.getD s 0)] (I (row.getD s 0)) H rfl rfl Sz3 rfl rfl rfl rfl ?_
  intro bF H
  refine s_nil ?_
  refine W.seq ?_
  refine W.draw (fun W=>St w W [cBlk ao [I (row.getD s 0)] 3,cBlk ab [Pq ag] 112] R) [(0,true),(1,true),(2,true),(3,true),(4,false)] mixed (by decide +kernel) rfl ?_
  intro bG ap
  replace H:=H.ext ap
  clear ap
  refine ⟨(H.pk [0,1]),?_⟩
  refine d_q rfl (fun w' H=>x_mv (v:=Pq ac) rfl) ?_
  refine d_q rfl (fun w' H=>x_ld (p:=Pq ao) (v:=I (row.getD s 0)) rfl (ldb_sc Sc3 (H.bl 0) rfl)) ?_
  refine d_q rfl (fun w' H=>x_nc (a:=⟨ac,0,none⟩) rfl) ?_
  obtain ⟨bp,hM⟩:=M.e_grd hM
  simp only [Bool.and_eq_true,decide_eq_true_eq] at bp
  refine d_q rfl (fun w' H=>x_ix (a:=Pq ac) (b:=I (row.getD s 0)) (v:=.pointer (some ⟨ac,0+Int.toNat (row.getD s 0),none⟩)) rfl rfl (run_indexArr Tryz.underlying121 Sz4 (by omega) (by omega))) ?_
  refine d_l rfl ?_
  refine t_stArr (k:=2) (b:=ac) (l:=ar) (l':=ar.set (Int.toNat (row.getD s 0)) true) (i:=row.getD s 0) (v:=true) (L':=[cBlk ao [I (row.getD s 0)] 3,cBlk ab [Pq ag] 112,cBlk ac (encB (ar.set (Int.toNat (row.getD s 0)) true)) 121]) H rfl rfl rfl Sz4 (by omega) (by have bH:=aI; omega) rfl rfl ?_
  intro bI H
  have bq:(ar.set (Int.toNat (row.getD s 0)) true).length=16:=List.length_set.trans aI
  refine s_nil ⟨(H.pk [0,1]),?_⟩
  refine d_nil ?_
  refine W.region rfl ?_
  refine zM (B out) rfl ?_
  refine zM (B out) rfl ?_
  refine g_val out (gy_t rfl) (fun hg=>x_mv (v:=aa) rfl) ?_
  refine g_val out (gy_t rfl) (fun hg=>x_mv (v:=I (s:Int)) rfl) ?_
  obtain ⟨aw,br,aJ⟩:=gd_ex (c:=out) fun hg=>sl_hi T28.und T28.size ae (j:=(s:Int)) (by first | omega | (have ap:=hg; simp at ap; omega)) (by first | omega | (have ap:=hg; simp at ap; omega))
  replace aJ:out=true->Sl _ aw (row.take s):=aJ
  refine g_val out (gy_t rfl) (fun hg=>x_sl (v:=aa) (u:=aw) (lo':=none) (hi':=some (I (s:Int))) (mx':=none) (gd_of (c:=out) hg (aa)) rfl (congrArg some (gd_of (c:=out) hg (I (s:Int)))) rfl (br hg _)) ?_
  refine g_val out (gy_t rfl) (fun hg=>x_mf (fs:=[]) (cs:=[Pq ab,Pq ao]) rfl rfl) ?_
  obtain ⟨r3,bt,hM⟩:=M.e_bind hM
  refine t_gcall out (gy_t rfl) cf99 (B r3) (fun _=>[aw,.func (.func 101) #[] #[Pq ab,Pq ao]]) (fun hg=>lst2 (gd_of (c:=out) hg (aw)) (gd_of (c:=out) hg (.func (.func 101) #[] #[Pq ab,Pq ao]))) H (fun hg=>(zbH (row.take s) (fun am=>zbQ am ai aj ak (row.getD s 0)) (ax.app _) (aJ hg) ⟨101,[Pq ab,Pq ao],rfl,cf101,fun aq ba bb ay am bc az bf aA aB=>by obtain rfl:=Arg.int aA; exact (zdX am ai aj ak (row.getD s 0) (Reads.app (aR.app _) _) aS (Reads.app (aT.app _) _) aU (Reads.app (aV.app _) _) aW (Has.app (aX.app _) _) (Has.app (Has.here (k:=1) rfl) _) (Has.app (Has.here (k:=0) rfl) _) aB aq (St.refl az)).mono fun ay aq ⟨bh,aC,aD,aE⟩=>by subst aC; exact ⟨aD,aE⟩⟩ (M.e_opt bt hg) _ (H.give (A:=[]) rfl)).mono fun v_ w_ ⟨y_,au,aF,H_⟩=>by subst au; exact ⟨aF,H.via H_⟩) ?_
  intro bJ H
  refine s_val (x_pand (b:=out) (r:=r3) rfl (fun hb=>gd_of (c:=out) (by first | exact hb | (rw [hb]; rfl) | simp_all) (B r3)) rfl) ?_
  refine zA (B (out&&r3)) rfl ?_
  refine s_nil ?_
  refine W.region rfl ?_
  refine zR (s:Int) 1 ((s:Int)+1) rfl rfl rfl (by omega) ?_
  refine zM (I ((s:Int)+1)) rfl ?_
  refine s_nil ?_
  exact ⟨bm,bn,ar.set (Int.toNat (row.getD s 0)) true,(out&&r3),s+1,_,upds_of _ _ ⟨rfl,rfl,rfl,rfl,rfl,rfl,rfl,trivial⟩,M.e_inl hM aZ,(H.pk [1,2]),bq⟩
 replace hM:=M.e_f hM av
 simp only [qy1,qy2,qy3,qy4,qy5,qy6,ne_eq,qy7] at av
 refine W.exit ?_
 have bu:=M.e_inr hM aZ
 subst bu
 replace hM:=bj
 try dsimp only at hM
 refine W.seq ?_
 refine W.region rfl ?_
 refine zM (B out) rfl ?_
 refine zA (B out) rfl ?_
 refine s_nil ?_
 refine W.ret ?_
 have au:=M.e_pure hM
 exact ⟨_,resE_tmp rfl,⟨out,ar,au,rfl,(H.pk [1]),aI⟩⟩

def zba (s:List Bool) (f:Bool->M Bool):Nat->M (Nat ⊕ (Int ⊕ Unit)):=fun s2 =>
  bif decide ((s2:Int)<(s.length:Int)) then (
  M.grd (decide ((s2:Int)<(s.length:Int))) <|
  M.bind (f (s.getD s2 false)) fun r2 =>
  bif r2 then (
  M.pure (.inr (.inl (s2:Int))))
  else (
  M.pure (.inl (s2+1))))
  else (
  M.pure (.inr (.inr ())))
def zcM (s:List Bool) (f:Bool->M Bool):M Int :=
  M.bind (M.iter (zba s f) 0) fun x_=>match x_ with
  | (.inl s3)=>(
  M.pure s3)
  | (.inr (_:Unit))=>(
  M.pure (-1))
theorem zdP {R:List Chunk} {am:Cells} {aa:Value} {ac:Value} (s:List Bool) (f:Bool->M Bool) (aq:Reads R am) (ae:Sl am aa s) (au:FnM Tryz.prog R ac f) {r:Int} (hM:(zcM s f).Ends r) (w:World) (H:St w w [] R):Ret Tryz.prog 134 #[aa,ac] w fun v w'=>∃ (y0:Int),y0=r/\v=I y0/\St w w' [] R:=by
 refine ret_of_W Tryz.func134 rfl rfl rfl ?_
 refine W.seq ?_
 refine W.region rfl ?_
 refine zA (I 0) rfl ?_
 refine s_nil ?_
 refine W.seq ?_
 refine W.seq ?_
 refine W.region rfl ?_
 refine zM aa rfl ?_
 have aC:=(ae).len_le
 refine s_val (x_lenS T59.und rfl ae) ?_
 refine zM (I 0) rfl ?_
 refine s_nil ?_
 refine W.block ?_
 obtain ⟨av,ag,ao⟩:=M.e_bind hM
 obtain ⟨aD,ag⟩:=M.e_iter ag
 refine W.loop (fun m σ W=>∃ (s2:Nat) (ρ:Env),σ=upds ρ [(0,aa),(1,ac),(7,I (s.length:Int)),(8,I (s2:Int))]/\M.iterN (zba s f) m s2=some av/\St w W [] R) ?_ ?_
 ·exact ⟨_,0,_,upds_of _ _ ⟨rfl,rfl,rfl,rfl,trivial⟩,ag,H⟩
 rintro aE σ aF ⟨s2,ρ,rfl,ap,H⟩
 obtain ⟨aw,ax,aG,hM,ai⟩:=M.e_iterN ap
 simp only [zba] at hM
 clear ap
 refine W.seq ?_
 refine W.region rfl ?_
 refine zC (s2:Int) (s.length:Int) (decide ((s2:Int)<(s.length:Int))) rfl rfl rfl ?_
 refine s_nil ?_
 refine W.seq ?_
 refine W.cond (decide ((s2:Int)<(s.length:Int))) rfl (fun ab=>?_) (fun ab=>?_)
 ·replace hM:=M.e_t hM ab
  simp only [qy1,qy2,qy3,qy4,qy5,qy6,ne_eq,qy7] at ab
  refine W.skip ?_
  refine W.seq ?_
  refine W.block ?_
  refine W.seq ?_
  refine W.region rfl ?_
  refine zM (I (s2:Int)) rfl ?_
  refine zA (I (s2:Int)) rfl ?_
  refine s_nil ?_
  refine W.seq ?_
  refine W.region rfl ?_
  refine zM ac rfl ?_
  refine zM aa rfl ?_
  refine zM (I (s2:Int)) rfl ?_
  obtain ⟨ay,hM⟩:=M.e_grd hM
  simp only [Bool.and_eq_true,decide_eq_true_eq] at ay
  refine s_val (x_ix (a:=aa) (b:=I (s2:Int)) (v:=vat aa 1 (Int.toNat (s2:Int))) rfl rfl (Sl.ix (α:=Bool) T59.und T59.size ae (by omega) (by omega))) ?_
  refine s_val (x_ld (p:=vat aa 1 (Int.toNat (s2:Int))) (v:=B (s.getD s2 false)) rfl (ld_sc Sc4 (At.mono (Bool_at ae (i:=(s2:Int)) (by omega) (by omega)) (aq.at H)))) ?_
  obtain ⟨r2,az,hM⟩:=M.e_bind hM
  refine t_callM H au rfl rfl (s.getD s2 false) Reads.none (show Arg (fun _=>none) (B (s.getD s2 false)) (s.getD s2 false) from ⟨[B (s.getD s2 false)],rfl,rfl⟩) az ?_
  intro aH H
  refine s_nil ?_
  refine W.cond r2 rfl (fun aj=>?_) (fun aj=>?_)
  ·replace hM:=M.e_t hM aj
   refine W.seq ?_
   refine W.region rfl ?_
   refine zM (I (s2:Int)) rfl ?_
   refine zA (I (s2:Int)) rfl ?_
   refine s_nil ?_
   refine W.ret ?_
   have aA:=M.e_inr hM ai
   subst aA
   replace hM:=ao
   try dsimp only at hM
   have ak:=M.e_pure hM
   exact ⟨_,resE_tmp rfl,⟨(s2:Int),ak,rfl,H⟩⟩
  replace hM:=M.e_f hM aj
  refine W.skip ?_
  refine W.region rfl ?_
  refine zR (s2:Int) 1 ((s2:Int)+1) rfl rfl rfl (by omega) ?_
  refine zM (I ((s2:Int)+1)) rfl ?_
  refine s_nil ?_
  exact ⟨aw,ax,s2+1,_,upds_of _ _ ⟨rfl,rfl,rfl,rfl,trivial⟩,M.e_inl hM ai,H⟩
 replace hM:=M.e_f hM ab
 simp only [qy1,qy2,qy3,qy4,qy5,qy6,ne_eq,qy7] at ab
 refine W.exit ?_
 have aB:=M.e_inr hM ai
 subst aB
 replace hM:=ao
 try dsimp only at hM
 refine W.seq ?_
 refine W.region rfl ?_
 refine zA (I (-1)) rfl ?_
 refine s_nil ?_
 refine W.ret ?_
 have ak:=M.e_pure hM
 exact ⟨_,resE_tmp rfl,⟨(-1),ak,rfl,H⟩⟩

def zcJ (s:List Bool) (f:Bool->M Bool):M Bool :=
  M.bind (zcM s f) fun r2 =>
  M.pure (decide (0<=r2))
theorem zdH {R:List Chunk} {ac:Cells} {aa:Value} {ab:Value} (s:List Bool) (f:Bool->M Bool) (ag:Reads R ac) (ai:Sl ac aa s) (aj:FnM Tryz.prog R ab f) {r:Bool} (hM:(zcJ s f).Ends r) (w:World) (H:St w w [] R):Ret Tryz.prog 102 #[aa,ab] w fun v w'=>∃ (y0:Bool),y0=r/\v=B y0/\St w w' [] R:=by
 refine ret_of_W Tryz.func102 rfl rfl rfl ?_
 refine W.seq ?_
 refine W.region rfl ?_
 refine zA (B false) rfl ?_
 refine s_nil ?_
 refine W.seq ?_
 refine W.region rfl ?_
 refine zM aa rfl ?_
 refine zM ab rfl ?_
 obtain ⟨ap,ak,hM⟩:=M.e_bind hM
 refine s_call cf134 [aa,ab] rfl (zdP s f (ag.app _) ai (aj.app _) ak _ (H.gt 0)) ?_
 rintro vq aq ⟨r2,am,hvq,ae⟩
 subst am
 subst vq
 try dsimp only at hM
 replace H:=H.bk ae
 clear ae
 refine zC r2 0 (decide (0<=r2)) rfl rfl rfl ?_
 refine zA (B (decide (0<=r2))) rfl ?_
 refine s_nil ?_
 refine W.ret ?_
 have ao:=M.e_pure hM
 exact ⟨_,resE_tmp rfl,⟨(decide (0<=r2)),ao,rfl,H⟩⟩

def zcl (x:Bool) (aa:Bool->M Bool):M Bool :=
  M.bind (aa x) fun r2 =>
  M.pure (!r2)
theorem zej {R:List Chunk} {aa:Nat} {ab:Value} (x:Bool) (ac:Bool->M Bool) (ae:FnM Tryz.prog R ab ac) (ag:Has R (cBlk aa [ab] 125)) {r:Bool} (hM:(zcl x ac).Ends r) (w:World) (H:St w w [] R):Ret Tryz.prog 103 #[B x,Pq aa] w fun v w'=>∃ (y0:Bool),y0=r/\v=B y0/\St w w' [] R:=by
 refine ret_of_W Tryz.func103 rfl rfl rfl ?_
 refine W.seq ?_
 refine W.region rfl ?_
 refine zA (B false) rfl ?_
 refine s_nil ?_
 refine W.seq ?_
 refine W.region rfl ?_
 refine s_val (x_ld (p:=Pq aa) (v:=ab) rfl (ldb_sc Sc125 (ag.blk H) rfl)) ?_
 refine zM (B x) rfl ?_
 obtain ⟨r2,ai,hM⟩:=M.e_bind hM
 refine t_callM H ae rfl rfl x Reads.none (show Arg (fun _=>none) (B x) x from ⟨[B x],rfl,rfl⟩) ai ?_
 intro ak H
 refine s_val (x_not (b:=r2) rfl) ?_
 refine zA (B (!r2)) rfl ?_
 refine s_nil ?_
 refine W.ret ?_
 have aj:=M.e_pure hM
 exact ⟨_,resE_tmp rfl,⟨(!r2),aj,rfl,H⟩⟩

def zb2 (l:List Bool) (so:Bool->M Bool):M Bool :=
  M.bind (zcJ l (fun aa=>zcl aa so)) fun r2 =>
  M.pure (!r2)
theorem zdY {R:List Chunk} {ag:Cells} {aa:Value} {ab:Value} (l:List Bool) (so:Bool->M Bool) (am:Reads R ag) (ao:Sl ag aa l) (ai:FnM Tryz.prog R ab so) {r:Bool} (hM:(zb2 l so).Ends r) (w:World) (H:St w w [] R):Ret Tryz.prog 55 #[aa,ab] w fun v w'=>∃ (y0:Bool),y0=r/\v=B y0/\St w w' [] R:=by
 refine ret_of_W Tryz.func55 rfl rfl rfl ?_
 refine W.seq ?_
 refine W.region rfl ?_
 refine t_box (v:=ab) (cs:=[ab]) H rfl (FnM.cells ai) ?_
 intro ac aC H
 refine zA (B false) rfl ?_
 refine s_nil ?_
 refine W.seq ?_
 refine W.region rfl ?_
 refine zM aa rfl ?_
 refine s_val (x_mf (fs:=[]) (cs:=[Pq ac]) rfl rfl) ?_
 obtain ⟨aD,ap,hM⟩:=M.e_bind hM
 refine s_call cf102 [aa,.func (.func 103) #[] #[Pq ac]] rfl (zdH l (fun ae=>zcl ae so) (am.app _) ao ⟨103,[Pq ac],rfl,cf103,fun aj aE aF aq ae aG au aH av aw=>by obtain ⟨_,rfl,rfl⟩:=av; exact (zej ae so (FnM.app (ai.app _) _) (Has.app (Has.here (k:=0) rfl) _) aw aj (St.refl au)).mono fun aq aj ⟨aI,ax,ay,az⟩=>by subst ax; exact ⟨ay,az⟩⟩ ap _ (H.gt 1)) ?_
 rintro vq aJ ⟨r2,aA,hvq,ak⟩
 subst aA
 subst vq
 try dsimp only at hM
 replace H:=H.bk ak
 clear ak
 refine s_val (x_not (b:=r2) rfl) ?_
 refine zA (B (!r2)) rfl ?_
 refine s_nil ?_
 refine W.ret ?_
 have aB:=M.e_pure hM
 exact ⟨_,resE_tmp rfl,⟨(!r2),aB,rfl,(H.pk [])⟩⟩

def zbi (x:Bool):M Bool :=
  M.pure x
theorem zdw {R:List Chunk}  (x:Bool)  {r:Bool} (hM:(zbi x).Ends r) (w:World) (H:St w w [] R):Ret Tryz.prog 56 #[B x] w fun v w'=>∃ (y0:Bool),y0=r/\v=B y0/\St w w' [] R:=by
 refine ret_of_W Tryz.func56 rfl rfl rfl ?_
 refine W.seq ?_
 refine W.region rfl ?_
 refine zA (B false) rfl ?_
 refine s_nil ?_
 refine W.seq ?_
 refine W.region rfl ?_
 refine zM (B x) rfl ?_
 refine zA (B x) rfl ?_
 refine s_nil ?_
 refine W.ret ?_
 have aa:=M.e_pure hM
 exact ⟨_,resE_tmp rfl,⟨x,aa,rfl,H⟩⟩

def zaW (s_Sections:List Sect) (s_Marks:List Mrk) (s_Reaches:List Rch) (rows:List (List Int)):(Bool × (List Bool) × Nat)->M ((Bool × (List Bool) × Nat) ⊕ (Bool × (List Bool))):=fun (s2,ar,s3) =>
  bif decide ((s3:Int)<(rows.length:Int)) then (
  M.grd (decide ((s3:Int)<(rows.length:Int))) <|
  M.bind (zaZ s_Sections s_Marks s_Reaches (rows.getD s3 ([])) ar) fun (r2,aa) =>
  bif !r2 then (
  M.pure (.inl (false,aa,s3+1)))
  else (
  M.pure (.inl (s2,aa,s3+1))))
  else (
  M.pure (.inr (s2,ar)))
def zaj (s_Sections:List Sect) (s_Marks:List Mrk) (s_Reaches:List Rch) (many:Int) (rows:List (List Int)):M (Bool × Int) :=
  M.bind (zad s_Sections s_Marks s_Reaches) fun x_=>match x_ with
  | (.inl r1)=>(
  bif r1 != 0 then (
  M.pure (false,r1))
  else (
  M.fail))
  | (.inr aa)=>(
  bif aa != 0 then (
  M.fail)
  else (
  bif decide (16<(rows.length:Int)) then (
  M.pure (false,3))
  else (
  M.bind (M.iter (zaW s_Sections s_Marks s_Reaches rows) (decide ((rows.length:Int)<=many),List.replicate 16 false,0)) fun (s4,ab) =>
  M.grd ((!s4||(decide ((0:Int)<=(s_Marks.length:Int))&&decide ((s_Marks.length:Int)<=(16:Int))))) <|
  M.bind (M.opt s4 (zb2 (ab.take (Int.toNat (s_Marks.length:Int))) (fun ac=>zbi ac)) false) fun r3 =>
  M.pure ((s4&&r3),0))))
theorem zcU {R:List Chunk} {aJ:Cells} {ae:Value} {aK:Cells} {ab:Value} {aL:Cells} {ag:Value} {aM:Cells} {ak:Value} (s_Sections:List Sect) (s_Marks:List Mrk) (s_Reaches:List Rch) (many:Int) (rows:List (List Int)) (aN:Reads R aJ) (aO:Sl aJ ae s_Sections) (aP:Reads R aK) (aB:Sl aK ab s_Marks) (aQ:Reads R aL) (aR:Sl aL ag s_Reaches) (aS:Reads R aM) (ap:Sl aM ak rows) {r:(Bool × Int)} (hM:(zaj s_Sections s_Marks s_Reaches many rows).Ends r) (w:World) (H:St w w [] R):Ret Tryz.prog 12 #[.agg #[ae,ab,ag],I many,ak] w fun v w'=>∃ (y0:Bool) (y1:Int),(y0,y1)=r/\v = .tuple #[B y0,I y1]/\St w w' [] R:=by
 refine ret_of_WB Tryz.func12 rfl rfl rfl ?_
 refine WB.seq ?_
 refine W.region rfl ?_
 refine t_box (v:=.agg #[ae,ab,ag]) (cs:=[ae,ab,ag]) H rfl rfl ?_
 intro aq bL H
 refine t_alloc (cs:=[B false]) H Al4 rfl ?_
 intro aw bM H
 refine t_alloc (cs:=[I 0]) H Al35 rfl ?_
 intro ai bN H
 refine s_nil ?_
 refine WB.seq ?_
 refine W.region rfl ?_
 refine s_val (x_ld (p:=Pq aq) (v:=.agg #[ae,ab,ag]) rfl (ldb_ag (ds:=[ae,ab,ag]) Ag27 Sz27 (H.bl 2) rfl rfl)) ?_
 obtain ⟨bO,a7,hM⟩:=M.e_bind hM
 refine s_call cf49 [.agg #[ae,ab,ag]] rfl (zap s_Sections s_Marks s_Reaches (aN.app _) aO (aP.app _) aB (aQ.app _) aR a7 _ (H.gt 3)) ?_
 rintro vq bP (⟨r1,a8,hvq,au⟩ | ⟨ac,am,aT,ba,hvq,au⟩)
 ·subst a8
  subst vq
  try dsimp only at hM
  replace H:=H.bk au
  clear au
  refine zM (.tuple #[.pointer none,I r1]) rfl ?_
  refine zX [.pointer none,I r1] (.pointer none) rfl rfl ?_
  refine zX [.pointer none,I r1] (I r1) rfl rfl ?_
  refine zA (.pointer none) rfl ?_
  refine t_sw 0 0 [I r1] (I r1) H rfl rfl Sz35 rfl rfl rfl rfl ?_
  intro bQ H
  refine s_nil ?_
  refine WB.seq ?_
  refine W.block ?_
  refine W.seq ?_
  refine W.region rfl ?_
  refine s_val (x_ld (p:=Pq ai) (v:=I r1) rfl (ldb_sc Sc35 (H.bl 0) rfl)) ?_
  refine zC r1 0 (r1 != 0) rfl rfl rfl ?_
  refine zA (B (r1 != 0)) rfl ?_
  refine s_nil ?_
  refine W.cond (r1 != 0) rfl (fun aC=>?_) (fun aC=>?_)
  ·replace hM:=M.e_t hM aC
   simp only [qy1,qy2,qy3,qy4,qy5,qy6,ne_eq,qy7] at aC
   refine W.seq ?_
   refine W.drawT (fun W=>St w W [cBlk aq [ae,ab,ag] 27] R) (.l2 0 (.l 1 (.l 2 .nil)) 1 (.l 0 (.l 2 .nil))) mixed (by decide +kernel) rfl ?_
   intro bR aj
   replace H:=H.ext aj
   clear aj
   refine ⟨(H.pk [2]),?_⟩
   refine t_l2 rfl rfl ?_ ?_
   ·skip
    refine s_val (x_ld (p:=Pq ai) (v:=I r1) rfl (ldb_sc Sc35 (H.bl 0) rfl)) ?_
    refine s_nil ⟨(H.pk [2]),?_⟩
    refine t_l rfl ?_
    refine t_sw 1 0 [B false] (B false) H rfl rfl Sz4 rfl rfl rfl rfl ?_
    intro bS H
    refine s_nil ⟨(H.pk [2]),?_⟩
    refine t_l rfl ?_
    refine t_sw 0 0 [I r1] (I r1) H rfl rfl Sz35 rfl rfl rfl rfl ?_
    intro bT H
    refine s_nil ⟨(H.pk [2]),?_⟩
    refine t_nil ?_
    refine W.ret ?_
    have bb:=(H.bl 1)
    have bc:=(H.bl 0)
    have ao:=M.e_pure hM
    exact ⟨_,(resE_ofn (vs:=[B false,I r1]) rfl rfl (.cell (v:=B false) rfl (run_loadVar_sc Sc4 bb rfl)<|.cell (v:=I r1) rfl (run_loadVar_sc Sc35 bc rfl)<|.nil)),⟨false,r1,ao,rfl,(H.pk [])⟩⟩
   skip
   refine t_sw 1 0 [B false] (B false) H rfl rfl Sz4 rfl rfl rfl rfl ?_
   intro bU H
   refine s_nil ⟨(H.pk [2]),?_⟩
   refine t_l rfl ?_
   refine s_val (x_ld (p:=Pq ai) (v:=I r1) rfl (ldb_sc Sc35 (H.bl 0) rfl)) ?_
   refine s_nil ⟨(H.pk [2]),?_⟩
   refine t_l rfl ?_
   refine t_sw 0 0 [I r1] (I r1) H rfl rfl Sz35 rfl rfl rfl rfl ?_
   intro bV H
   refine s_nil ⟨(H.pk [2]),?_⟩
   refine t_nil ?_
   refine W.ret ?_
   have bf:=(H.bl 1)
   have bh:=(H.bl 0)
   have ao:=M.e_pure hM
   exact ⟨_,(resE_ofn (vs:=[B false,I r1]) rfl rfl (.cell (v:=B false) rfl (run_loadVar_sc Sc4 bf rfl)<|.cell (v:=I r1) rfl (run_loadVar_sc Sc35 bh rfl)<|.nil)),⟨false,r1,ao,rfl,(H.pk [])⟩⟩
  replace hM:=M.e_f hM aC
  exact (M.e_fail hM).elim
 subst ba
 subst vq
 try dsimp only at hM
 replace H:=H.bk au
 clear au
 refine zM (.tuple #[Pq am,I ac]) rfl ?_
 refine zX [Pq am,I ac] (Pq am) rfl rfl ?_
 refine zX [Pq am,I ac] (I ac) rfl rfl ?_
 refine zA (Pq am) rfl ?_
 refine t_sw 2 0 [I ac] (I ac) H rfl rfl Sz35 rfl rfl rfl rfl ?_
 intro bW H
 refine s_nil ?_
 refine WB.seq ?_
 refine W.block ?_
 refine W.seq ?_
 refine W.region rfl ?_
 refine s_val (x_ld (p:=Pq ai) (v:=I ac) rfl (ldb_sc Sc35 (H.bl 2) rfl)) ?_
 refine zC ac 0 (ac != 0) rfl rfl rfl ?_
 refine zA (B (ac != 0)) rfl ?_
 refine s_nil ?_
 refine W.cond (ac != 0) rfl (fun aD=>?_) (fun aD=>?_)
 ·replace hM:=M.e_t hM aD
  exact (M.e_fail hM).elim
 replace hM:=M.e_f hM aD
 simp only [qy1,qy2,qy3,qy4,qy5,qy6,ne_eq,qy7] at aD
 refine W.seq ?_
 refine W.region rfl ?_
 refine zM ak rfl ?_
 have bX:=(ap).len_le
 refine s_val (x_lenS T38.und rfl ap) ?_
 refine zC (rows.length:Int) 16 (decide (16<(rows.length:Int))) rfl rfl rfl ?_
 refine zA (B (decide (16<(rows.length:Int)))) rfl ?_
 refine s_nil ?_
 refine W.cond (decide (16<(rows.length:Int))) rfl (fun ay=>?_) (fun ay=>?_)
 ·replace hM:=M.e_t hM ay
  simp only [qy1,qy2,qy3,qy4,qy5,qy6,ne_eq,qy7] at ay
  refine W.seq ?_
  refine W.region rfl ?_
  refine t_sw 3 0 [B false] (B false) H rfl rfl Sz4 rfl rfl rfl rfl ?_
  intro bY H
  refine t_sw 2 0 [I 3] (I 3) H rfl rfl Sz35 rfl rfl rfl rfl ?_
  intro bZ H
  refine s_nil ?_
  replace H:=H.pk [2,3]
  refine W.ret ?_
  have bi:=(H.bl 1)
  have bj:=(H.bl 0)
  have ao:=M.e_pure hM
  exact ⟨_,(resE_ofn (vs:=[B false,I 3]) rfl rfl (.cell (v:=B false) rfl (run_loadVar_sc Sc4 bi rfl)<|.cell (v:=I 3) rfl (run_loadVar_sc Sc35 bj rfl)<|.nil)),⟨false,3,ao,rfl,(H.pk [])⟩⟩
 replace hM:=M.e_f hM ay
 simp only [qy1,qy2,qy3,qy4,qy5,qy6,ne_eq,qy7] at ay
 refine W.skip ?_
 refine WB.defer (d:=25) (v:=.func (.func 53) #[] #[Pq aw,Pq ai]) (fv:=.func 53) (cap:=#[Pq aw,Pq ai]) (f:=53) (args:=#[Pq aw,Pq ai]) rfl rfl rfl rfl rfl (fun _=>x_mf (fs:=[]) (cs:=[Pq aw,Pq ai]) rfl rfl) (x_defer rfl) (x_invoke cf53) (fun w_=>catch_idle _ _ w_) ?_
 refine W.seq ?_
 refine W.region rfl ?_
 refine t_alloc (cs:=encB (List.replicate 16 false)) H Al121 rfl ?_
 intro av b4 H
 have bm:(List.replicate 16 false).length=16:=by simp
 refine s_nil ?_
 refine W.seq ?_
 refine W.region rfl ?_
 refine zM ak rfl ?_
 have b5:=(ap).len_le
 refine s_val (x_lenS T38.und rfl ap) ?_
 refine zM (I many) rfl ?_
 refine zC (rows.length:Int) many (decide ((rows.length:Int)<=many)) rfl rfl rfl ?_
 refine t_sw 4 0 [B (decide ((rows.length:Int)<=many))] (B (decide ((rows.length:Int)<=many))) H rfl rfl Sz4 rfl rfl rfl rfl ?_
 intro b6 H
 refine s_nil ?_
 refine W.seq ?_
 refine W.seq ?_
 refine W.region rfl ?_
 refine zM ak rfl ?_
 have b7:=(ap).len_le
 refine s_val (x_lenS T38.und rfl ap) ?_
 refine zM (I 0) rfl ?_
 refine s_nil ?_
 refine W.block ?_
 obtain ⟨bn,aF,bo⟩:=M.e_bind hM
 obtain ⟨b8,aF⟩:=M.e_iter aF
 refine W.loop (fun m σ W=>∃ (s2:Bool) (ar:List Bool) (s3:Nat) (ρ:Env),σ=upds ρ [(3,Pq aq),(6,Pq aw),(7,Pq ai),(8,Pq am),(9,Pq av),(30,ak),(31,I (rows.length:Int)),(32,I (s3:Int))]/\M.iterN (zaW s_Sections s_Marks s_Reaches rows) m (s2,ar,s3)=some bn/\St w W [cBlk av (encB ar) 121,cBlk am [ae,ab,ag,.map (some aT)] 177,cMemI encSpt aT (zaa s_Sections s_Marks s_Reaches),cBlk ai [I ac] 35,cBlk aw [B s2] 4,cBlk aq [ae,ab,ag] 27] R/\ar.length=16) ?_ ?_
 ·exact ⟨_,decide ((rows.length:Int)<=many),List.replicate 16 false,0,_,upds_of _ _ ⟨rfl,rfl,rfl,rfl,rfl,rfl,rfl,rfl,trivial⟩,aF,H,bm⟩
 rintro b9 σ cb ⟨s2,ar,s3,ρ,rfl,aU,H,aV⟩
 obtain ⟨aW,aX,cc,hM,aG⟩:=M.e_iterN aU
 simp only [zaW] at hM
 clear aU
 refine W.seq ?_
 refine W.region rfl ?_
 refine zC (s3:Int) (rows.length:Int) (decide ((s3:Int)<(rows.length:Int))) rfl rfl rfl ?_
 refine s_nil ?_
 refine W.seq ?_
 refine W.cond (decide ((s3:Int)<(rows.length:Int))) rfl (fun az=>?_) (fun az=>?_)
 ·replace hM:=M.e_t hM az
  simp only [qy1,qy2,qy3,qy4,qy5,qy6,ne_eq,qy7] at az
  refine W.skip ?_
  refine W.seq ?_
  refine W.block ?_
  refine W.seq ?_
  refine W.region rfl ?_
  obtain ⟨bp,hM⟩:=M.e_grd hM
  simp only [Bool.and_eq_true,decide_eq_true_eq] at bp
  refine s_val (x_ix (a:=ak) (b:=I (s3:Int)) (v:=vat ak 1 (Int.toNat (s3:Int))) rfl rfl (Sl.ix (α:=List Int) T38.und T38.size ap (by omega) (by omega))) ?_
  obtain ⟨aA,bq,aE⟩:=List_at ap (i:=(s3:Int)) (by omega) (by omega)
  replace aE:Sl _ aA (rows.getD s3 ([])):=aE
  have cd:=aE.len_le
  refine s_val (x_ld (p:=vat ak 1 (Int.toNat (s3:Int))) (v:=aA) rfl (ld_sc Sc28 (At.mono (bq) (aS.at H)))) ?_
  refine zA aA rfl ?_
  refine s_nil ?_
  refine W.seq ?_
  refine W.region rfl ?_
  refine zM (Pq am) rfl ?_
  refine zM aA rfl ?_
  obtain ⟨ce,br,hM⟩:=M.e_bind hM
  refine s_call cf54 [Pq am,aA,Pq av] rfl (zcY s_Sections s_Marks s_Reaches (rows.getD s3 ([])) ar (aN.app _) aO (aP.app _) aB (aQ.app _) aR (Has.here (k:=0) rfl) (aS.app _) aE aV br _ (H.gt 5)) ?_
  rintro vq cf ⟨r2,aY,bt,hvq,au,aZ⟩
  subst bt
  subst vq
  try dsimp only at hM
  replace H:=H.bk au
  clear au
  refine s_val (x_not (b:=r2) rfl) ?_
  refine s_nil ?_
  refine W.cond (!r2) rfl (fun aH=>?_) (fun aH=>?_)
  ·replace hM:=M.e_t hM aH
   refine W.region rfl ?_
   refine t_sw 4 0 [B false] (B false) H rfl rfl Sz4 rfl rfl rfl rfl ?_
   intro cg H
   refine s_nil ?_
   refine W.region rfl ?_
   refine zR (s3:Int) 1 ((s3:Int)+1) rfl rfl rfl (by omega) ?_
   refine zM (I ((s3:Int)+1)) rfl ?_
   refine s_nil ?_
   exact ⟨aW,aX,false,aY,s3+1,_,upds_of _ _ ⟨rfl,rfl,rfl,rfl,rfl,rfl,rfl,rfl,trivial⟩,M.e_inl hM aG,H,aZ⟩
  replace hM:=M.e_f hM aH
  refine W.skip ?_
  refine W.region rfl ?_
  refine zR (s3:Int) 1 ((s3:Int)+1) rfl rfl rfl (by omega) ?_
  refine zM (I ((s3:Int)+1)) rfl ?_
  refine s_nil ?_
  exact ⟨aW,aX,s2,aY,s3+1,_,upds_of _ _ ⟨rfl,rfl,rfl,rfl,rfl,rfl,rfl,rfl,trivial⟩,M.e_inl hM aG,H,aZ⟩
 replace hM:=M.e_f hM az
 simp only [qy1,qy2,qy3,qy4,qy5,qy6,ne_eq,qy7] at az
 refine W.exit ?_
 have bu:=M.e_inr hM aG
 subst bu
 replace hM:=bo
 try dsimp only at hM
 replace H:=H.pk [0,3,4,5]
 refine W.seq ?_
 refine W.region rfl ?_
 refine s_val (x_ld (p:=Pq aw) (v:=B s2) rfl (ldb_sc Sc4 (H.bl 2) rfl)) ?_
 refine zM (B s2) rfl ?_
 refine g_val s2 (gy_t rfl) (fun hg=>x_fa (a:=Pq aq) (v:=Oq aq 1) rfl (fa_blk (o:=0) Fd27_1 Sz24)) ?_
 refine g_val s2 (gy_t rfl) (fun hg=>x_ld (p:=Oq aq 1) (v:=ab) (gd_of (c:=s2) hg (Oq aq 1)) (ldb_sc Sc24 (H.bl 3) rfl)) ?_
 have cj:=(aB).len_le
 refine g_val s2 (gy_t rfl) (fun hg=>x_lenS T24.und (gd_of (c:=s2) hg (ab)) aB) ?_
 obtain ⟨ax,hM⟩:=M.e_grd hM
 replace ax:=M.imp_of ax
 simp only [Bool.and_eq_true,decide_eq_true_eq] at ax
 obtain ⟨bv,H,bw⟩:=St.freezeB H (k:=0) (n:=16) rfl (by have h_:=aV; omega) (by omega)
 replace H:=H.nf
 have bx:s2=true->Sl bv.cells (.slice (some ⟨av,0,none⟩) (Int.toNat (s_Marks.length:Int)) 16) (ar.take (Int.toNat (s_Marks.length:Int))):=fun hg=>bw (s_Marks.length:Int) (by have aa:=ax.resolve_left (by rw [hg]; decide); first | exact aa | exact aa.1 | exact aa.2 | omega | (have aj:=hg; simp at aj; omega)) (by have aa:=ax.resolve_left (by rw [hg]; decide); first | exact aa | exact aa.1 | exact aa.2 | omega | (have aj:=hg; simp at aj; omega))
 refine g_val s2 (gy_t rfl) (fun hg=>x_sl (v:=Pq av) (u:=(.slice (some ⟨av,0,none⟩) (Int.toNat (s_Marks.length:Int)) 16)) (lo':=none) (hi':=some (I (s_Marks.length:Int))) (mx':=none) rfl rfl (congrArg some (gd_of (c:=s2) hg (I (s_Marks.length:Int)))) rfl (run_sliceB Tryz.underlying121 Sz4 (by have aa:=ax.resolve_left (by rw [hg]; decide); first | exact aa | exact aa.1 | exact aa.2 | omega | (have aj:=hg; simp at aj; omega)) (by have aa:=ax.resolve_left (by rw [hg]; decide); first | exact aa | exact aa.1 | exact aa.2 | omega | (have aj:=hg; simp at aj; omega)))) ?_
 obtain ⟨r3,bz,hM⟩:=M.e_bind hM
 refine t_gcall s2 (gy_t rfl) cf55 (B r3) (fun _=>[(.slice (some ⟨av,0,none⟩) (Int.toNat (s_Marks.length:Int)) 16),.func (.func 56) #[] #[]]) (fun hg=>lst2 (gd_of (c:=s2) hg ((.slice (some ⟨av,0,none⟩) (Int.toNat (s_Marks.length:Int)) 16))) rfl) H (fun hg=>(zdY (ar.take (Int.toNat (s_Marks.length:Int))) (fun aI=>zbi aI) (Reads.of (k:=0) rfl roLe) (bx hg) ⟨56,[],rfl,cf56,fun a6 ck co bA aI cp bB cq bC bD=>by obtain ⟨_,rfl,rfl⟩:=bC; exact (zdw aI bD a6 (St.refl bB)).mono fun bA a6 ⟨cr,bE,bF,bG⟩=>by subst bE; exact ⟨bF,bG⟩⟩ (M.e_opt bz hg) _ (H.give (A:=[]) rfl)).mono fun v_ w_ ⟨y_,ao,bH,H_⟩=>by subst ao; exact ⟨bH,H.via H_⟩) ?_
 intro ct H
 refine s_val (x_pand (b:=s2) (r:=r3) rfl (fun hb=>gd_of (c:=s2) (by first | exact hb | (rw [hb]; rfl) | simp_all) (B r3)) rfl) ?_
 refine t_sw 2 0 [B (s2&&r3)] (B (s2&&r3)) H rfl rfl Sz4 rfl rfl rfl rfl ?_
 intro cu H
 refine t_sw 1 0 [I 0] (I 0) H rfl rfl Sz35 rfl rfl rfl rfl ?_
 intro cw H
 refine s_nil ?_
 replace H:=H.pk [1,2]
 refine W.ret ?_
 intro cx bI
 replace H:=bI _ _ _ H
 replace H:=H.nf
 have bJ:=(H.bl 1)
 have bK:=(H.bl 0)
 have ao:=M.e_pure hM
 exact ⟨_,(resE_ofn (vs:=[B (s2&&r3),I 0]) rfl rfl (.cell (v:=B (s2&&r3)) rfl (run_loadVar_sc Sc4 bJ rfl)<|.cell (v:=I 0) rfl (run_loadVar_sc Sc35 bK rfl)<|.nil)),⟨(s2&&r3),0,ao,rfl,(H.pk [])⟩⟩

end Go.Proofs.YtlemgioaakecpaaGreat
end
namespace Go.Proofs.YtlemgioaakecpaaGreat
open Go Go.Nm
section
variable {S:List Sect} {M':List Mrk} {R':List Rch}
theorem ahN_ends {a b:Nat} (ha:a<M'.length) (hb:b<M'.length):(zah S M' R' (a:Int) (b:Int)).Ends (decide (Fl.ah M' a b)):=by
  have:=ahead_ends (S:=S) (M':=M') (R':=R') (a:=(a:Int)) (b:=(b:Int)) (by omega) (by omega)
  rw [Int.toNat_natCast,Int.toNat_natCast] at this
  have e:(decide ((M'.getD a default).place<=(M'.getD b default).place)&&decide ((M'.getD a default).hi<(M'.getD b default).lo))=decide (Fl.ah M' a b):=by
    rw [Bool.eq_iff_iff,Bool.and_eq_true,decide_eq_true_iff,decide_eq_true_iff,decide_eq_true_iff]
    exact Iff.rfl
  rwa [e] at this
theorem join_out (hn:M'.length<=16) {K:Nat->Prop}:∀ (m a:Nat) (mp:Int->Option Bool) (nx ls:List Int),Fl.cnt (fun b=>!Fl.met mp b) M'.length<=m->a<M'.length->Fl.Mtc M' nx ls->Fl.Cl M' K ls->(∀ b,b<M'.length->ls.getD b 0=(a:Int)->Fl.met mp b=true) →
    (zbX (a:Int) S M' R' S M' R' mp nx ls).Out (fun z=>(z.1=true/\Fl.Sc M' K a mp nx ls z.2.2.1 z.2.2.2)∨(z.1=false/\z.2.2.1=nx/\z.2.2.2=ls/\Fl.Ps M' a M'.length mp z.2.1 ls)):=by
  intro m
  induction m using Nat.strongRecOn with
  | _ m ih =>
  intro a mp nx ls hm ha hM hK hp
  have n1:=hM.n1
  have l1:=hM.l1
  have fix:∀ {Q:Bool × (Int->Option Bool) × List Int × List Int->Prop},(zam (fun z=>M.fix zam zcX z) ((a:Int),S,M',R',S,M',R',mp,nx,ls)).Out Q->(zbX (a:Int) S M' R' S M' R' mp nx ls).Out Q:=by
    rintro Q ⟨r,h1,h2⟩
    exact ⟨r,M.i_fix h1,h2⟩
  refine fix ?_
  simp only [zam]
  refine M.o_bind (P:=fun z=>match z with | .inl (_,nx',ls')=>Fl.Sc M' K a mp nx ls nx' ls' | .inr (mp',nx',ls')=>nx'=nx/\ls'=ls/\Fl.Ps M' a M'.length mp mp' ls) ?_ ?_
  · refine M.o_for M'.length (fun i (s:Nat × (Int->Option Bool) × List Int × List Int)=>s.1=i/\s.2.2.1=nx/\s.2.2.2=ls/\Fl.Ps M' a i mp s.2.1 ls) ?_ ?_ (s:=(0,mp,nx,ls)) ⟨rfl,rfl,rfl,Fl.Ps.zero⟩
    · rintro i ⟨s,mp1,nx,ls⟩ hi ⟨rfl,rfl,rfl,h⟩
      dsimp only at hi hM hK hp n1 l1 h ⊢
      simp only [zaO]
      refine M.o_t (decide_eq_true (by omega)) (M.o_bindE (ahN_ends ha hi) (M.o_if (fun hb=>?_) (fun hb=>?_)))
      · refine M.o_pure ⟨rfl,rfl,rfl,h.skip fun hah=>?_⟩
        rw [Bool.or_eq_true,Bool.not_eq_true',decide_eq_false_iff_not] at hb
        rcases hb with hb | hb
        · exact absurd hah hb
        · exact hb
      · rw [Bool.or_eq_false_iff,Bool.not_eq_false',decide_eq_true_eq] at hb
        obtain ⟨hah,hmet⟩:=hb
        have hmet:Fl.met mp1 s=false:=hmet
        refine M.o_grd (gA2 (by omega) (by omega)) ?_
        rcases hM.l s hi with e | ⟨c,hc,e,q2,q3⟩
        · refine M.o_f (by rw [e]; rfl) (M.o_t (by rw [e]; rfl) (M.o_grd (gA2 (by omega) (by omega)) (M.o_pure ?_)))
          rw [Int.toNat_natCast]
          refine Fl.Sc.free hM hK hn ha hi ?_ hah e
          cases q:Fl.met mp s with
          | false=>rfl
          | true=>rw [h.le _ q] at hmet; cases hmet
        · have hlt:Fl.cnt (fun b=>!Fl.met (updF mp1 (s:Int) true) b) M'.length<Fl.cnt (fun b=>!Fl.met mp1 b) M'.length:=Fl.cnt_lt M'.length (fun b _ hb=>by
              rw [Bool.not_eq_true'] at hb ⊢
              cases q:Fl.met mp1 b with
              | false=>rfl
              | true=>rw [Fl.met_upd.2 (.inr q)] at hb; cases hb) _ hi (by rw [Fl.met_upd.2 (.inl rfl)]; rfl) (by rw [hmet]; rfl)
          have hle:Fl.cnt (fun b=>!Fl.met mp1 b) M'.length<=Fl.cnt (fun b=>!Fl.met mp b) M'.length:=Fl.cnt_le M'.length (fun b _ hb=>by
              rw [Bool.not_eq_true'] at hb ⊢
              cases q:Fl.met mp b with
              | false=>rfl
              | true=>rw [h.le _ q] at hb; cases hb)
          have sub:=ih _ (by omega) c (updF mp1 (s:Int) true) _ _ (Nat.le_refl _) hc hM hK (fun b hb k=>by
            rcases hM.l b hb with q | ⟨d,hd,q4,q5,q6⟩
            · omega
            · obtain rfl:c=d:=by omega
              exact Fl.met_upd.2 (.inl (by omega)))
          rw [e]
          refine M.o_t (by rw [Bool.not_eq_true',beq_eq_false_iff_ne]; omega) (M.o_bind sub ?_)
          rintro ⟨ok,mp2,nx2,ls2⟩ hz
          dsimp only at hz ⊢
          rcases hz with ⟨rfl,hz⟩ | ⟨rfl,rfl,rfl,hz⟩
          · refine M.o_t (Bool.or_true _) (M.o_grd (gA2 (by omega) (by omega)) (M.o_pure ?_))
            rw [Int.toNat_natCast]
            exact Fl.Sc.sub hM hK hn ha hi hah h.le hmet hp hc e hz
          · refine M.o_f (by rw [Bool.or_false,beq_eq_false_iff_ne]; omega) (M.o_pure ⟨rfl,rfl,rfl,h.fail hi hc e hz⟩)
    · rintro ⟨_,mp1,_,_⟩ ⟨rfl,rfl,rfl,h⟩
      dsimp only at h ⊢
      simp only [zaO]
      exact M.o_f (decide_eq_false (by omega)) (M.o_pure ⟨rfl,rfl,h⟩)
  · intro z hz
    match z,hz with
    | .inl (mp',nx',ls'),hz=>exact M.o_pure (.inl ⟨rfl,hz⟩)
    | .inr (mp',nx',ls'),hz=>exact M.o_pure (.inr ⟨rfl,hz⟩)
theorem linked_out (hn:M'.length<=16):(zbV S M' R').Out (fun z=>∃ K,Fl.Tp M' K M'.length z.1 z.2):=by
  have rep0:∀ n j:Nat,j<n->(List.replicate n (-1:Int)).getD j 0 = -1:=fun n j hj=>by simp [List.getD,List.getElem?_replicate,hj]
  have rep:=fun {j:Nat} (h:j<16)=>rep0 16 j h
  unfold zbV
  refine M.o_bindE (a:=(List.replicate 16 (-1),List.replicate 16 (-1))) ⟨50,by kernel_rfl⟩ (M.o_bind (P:=fun z=>∃ K,Fl.Tp M' K M'.length z.1 z.2) ?_ (fun z hz=>M.o_pure hz))
  refine M.o_for M'.length (fun i (s:List Int × List Int × Nat)=>s.2.2=i/\∃ K,Fl.Tp M' K i s.1 s.2.1) ?_ ?_ (s:=(_,_,0)) ⟨rfl,fun _=>False,⟨by simp,by simp,fun b hb=>.inl (rep (by omega)),fun c hc=>.inl (rep (by omega))⟩,fun j _ hj=>rep (by omega),fun b hb=>hb.elim,fun a ha=>by omega⟩
  · rintro i ⟨nx,ls,_⟩ hi ⟨rfl,K,h⟩
    dsimp only at hi h ⊢
    simp only [zbC]
    refine M.o_t (decide_eq_true (by omega)) (M.o_bind (join_out (K:=K) hn _ _ _ _ _ (Nat.le_refl _) hi h.m h.cl (fun b hb e=>absurd e (h.no hi b hb))) ?_)
    rintro ⟨ok,mp2,nx2,ls2⟩ hz
    dsimp only at hz ⊢
    rcases hz with ⟨rfl,hz⟩ | ⟨rfl,rfl,rfl,hz⟩
    · exact M.o_pure ⟨rfl,K,h.ok hi hz⟩
    · exact M.o_pure ⟨rfl,_,h.no' hi hz⟩
  · rintro ⟨nx,ls,_⟩ ⟨rfl,h⟩
    simp only [zbC]
    exact M.o_f (decide_eq_false (by omega)) (M.o_pure h)
end
end Go.Proofs.YtlemgioaakecpaaGreat
namespace Go.Nm
namespace Fl
theorem sub_len:∀ (a b:List Nat),a.Nodup->(∀ x∈a,x∈b)->a.length<=b.length
  | [],_,_,_=>Nat.zero_le _
  | x :: a,b,hn,hs=>by
    rw [List.nodup_cons] at hn
    have hx:=hs x (by simp)
    have h1:=sub_len a (b.erase x) hn.2 (fun y hy=>(List.mem_erase_of_ne (fun e:y=x=>hn.1 (by rw [← e]; exact hy))).2 (hs y (by simp [hy])))
    have h2:=List.length_erase_of_mem hx
    have h3:=List.length_pos_of_mem hx
    rw [List.length_cons]
    omega
def ci (l:List Nat):List Int:=l.map fun k:Nat=>(k:Int)
theorem ci_len (l:List Nat):(ci l).length=l.length:=by simp [ci]
theorem ci_get (l:List Nat) (k:Nat):(ci l).getD k 0=((l.getD k 0:Nat):Int):=by
  unfold ci
  simp only [List.getD,List.getElem?_map]
  cases l[k]? <;> rfl
theorem cis_get (L:List (List Nat)) (k:Nat):(L.map ci).getD k []=ci (L.getD k []):=by
  simp only [List.getD,List.getElem?_map]
  cases L[k]? <;> rfl
section
variable {M:List Mrk} {K:Nat->Prop} {nx ls:List Int} {i j:Nat} {l l':List Nat}
theorem ch_nd (hk:∀ x∈M,Mok x) (hp:l.Pairwise (ah M)) (hr:∀ v∈l,v<M.length):l.Nodup:=by
  refine List.Pairwise.imp_of_mem ?_ hp
  intro a b ha _ h e
  subst e
  exact ah_irr hk (hr a ha) h
theorem ch_len (hk:∀ x∈M,Mok x) (hp:l.Pairwise (ah M)) (hr:∀ v∈l,v<M.length):l.length<=M.length:=by
  have:=sub_len l (List.range M.length) (ch_nd hk hp hr) (fun x hx=>List.mem_range.2 (hr x hx))
  rwa [List.length_range] at this
/-- A row that begins with a mark. -/
structure IsRow (M:List Mrk) (nx:List Int) (i:Nat) (l:List Nat):Prop where
  hd:∃ t,l=i :: t
  pw:l.Pairwise (ah M)
  rg:∀ v∈l,v<M.length
  cl:∀ c∈l,nx.getD c 0 = -1∨∃ v∈l,nx.getD c 0=(v:Int)
  pr:∀ v∈l,v=i∨∃ c∈l,nx.getD c 0=(v:Int)
  en:∃ c∈l,nx.getD c 0 = -1
/-- A row that is begun. -/
structure Rs (M:List Mrk) (nx:List Int) (i:Nat) (s:Int) (l:List Nat):Prop where
  st:(l=[]/\s=(i:Int))∨∃ t,l=i :: t
  pw:l.Pairwise (ah M)
  rg:∀ v∈l,v<M.length
  sv:s = -1∨∃ k,k<M.length/\s=(k:Int)/\∀ u∈l,ah M u k
  cl:∀ c∈l,nx.getD c 0=s∨∃ v∈l,nx.getD c 0=(v:Int)
  pr:∀ v∈l,v=i∨∃ c∈l,nx.getD c 0=(v:Int)
  ls:l=[]∨∃ c∈l,nx.getD c 0=s
theorem Mtc.ah (h:Mtc M nx ls) {c b:Nat} (hc:c<M.length) (e:nx.getD c 0=(b:Int)):b<M.length/\ls.getD b 0=(c:Int)/\Fl.ah M c b:=by
  rcases h.n c hc with q | ⟨b',hb,q1,q2⟩
  · omega
  · obtain rfl:b=b':=by omega
    rcases h.l b hb with q | ⟨d,hd,q3,q4,q5⟩
    · omega
    · obtain rfl:c=d:=by omega
      exact ⟨hb,q2,q4⟩
theorem Rs.step {s:Int} (h:Rs M nx i s l) (hk:∀ x∈M,Mok x) (hM:Mtc M nx ls) {k:Nat} (hkl:k<M.length) (e:s=(k:Int)) (hu:∀ u∈l,ah M u k):Rs M nx i (nx.getD k 0) (l++[k]):=by
  refine ⟨.inr ?_,?_,fun v hv=>?_,?_,fun c hc=>?_,fun v hv=>?_,.inr ⟨k,by simp,rfl⟩⟩
  · rcases h.st with ⟨q,q'⟩ | ⟨t,q⟩
    · obtain rfl:k=i:=by omega
      exact ⟨[],by rw [q]; rfl⟩
    · exact ⟨t++[k],by rw [q]; rfl⟩
  · rw [List.pairwise_append]
    refine ⟨h.pw,by simp,fun a ha b hb=>?_⟩
    rw [List.mem_singleton] at hb
    subst hb
    exact hu a ha
  · rcases List.mem_append.1 hv with hv | hv
    · exact h.rg v hv
    · rw [List.mem_singleton] at hv; omega
  · rcases hM.n k hkl with q | ⟨b,hb,q1,q2⟩
    · exact .inl q
    · have hab:=(hM.ah hkl q1).2.2
      refine .inr ⟨b,hb,q1,fun u hu'=>?_⟩
      rcases List.mem_append.1 hu' with hu' | hu'
      · exact ah_trans hk hkl (hu u hu') hab
      · rw [List.mem_singleton] at hu'; rw [hu']; exact hab
  · rcases List.mem_append.1 hc with hc | hc
    · rcases h.cl c hc with q | ⟨v,hv,q⟩
      · exact .inr ⟨k,by simp,by omega⟩
      · exact .inr ⟨v,by simp [hv],q⟩
    · rw [List.mem_singleton] at hc
      rw [hc]
      exact .inl rfl
  · rcases List.mem_append.1 hv with hv | hv
    · rcases h.pr v hv with q | ⟨c,hc,q⟩
      · exact .inl q
      · exact .inr ⟨c,by simp [hc],q⟩
    · rw [List.mem_singleton] at hv
      subst hv
      rcases h.ls with q | ⟨c,hc,q⟩
      · rcases h.st with ⟨_,q'⟩ | ⟨t,q'⟩
        · exact .inl (by omega)
        · rw [q] at q'; cases q'
      · exact .inr ⟨c,by simp [hc],by omega⟩
theorem Rs.fin (h:Rs M nx i (-1) l):IsRow M nx i l:=by
  refine ⟨?_,h.pw,h.rg,h.cl,h.pr,?_⟩
  · rcases h.st with ⟨_,q⟩ | q
    · omega
    · exact q
  · rcases h.ls with q | q
    · rcases h.st with ⟨_,q'⟩ | ⟨t,q'⟩
      · omega
      · rw [q] at q'; cases q'
    · exact q
/-- How many marks contradict one from above. -/
def up (M:List Mrk) (v:Nat):Nat:=cnt (fun u=>decide (ah M u v)) M.length
theorem up_lt (hk:∀ x∈M,Mok x) {c v:Nat} (hc:c<M.length) (h:ah M c v):up M c<up M v:=by
  refine cnt_lt M.length (fun b hb q=>?_) c hc (decide_eq_false (ah_irr hk hc)) (decide_eq_true h)
  exact decide_eq_true (ah_trans hk hc (of_decide_eq_true q) h)
def dn (M:List Mrk) (v:Nat):Nat:=cnt (fun u=>decide (ah M v u)) M.length
theorem dn_lt (hk:∀ x∈M,Mok x) {c v:Nat} (hc:c<M.length) (hv:v<M.length) (h:ah M c v):dn M v<dn M c:=by
  refine cnt_lt M.length (fun b hb q=>?_) v hv (decide_eq_false (ah_irr hk hv)) (decide_eq_true h)
  exact decide_eq_true (ah_trans hk hv h (of_decide_eq_true q))
theorem IsRow.same (hk:∀ x∈M,Mok x) (hM:Mtc M nx ls) (h:IsRow M nx i l) (h':IsRow M nx j l') (hi:ls.getD i 0 = -1) (hj:ls.getD j 0 = -1):∀ (m v:Nat),up M v<=m->v∈l->v∈l'->i=j:=by
  intro m
  induction m with
  | zero =>
    intro v hm hv hv'
    rcases h.pr v hv with rfl | ⟨c,hc,q⟩
    · rcases h'.pr v hv' with rfl | ⟨c,hc,q⟩
      · rfl
      · have:=(hM.ah (h'.rg c hc) q).2.1; omega
    · have:=up_lt hk (h.rg c hc) (hM.ah (h.rg c hc) q).2.2; omega
  | succ m ih =>
    intro v hm hv hv'
    rcases h.pr v hv with rfl | ⟨c,hc,q⟩
    · rcases h'.pr v hv' with rfl | ⟨c,hc,q⟩
      · rfl
      · have:=(hM.ah (h'.rg c hc) q).2.1; omega
    · have k1:=hM.ah (h.rg c hc) q
      rcases h'.pr v hv' with rfl | ⟨d,hd,q'⟩
      · omega
      · have k2:=hM.ah (h'.rg d hd) q'
        obtain rfl:c=d:=by omega
        have:=up_lt hk (h.rg c hc) k1.2.2
        exact ih c (by omega) hc hd
theorem has_row (hk:∀ x∈M,Mok x) (hM:Mtc M nx ls):∀ (m v:Nat),up M v<=m->v<M.length->∃ j,j<M.length/\ls.getD j 0 = -1/\∀ l,IsRow M nx j l->v∈l:=by
  intro m
  induction m with
  | zero =>
    intro v hm hv
    rcases hM.l v hv with q | ⟨c,hc,q1,q2,q3⟩
    · exact ⟨v,hv,q,fun l h=>by obtain ⟨t,e⟩:=h.hd; rw [e]; simp⟩
    · have:=up_lt hk hc q2; omega
  | succ m ih =>
    intro v hm hv
    rcases hM.l v hv with q | ⟨c,hc,q1,q2,q3⟩
    · exact ⟨v,hv,q,fun l h=>by obtain ⟨t,e⟩:=h.hd; rw [e]; simp⟩
    · have:=up_lt hk hc q2
      obtain ⟨j,hj,k1,k2⟩:=ih c (by omega) hc
      refine ⟨j,hj,k1,fun l h=>?_⟩
      rcases h.cl c (k2 l h) with k | ⟨w,hw,k⟩
      · omega
      · obtain rfl:v=w:=by omega
        exact hw
/-- Marks of which no row leads into those that are closed. -/
def Xs (K:Nat->Prop) (nx ls:List Int) (v:Nat):Prop:=(nx.getD v 0 = -1∨∃ b,K b/\ls.getD b 0=(v:Int))/\¬K v
theorem Xs.anti (h:Tp M K M.length nx ls) {u v:Nat} (hu:Xs K nx ls u) (hv:Xs K nx ls v) (ul:u<M.length) (vl:v<M.length):¬ah M u v:=fun ha=>by
  rcases hu.1 with q | ⟨b,kb,q⟩
  · exact hv.2 (h.k u ul q v vl ha)
  · obtain ⟨_,c,hc,e,k⟩:=h.cl b kb
    obtain rfl:c=u:=by omega
    exact hv.2 (k v vl ha)
theorem IsRow.pick (hk:∀ x∈M,Mok x) (h:Tp M K M.length nx ls) (hr:IsRow M nx i l) (hi:ls.getD i 0 = -1):∃ v∈l,Xs K nx ls v:=by
  refine Classical.byContradiction fun hc=>?_
  have no:∀ v∈l,¬Xs K nx ls v:=fun v hv q=>hc ⟨v,hv,q⟩
  have key:∀ (m v:Nat),up M v<=m->v∈l->¬K v:=by
    intro m
    induction m with
    | zero =>
      intro v hm hv kv
      rcases hr.pr v hv with rfl | ⟨c,hcl,q⟩
      · obtain ⟨_,d,hd,e,_⟩:=h.cl v kv; omega
      · have:=up_lt hk (hr.rg c hcl) (h.m.ah (hr.rg c hcl) q).2.2; omega
    | succ m ih =>
      intro v hm hv kv
      rcases hr.pr v hv with rfl | ⟨c,hcl,q⟩
      · obtain ⟨_,d,hd,e,_⟩:=h.cl v kv; omega
      · have k1:=h.m.ah (hr.rg c hcl) q
        have:=up_lt hk (hr.rg c hcl) k1.2.2
        exact no c hcl ⟨.inr ⟨v,kv,k1.2.1⟩,ih c (by omega) hcl⟩
  obtain ⟨c,hcl,q⟩:=hr.en
  exact no c hcl ⟨.inl q,key _ c (Nat.le_refl _) hcl⟩
/-- Rows that hold each mark once, as few as there are marks that are true together. -/
structure RowsOk (M:List Mrk) (L:List (List Nat)):Prop where
  ne:∀ l∈L,l ≠ []
  pw:∀ l∈L,l.Pairwise (ah M)
  rg:∀ l∈L,∀ v∈l,v<M.length
  cov:∀ v,v<M.length->∃ l∈L,v∈l
  dis:L.Pairwise fun a b=>∀ v∈a,v ∉ b
  len:L.length<=M.length
  pick:∃ X:Nat->Prop,(∀ u v,X u->X v->u<M.length->v<M.length->¬ah M u v)/\∀ l∈L,∃ v∈l,X v
/-- Rows that are made of the first marks. -/
structure Rw (M:List Mrk) (nx ls:List Int) (i:Nat) (L:List (List Nat)):Prop where
  ro:∀ l∈L,∃ j,j<i/\ls.getD j 0 = -1/\IsRow M nx j l
  al:∀ j,j<i->ls.getD j 0 = -1->∃ l∈L,IsRow M nx j l
  dis:L.Pairwise fun a b=>∀ v∈a,v ∉ b
  len:L.length<=i
theorem Rw.ok {L:List (List Nat)} (hk:∀ x∈M,Mok x) (h:Tp M K M.length nx ls) (hr:Rw M nx ls M.length L):RowsOk M L:=by
  refine ⟨fun l hl=>?_,fun l hl=>?_,fun l hl=>?_,fun v hv=>?_,hr.dis,hr.len,Xs K nx ls,fun u v hu hv ul vl=>Xs.anti h hu hv ul vl,fun l hl=>?_⟩
  · obtain ⟨j,_,_,q⟩:=hr.ro l hl
    obtain ⟨t,e⟩:=q.hd
    rw [e]; simp
  · obtain ⟨j,_,_,q⟩:=hr.ro l hl; exact q.pw
  · obtain ⟨j,_,_,q⟩:=hr.ro l hl; exact q.rg
  · obtain ⟨j,hj,e,q⟩:=has_row hk h.m _ v (Nat.le_refl _) hv
    obtain ⟨l,hl,k⟩:=hr.al j hj e
    exact ⟨l,hl,q l k⟩
  · obtain ⟨j,_,e,q⟩:=hr.ro l hl
    exact q.pick hk h e
theorem Rw.skip {L:List (List Nat)} (h:Rw M nx ls i L) (hi:ls.getD i 0 ≠ -1):Rw M nx ls (i+1) L :=
  ⟨fun l hl=>by obtain ⟨j,hj,q⟩:=h.ro l hl; exact ⟨j,by omega,q⟩,fun j hj e=>h.al j (by
    by_cases k:j=i
    · subst k; exact absurd e hi
    · omega) e,h.dis,by have:=h.len; omega⟩
theorem Rw.step {L:List (List Nat)} (hk:∀ x∈M,Mok x) (hM:Mtc M nx ls) (h:Rw M nx ls i L) (hi:ls.getD i 0 = -1) (hl:IsRow M nx i l):Rw M nx ls (i+1) (L++[l]):=by
  refine ⟨fun l' hl'=>?_,fun j hj e=>?_,?_,by have:=h.len; simp; omega⟩
  · rcases List.mem_append.1 hl' with hl' | hl'
    · obtain ⟨j,hj,q⟩:=h.ro l' hl'; exact ⟨j,by omega,q⟩
    · rw [List.mem_singleton] at hl'; rw [hl']; exact ⟨i,by omega,hi,hl⟩
  · by_cases k:j=i
    · subst k; exact ⟨l,by simp,hl⟩
    · obtain ⟨l',hl',q⟩:=h.al j (by omega) e
      exact ⟨l',by simp [hl'],q⟩
  · rw [List.pairwise_append]
    refine ⟨h.dis,by simp,fun a ha b hb v hv hv'=>?_⟩
    rw [List.mem_singleton] at hb
    subst hb
    obtain ⟨j,hj,e,q⟩:=h.ro a ha
    have:=q.same hk hM hl e hi _ v (Nat.le_refl _) hv hv'
    omega
end
end Fl
end Go.Nm
namespace Go.Proofs.YtlemgioaakecpaaGreat
open Go Go.Nm
section
variable {S:List Sect} {M':List Mrk} {R':List Rch}
theorem row_out {nx ls:List Int} (hn:M'.length<=16) (hk:∀ x∈M',Fl.Mok x) (hM:Fl.Mtc M' nx ls) {i:Nat} (hi:i<M'.length) :
    (M.iter (zbu nx) ((i:Int),[])).Out (fun z=>∃ l,z=(Fl.ci l,Fl.ci l)/\Fl.IsRow M' nx i l):=by
  have n1:=hM.n1
  refine M.o_iter (fun m (s:Int × List Int)=>∃ l,s.2=Fl.ci l/\Fl.Rs M' nx i s.1 l/\m=if s.1 = -1 then 0 else Fl.dn M' (Int.toNat s.1)+1) ?_ _ ((i:Int),[]) ⟨[],rfl,⟨.inl ⟨rfl,rfl⟩,List.Pairwise.nil,fun v hv=>(by cases hv),.inr ⟨i,hi,rfl,fun u hu=>(by cases hu)⟩,fun c hc=>(by cases hc),fun v hv=>(by cases hv),.inl rfl⟩,rfl⟩
  rintro m ⟨s,_⟩ ⟨l,rfl,h,rfl⟩
  dsimp only at h ⊢
  simp only [zbu]
  refine M.o_if (fun hb=>?_) (fun hb=>?_)
  · rw [bne_iff_ne] at hb
    rcases h.sv with q | ⟨k,hkl,rfl,hu⟩
    · exact absurd q hb
    · have:=Fl.ch_len hk h.pw h.rg
      refine M.o_grd (decide_eq_true (by rw [Fl.ci_len]; simp; omega)) (M.o_grd (gA2 (by omega) (by omega)) (M.o_pure ⟨_,?_,l++[k],?_,h.step hk hM hkl rfl hu,rfl⟩))
      · rw [if_neg hb]
        dsimp only
        rw [Int.toNat_natCast]
        by_cases e:nx.getD k 0 = -1
        · rw [if_pos e]; omega
        · rw [if_neg e]
          rcases hM.n k hkl with q | ⟨b,hb',q1,q2⟩
          · exact absurd q e
          · have:=Fl.dn_lt hk hkl hb' (hM.ah hkl q1).2.2
            rw [q1,Int.toNat_natCast]
            omega
      · unfold Fl.ci
        rw [List.map_append]
        rfl
  · rw [bne_eq_false_iff_eq] at hb
    subst hb
    exact M.o_pure ⟨l,rfl,h.fin⟩
theorem rows_out (hn:M'.length<=16) (hk:∀ x∈M',Fl.Mok x):(zan S M' R').Out (fun z=>∃ L:List (List Nat),z=L.map Fl.ci/\Fl.RowsOk M' L):=by
  unfold zan
  refine M.o_bind (linked_out hn) ?_
  rintro ⟨nx,ls⟩ ⟨K,h⟩
  dsimp only at h ⊢
  have l1:=h.m.l1
  refine M.o_bind (P:=fun z=>z.1=z.2/\∃ L:List (List Nat),z.2=L.map Fl.ci/\Fl.RowsOk M' L) ?_ (fun z hz=>M.o_pure hz.2)
  refine M.o_for M'.length (fun i (s:Nat × List (List Int))=>s.1=i/\∃ L:List (List Nat),s.2=L.map Fl.ci/\Fl.Rw M' nx ls i L) ?_ ?_ (s:=(0,[])) ⟨rfl,[],rfl,⟨fun l hl=>(by cases hl),fun j hj=>(by omega),List.Pairwise.nil,Nat.le_refl _⟩⟩
  · rintro _ ⟨i,_⟩ hi ⟨rfl,L,rfl,hr⟩
    dsimp only at hi hr ⊢
    simp only [zbs]
    refine M.o_t (decide_eq_true (by omega)) (M.o_grd (gA2 (by omega) (by omega)) (M.o_if (fun hb=>?_) (fun hb=>?_)))
    · rw [bne_iff_ne] at hb
      exact M.o_pure ⟨rfl,L,rfl,hr.skip hb⟩
    · rw [bne_eq_false_iff_eq] at hb
      refine M.o_bind (row_out hn hk h.m hi) ?_
      rintro _ ⟨l,rfl,hl⟩
      dsimp only
      have:=hr.len
      refine M.o_grd (decide_eq_true (by simp; omega)) (M.o_pure ⟨rfl,L++[l],?_,hr.step hk h.m hb hl⟩)
      rw [List.map_append]
      rfl
  · rintro ⟨_,_⟩ ⟨rfl,L,rfl,hr⟩
    simp only [zbs]
    exact M.o_f (decide_eq_false (by omega)) (M.o_pure ⟨rfl,L,rfl,hr.ok hk h⟩)
end
end Go.Proofs.YtlemgioaakecpaaGreat
namespace Go.Nm
namespace Fl
/-- The sum of what numbers below n give. -/
def sm (g:Nat->Nat):Nat->Nat
  | 0=>0
  | n+1=>sm g n+g n
theorem sm_le {g h:Nat->Nat}:∀ n,(∀ i,i<n->g i<=h i)->sm g n<=sm h n
  | 0,_=>Nat.le_refl _
  | n+1,k=>by
    have:=sm_le n (fun i hi=>k i (by omega))
    have:=k n (by omega)
    unfold sm
    omega
theorem sm_lt {g h:Nat->Nat}:∀ n,(∀ i,i<n->g i<=h i)->∀ x,x<n->g x<h x->sm g n<sm h n
  | 0,_,_,hx,_=>by omega
  | n+1,k,x,hx,hl=>by
    have q:=k n (by omega)
    unfold sm
    by_cases e:x=n
    · subst e
      have:=sm_le x (fun i hi=>k i (by omega))
      omega
    · have:=sm_lt n (fun i hi=>k i (by omega)) x (by omega) hl
      omega
section
variable {M:List Mrk} {L:List (List Nat)}
/-- The mark of a row that is looked at. -/
def cur (L:List (List Nat)) (at_:List Int) (i:Nat):Nat:=(L.getD i []).getD (Int.toNat (at_.getD i 0)) 0
/-- Where the rows are looked at: no further on than where their marks stand that do not contradict one another. -/
structure At (L:List (List Nat)) (f:Nat->Nat) (at_:List Int):Prop where
  n:at_.length=L.length
  le:∀ i,i<L.length->∃ k:Nat,at_.getD i 0=(k:Int)/\k<=f i
theorem rowIn {i:Nat} (hi:i<L.length):L.getD i []∈L:=by
  rw [getD_el L hi]
  exact List.getElem_mem hi
theorem pw_le (hk:∀ x∈M,Mok x) {l:List Nat} (hp:l.Pairwise (ah M)) {a b:Nat} (hab:a<=b) (hb:b<l.length):l.getD a 0=l.getD b 0∨ah M (l.getD a 0) (l.getD b 0):=by
  rcases Nat.lt_or_eq_of_le hab with h | h
  · right
    rw [getD_el l (by omega:a<l.length),getD_el l hb]
    exact List.pairwise_iff_getElem.1 hp a b (by omega) hb h
  · left; rw [h]
theorem At.step {f:Nat->Nat} {X:Nat->Prop} {at_:List Int} (hk:∀ x∈M,Mok x) (h:RowsOk M L) (hX:∀ u v,X u->X v->u<M.length->v<M.length->¬ah M u v) (hf:∀ i,i<L.length->f i<(L.getD i []).length/\X ((L.getD i []).getD (f i) 0)) (ha:At L f at_) {i k:Nat} (hi:i<L.length) (hk':k<L.length) (hah:ah M (cur L at_ i) (cur L at_ k)) :
    At L f (at_.set i (at_.getD i 0+1))/\sm (fun j=>f j-Int.toNat ((at_.set i (at_.getD i 0+1)).getD j 0)) L.length<sm (fun j=>f j-Int.toNat (at_.getD j 0)) L.length:=by
  have n:=ha.n
  have g:∀ j,(at_.set i (at_.getD i 0+1)).getD j 0=if j=i then at_.getD i 0+1 else at_.getD j 0:=fun j=>gset at_ i j _ 0 (by omega)
  obtain ⟨a,ea,la⟩:=ha.le i hi
  obtain ⟨b,eb,lb⟩:=ha.le k hk'
  have fi:=hf i hi
  have fk:=hf k hk'
  have ri:=h.rg _ (rowIn hi)
  have rk:=h.rg _ (rowIn hk')
  have mem:∀ j (l:List Nat),j<l.length->l.getD j 0∈l:=fun j l hj=>by rw [getD_el l hj]; exact List.getElem_mem hj
  have lt:a<f i:=by
    refine Nat.lt_of_le_of_ne la (fun e=>?_)
    unfold cur at hah
    rw [ea,eb,Int.toNat_natCast,Int.toNat_natCast,e] at hah
    have m1:=ri _ (mem _ _ fi.1)
    have m2:=rk _ (mem _ _ fk.1)
    have m3:=rk _ (mem b (L.getD k []) (by omega))
    rcases pw_le hk (h.pw _ (rowIn hk')) lb fk.1 with q | q
    · rw [q] at hah
      exact hX _ _ fi.2 fk.2 m1 m2 hah
    · exact hX _ _ fi.2 fk.2 m1 m2 (ah_trans hk m3 hah q)
  refine ⟨⟨by rw [List.length_set]; exact n,fun j hj=>?_⟩,sm_lt L.length (fun j hj=>?_) i hi ?_⟩
  · rw [g]
    by_cases e:j=i
    · subst e
      rw [if_pos rfl]
      exact ⟨a+1,by omega,by omega⟩
    · rw [if_neg e]
      exact ha.le j hj
  · rw [g]
    by_cases e:j=i
    · subst e
      rw [if_pos rfl]
      omega
    · rw [if_neg e]
      exact Nat.le_refl _
  · rw [g,if_pos rfl,ea]
    have:Int.toNat ((a:Int)+1)=a+1:=by omega
    rw [this,Int.toNat_natCast]
    omega
/-- What is chosen: one mark of each row. -/
def chs (L:List (List Nat)) (at_:List Int):List Nat:=(List.range L.length).map (cur L at_)
theorem chs_len {at_:List Int}:(chs L at_).length=L.length:=by simp [chs]
theorem cur_in {f:Nat->Nat} {at_:List Int} (ha:At L f at_) (hf:∀ i,i<L.length->f i<(L.getD i []).length) {i:Nat} (hi:i<L.length):cur L at_ i∈L.getD i []:=by
  obtain ⟨a,ea,la⟩:=ha.le i hi
  have:=hf i hi
  unfold cur
  rw [ea,Int.toNat_natCast,getD_el _ (by omega:a<(L.getD i []).length)]
  exact List.getElem_mem _
theorem chs_nd {f:Nat->Nat} {at_:List Int} (h:RowsOk M L) (ha:At L f at_) (hf:∀ i,i<L.length->f i<(L.getD i []).length):(chs L at_).Nodup:=by
  unfold chs List.Nodup
  rw [List.pairwise_map]
  refine List.Pairwise.imp_of_mem ?_ List.pairwise_lt_range
  intro i j hi hj hij e
  have hi:=List.mem_range.1 hi
  have hj:=List.mem_range.1 hj
  have q:=List.pairwise_iff_getElem.1 h.dis i j hi hj hij
  have c1:=cur_in ha hf hi
  have c2:=cur_in ha hf hj
  rw [getD_el L hi] at c1
  rw [getD_el L hj] at c2
  exact q _ c1 (by rw [e]; exact c2)
/-- Marks of which none contradicts another one, as many as there are rows. -/
structure Best (M:List Mrk) (L:List (List Nat)) (l:List Int):Prop where
  n:l.length=L.length
  inc:Inc M l
  tog:Tog M l
theorem ah_iff {u v:Nat}:ah M u v↔((M.getD (Int.toNat (u:Int)) default).place<=(M.getD (Int.toNat (v:Int)) default).place/\(M.getD (Int.toNat (u:Int)) default).hi<(M.getD (Int.toNat (v:Int)) default).lo):=by
  rw [Int.toNat_natCast,Int.toNat_natCast]
  exact Iff.rfl
theorem Best.of {f:Nat->Nat} {at_:List Int} (hk:∀ x∈M,Mok x) (h:RowsOk M L) (ha:At L f at_) (hf:∀ i,i<L.length->f i<(L.getD i []).length) (no:∀ i k,i<L.length->k<L.length->i ≠ k->¬ah M (cur L at_ i) (cur L at_ k)):Best M L (isort (ci (chs L at_))):=by
  have p:=isort_perm (ci (chs L at_))
  have nd:(ci (chs L at_)).Nodup:=by
    unfold ci List.Nodup
    rw [List.pairwise_map]
    exact List.Pairwise.imp (fun q e=>q (by omega)) (chs_nd h ha hf)
  have mem:∀ x∈isort (ci (chs L at_)),∃ i,i<L.length/\x=((cur L at_ i:Nat):Int):=fun x hx=>by
    have hx:=p.mem_iff.1 hx
    unfold ci chs at hx
    rw [List.map_map,List.mem_map] at hx
    obtain ⟨i,hi,rfl⟩:=hx
    exact ⟨i,List.mem_range.1 hi,rfl⟩
  have rg:∀ i,i<L.length->cur L at_ i<M.length:=fun i hi=>h.rg _ (rowIn hi) _ (cur_in ha hf hi)
  refine ⟨by rw [p.length_eq,ci_len,chs_len],⟨?_,fun x hx=>?_⟩,fun a ha' b hb=>?_⟩
  · have s1:=isort_asc (ci (chs L at_))
    have s2:(isort (ci (chs L at_))).Nodup:=p.nodup_iff.2 nd
    exact List.Pairwise.imp₂ (fun a b (h1:a<=b) (h2:a ≠ b)=>by omega) s1 s2
  · obtain ⟨i,hi,rfl⟩:=mem x hx
    have:=rg i hi
    omega
  · obtain ⟨i,hi,rfl⟩:=mem a ha'
    obtain ⟨k,hkl,rfl⟩:=mem b hb
    rw [← ah_iff]
    by_cases e:i=k
    · subst e; exact ah_irr hk (rg i hi)
    · exact no i k hi hkl e
/-- Marks that are true together are no more than rows that hold all marks, each of which contradicts those ahead of it. -/
theorem few {X:List Nat} {L:List (List Nat)} (hX:X.Nodup) (hr:∀ v∈X,v<M.length) (hno:∀ u∈X,∀ v∈X,¬ah M u v) (cov:∀ v,v<M.length->∃ l∈L,v∈l) (ch:∀ l∈L,∀ u∈l,∀ v∈l,u ≠ v->ah M u v∨ah M v u):X.length<=L.length:=by
  classical
  have w:∀ v:Nat,∃ i,v<M.length->i<L.length/\v∈L.getD i []:=fun v=>by
    by_cases hv:v<M.length
    · obtain ⟨l,hl,q⟩:=cov v hv
      obtain ⟨i,hi,e⟩:=mem_getD hl []
      exact ⟨i,fun _=>⟨hi,by rw [e]; exact q⟩⟩
    · exact ⟨0,fun q=>absurd q hv⟩
  have hw:=fun v=>Classical.choose_spec (w v)
  generalize (fun v=>Classical.choose (w v))=g at hw
  have nd:(X.map fun v=>Classical.choose (w v)).Nodup:=by
    unfold List.Nodup
    rw [List.pairwise_map]
    refine List.Pairwise.imp_of_mem ?_ hX
    intro u v hu hv ne e
    have a:=hw u (hr u hu)
    have b:=hw v (hr v hv)
    rw [← e] at b
    rcases ch _ (rowIn a.1) u a.2 v b.2 ne with q | q
    · exact hno u hu v hv q
    · exact hno v hv u hu q
  have:=sub_len _ (List.range L.length) nd (fun x hx=>by
    obtain ⟨v,hv,rfl⟩:=List.mem_map.1 hx
    exact List.mem_range.2 (hw v (hr v hv)).1)
  rwa [List.length_map,List.length_range] at this
end
end Fl
end Go.Nm
namespace Go.Proofs.YtlemgioaakecpaaGreat
open Go Go.Nm
section
variable {S:List Sect} {M':List Mrk} {R':List Rch}
theorem mostb5_out {L:List (List Nat)} {f:Nat->Nat} {at_:List Int} (hm:∀ x∈M',Fl.Mok x) (hn:M'.length<=16) (h:Fl.RowsOk M' L) (hf:∀ i,i<L.length->f i<(L.getD i []).length) (ha:Fl.At L f at_) {i:Nat} (hi:i<L.length) :
    (M.iter (zaB S M' R' (L.map Fl.ci) at_ i) 0).Out (fun z=>match z with | .inl _=>∃ k,k<L.length/\i ≠ k/\Fl.ah M' (Fl.cur L at_ i) (Fl.cur L at_ k) | .inr _=>∀ k,k<L.length->i ≠ k->¬Fl.ah M' (Fl.cur L at_ i) (Fl.cur L at_ k)):=by
  have n:=ha.n
  obtain ⟨a,ea,la⟩:=ha.le i hi
  have fi:=hf i hi
  refine M.o_for L.length (fun j (s:Nat)=>s=j/\∀ k,k<j->i ≠ k->¬Fl.ah M' (Fl.cur L at_ i) (Fl.cur L at_ k)) ?_ ?_ ⟨rfl,fun k hk=>by omega⟩
  · rintro _ k hk ⟨rfl,hj⟩
    obtain ⟨b,eb,lb⟩:=ha.le k hk
    have fk:=hf k hk
    simp only [zaB,List.length_map,Fl.cis_get,Fl.ci_len,Fl.ci_get]
    refine M.o_t (decide_eq_true (by omega)) (M.o_grd (decide_eq_true (by omega)) (M.o_grd (gOr (by omega)) (M.o_grd (gOr (by omega)) (M.o_grd (gOr (by omega)) (M.o_grd (gOr2 (by omega) (by omega)) (M.o_grd (gOr (by omega)) (M.o_grd (gOr2 (by omega) (by omega)) ?_)))))))
    have c1:=Fl.cur_in ha hf hi
    have c2:=Fl.cur_in ha hf hk
    have r1:=h.rg _ (Fl.rowIn hi) _ c1
    have r2:=h.rg _ (Fl.rowIn hk) _ c2
    have t:(((!((i:Int)==(k:Int)))&&decide (at_.getD i 0<(((L.getD i []).length:Nat):Int)))&&decide (at_.getD k 0<(((L.getD k []).length:Nat):Int))) = !((i:Int)==(k:Int)):=by
      rw [decide_eq_true (by omega),decide_eq_true (by omega),Bool.and_true,Bool.and_true]
    have t':((((i:Int) != (k:Int))&&decide (at_.getD i 0<(((L.getD i []).length:Nat):Int)))&&decide (at_.getD k 0<(((L.getD k []).length:Nat):Int))) = !((i:Int)==(k:Int)):=t
    rw [t']
    by_cases e:i=k
    · subst e
      have ee:(!((i:Int)==(i:Int)))=false:=by simp
      rw [ee]
      refine M.o_bindE (M.i_opt (r:=false) (fun q=>by cases q) (fun _=>rfl)) (M.o_f rfl (M.o_pure ⟨rfl,fun k hk' ne=>?_⟩))
      by_cases q:k=i
      · exact absurd q.symm ne
      · exact hj k (by omega) ne
    · have ee:(!((i:Int)==(k:Int)))=true:=by rw [Bool.not_eq_true',beq_eq_false_iff_ne]; omega
      rw [ee]
      refine M.o_bindE (M.i_opt (r:=decide (Fl.ah M' (Fl.cur L at_ i) (Fl.cur L at_ k))) (fun _=>ahN_ends r1 r2) (fun q=>by cases q)) (M.o_if (fun hb=>?_) (fun hb=>?_))
      · rw [Bool.true_and] at hb
        exact M.o_grd (decide_eq_true (by omega)) (M.o_grd (gA2 (by omega) (by rw [ea]; have q:=Fl.ch_len hm (h.pw _ (Fl.rowIn hi)) (h.rg _ (Fl.rowIn hi)); omega)) (M.o_pure ⟨k,hk,e,of_decide_eq_true hb⟩))
      · rw [Bool.true_and] at hb
        refine M.o_pure ⟨rfl,fun k' hk' ne=>?_⟩
        by_cases q:k'=k
        · subst q; exact of_decide_eq_false hb
        · exact hj k' (by omega) ne
  · rintro _ ⟨rfl,hj⟩
    simp only [zaB,List.length_map]
    exact M.o_f (decide_eq_false (by omega)) (M.o_pure hj)
theorem mostb6_out {L:List (List Nat)} {f:Nat->Nat} {at_:List Int} (hm:∀ x∈M',Fl.Mok x) (hn:M'.length<=16) (h:Fl.RowsOk M' L) (hf:∀ i,i<L.length->f i<(L.getD i []).length) (ha:Fl.At L f at_) :
    (M.iter (zaC S M' R' (L.map Fl.ci) at_) 0).Out (fun z=>match z with | .inl (a,b)=>a=b/\∃ i k,i<L.length/\k<L.length/\Fl.ah M' (Fl.cur L at_ i) (Fl.cur L at_ k)/\b=at_.set i (at_.getD i 0+1) | .inr _=>∀ i k,i<L.length->k<L.length->i ≠ k->¬Fl.ah M' (Fl.cur L at_ i) (Fl.cur L at_ k)):=by
  refine M.o_for L.length (fun j (s:Nat)=>s=j/\∀ i k,i<j->k<L.length->i ≠ k->¬Fl.ah M' (Fl.cur L at_ i) (Fl.cur L at_ k)) ?_ ?_ ⟨rfl,fun i k hi=>by omega⟩
  · rintro _ i hi ⟨rfl,hj⟩
    simp only [zaC,List.length_map]
    refine M.o_t (decide_eq_true (by omega)) (M.o_grd (decide_eq_true (by omega)) (M.o_bind (mostb5_out hm hn h hf ha hi) ?_))
    intro z hz
    match z,hz with
    | .inl _,hz =>
      obtain ⟨k,hk,_,q⟩:=hz
      exact M.o_pure ⟨rfl,i,k,hi,hk,q,rfl⟩
    | .inr _,hz =>
      refine M.o_pure ⟨rfl,fun i' k hi' hk ne=>?_⟩
      by_cases e:i'=i
      · subst e; exact hz k hk ne
      · exact hj i' k (by omega) hk ne
  · rintro _ ⟨rfl,hj⟩
    simp only [zaC,List.length_map]
    exact M.o_f (decide_eq_false (by omega)) (M.o_pure hj)
theorem mostb7_ends {L:List (List Nat)} {f:Nat->Nat} {at_:List Int} (hl:L.length<=16) (hf:∀ i,i<L.length->f i<(L.getD i []).length) (ha:Fl.At L f at_) :
    (M.iter (zaP (L.map Fl.ci) at_) (0,[])).Ends (Fl.ci (Fl.chs L at_),Fl.ci (Fl.chs L at_)):=by
  have n:=ha.n
  refine M.i_for (fun i=>(i,Fl.ci ((List.range i).map (Fl.cur L at_)))) L.length (fun i hi=>?_) ?_
  · obtain ⟨a,ea,la⟩:=ha.le i hi
    have fi:=hf i hi
    simp only [zaP,List.length_map,Fl.cis_get,Fl.ci_len,Fl.ci_get]
    refine M.i_t (decide_eq_true (by omega)) (M.i_grd (decide_eq_true (by omega)) (M.i_grd (decide_eq_true (by omega)) (M.i_t (decide_eq_true (by omega)) (M.i_grd (gA2 (by omega) (by omega)) (M.i_grd (decide_eq_true (by simp; omega)) ?_)))))
    have e:Fl.ci ((List.range (i+1)).map (Fl.cur L at_))=Fl.ci ((List.range i).map (Fl.cur L at_))++[((Fl.cur L at_ i:Nat):Int)]:=by
      rw [List.range_succ,List.map_append]
      unfold Fl.ci
      rw [List.map_append]
      rfl
    rw [e]
    exact M.i_pure
  · simp only [zaP,List.length_map]
    exact M.i_f (decide_eq_false (by omega)) M.i_pure
theorem Most_best (h:Fl.Site S M' R'):(zaq S M' R').Out (fun x=>x.2=0/\∃ L:List (List Nat),(zan S M' R').Ends (L.map Fl.ci)/\Fl.RowsOk M' L/\Fl.Best M' L x.1):=by
  have hn:=h.m
  have hm:=h.mks
  unfold zaq
  obtain ⟨_,hE,L,rfl,hr⟩:=rows_out (S:=S) (R':=R') hn.2 hm
  have hl:=hr.len
  refine M.o_bindE (opened_ends h) (M.o_f rfl (M.o_bindE hE (M.o_grd (by rw [List.length_map]; exact gA3 (by omega) (by omega) (by omega)) ?_)))
  obtain ⟨X,hX,hp⟩:=hr.pick
  have hex:∀ i,∃ k,i<L.length->k<(L.getD i []).length/\X ((L.getD i []).getD k 0):=fun i=>by
    by_cases hi:i<L.length
    · obtain ⟨v,hv,q⟩:=hp _ (Fl.rowIn hi)
      obtain ⟨k,hk,e⟩:=mem_getD hv 0
      exact ⟨k,fun _=>⟨hk,by rw [e]; exact q⟩⟩
    · exact ⟨0,fun q=>absurd q hi⟩
  have hf:=fun i=>Classical.choose_spec (hex i)
  generalize hg:(fun i=>Classical.choose (hex i))=f
  have hf:∀ i,i<L.length->f i<(L.getD i []).length/\X ((L.getD i []).getD (f i) 0):=by subst hg; exact hf
  have hf1:=fun i hi=>(hf i hi).1
  refine M.o_bind (P:=fun z=>Fl.Best M' L z.1) ?_ (fun z hz=>M.o_pure ⟨rfl,L,hE,hr,hz⟩)
  rw [List.length_map]
  have rep:∀ i,(List.replicate L.length (0:Int)).getD i 0=0:=fun i=>by
    simp only [List.getD,List.getElem?_replicate]
    split <;> rfl
  refine M.o_iter (fun m (at_:List Int)=>Fl.At L f at_/\m=Fl.sm (fun j=>f j-Int.toNat (at_.getD j 0)) L.length) ?_ _ (List.replicate L.length (0:Int)) ⟨⟨by simp,fun i hi=>⟨0,rep i,Nat.zero_le _⟩⟩,rfl⟩
  rintro m at_ ⟨ha,rfl⟩
  simp only [zbL]
  refine M.o_bind (mostb6_out hm hn.2 hr hf1 ha) ?_
  intro z hz
  match z,hz with
  | .inl (a,b),hz =>
    obtain ⟨rfl,i,k,hi,hk,q,rfl⟩:=hz
    have:=ha.step hm hr hX hf hi hk q
    exact M.o_pure ⟨_,this.2,this.1,rfl⟩
  | .inr _,hz =>
    refine M.o_bindE (mostb7_ends (by omega) hf1 ha) (M.o_grd (decide_eq_true (by rw [Fl.ci_len,Fl.chs_len]; omega)) (M.o_pure ?_))
    exact Fl.Best.of hm hr ha hf1 hz
end
end Go.Proofs.YtlemgioaakecpaaGreat
namespace Go.Nm
namespace Fl
end Fl
end Go.Nm
namespace Go.Proofs.YtlemgioaakecpaaGreat
open Go Go.Nm
section
variable {S:List Sect} {M':List Mrk} {R':List Rch} {ms:List Int} {r:Rch}
end
end Go.Proofs.YtlemgioaakecpaaGreat
namespace Go.Nm
namespace Fl
/-- A row of numbers in which each two contradict each other. -/
def Chn (M:List Mrk) (row:List Int):Prop:=∀ j k,j<k->k<row.length->ah M (Int.toNat (row.getD k 0)) (Int.toNat (row.getD j 0))∨ah M (Int.toNat (row.getD j 0)) (Int.toNat (row.getD k 0))
instance (M:List Mrk) (a b:Nat):Decidable (ah M a b∨ah M b a):=inferInstance
/-- Rows that may be asked of. -/
structure Rws (n:Nat) (T:List (List Int)):Prop where
  len:T.length<=16
  row:∀ r∈T,r ≠ []/\∀ k∈r,0<=k/\k<n
theorem ix_in {n:Nat} {r:List Int} (h:∀ k∈r,0<=k/\k<n) {i:Nat} (hi:i<r.length):0<=r.getD i 0/\r.getD i 0<n:=h _ (by rw [getD_el r hi]; exact List.getElem_mem hi)
/-- What rows prove is so. -/
theorem prove_few {M:List Mrk} {T:List (List Int)} {l:List Int} (hx:Inc M l) (ht:Tog M l) (hr:∀ r∈T,∀ k∈r,0<=k/\k<M.length) (hc:∀ r∈T,Chn M r) (cov:∀ v,v<M.length->∃ r∈T,(v:Int)∈r):l.length<=T.length:=by
  have:=few (M:=M) (X:=l.map Int.toNat) (L:=T.map fun r=>r.map Int.toNat) ?_ ?_ ?_ ?_ ?_
  · rwa [List.length_map,List.length_map] at this
  · unfold List.Nodup
    rw [List.pairwise_map]
    refine List.Pairwise.imp_of_mem ?_ hx.1
    intro a b ha hb hab e
    have q1:=hx.2 a ha
    have q2:=hx.2 b hb
    omega
  · intro v hv
    obtain ⟨a,ha,rfl⟩:=List.mem_map.1 hv
    have:=hx.2 a ha
    omega
  · intro u hu v hv q
    obtain ⟨a,ha,rfl⟩:=List.mem_map.1 hu
    obtain ⟨b,hb,rfl⟩:=List.mem_map.1 hv
    exact ht a ha b hb q
  · intro v hv
    obtain ⟨r,hr',q⟩:=cov v hv
    exact ⟨_,List.mem_map.2 ⟨r,hr',rfl⟩,List.mem_map.2 ⟨_,q,Int.toNat_natCast v⟩⟩
  · intro l' hl' u hu v hv ne
    obtain ⟨r,hr',rfl⟩:=List.mem_map.1 hl'
    obtain ⟨a,ha,rfl⟩:=List.mem_map.1 hu
    obtain ⟨b,hb,rfl⟩:=List.mem_map.1 hv
    obtain ⟨i,hi,rfl⟩:=mem_getD ha 0
    obtain ⟨j,hj,rfl⟩:=mem_getD hb 0
    rcases Nat.lt_trichotomy i j with q | q | q
    · rcases hc r hr' i j q hj with k | k
      · exact .inr k
      · exact .inl k
    · subst q; exact absurd rfl ne
    · exact hc r hr' j i q hi
end Fl
end Go.Nm
namespace Go.Proofs.YtlemgioaakecpaaGreat
open Go Go.Nm
section
variable {S:List Sect} {M':List Mrk} {R':List Rch} {ms:List Int}
theorem every_all (l:List Int) (so:Int->M Bool) (f:Int->Bool) (h:∀ t∈l,(so t).Ends (f t)):(zag l so).Out (fun b=>b=true↔∀ t∈l,f t=true):=by
  unfold zag zbZ zca
  refine M.o_bind (P:=fun b=>b=false↔∀ t∈l,f t=true) (M.o_bind (P:=fun i=>i<0↔∀ t∈l,f t=true) (M.o_bind (P:=fun z=>match z with | .inl i=>0<=i/\∃ t∈l,f t=false | .inr _=>∀ t∈l,f t=true) ?_ ?_) ?_) ?_
  · refine M.o_for l.length (fun i (s:Nat)=>s=i/\∀ j,j<i->f (l.getD j 0)=true) ?_ ?_ ⟨rfl,fun j hj=>by omega⟩
    · rintro _ i hi ⟨rfl,hj⟩
      simp only [zay]
      have hm:l.getD i 0∈l:=by rw [getD_el l hi]; exact List.getElem_mem hi
      refine M.o_t (decide_eq_true (by omega)) (M.o_grd (decide_eq_true (by omega)) (M.o_bindE (a:=!f (l.getD i 0)) ?_ (M.o_if (fun hb=>?_) (fun hb=>?_))))
      · unfold zbd
        exact M.i_bind (h _ hm) M.i_pure
      · exact M.o_pure ⟨by omega,_,hm,by simpa using hb⟩
      · refine M.o_pure ⟨rfl,fun j hj'=>?_⟩
        by_cases e:j=i
        · subst e; simpa using hb
        · exact hj j (by omega)
    · rintro _ ⟨rfl,hj⟩
      simp only [zay]
      refine M.o_f (decide_eq_false (by omega)) (M.o_pure fun t ht=>?_)
      obtain ⟨i,hi,rfl⟩:=mem_getD ht 0
      exact hj i hi
  · intro z hz
    match z,hz with
    | .inl i,hz =>
      refine M.o_pure ⟨fun q=>by have:=hz.1; omega,fun q=>?_⟩
      obtain ⟨_,t,ht,e⟩:=hz
      rw [q t ht] at e; cases e
    | .inr _,hz=>exact M.o_pure ⟨fun _=>hz,fun _=>by decide⟩
  · intro i hi
    refine M.o_pure ?_
    rw [decide_eq_false_iff_not,← hi]
    omega
  · intro b hb
    refine M.o_pure ?_
    rw [Bool.not_eq_true']
    exact hb
theorem ahI_ends {a b:Int} (ha:0<=a/\a<M'.length) (hb:0<=b/\b<M'.length):(zah S M' R' a b).Ends (decide (Fl.ah M' (Int.toNat a) (Int.toNat b))):=by
  have:=ahN_ends (S:=S) (R':=R') (M':=M') (a:=Int.toNat a) (b:=Int.toNat b) (by omega) (by omega)
  rwa [show ((Int.toNat a:Nat):Int)=a by omega,show ((Int.toNat b:Nat):Int)=b by omega] at this
theorem read_out {row:List Int} {met:List Bool} (hn:M'.length<=16) (h0:row ≠ []) (hr:∀ k∈row,0<=k/\k<M'.length) (hm:met.length=16) :
    (zaZ S M' R' row met).Out (fun z=>z.2.length=16/\(∀ k:Nat,k<16->(z.2.getD k false=true↔met.getD k false=true∨(k:Int)∈row))/\(z.1=true↔Fl.Chn M' row)):=by
  have hl:0<row.length:=List.length_pos_iff.2 h0
  unfold zaZ
  have e0:((row.length:Int)==0)=false:=by rw [beq_eq_false_iff_ne]; omega
  rw [e0]
  refine M.o_bindE (a:=true) (M.i_opt (fun _=>every_int _ _ fun k hk=>?_) (fun q=>by cases q)) (M.o_f rfl (M.o_bind (P:=fun z=>z.2.length=16/\(∀ k:Nat,k<16->(z.2.getD k false=true↔met.getD k false=true∨(k:Int)∈row))/\(z.1=true↔Fl.Chn M' row)) ?_ (fun z hz=>M.o_pure hz)))
  · unfold zai
    have:=hr k hk
    exact M.i_bind (in_true (by omega) (by omega)) M.i_pure
  · refine M.o_for row.length (fun i (s:List Bool × Bool × Nat)=>s.2.2=i/\s.1.length=16/\(∀ k:Nat,k<16->(s.1.getD k false=true↔met.getD k false=true∨∃ j,j<i/\row.getD j 0=(k:Int)))/\(s.2.1=true↔∀ j k,j<k->k<i->Fl.ah M' (Int.toNat (row.getD k 0)) (Int.toNat (row.getD j 0))∨Fl.ah M' (Int.toNat (row.getD j 0)) (Int.toNat (row.getD k 0)))) ?_ ?_ (s:=(met,true,0)) ⟨rfl,hm,fun k hk=>⟨fun q=>.inl q,fun q=>by
        rcases q with q | ⟨j,hj,_⟩
        · exact q
        · omega⟩,⟨fun _ j k _ hk=>by omega,fun _=>rfl⟩⟩
    · rintro _ ⟨ar,out,i⟩ hi ⟨rfl,ha,hmt,hch⟩
      dsimp only at hi ha hmt hch ⊢
      have ri:=Fl.ix_in hr hi
      simp only [zbA]
      refine M.o_t (decide_eq_true (by omega)) (M.o_grd (decide_eq_true (by omega)) (M.o_grd (gA2 (by omega) (by omega)) (M.o_bind (P:=fun r=>(out&&r)=true↔∀ j k,j<k->k<i+1->Fl.ah M' (Int.toNat (row.getD k 0)) (Int.toNat (row.getD j 0))∨Fl.ah M' (Int.toNat (row.getD j 0)) (Int.toNat (row.getD k 0))) ?_ ?_)))
      · refine M.o_opt (fun ho=>?_) (fun ho=>?_)
        · refine M.o_mono (every_all (row.take i) _ (fun t=>decide (Fl.ah M' (Int.toNat (row.getD i 0)) (Int.toNat t))||decide (Fl.ah M' (Int.toNat t) (Int.toNat (row.getD i 0)))) (fun t ht=>?_)) (fun r hr'=>?_)
          · have rt:=hr t (List.mem_of_mem_take ht)
            unfold zbQ
            refine M.i_bind (ahI_ends ri rt) (M.i_bind (a:=bif (!decide (Fl.ah M' (Int.toNat (row.getD i 0)) (Int.toNat t))) then decide (Fl.ah M' (Int.toNat t) (Int.toNat (row.getD i 0))) else false) (M.i_opt (fun q=>by rw [q]; exact ahI_ends rt ri) (fun q=>by rw [q]; rfl)) ?_)
            have e:(decide (Fl.ah M' (Int.toNat (row.getD i 0)) (Int.toNat t))||bif (!decide (Fl.ah M' (Int.toNat (row.getD i 0)) (Int.toNat t))) then decide (Fl.ah M' (Int.toNat t) (Int.toNat (row.getD i 0))) else false)=(decide (Fl.ah M' (Int.toNat (row.getD i 0)) (Int.toNat t))||decide (Fl.ah M' (Int.toNat t) (Int.toNat (row.getD i 0)))):=by
              cases decide (Fl.ah M' (Int.toNat (row.getD i 0)) (Int.toNat t)) <;> rfl
            rw [e]
            exact M.i_pure
          · rw [ho,Bool.true_and,hr']
            have hch:=hch.1 ho
            constructor
            · intro q j k hjk hk
              by_cases e:k=i
              · subst e
                have hj:row.getD j 0∈row.take k:=by
                  rw [getD_el row (by omega)]
                  exact List.mem_take_iff_getElem.2 ⟨j,by omega,rfl⟩
                have:=q _ hj
                rw [Bool.or_eq_true,decide_eq_true_eq,decide_eq_true_eq] at this
                exact this
              · exact hch j k hjk (by omega)
            · intro q t ht
              obtain ⟨j,hj,rfl⟩:=List.mem_take_iff_getElem.1 ht
              have:=q j i (by omega) (by omega)
              rw [getD_el row (show j<row.length by omega)] at this
              rw [Bool.or_eq_true,decide_eq_true_eq,decide_eq_true_eq]
              exact this
        · rw [ho,Bool.false_and]
          refine ⟨fun q=>(by cases q),fun q=>?_⟩
          have:=hch.2 fun j k hjk hk=>q j k hjk (by omega)
          rw [ho] at this; cases this
      · intro r hr'
        refine M.o_pure ⟨rfl,by dsimp only; rw [List.length_set]; exact ha,fun k hk=>?_,hr'⟩
        dsimp only
        rw [gset ar (Int.toNat (row.getD i 0)) k true false (by omega)]
        by_cases e:k=Int.toNat (row.getD i 0)
        · rw [if_pos e]
          exact ⟨fun _=>.inr ⟨i,by omega,by omega⟩,fun _=>rfl⟩
        · rw [if_neg e,hmt k hk]
          constructor
          · rintro (q | ⟨j,hj,q⟩)
            · exact .inl q
            · exact .inr ⟨j,by omega,q⟩
          · rintro (q | ⟨j,hj,q⟩)
            · exact .inl q
            · by_cases e':j=i
              · subst e'; omega
              · exact .inr ⟨j,by omega,q⟩
    · rintro ⟨ar,out,_⟩ ⟨rfl,ha,hmt,hch⟩
      dsimp only at ha hmt hch ⊢
      simp only [zbA]
      refine M.o_f (decide_eq_false (by omega)) (M.o_pure ⟨ha,fun k hk=>?_,hch⟩)
      rw [hmt k hk]
      constructor
      · rintro (q | ⟨j,hj,q⟩)
        · exact .inl q
        · refine .inr ?_
          rw [← q,getD_el row hj]
          exact List.getElem_mem hj
      · rintro (q | q)
        · exact .inl q
        · obtain ⟨j,hj,e⟩:=mem_getD q 0
          exact .inr ⟨j,hj,e⟩
theorem every_bools (l:List Bool):(zb2 l (fun xqz=>zbi xqz)).Out (fun b=>b=true↔∀ t∈l,t=true):=by
  unfold zb2 zcJ zcM
  refine M.o_bind (P:=fun b=>b=false↔∀ t∈l,t=true) (M.o_bind (P:=fun i=>i<0↔∀ t∈l,t=true) (M.o_bind (P:=fun z=>match z with | .inl i=>0<=i/\∃ t∈l,t=false | .inr _=>∀ t∈l,t=true) ?_ ?_) ?_) ?_
  · refine M.o_for l.length (fun i (s:Nat)=>s=i/\∀ j,j<i->l.getD j false=true) ?_ ?_ ⟨rfl,fun j hj=>by omega⟩
    · rintro _ i hi ⟨rfl,hj⟩
      simp only [zba]
      have hm:l.getD i false∈l:=by rw [getD_el l hi]; exact List.getElem_mem hi
      refine M.o_t (decide_eq_true (by omega)) (M.o_grd (decide_eq_true (by omega)) (M.o_bindE (a:=!(l.getD i false)) ?_ (M.o_if (fun hb=>?_) (fun hb=>?_))))
      · unfold zcl zbi
        exact M.i_bind M.i_pure M.i_pure
      · exact M.o_pure ⟨by omega,_,hm,by simpa using hb⟩
      · refine M.o_pure ⟨rfl,fun j hj'=>?_⟩
        by_cases e:j=i
        · subst e; simpa using hb
        · exact hj j (by omega)
    · rintro _ ⟨rfl,hj⟩
      simp only [zba]
      refine M.o_f (decide_eq_false (by omega)) (M.o_pure fun t ht=>?_)
      obtain ⟨i,hi,rfl⟩:=mem_getD ht false
      exact hj i hi
  · intro z hz
    match z,hz with
    | .inl i,hz =>
      refine M.o_pure ⟨fun q=>by have:=hz.1; omega,fun q=>?_⟩
      obtain ⟨_,t,ht,e⟩:=hz
      rw [q t ht] at e; cases e
    | .inr _,hz=>exact M.o_pure ⟨fun _=>hz,fun _=>by decide⟩
  · intro i hi
    refine M.o_pure ?_
    rw [decide_eq_false_iff_not,← hi]
    omega
  · intro b hb
    refine M.o_pure ?_
    rw [Bool.not_eq_true']
    exact hb
theorem Proves_out (h:Fl.Site S M' R') {many:Int} {T:List (List Int)} (hT:Fl.Rws M'.length T) :
    (zaj S M' R' many T).Out (fun x=>x.2=0/\(x.1=true↔(T.length:Int)<=many/\(∀ r∈T,Fl.Chn M' r)/\∀ v,v<M'.length->∃ r∈T,(v:Int)∈r)):=by
  have hn:=h.m
  have hl:=hT.len
  unfold zaj
  refine M.o_bindE (opened_ends h) (M.o_f rfl (M.o_f (decide_eq_false (by omega)) (M.o_bind (P:=fun z=>z.2.length=16/\(∀ k:Nat,k<16->(z.2.getD k false=true↔∃ r∈T,(k:Int)∈r))/\(z.1=true↔(T.length:Int)<=many/\∀ r∈T,Fl.Chn M' r)) ?_ ?_)))
  · have rep:∀ k:Nat,k<16->(List.replicate 16 false).getD k false=false:=fun k hk=>by
      have:∀ n j:Nat,(List.replicate n false).getD j false=false:=fun n j=>by
        simp only [List.getD,List.getElem?_replicate]
        split <;> rfl
      exact this 16 k
    refine M.o_for T.length (fun i (s:Bool × List Bool × Nat)=>s.2.2=i/\s.2.1.length=16/\(∀ k:Nat,k<16->(s.2.1.getD k false=true↔∃ j,j<i/\(k:Int)∈T.getD j []))/\(s.1=true↔(T.length:Int)<=many/\∀ j,j<i->Fl.Chn M' (T.getD j []))) ?_ ?_ (s:=(decide ((T.length:Int)<=many),List.replicate 16 false,0)) ⟨rfl,by simp,fun k hk=>⟨fun q=>(by rw [rep k hk] at q; cases q),fun q=>(by obtain ⟨j,hj,_⟩:=q; omega)⟩,by
        show decide _=true↔_
        rw [decide_eq_true_eq]
        exact ⟨fun q=>⟨q,fun j hj=>by omega⟩,fun q=>q.1⟩⟩
    · rintro _ ⟨is,ar,i⟩ hi ⟨rfl,ha,hmt,hch⟩
      dsimp only at hi ha hmt hch ⊢
      have hm:T.getD i []∈T:=by rw [getD_el T hi]; exact List.getElem_mem hi
      have hrow:=hT.row _ hm
      simp only [zaW]
      refine M.o_t (decide_eq_true (by omega)) (M.o_grd (decide_eq_true (by omega)) (M.o_bind (read_out hn.2 hrow.1 hrow.2 ha) ?_))
      rintro ⟨r,met⟩ ⟨h1,h2,h3⟩
      dsimp only at h1 h2 h3 ⊢
      have hm':∀ k:Nat,k<16->(met.getD k false=true↔∃ j,j<i+1/\(k:Int)∈T.getD j []):=fun k hk=>by
        rw [h2 k hk,hmt k hk]
        constructor
        · rintro (⟨j,hj,q⟩ | q)
          · exact ⟨j,by omega,q⟩
          · exact ⟨i,by omega,q⟩
        · rintro ⟨j,hj,q⟩
          by_cases e:j=i
          · subst e; exact .inr q
          · exact .inl ⟨j,by omega,q⟩
      have hstep:(∀ j,j<i+1->Fl.Chn M' (T.getD j []))↔(∀ j,j<i->Fl.Chn M' (T.getD j []))/\Fl.Chn M' (T.getD i []):=by
        constructor
        · intro q; exact ⟨fun j hj=>q j (by omega),q i (by omega)⟩
        · rintro ⟨q1,q2⟩ j hj
          by_cases e:j=i
          · subst e; exact q2
          · exact q1 j (by omega)
      refine M.o_if (fun hb=>?_) (fun hb=>?_)
      · refine M.o_pure ⟨rfl,h1,hm',?_⟩
        rw [Bool.not_eq_true'] at hb
        refine ⟨fun q=>(by cases q),fun q=>?_⟩
        have:=h3.2 (hstep.1 q.2).2
        rw [hb] at this; cases this
      · refine M.o_pure ⟨rfl,h1,hm',?_⟩
        rw [Bool.not_eq_false'] at hb
        show is=true↔_
        rw [hch,hstep]
        exact ⟨fun q=>⟨q.1,q.2,h3.1 hb⟩,fun q=>⟨q.1,q.2.1⟩⟩
    · rintro ⟨is,ar,_⟩ ⟨rfl,ha,hmt,hch⟩
      dsimp only at ha hmt hch ⊢
      simp only [zaW]
      refine M.o_f (decide_eq_false (by omega)) (M.o_pure ⟨ha,fun k hk=>?_,?_⟩)
      · show ar.getD k false=true↔_
        rw [hmt k hk]
        constructor
        · rintro ⟨j,hj,q⟩
          exact ⟨_,by rw [getD_el T hj]; exact List.getElem_mem hj,q⟩
        · rintro ⟨r,hr,q⟩
          obtain ⟨j,hj,rfl⟩:=mem_getD hr []
          exact ⟨j,hj,q⟩
      · show is=true↔_
        rw [hch]
        constructor
        · rintro ⟨q1,q2⟩
          refine ⟨q1,fun r hr=>?_⟩
          obtain ⟨j,hj,rfl⟩:=mem_getD hr []
          exact q2 j hj
        · rintro ⟨q1,q2⟩
          exact ⟨q1,fun j hj=>q2 _ (by rw [getD_el T hj]; exact List.getElem_mem hj)⟩
  · rintro ⟨is,ar⟩ ⟨h1,h2,h3⟩
    dsimp only at h1 h2 h3 ⊢
    refine M.o_grd (gOr2 (by omega) (by omega)) (M.o_bind (P:=fun r=>(is&&r)=true↔(T.length:Int)<=many/\(∀ r∈T,Fl.Chn M' r)/\∀ v,v<M'.length->∃ r∈T,(v:Int)∈r) ?_ (fun r hr=>M.o_pure ⟨rfl,hr⟩))
    rw [Int.toNat_natCast]
    refine M.o_opt (fun hi=>?_) (fun hi=>?_)
    · refine M.o_mono (every_bools _) (fun r hr=>?_)
      rw [hi,Bool.true_and,hr]
      have h3:=h3.1 hi
      have hlen:M'.length<=ar.length:=by omega
      constructor
      · intro q
        refine ⟨h3.1,h3.2,fun v hv=>(h2 v (by omega)).1 ?_⟩
        refine q _ ?_
        rw [getD_el ar (by omega)]
        exact List.mem_take_iff_getElem.2 ⟨v,by omega,rfl⟩
      · rintro ⟨_,_,q⟩ t ht
        obtain ⟨v,hv,rfl⟩:=List.mem_take_iff_getElem.1 ht
        have:=(h2 v (by omega)).2 (q v (by omega))
        rwa [getD_el ar (by omega)] at this
    · rw [hi,Bool.false_and]
      refine ⟨fun q=>(by cases q),fun q=>?_⟩
      have:=h3.2 ⟨q.1,q.2.1⟩
      rw [hi] at this; cases this
end
end Go.Proofs.YtlemgioaakecpaaGreat
namespace Go.Nm
open Go
section
variable {P:Program} {w:World} {σ:Env} {d:Nat} {ty:TypeId} {pos:String} {af:Array Edge} {g:Option (Nat × Bool)}
theorem x_shl {t yt:TypeId} {x y:Operand} {a b:Int} {n:Nat} (hx:ev σ x = .int .i64 a) (hy:ev σ y = .int .i64 b) (h:b=(n:Int)/\n<=62/\-9223372036854775808<=a*2 ^ n/\a*2 ^ n<=9223372036854775807) :
    (execOp (ev σ) ⟨some d,.binOp .shl t x y yt,ty,pos,af,g⟩).run P w = .ok (.value (.int .i64 (a*2 ^ n))) w:=by
  obtain ⟨rfl,h1,h2,h3⟩:=h
  have hn:¬ ((n:Int)<0):=by omega
  have hm:min n IntKind.i64.bits=n:=Nat.min_eq_left (by show n<=64; omega)
  simp [execOp,hx,hy,eqGuard,binOp,Op.shift,hn,hm,wrap64 (a:=a*2 ^ n) ⟨h2,h3⟩]
theorem x_shr {t yt:TypeId} {x y:Operand} {a b:Int} {n:Nat} (hx:ev σ x = .int .i64 a) (hy:ev σ y = .int .i64 b) (h:b=(n:Int)/\n<=62) :
    (execOp (ev σ) ⟨some d,.binOp .shr t x y yt,ty,pos,af,g⟩).run P w = .ok (.value (.int .i64 (a / 2 ^ n))) w:=by
  obtain ⟨rfl,h1⟩:=h
  have hn:¬ ((n:Int)<0):=by omega
  have hm:min n IntKind.i64.bits=n:=Nat.min_eq_left (by show n<=64; omega)
  have hf:a.fdiv (2 ^ n)=a / 2 ^ n:=Int.fdiv_eq_ediv_of_nonneg _ (Int.le_of_lt (Int.pow_pos (by decide)))
  simp [execOp,hx,hy,eqGuard,binOp,Op.shift,hn,hm,hf]
end
end Go.Nm
section
set_option maxRecDepth 100000
set_option maxHeartbeats 16000000
namespace Go.Proofs.YtlemgioaakecpaaGreat
open Go Go.Nm
end Go.Proofs.YtlemgioaakecpaaGreat
end
section
set_option maxRecDepth 100000
set_option maxHeartbeats 16000000
namespace Go.Proofs.YtlemgioaakecpaaGreat
open Go Go.Nm
end Go.Proofs.YtlemgioaakecpaaGreat
end
section
set_option maxRecDepth 100000
set_option maxHeartbeats 16000000
namespace Go.Proofs.YtlemgioaakecpaaGreat
open Go Go.Nm
def zck (place:Int) (lo:Int) (hi:Int):M (Int × Int × Int) :=
  M.pure (place,lo,hi)
theorem zcx {R:List Chunk}  (place:Int) (lo:Int) (hi:Int)  {r:(Int × Int × Int)} (hM:(zck place lo hi).Ends r) (w:World) (H:St w w [] R):Ret Tryz.prog 61 #[I place,I lo,I hi] w fun v w'=>∃ (y0:Int) (y1:Int) (y2:Int),(y0,y1,y2)=r/\v = .agg #[I y0,I y1,I y2]/\St w w' [] R:=by
 refine ret_of_W Tryz.func61 rfl rfl rfl ?_
 refine W.seq ?_
 refine W.region rfl ?_
 refine t_alloc (cs:=[I 0,I 0,I 0]) H Al70 rfl ?_
 intro ac ae H
 refine s_nil ?_
 refine W.seq ?_
 refine W.region rfl ?_
 refine zM (I place) rfl ?_
 refine zM (I lo) rfl ?_
 refine zM (I hi) rfl ?_
 refine s_val (x_bld (ps:=[(0,I lo),(1,I hi)]) (zs:=[I 0,I 0]) (L':=[I lo,I hi]) rfl Tryz.underlying54 Al54 rfl (Bd54 Tryz.underlying54) (.cons (cs:=[I lo]) rfl rfl rfl rfl rfl<|.cons (cs:=[I hi]) rfl rfl rfl rfl rfl<|.nil)) ?_
 refine s_val (x_bld (ps:=[(0,I place),(1,.agg #[I lo,I hi])]) (zs:=[I 0,I 0,I 0]) (L':=[I place,I lo,I hi]) rfl Tryz.underlying70 Al70 rfl (Bd70 Tryz.underlying70) (.cons (cs:=[I place]) rfl rfl rfl rfl rfl<|.cons (cs:=[I lo,I hi]) rfl rfl rfl rfl rfl<|.nil)) ?_
 refine t_sw 0 0 [I place,I lo,I hi] (.agg #[I place,I lo,I hi]) H rfl rfl Sz70 rfl rfl rfl rfl ?_
 intro ag H
 refine s_nil ?_
 refine W.ret ?_
 have aa:=(H.bl 0)
 have ab:=M.e_pure hM
 exact ⟨_,(resE_of1 (v:=.agg #[I place,I lo,I hi]) rfl (.cell (v:=.agg #[I place,I lo,I hi]) rfl (run_loadVar_ag (ds:=[I place,I lo,I hi]) Ag70 Sz70 aa rfl rfl)<|.nil)),⟨place,lo,hi,ab,rfl,(H.pk [])⟩⟩

def za0 (marks:List Mrk):M ((List Sect) × (List Mrk) × (List Rch)) :=
  M.bind (zck 0 150 160) fun (r0,r1,r2) =>
  M.bind (zck 100 100 110) fun (aa,ab,ac) =>
  M.grd (decide ((([(⟨(r0:Int),(r1:Int),(r2:Int)⟩:Mrk),(⟨(aa:Int),(ab:Int),(ac:Int)⟩:Mrk)]).length+marks.length)*24<=140737488355328)) <|
  M.pure (([(⟨(0:Int),([(⟨(0:Int),(0:Int)⟩:FRow),(⟨(200:Int),(2000:Int)⟩:FRow)])⟩:Sect),(⟨(100:Int),([(⟨(0:Int),(0:Int)⟩:FRow),(⟨(200:Int),(2000:Int)⟩:FRow)])⟩:Sect)]),(([(⟨(r0:Int),(r1:Int),(r2:Int)⟩:Mrk),(⟨(aa:Int),(ab:Int),(ac:Int)⟩:Mrk)])++marks),([(⟨(0:Int),(1:Int),(50:Int),(100:Int),false⟩:Rch)]))
theorem zcg {R:List Chunk} {av:Cells} {aq:Value} (marks:List Mrk) (aA:Reads R av) (aB:Sl av aq marks) {r:((List Sect) × (List Mrk) × (List Rch))} (hM:(za0 marks).Ends r) (w:World) (H:St w w [] R):Ret Tryz.prog 60 #[aq] w fun v w'=>∃ (y0:List Sect) (y1:List Mrk) (y2:List Rch) (u0:Value) (rr1:List (Raw 1)) (aw:Base) (u3:Value) (u4:Value),(y0,y1,y2)=r/\v = .agg #[u0,u3,u4]/\St w w' [cOwn (α:=Raw 1) 68 u0 rr1,cRo aw,cOwn (α:=Mrk) 70 u3 y1,cOwn (α:=Rch) 58 u4 y2] R/\RepR (α:=Sect) aw.cells rr1 y0:=by
 refine ret_of_W Tryz.func60 rfl rfl rfl ?_
 refine W.seq ?_
 refine W.region rfl ?_
 refine t_alloc (cs:=[.slice none 0 0,.slice none 0 0,.slice none 0 0]) H Al27 rfl ?_
 intro aL aM H
 refine s_nil ?_
 refine W.seq ?_
 refine W.region rfl ?_
 refine s_val (x_bld (ps:=[]) (zs:=[I 0,I 0]) (L':=[I 0,I 0]) rfl Tryz.underlying109 Al109 rfl (Bd109 Tryz.underlying109) (.nil)) ?_
 refine s_val (x_bld (ps:=[(0,I 200),(1,I 2000)]) (zs:=[I 0,I 0]) (L':=[I 200,I 2000]) rfl Tryz.underlying109 Al109 rfl (Bd109 Tryz.underlying109) (.cons (cs:=[I 200]) rfl rfl rfl rfl rfl<|.cons (cs:=[I 2000]) rfl rfl rfl rfl rfl<|.nil)) ?_
 refine t_bs (α:=FRow) T66 [.agg #[I 0,I 0],.agg #[I 200,I 2000]] [(⟨(0:Int),(0:Int)⟩:FRow),(⟨(200:Int),(2000:Int)⟩:FRow)] H rfl (.cons rfl (Flat.rep_enc _ (⟨(0:Int),(0:Int)⟩:FRow))<|.cons rfl (Flat.rep_enc _ (⟨(200:Int),(2000:Int)⟩:FRow))<|.nil) rfl rfl rfl ?_
 intro aa aN H
 refine zA aa rfl ?_
 refine s_nil ?_
 refine W.seq ?_
 refine W.region rfl ?_
 refine zM aa rfl ?_
 refine s_val (x_bld (ps:=[(1,aa)]) (zs:=[I 0,.slice none 0 0]) (L':=[I 0,aa]) rfl Tryz.underlying68 Al68 rfl (Bd68 Tryz.underlying68) (.cons (cs:=[aa]) (Sl.cells (H.os 0)) rfl rfl rfl rfl<|.nil)) ?_
 refine zM aa rfl ?_
 refine s_val (x_bld (ps:=[(0,I 100),(1,aa)]) (zs:=[I 0,.slice none 0 0]) (L':=[I 100,aa]) rfl Tryz.underlying68 Al68 rfl (Bd68 Tryz.underlying68) (.cons (cs:=[I 100]) rfl rfl rfl rfl rfl<|.cons (cs:=[aa]) (Sl.cells (H.os 0)) rfl rfl rfl rfl<|.nil)) ?_
 obtain ⟨aO,H⟩:=H.emptyE
 obtain ⟨aP,H,aC⟩:=H.freezeE (k:=1) rfl
 replace H:=H.nf
 have ag:=aC
 obtain ⟨ax,H,aQ,aD⟩:=H.joinE (i:=0) (j:=1) rfl rfl
 replace ag:=ag.mono aD
 obtain ⟨am,ay⟩:∃ r:Raw 1,r.cs=[I 0,aa]:=⟨Raw.of [I 0,aa] rfl (by simp only [List.all_cons,List.all_nil,Bool.true_and,Bool.and_true,Sl.oc ag]; try rfl),rfl⟩
 obtain ⟨ao,az⟩:∃ r:Raw 1,r.cs=[I 100,aa]:=⟨Raw.of [I 100,aa] rfl (by simp only [List.all_cons,List.all_nil,Bool.true_and,Bool.and_true,Sl.oc ag]; try rfl),rfl⟩
 have au:RepR (α:=Sect) ax.cells [am,ao] [(⟨(0:Int),([(⟨(0:Int),(0:Int)⟩:FRow),(⟨(200:Int),(2000:Int)⟩:FRow)])⟩:Sect),(⟨(100:Int),([(⟨(0:Int),(0:Int)⟩:FRow),(⟨(200:Int),(2000:Int)⟩:FRow)])⟩:Sect)]:=.cons (by rw [ay]; exact ⟨_,rfl,ag⟩)<|.cons (by rw [az]; exact ⟨_,rfl,ag⟩)<|.nil
 refine t_bs (α:=Raw 1) T23 [.agg #[I 0,aa],.agg #[I 100,aa]] [am,ao] H rfl (.cons (by rw [show (Flat.enc am:List Value)=am.cs from rfl,ay]; rfl) (Flat.rep_enc _ _)<|.cons (by rw [show (Flat.enc ao:List Value)=ao.cs from rfl,az]; rfl) (Flat.rep_enc _ _)<|.nil) rfl rfl rfl ?_
 intro ab aR H
 replace H:=H.nf
 obtain ⟨aS,aE,hM⟩:=M.e_bind hM
 refine s_call cf61 [I 0,I 150,I 160] rfl (zcx 0 150 160 aE _ (H.gt 5)) ?_
 rintro vq aT ⟨r0,r1,r2,aF,hvq,ap⟩
 subst aF
 subst vq
 try dsimp only at hM
 replace H:=H.bk ap
 clear ap
 obtain ⟨aU,aG,hM⟩:=M.e_bind hM
 refine s_call cf61 [I 100,I 100,I 110] rfl (zcx 100 100 110 aG _ (H.gt 5)) ?_
 rintro vq aV ⟨ai,aj,ak,aH,hvq,ap⟩
 subst aH
 subst vq
 try dsimp only at hM
 replace H:=H.bk ap
 clear ap
 refine t_bs (α:=Mrk) T24 [.agg #[I r0,I r1,I r2],.agg #[I ai,I aj,I ak]] [(⟨(r0:Int),(r1:Int),(r2:Int)⟩:Mrk),(⟨(ai:Int),(aj:Int),(ak:Int)⟩:Mrk)] H rfl (.cons rfl (Flat.rep_enc _ (⟨(r0:Int),(r1:Int),(r2:Int)⟩:Mrk))<|.cons rfl (Flat.rep_enc _ (⟨(ai:Int),(aj:Int),(ak:Int)⟩:Mrk))<|.nil) rfl rfl rfl ?_
 intro aW aX H
 refine zM aq rfl ?_
 obtain ⟨aI,hM⟩:=M.e_grd hM
 simp only [Bool.and_eq_true,decide_eq_true_eq] at aI
 refine t_app (α:=Mrk) (k:=0) (l:=[(⟨(r0:Int),(r1:Int),(r2:Int)⟩:Mrk),(⟨(ai:Int),(aj:Int),(ak:Int)⟩:Mrk)]) (l2:=marks) (l':=([(⟨(r0:Int),(r1:Int),(r2:Int)⟩:Mrk),(⟨(ai:Int),(aj:Int),(ak:Int)⟩:Mrk)])++marks) (vy:=aq) T24 rfl H rfl rfl rfl aB (aA.at H) (rfl) (by first | omega | (simp only [List.length_nil] at *; omega)) ?_
 intro ac aY H
 replace H:=H.nf
 refine s_val (x_bld (ps:=[(0,I 50),(1,I 100)]) (zs:=[I 0,I 0]) (L':=[I 50,I 100]) rfl Tryz.underlying54 Al54 rfl (Bd54 Tryz.underlying54) (.cons (cs:=[I 50]) rfl rfl rfl rfl rfl<|.cons (cs:=[I 100]) rfl rfl rfl rfl rfl<|.nil)) ?_
 refine s_val (x_bld (ps:=[(1,I 1),(2,.agg #[I 50,I 100])]) (zs:=[I 0,I 0,I 0,I 0,B false]) (L':=[I 0,I 1,I 50,I 100,B false]) rfl Tryz.underlying58 Al58 rfl (Bd58 Tryz.underlying58) (.cons (cs:=[I 1]) rfl rfl rfl rfl rfl<|.cons (cs:=[I 50,I 100]) rfl rfl rfl rfl rfl<|.nil)) ?_
 refine t_bs (α:=Rch) T25 [.agg #[I 0,I 1,I 50,I 100,B false]] [(⟨(0:Int),(1:Int),(50:Int),(100:Int),false⟩:Rch)] H rfl (.cons rfl (Flat.rep_enc _ (⟨(0:Int),(1:Int),(50:Int),(100:Int),false⟩:Rch))<|.nil) rfl rfl rfl ?_
 intro ae aZ H
 refine s_val (x_bld (ps:=[(0,ab),(1,ac),(2,ae)]) (zs:=[.slice none 0 0,.slice none 0 0,.slice none 0 0]) (L':=[ab,ac,ae]) rfl Tryz.underlying27 Al27 rfl (Bd27 Tryz.underlying27) (.cons (cs:=[ab]) (Sl.cells (rowSl rfl (H.get (k:=2) rfl) (roLe _ (H.get (k:=3) rfl)) au)) rfl rfl rfl rfl<|.cons (cs:=[ac]) (Sl.cells (H.os 1)) rfl rfl rfl rfl<|.cons (cs:=[ae]) (Sl.cells (H.os 0)) rfl rfl rfl rfl<|.nil)) ?_
 refine t_sw 6 0 [ab,ac,ae] (.agg #[ab,ac,ae]) H rfl rfl Sz27 rfl rfl rfl (by simp only [List.all_cons,List.all_nil,Bool.true_and,Bool.and_true,Sl.oc (rowSl rfl (H.get (k:=2) rfl) (roLe _ (H.get (k:=3) rfl)) au),Sl.oc (H.os 1),Sl.oc (H.os 0)]; try rfl) ?_
 intro a6 H
 refine s_nil ?_
 replace H:=H.pk [0,1,2,3,6]
 refine W.ret ?_
 have aJ:=(H.bl 4)
 have aK:=M.e_pure hM
 exact ⟨_,(resE_of1 (v:=.agg #[ab,ac,ae]) rfl (.cell (v:=.agg #[ab,ac,ae]) rfl (run_loadVar_ag (ds:=[ab,ac,ae]) Ag27 Sz27 aJ rfl rfl)<|.nil)),⟨([(⟨(0:Int),([(⟨(0:Int),(0:Int)⟩:FRow),(⟨(200:Int),(2000:Int)⟩:FRow)])⟩:Sect),(⟨(100:Int),([(⟨(0:Int),(0:Int)⟩:FRow),(⟨(200:Int),(2000:Int)⟩:FRow)])⟩:Sect)]),(([(⟨(r0:Int),(r1:Int),(r2:Int)⟩:Mrk),(⟨(ai:Int),(aj:Int),(ak:Int)⟩:Mrk)])++marks),([(⟨(0:Int),(1:Int),(50:Int),(100:Int),false⟩:Rch)]),ab,[am,ao],ax,ac,ae,aK,rfl,(H.pk [2,3,1,0]),au⟩⟩

def zbE:M Bool :=
  M.bind (za0 ([]:List Mrk)) fun (r0,r1,r2) =>
  M.bind (zcy r0 r1 r2 ([(0:Int),(1:Int)]) 0) fun (ai,aj,ak) =>
  M.bind (za0 ([]:List Mrk)) fun (aB,aC,aD) =>
  M.bind (zcZ aB aC aD 0 (⟨(160:Int),(110:Int),(50:Int),(50:Int)⟩:Cas)) fun (am,ao) =>
  M.bind (za0 ([]:List Mrk)) fun (aE,aF,ag) =>
  M.grd (decide (0<(ag.length:Int))) <|
  M.bind (zcy aE aF (ag.set 0 ({ (ag.getD 0 default) with narrow:=true })) ([(0:Int),(1:Int)]) 0) fun (aJ,ap,aq) =>
  M.bind (zck 50 170 180) fun (aG,aH,aI) =>
  M.bind (za0 ([(⟨(aG:Int),(aH:Int),(aI:Int)⟩:Mrk)])) fun (aa,ab,ac) =>
  M.bind (za1 aa ab ac 0 2) fun (au,av) =>
  M.bind (zaq aa ab ac) fun (aw,ax) =>
  M.bind (zaj aa ab ac 2 ([[(0:Int),(2:Int)],[(1:Int)]])) fun (ay,az) =>
  M.bind (zcV aa ab ac ([(1:Int),(2:Int)])) fun (ae,aA) =>
  M.grd ((!((((((((((((((ak==0)&&(ao==0))&&(aq==0))&&(av==0))&&(ax==0))&&(az==0))&&(aA==0))&&(decide ((⟨(ai:Int),(aj:Int)⟩:Span)=(⟨(812:Int),(1959:Int)⟩:Span))))&&(am==1876))&&(ap==1557))&&au)&&((aw.length:Int)==2))&&ay)&&((ae.length:Int)==2))||(decide (0<(ae.length:Int))))) <|
  M.pure (((((((((((((((ak==0)&&(ao==0))&&(aq==0))&&(av==0))&&(ax==0))&&(az==0))&&(aA==0))&&(decide ((⟨(ai:Int),(aj:Int)⟩:Span)=(⟨(812:Int),(1959:Int)⟩:Span))))&&(am==1876))&&(ap==1557))&&au)&&((aw.length:Int)==2))&&ay)&&((ae.length:Int)==2))&&(decide ((ae.getD 0 default)=(⟨(170:Int),(2000:Int)⟩:Span))))
theorem zcC {R:List Chunk}    {r:Bool} (hM:(zbE).Ends r) (w:World) (H:St w w [] R):Ret Tryz.prog 16 #[] w fun v w'=>∃ (y0:Bool),y0=r/\v=B y0/\St w w' [] R:=by
 refine ret_of_W Tryz.func16 rfl rfl rfl ?_
 refine W.seq ?_
 refine W.region rfl ?_
 refine zA (B false) rfl ?_
 refine s_nil ?_
 refine W.seq ?_
 refine W.region rfl ?_
 refine t_bs (α:=Int) T28 [I 0,I 1] [(0:Int),(1:Int)] H rfl (.cons rfl (Flat.rep_enc _ (0:Int))<|.cons rfl (Flat.rep_enc _ (1:Int))<|.nil) rfl rfl rfl ?_
 intro aL ce H
 refine zA aL rfl ?_
 refine s_nil ?_
 refine W.seq ?_
 refine W.region rfl ?_
 obtain ⟨cf,bh,hM⟩:=M.e_bind hM
 refine s_call cf60 [.slice none 0 0] rfl (zcg ([]:List Mrk) Reads.none (Sl.nil (fun _=>none)) bh _ (H.gt 1)) ?_
 rintro vq cg ⟨r0,r1,r2,bi,cj,ck,bj,bm,bn,hvq,au,bo⟩
 subst bn
 subst vq
 try dsimp only at hM
 replace H:=H.bk au
 clear au
 refine zM aL rfl ?_
 obtain ⟨co,bp,hM⟩:=M.e_bind hM
 refine s_call cf20 [.agg #[bi,bj,bm],aL,I 0] rfl (zc6 r0 r1 r2 ([(0:Int),(1:Int)]) 0 (Reads.sup (rdo 0) (Reads.of (k:=1) rfl roLe)) (rowSl rfl (H.get (k:=0) rfl) (roLe _ (H.get (k:=1) rfl)) bo) (rdo 2) (H.os 2) (rdo 3) (H.os 3) (rdo 4) (H.os 4) bp _ (H.gt 5)) ?_
 rintro vq cp ⟨ak,am,aa,bq,hvq,au⟩
 subst bq
 subst vq
 try dsimp only at hM
 replace H:=H.bk au
 clear au
 refine zM (.tuple #[.agg #[I ak,I am],I aa]) rfl ?_
 refine zX [.agg #[I ak,I am],I aa] (.agg #[I ak,I am]) rfl rfl ?_
 refine zX [.agg #[I ak,I am],I aa] (I aa) rfl rfl ?_
 refine t_alloc (cs:=[I 0,I 0]) H Al54 rfl ?_
 intro a8 cq H
 refine t_sw 0 0 [I ak,I am] (.agg #[I ak,I am]) H rfl rfl Sz54 rfl rfl rfl rfl ?_
 intro cr H
 refine zA (I aa) rfl ?_
 refine s_nil ?_
 replace H:=H.pk [0,5]
 refine W.seq ?_
 refine W.region rfl ?_
 obtain ⟨ct,br,hM⟩:=M.e_bind hM
 refine s_call cf60 [.slice none 0 0] rfl (zcg ([]:List Mrk) Reads.none (Sl.nil (fun _=>none)) br _ (H.gt 2)) ?_
 rintro vq cu ⟨bt,bu,bv,bw,cw,cx,bx,bz,bA,hvq,au,bB⟩
 subst bA
 subst vq
 try dsimp only at hM
 replace H:=H.bk au
 clear au
 refine s_val (x_bld (ps:=[(0,I 160),(1,I 110),(2,I 50),(3,I 50)]) (zs:=[I 0,I 0,I 0,I 0]) (L':=[I 160,I 110,I 50,I 50]) rfl Tryz.underlying61 Al61 rfl (Bd61 Tryz.underlying61) (.cons (cs:=[I 160]) rfl rfl rfl rfl rfl<|.cons (cs:=[I 110]) rfl rfl rfl rfl rfl<|.cons (cs:=[I 50]) rfl rfl rfl rfl rfl<|.cons (cs:=[I 50]) rfl rfl rfl rfl rfl<|.nil)) ?_
 obtain ⟨cy,bC,hM⟩:=M.e_bind hM
 refine s_call cf22 [.agg #[bw,bx,bz],I 0,.agg #[I 160,I 110,I 50,I 50]] rfl (zdC bt bu bv 0 (⟨(160:Int),(110:Int),(50:Int),(50:Int)⟩:Cas) (Reads.sup (rdo 0) (Reads.of (k:=1) rfl roLe)) (rowSl rfl (H.get (k:=0) rfl) (roLe _ (H.get (k:=1) rfl)) bB) (rdo 2) (H.os 2) (rdo 3) (H.os 3) bC _ (H.gt 6)) ?_
 rintro vq cz ⟨ao,ab,bD,hvq,au⟩
 subst bD
 subst vq
 try dsimp only at hM
 replace H:=H.bk au
 clear au
 refine zM (.tuple #[I ao,I ab]) rfl ?_
 refine zX [I ao,I ab] (I ao) rfl rfl ?_
 refine zX [I ao,I ab] (I ab) rfl rfl ?_
 refine zA (I ao) rfl ?_
 refine zA (I ab) rfl ?_
 refine s_nil ?_
 replace H:=H.pk [4,5]
 refine W.seq ?_
 refine W.region rfl ?_
 obtain ⟨cA,bE,hM⟩:=M.e_bind hM
 refine s_call cf60 [.slice none 0 0] rfl (zcg ([]:List Mrk) Reads.none (Sl.nil (fun _=>none)) bE _ (H.gt 2)) ?_
 rintro vq cB ⟨bF,ba,aD,aF,bG,bH,aG,aE,bI,hvq,au,bb⟩
 subst bI
 subst vq
 try dsimp only at hM
 replace H:=H.bk au
 clear au
 refine t_alloc (cs:=[.slice none 0 0,.slice none 0 0,.slice none 0 0]) H Al27 rfl ?_
 intro aN cC H
 refine t_sw 0 0 [aF,aG,aE] (.agg #[aF,aG,aE]) H rfl rfl Sz27 rfl rfl rfl (by simp only [List.all_cons,List.all_nil,Bool.true_and,Bool.and_true,Sl.oc (rowSl rfl (H.get (k:=1) rfl) (roLe _ (H.get (k:=2) rfl)) bb),Sl.oc (H.os 3),Sl.oc (H.os 4)]; try rfl) ?_
 intro cD H
 refine s_nil ?_
 refine W.seq ?_
 refine W.region rfl ?_
 refine s_val (x_fa (a:=Pq aN) (v:=Oq aN 2) rfl (fa_blk (o:=0) Fd27_2 Sz25)) ?_
 refine s_val (x_ld (p:=Oq aN 2) (v:=aE) rfl (ldb_sc Sc25 (H.bl 0) rfl)) ?_
 obtain ⟨bJ,hM⟩:=M.e_grd hM
 simp only [Bool.and_eq_true,decide_eq_true_eq] at bJ
 refine s_val (x_ix (a:=aE) (b:=I 0) (v:=vat aE 5 (Int.toNat 0)) rfl rfl (Sl.ix (α:=Rch) T25.und T25.size (H.os 4) (by omega) (by omega))) ?_
 refine s_val (x_fa (a:=vat aE 5 (Int.toNat 0)) (v:=fat (vat aE 5 (Int.toNat 0)) 4) rfl (fa_pl Fd58_3 Sz4 (Sl.pl (i:=0) (H.os 4) (by omega) (by omega)))) ?_
 refine t_fst (α:=Rch) (k:=4) (i:=0) (off:=4) (l:=aD) (l':=aD.set 0 ({ (aD.getD 0 default) with narrow:=true })) (val:=B true) (L':=[cBlk aN [aF,aG,aE] 27,cOwn (α:=Raw 1) 68 aF bG,cRo bH,cOwn (α:=Mrk) 70 aG ba,cOwn (α:=Rch) 58 aE (aD.set 0 ({ (aD.getD 0 default) with narrow:=true })),cBlk a8 [I ak,I am] 54,cOwn (α:=Int) 3 aL ([(0:Int),(1:Int)])]) H rfl Sz4 (by omega) (by omega) (aD.getD 0 default) ({ (aD.getD 0 default) with narrow:=true }) (getD_some _ (by omega) _) rfl rfl [B true] rfl rfl rfl rfl rfl rfl rfl ?_
 intro cE H
 have cF:(aD.set 0 ({ (aD.getD 0 default) with narrow:=true })).length=(aD).length:=List.length_set
 refine s_nil ?_
 refine W.seq ?_
 refine W.region rfl ?_
 refine s_val (x_ld (p:=Pq aN) (v:=.agg #[aF,aG,aE]) rfl (ldb_ag (ds:=[aF,aG,aE]) Ag27 Sz27 (H.bl 0) rfl rfl)) ?_
 refine zM aL rfl ?_
 obtain ⟨cG,bK,hM⟩:=M.e_bind hM
 refine s_call cf20 [.agg #[aF,aG,aE],aL,I 0] rfl (zc6 bF ba (aD.set 0 ({ (aD.getD 0 default) with narrow:=true })) ([(0:Int),(1:Int)]) 0 (Reads.sup (rdo 1) (Reads.of (k:=2) rfl roLe)) (rowSl rfl (H.get (k:=1) rfl) (roLe _ (H.get (k:=2) rfl)) bb) (rdo 3) (H.os 3) (rdo 4) (H.os 4) (rdo 6) (H.os 6) bK _ (H.gt 7)) ?_
 rintro vq cH ⟨aM,ap,ac,bL,hvq,au⟩
 subst bL
 subst vq
 try dsimp only at hM
 replace H:=H.bk au
 clear au
 refine zM (.tuple #[.agg #[I aM,I ap],I ac]) rfl ?_
 refine zX [.agg #[I aM,I ap],I ac] (.agg #[I aM,I ap]) rfl rfl ?_
 refine zX [.agg #[I aM,I ap],I ac] (I ac) rfl rfl ?_
 refine t_alloc (cs:=[I 0,I 0]) H Al54 rfl ?_
 intro aQ cI H
 refine t_sw 0 0 [I aM,I ap] (.agg #[I aM,I ap]) H rfl rfl Sz54 rfl rfl rfl rfl ?_
 intro cJ H
 refine zA (I ac) rfl ?_
 refine s_nil ?_
 replace H:=H.pk [0,6]
 refine W.seq ?_
 refine W.region rfl ?_
 obtain ⟨cK,bM,hM⟩:=M.e_bind hM
 refine s_call cf61 [I 50,I 170,I 180] rfl (zcx 50 170 180 bM _ (H.gt 2)) ?_
 rintro vq cL ⟨aR,aS,aT,bN,hvq,au⟩
 subst bN
 subst vq
 try dsimp only at hM
 replace H:=H.bk au
 clear au
 refine t_bs (α:=Mrk) T24 [.agg #[I aR,I aS,I aT]] [(⟨(aR:Int),(aS:Int),(aT:Int)⟩:Mrk)] H rfl (.cons rfl (Flat.rep_enc _ (⟨(aR:Int),(aS:Int),(aT:Int)⟩:Mrk))<|.nil) rfl rfl rfl ?_
 intro bO cM H
 obtain ⟨cN,bP,hM⟩:=M.e_bind hM
 refine s_call cf60 [bO] rfl (zcg ([(⟨(aR:Int),(aS:Int),(aT:Int)⟩:Mrk)]) (rdo 0) (H.os 0) bP _ (H.gt 3)) ?_
 rintro vq cO ⟨aU,aV,aW,az,cP,cQ,aA,aB,bQ,hvq,au,aO⟩
 subst bQ
 subst vq
 try dsimp only at hM
 replace H:=H.bk au
 clear au
 refine t_alloc (cs:=[.slice none 0 0,.slice none 0 0,.slice none 0 0]) H Al27 rfl ?_
 intro aX cR H
 refine t_sw 0 0 [az,aA,aB] (.agg #[az,aA,aB]) H rfl rfl Sz27 rfl rfl rfl (by simp only [List.all_cons,List.all_nil,Bool.true_and,Bool.and_true,Sl.oc (rowSl rfl (H.get (k:=1) rfl) (roLe _ (H.get (k:=2) rfl)) aO),Sl.oc (H.os 3),Sl.oc (H.os 4)]; try rfl) ?_
 intro cS H
 refine s_nil ?_
 refine W.seq ?_
 refine W.region rfl ?_
 refine s_val (x_ld (p:=Pq aX) (v:=.agg #[az,aA,aB]) rfl (ldb_ag (ds:=[az,aA,aB]) Ag27 Sz27 (H.bl 0) rfl rfl)) ?_
 obtain ⟨cT,bR,hM⟩:=M.e_bind hM
 refine s_call cf30 [.agg #[az,aA,aB],I 0,I 2] rfl (zdn aU aV aW 0 2 (Reads.sup (rdo 1) (Reads.of (k:=2) rfl roLe)) (rowSl rfl (H.get (k:=1) rfl) (roLe _ (H.get (k:=2) rfl)) aO) (rdo 3) (H.os 3) (rdo 4) (H.os 4) bR _ (H.gt 8)) ?_
 rintro vq cU ⟨aq,ae,bS,hvq,au⟩
 subst bS
 subst vq
 try dsimp only at hM
 replace H:=H.bk au
 clear au
 refine zM (.tuple #[B aq,I ae]) rfl ?_
 refine zX [B aq,I ae] (B aq) rfl rfl ?_
 refine zX [B aq,I ae] (I ae) rfl rfl ?_
 refine zA (B aq) rfl ?_
 refine zA (I ae) rfl ?_
 refine s_nil ?_
 refine W.seq ?_
 refine W.region rfl ?_
 refine s_val (x_ld (p:=Pq aX) (v:=.agg #[az,aA,aB]) rfl (ldb_ag (ds:=[az,aA,aB]) Ag27 Sz27 (H.bl 0) rfl rfl)) ?_
 obtain ⟨cV,bT,hM⟩:=M.e_bind hM
 refine s_call cf10 [.agg #[az,aA,aB]] rfl (zc7 aU aV aW (Reads.sup (rdo 1) (Reads.of (k:=2) rfl roLe)) (rowSl rfl (H.get (k:=1) rfl) (roLe _ (H.get (k:=2) rfl)) aO) (rdo 3) (H.os 3) (rdo 4) (H.os 4) bT _ (H.gt 8)) ?_
 rintro vq cW ⟨av,ag,aH,bU,hvq,au⟩
 subst bU
 subst vq
 try dsimp only at hM
 replace H:=H.bk au
 clear au
 refine zM (.tuple #[aH,I ag]) rfl ?_
 refine zX [aH,I ag] aH rfl rfl ?_
 refine zX [aH,I ag] (I ag) rfl rfl ?_
 refine zA aH rfl ?_
 refine zA (I ag) rfl ?_
 refine s_nil ?_
 refine W.seq ?_
 refine W.region rfl ?_
 refine s_val (x_ld (p:=Pq aX) (v:=.agg #[az,aA,aB]) rfl (ldb_ag (ds:=[az,aA,aB]) Ag27 Sz27 (H.bl 1) rfl rfl)) ?_
 refine t_bs (α:=Int) T28 [I 0,I 2] [(0:Int),(2:Int)] H rfl (.cons rfl (Flat.rep_enc _ (0:Int))<|.cons rfl (Flat.rep_enc _ (2:Int))<|.nil) rfl rfl rfl ?_
 intro a6 cX H
 refine t_bs (α:=Int) T28 [I 1] [(1:Int)] H rfl (.cons rfl (Flat.rep_enc _ (1:Int))<|.nil) rfl rfl rfl ?_
 intro a7 cY H
 obtain ⟨cZ,H⟩:=H.emptyE
 obtain ⟨c5,H,bV⟩:=H.freezeE (k:=2) rfl
 replace H:=H.nf
 have aI:=bV
 obtain ⟨c6,H,c7,bW⟩:=H.joinE (i:=0) (j:=2) rfl rfl
 replace aI:=aI.mono bW
 obtain ⟨c8,H,bX⟩:=H.freezeE (k:=2) rfl
 replace H:=H.nf
 have aP:=bX
 obtain ⟨bY,H,bZ,b4⟩:=H.joinE (i:=0) (j:=2) rfl rfl
 replace aI:=aI.mono bZ
 replace aP:=aP.mono b4
 obtain ⟨aY,bc⟩:∃ r:Raw 0,r.cs=[a6]:=⟨Raw.of [a6] rfl (by simp only [List.all_cons,List.all_nil,Bool.true_and,Bool.and_true,Sl.oc aI]; try rfl),rfl⟩
 obtain ⟨aZ,bf⟩:∃ r:Raw 0,r.cs=[a7]:=⟨Raw.of [a7] rfl (by simp only [List.all_cons,List.all_nil,Bool.true_and,Bool.and_true,Sl.oc aP]; try rfl),rfl⟩
 have b5:RepR (α:=List Int) bY.cells [aY,aZ] [[(0:Int),(2:Int)],[(1:Int)]]:=.cons (by rw [bc]; exact ⟨_,rfl,aI⟩)<|.cons (by rw [bf]; exact ⟨_,rfl,aP⟩)<|.nil
 refine t_bs (α:=Raw 0) T38 [a6,a7] [aY,aZ] H rfl (.cons (by rw [show (Flat.enc aY:List Value)=aY.cs from rfl,bc]; exact Sl.cells aI) (Flat.rep_enc _ _)<|.cons (by rw [show (Flat.enc aZ:List Value)=aZ.cs from rfl,bf]; exact Sl.cells aP) (Flat.rep_enc _ _)<|.nil) rfl rfl rfl ?_
 intro b6 c9 H
 replace H:=H.nf
 obtain ⟨da,b7,hM⟩:=M.e_bind hM
 refine s_call cf12 [.agg #[az,aA,aB],I 2,b6] rfl (zcU aU aV aW 2 ([[(0:Int),(2:Int)],[(1:Int)]]) (Reads.sup (rdo 8) (Reads.of (k:=9) rfl roLe)) (rowSl rfl (H.get (k:=8) rfl) (roLe _ (H.get (k:=9) rfl)) aO) (rdo 10) (H.os 10) (rdo 11) (H.os 11) (Reads.sup (rdo 0) (Reads.of (k:=1) rfl roLe)) (rowSl rfl (H.get (k:=0) rfl) (roLe _ (H.get (k:=1) rfl)) b5) b7 _ (H.gt 15)) ?_
 rintro vq db ⟨aw,ai,b8,hvq,au⟩
 subst b8
 subst vq
 try dsimp only at hM
 replace H:=H.bk au
 clear au
 refine zM (.tuple #[B aw,I ai]) rfl ?_
 refine zX [B aw,I ai] (B aw) rfl rfl ?_
 refine zX [B aw,I ai] (I ai) rfl rfl ?_
 refine zA (B aw) rfl ?_
 refine zA (I ai) rfl ?_
 refine s_nil ?_
 replace H:=H.pk [6,7,8,9,10,11,13,14]
 refine W.seq ?_
 refine W.region rfl ?_
 refine s_val (x_ld (p:=Pq aX) (v:=.agg #[az,aA,aB]) rfl (ldb_ag (ds:=[az,aA,aB]) Ag27 Sz27 (H.bl 1) rfl rfl)) ?_
 refine t_bs (α:=Int) T28 [I 1,I 2] [(1:Int),(2:Int)] H rfl (.cons rfl (Flat.rep_enc _ (1:Int))<|.cons rfl (Flat.rep_enc _ (2:Int))<|.nil) rfl rfl rfl ?_
 intro b9 dc H
 obtain ⟨dd,cb,hM⟩:=M.e_bind hM
 refine s_call cf13 [.agg #[az,aA,aB],b9] rfl (zdE aU aV aW ([(1:Int),(2:Int)]) (Reads.sup (rdo 3) (Reads.of (k:=4) rfl roLe)) (rowSl rfl (H.get (k:=3) rfl) (roLe _ (H.get (k:=4) rfl)) aO) (rdo 5) (H.os 5) (rdo 6) (H.os 6) (rdo 0) (H.os 0) cb _ (H.gt 9)) ?_
 rintro vq de ⟨ax,aj,aC,cc,hvq,au⟩
 subst cc
 subst vq
 try dsimp only at hM
 replace H:=H.bk au
 clear au
 refine zM (.tuple #[aC,I aj]) rfl ?_
 refine zX [aC,I aj] aC rfl rfl ?_
 refine zX [aC,I aj] (I aj) rfl rfl ?_
 refine zA aC rfl ?_
 refine zA (I aj) rfl ?_
 refine s_nil ?_
 replace H:=H.pk [0,2,8,9]
 refine W.seq ?_
 refine W.region rfl ?_
 refine zM (I aa) rfl ?_
 refine zC aa 0 (aa==0) rfl rfl rfl ?_
 refine zM (B (aa==0)) rfl ?_
 refine g_val (aa==0) (gy_t rfl) (fun hg=>x_mv (v:=I ab) rfl) ?_
 refine g_val (aa==0) (gy_t rfl) (fun hg=>x_cmp (kd:=.i64) (a:=ab) (b:=0) (r:=ab==0) (gd_of (c:=aa==0) hg (I ab)) rfl rfl) ?_
 refine s_val (x_pand (b:=aa==0) (r:=ab==0) rfl (fun hb=>gd_of (c:=aa==0) (by first | exact hb | (rw [hb]; rfl) | simp_all) (B (ab==0))) rfl) ?_
 refine zM (B ((aa==0)&&(ab==0))) rfl ?_
 refine g_val ((aa==0)&&(ab==0)) (gy_t rfl) (fun hg=>x_mv (v:=I ac) rfl) ?_
 refine g_val ((aa==0)&&(ab==0)) (gy_t rfl) (fun hg=>x_cmp (kd:=.i64) (a:=ac) (b:=0) (r:=ac==0) (gd_of (c:=((aa==0)&&(ab==0))) hg (I ac)) rfl rfl) ?_
 refine s_val (x_pand (b:=((aa==0)&&(ab==0))) (r:=ac==0) rfl (fun hb=>gd_of (c:=((aa==0)&&(ab==0))) (by first | exact hb | (rw [hb]; rfl) | simp_all) (B (ac==0))) rfl) ?_
 refine zM (B (((aa==0)&&(ab==0))&&(ac==0))) rfl ?_
 refine g_val (((aa==0)&&(ab==0))&&(ac==0)) (gy_t rfl) (fun hg=>x_mv (v:=I ae) rfl) ?_
 refine g_val (((aa==0)&&(ab==0))&&(ac==0)) (gy_t rfl) (fun hg=>x_cmp (kd:=.i64) (a:=ae) (b:=0) (r:=ae==0) (gd_of (c:=(((aa==0)&&(ab==0))&&(ac==0))) hg (I ae)) rfl rfl) ?_
 refine s_val (x_pand (b:=(((aa==0)&&(ab==0))&&(ac==0))) (r:=ae==0) rfl (fun hb=>gd_of (c:=(((aa==0)&&(ab==0))&&(ac==0))) (by first | exact hb | (rw [hb]; rfl) | simp_all) (B (ae==0))) rfl) ?_
 refine zM (B ((((aa==0)&&(ab==0))&&(ac==0))&&(ae==0))) rfl ?_
 refine g_val ((((aa==0)&&(ab==0))&&(ac==0))&&(ae==0)) (gy_t rfl) (fun hg=>x_mv (v:=I ag) rfl) ?_
 refine g_val ((((aa==0)&&(ab==0))&&(ac==0))&&(ae==0)) (gy_t rfl) (fun hg=>x_cmp (kd:=.i64) (a:=ag) (b:=0) (r:=ag==0) (gd_of (c:=((((aa==0)&&(ab==0))&&(ac==0))&&(ae==0))) hg (I ag)) rfl rfl) ?_
 refine s_val (x_pand (b:=((((aa==0)&&(ab==0))&&(ac==0))&&(ae==0))) (r:=ag==0) rfl (fun hb=>gd_of (c:=((((aa==0)&&(ab==0))&&(ac==0))&&(ae==0))) (by first | exact hb | (rw [hb]; rfl) | simp_all) (B (ag==0))) rfl) ?_
 refine zM (B (((((aa==0)&&(ab==0))&&(ac==0))&&(ae==0))&&(ag==0))) rfl ?_
 refine g_val (((((aa==0)&&(ab==0))&&(ac==0))&&(ae==0))&&(ag==0)) (gy_t rfl) (fun hg=>x_mv (v:=I ai) rfl) ?_
 refine g_val (((((aa==0)&&(ab==0))&&(ac==0))&&(ae==0))&&(ag==0)) (gy_t rfl) (fun hg=>x_cmp (kd:=.i64) (a:=ai) (b:=0) (r:=ai==0) (gd_of (c:=(((((aa==0)&&(ab==0))&&(ac==0))&&(ae==0))&&(ag==0))) hg (I ai)) rfl rfl) ?_
 refine s_val (x_pand (b:=(((((aa==0)&&(ab==0))&&(ac==0))&&(ae==0))&&(ag==0))) (r:=ai==0) rfl (fun hb=>gd_of (c:=(((((aa==0)&&(ab==0))&&(ac==0))&&(ae==0))&&(ag==0))) (by first | exact hb | (rw [hb]; rfl) | simp_all) (B (ai==0))) rfl) ?_
 refine zM (B ((((((aa==0)&&(ab==0))&&(ac==0))&&(ae==0))&&(ag==0))&&(ai==0))) rfl ?_
 refine g_val ((((((aa==0)&&(ab==0))&&(ac==0))&&(ae==0))&&(ag==0))&&(ai==0)) (gy_t rfl) (fun hg=>x_mv (v:=I aj) rfl) ?_
 refine g_val ((((((aa==0)&&(ab==0))&&(ac==0))&&(ae==0))&&(ag==0))&&(ai==0)) (gy_t rfl) (fun hg=>x_cmp (kd:=.i64) (a:=aj) (b:=0) (r:=aj==0) (gd_of (c:=((((((aa==0)&&(ab==0))&&(ac==0))&&(ae==0))&&(ag==0))&&(ai==0))) hg (I aj)) rfl rfl) ?_
 refine s_val (x_pand (b:=((((((aa==0)&&(ab==0))&&(ac==0))&&(ae==0))&&(ag==0))&&(ai==0))) (r:=aj==0) rfl (fun hb=>gd_of (c:=((((((aa==0)&&(ab==0))&&(ac==0))&&(ae==0))&&(ag==0))&&(ai==0))) (by first | exact hb | (rw [hb]; rfl) | simp_all) (B (aj==0))) rfl) ?_
 refine zM (B (((((((aa==0)&&(ab==0))&&(ac==0))&&(ae==0))&&(ag==0))&&(ai==0))&&(aj==0))) rfl ?_
 refine g_val (((((((aa==0)&&(ab==0))&&(ac==0))&&(ae==0))&&(ag==0))&&(ai==0))&&(aj==0)) (gy_t rfl) (fun hg=>x_ld (p:=Pq a8) (v:=.agg #[I ak,I am]) rfl (ldb_ag (ds:=[I ak,I am]) Ag54 Sz54 (H.bl 3) rfl rfl)) ?_
 refine g_val (((((((aa==0)&&(ab==0))&&(ac==0))&&(ae==0))&&(ag==0))&&(ai==0))&&(aj==0)) (gy_t rfl) (fun hg=>x_bld (ps:=[(0,I 812),(1,I 1959)]) (zs:=[I 0,I 0]) (L':=[I 812,I 1959]) rfl Tryz.underlying54 Al54 rfl (Bd54 Tryz.underlying54) (.cons (cs:=[I 812]) rfl rfl rfl rfl rfl<|.cons (cs:=[I 1959]) rfl rfl rfl rfl rfl<|.nil)) ?_
 refine g_val (((((((aa==0)&&(ab==0))&&(ac==0))&&(ae==0))&&(ag==0))&&(ai==0))&&(aj==0)) (gy_t rfl) (fun hg=>x_eqS (eqT54 (⟨(ak:Int),(am:Int)⟩:Span) (⟨(812:Int),(1959:Int)⟩:Span) _) gdT54 (gd_of (c:=(((((((aa==0)&&(ab==0))&&(ac==0))&&(ae==0))&&(ag==0))&&(ai==0))&&(aj==0))) hg (.agg #[I ak,I am])) (gd_of (c:=(((((((aa==0)&&(ab==0))&&(ac==0))&&(ae==0))&&(ag==0))&&(ai==0))&&(aj==0))) hg (.agg #[I 812,I 1959]))) ?_
 refine s_val (x_pand (b:=(((((((aa==0)&&(ab==0))&&(ac==0))&&(ae==0))&&(ag==0))&&(ai==0))&&(aj==0))) (r:=decide ((⟨(ak:Int),(am:Int)⟩:Span)=(⟨(812:Int),(1959:Int)⟩:Span))) rfl (fun hb=>gd_of (c:=(((((((aa==0)&&(ab==0))&&(ac==0))&&(ae==0))&&(ag==0))&&(ai==0))&&(aj==0))) (by first | exact hb | (rw [hb]; rfl) | simp_all) (B (decide ((⟨(ak:Int),(am:Int)⟩:Span)=(⟨(812:Int),(1959:Int)⟩:Span))))) rfl) ?_
 refine zM (B ((((((((aa==0)&&(ab==0))&&(ac==0))&&(ae==0))&&(ag==0))&&(ai==0))&&(aj==0))&&(decide ((⟨(ak:Int),(am:Int)⟩:Span)=(⟨(812:Int),(1959:Int)⟩:Span))))) rfl ?_
 refine g_val ((((((((aa==0)&&(ab==0))&&(ac==0))&&(ae==0))&&(ag==0))&&(ai==0))&&(aj==0))&&(decide ((⟨(ak:Int),(am:Int)⟩:Span)=(⟨(812:Int),(1959:Int)⟩:Span)))) (gy_t rfl) (fun hg=>x_mv (v:=I ao) rfl) ?_
 refine g_val ((((((((aa==0)&&(ab==0))&&(ac==0))&&(ae==0))&&(ag==0))&&(ai==0))&&(aj==0))&&(decide ((⟨(ak:Int),(am:Int)⟩:Span)=(⟨(812:Int),(1959:Int)⟩:Span)))) (gy_t rfl) (fun hg=>x_cmp (kd:=.i64) (a:=ao) (b:=1876) (r:=ao==1876) (gd_of (c:=((((((((aa==0)&&(ab==0))&&(ac==0))&&(ae==0))&&(ag==0))&&(ai==0))&&(aj==0))&&(decide ((⟨(ak:Int),(am:Int)⟩:Span)=(⟨(812:Int),(1959:Int)⟩:Span))))) hg (I ao)) rfl rfl) ?_
 refine s_val (x_pand (b:=((((((((aa==0)&&(ab==0))&&(ac==0))&&(ae==0))&&(ag==0))&&(ai==0))&&(aj==0))&&(decide ((⟨(ak:Int),(am:Int)⟩:Span)=(⟨(812:Int),(1959:Int)⟩:Span))))) (r:=ao==1876) rfl (fun hb=>gd_of (c:=((((((((aa==0)&&(ab==0))&&(ac==0))&&(ae==0))&&(ag==0))&&(ai==0))&&(aj==0))&&(decide ((⟨(ak:Int),(am:Int)⟩:Span)=(⟨(812:Int),(1959:Int)⟩:Span))))) (by first | exact hb | (rw [hb]; rfl) | simp_all) (B (ao==1876))) rfl) ?_
 refine zM (B (((((((((aa==0)&&(ab==0))&&(ac==0))&&(ae==0))&&(ag==0))&&(ai==0))&&(aj==0))&&(decide ((⟨(ak:Int),(am:Int)⟩:Span)=(⟨(812:Int),(1959:Int)⟩:Span))))&&(ao==1876))) rfl ?_
 refine g_val (((((((((aa==0)&&(ab==0))&&(ac==0))&&(ae==0))&&(ag==0))&&(ai==0))&&(aj==0))&&(decide ((⟨(ak:Int),(am:Int)⟩:Span)=(⟨(812:Int),(1959:Int)⟩:Span))))&&(ao==1876)) (gy_t rfl) (fun hg=>x_fa (a:=Pq aQ) (v:=Oq aQ 1) rfl (fa_blk (o:=0) Fd54_1 Sz3)) ?_
 refine g_val (((((((((aa==0)&&(ab==0))&&(ac==0))&&(ae==0))&&(ag==0))&&(ai==0))&&(aj==0))&&(decide ((⟨(ak:Int),(am:Int)⟩:Span)=(⟨(812:Int),(1959:Int)⟩:Span))))&&(ao==1876)) (gy_t rfl) (fun hg=>x_ld (p:=Oq aQ 1) (v:=I ap) (gd_of (c:=(((((((((aa==0)&&(ab==0))&&(ac==0))&&(ae==0))&&(ag==0))&&(ai==0))&&(aj==0))&&(decide ((⟨(ak:Int),(am:Int)⟩:Span)=(⟨(812:Int),(1959:Int)⟩:Span))))&&(ao==1876))) hg (Oq aQ 1)) (ldb_sc Sc3 (H.bl 2) rfl)) ?_
 refine g_val (((((((((aa==0)&&(ab==0))&&(ac==0))&&(ae==0))&&(ag==0))&&(ai==0))&&(aj==0))&&(decide ((⟨(ak:Int),(am:Int)⟩:Span)=(⟨(812:Int),(1959:Int)⟩:Span))))&&(ao==1876)) (gy_t rfl) (fun hg=>x_cmp (kd:=.i64) (a:=ap) (b:=1557) (r:=ap==1557) (gd_of (c:=(((((((((aa==0)&&(ab==0))&&(ac==0))&&(ae==0))&&(ag==0))&&(ai==0))&&(aj==0))&&(decide ((⟨(ak:Int),(am:Int)⟩:Span)=(⟨(812:Int),(1959:Int)⟩:Span))))&&(ao==1876))) hg (I ap)) rfl rfl) ?_
 refine s_val (x_pand (b:=(((((((((aa==0)&&(ab==0))&&(ac==0))&&(ae==0))&&(ag==0))&&(ai==0))&&(aj==0))&&(decide ((⟨(ak:Int),(am:Int)⟩:Span)=(⟨(812:Int),(1959:Int)⟩:Span))))&&(ao==1876))) (r:=ap==1557) rfl (fun hb=>gd_of (c:=(((((((((aa==0)&&(ab==0))&&(ac==0))&&(ae==0))&&(ag==0))&&(ai==0))&&(aj==0))&&(decide ((⟨(ak:Int),(am:Int)⟩:Span)=(⟨(812:Int),(1959:Int)⟩:Span))))&&(ao==1876))) (by first | exact hb | (rw [hb]; rfl) | simp_all) (B (ap==1557))) rfl) ?_
 refine zM (B ((((((((((aa==0)&&(ab==0))&&(ac==0))&&(ae==0))&&(ag==0))&&(ai==0))&&(aj==0))&&(decide ((⟨(ak:Int),(am:Int)⟩:Span)=(⟨(812:Int),(1959:Int)⟩:Span))))&&(ao==1876))&&(ap==1557))) rfl ?_
 refine g_val ((((((((((aa==0)&&(ab==0))&&(ac==0))&&(ae==0))&&(ag==0))&&(ai==0))&&(aj==0))&&(decide ((⟨(ak:Int),(am:Int)⟩:Span)=(⟨(812:Int),(1959:Int)⟩:Span))))&&(ao==1876))&&(ap==1557)) (gy_t rfl) (fun hg=>x_mv (v:=B aq) rfl) ?_
 refine s_val (x_pand (b:=((((((((((aa==0)&&(ab==0))&&(ac==0))&&(ae==0))&&(ag==0))&&(ai==0))&&(aj==0))&&(decide ((⟨(ak:Int),(am:Int)⟩:Span)=(⟨(812:Int),(1959:Int)⟩:Span))))&&(ao==1876))&&(ap==1557))) (r:=aq) rfl (fun hb=>gd_of (c:=((((((((((aa==0)&&(ab==0))&&(ac==0))&&(ae==0))&&(ag==0))&&(ai==0))&&(aj==0))&&(decide ((⟨(ak:Int),(am:Int)⟩:Span)=(⟨(812:Int),(1959:Int)⟩:Span))))&&(ao==1876))&&(ap==1557))) (by first | exact hb | (rw [hb]; rfl) | simp_all) (B aq)) rfl) ?_
 refine zM (B (((((((((((aa==0)&&(ab==0))&&(ac==0))&&(ae==0))&&(ag==0))&&(ai==0))&&(aj==0))&&(decide ((⟨(ak:Int),(am:Int)⟩:Span)=(⟨(812:Int),(1959:Int)⟩:Span))))&&(ao==1876))&&(ap==1557))&&aq)) rfl ?_
 refine g_val (((((((((((aa==0)&&(ab==0))&&(ac==0))&&(ae==0))&&(ag==0))&&(ai==0))&&(aj==0))&&(decide ((⟨(ak:Int),(am:Int)⟩:Span)=(⟨(812:Int),(1959:Int)⟩:Span))))&&(ao==1876))&&(ap==1557))&&aq) (gy_t rfl) (fun hg=>x_mv (v:=aH) rfl) ?_
 refine g_val (((((((((((aa==0)&&(ab==0))&&(ac==0))&&(ae==0))&&(ag==0))&&(ai==0))&&(aj==0))&&(decide ((⟨(ak:Int),(am:Int)⟩:Span)=(⟨(812:Int),(1959:Int)⟩:Span))))&&(ao==1876))&&(ap==1557))&&aq) (gy_t rfl) (fun hg=>x_lenS T28.und (gd_of (c:=(((((((((((aa==0)&&(ab==0))&&(ac==0))&&(ae==0))&&(ag==0))&&(ai==0))&&(aj==0))&&(decide ((⟨(ak:Int),(am:Int)⟩:Span)=(⟨(812:Int),(1959:Int)⟩:Span))))&&(ao==1876))&&(ap==1557))&&aq)) hg (aH)) (H.os 1)) ?_
 refine g_val (((((((((((aa==0)&&(ab==0))&&(ac==0))&&(ae==0))&&(ag==0))&&(ai==0))&&(aj==0))&&(decide ((⟨(ak:Int),(am:Int)⟩:Span)=(⟨(812:Int),(1959:Int)⟩:Span))))&&(ao==1876))&&(ap==1557))&&aq) (gy_t rfl) (fun hg=>x_cmp (kd:=.i64) (a:=(av.length:Int)) (b:=2) (r:=(av.length:Int)==2) (gd_of (c:=(((((((((((aa==0)&&(ab==0))&&(ac==0))&&(ae==0))&&(ag==0))&&(ai==0))&&(aj==0))&&(decide ((⟨(ak:Int),(am:Int)⟩:Span)=(⟨(812:Int),(1959:Int)⟩:Span))))&&(ao==1876))&&(ap==1557))&&aq)) hg (I (av.length:Int))) rfl rfl) ?_
 refine s_val (x_pand (b:=(((((((((((aa==0)&&(ab==0))&&(ac==0))&&(ae==0))&&(ag==0))&&(ai==0))&&(aj==0))&&(decide ((⟨(ak:Int),(am:Int)⟩:Span)=(⟨(812:Int),(1959:Int)⟩:Span))))&&(ao==1876))&&(ap==1557))&&aq)) (r:=(av.length:Int)==2) rfl (fun hb=>gd_of (c:=(((((((((((aa==0)&&(ab==0))&&(ac==0))&&(ae==0))&&(ag==0))&&(ai==0))&&(aj==0))&&(decide ((⟨(ak:Int),(am:Int)⟩:Span)=(⟨(812:Int),(1959:Int)⟩:Span))))&&(ao==1876))&&(ap==1557))&&aq)) (by first | exact hb | (rw [hb]; rfl) | simp_all) (B ((av.length:Int)==2))) rfl) ?_
 refine zM (B ((((((((((((aa==0)&&(ab==0))&&(ac==0))&&(ae==0))&&(ag==0))&&(ai==0))&&(aj==0))&&(decide ((⟨(ak:Int),(am:Int)⟩:Span)=(⟨(812:Int),(1959:Int)⟩:Span))))&&(ao==1876))&&(ap==1557))&&aq)&&((av.length:Int)==2))) rfl ?_
 refine g_val ((((((((((((aa==0)&&(ab==0))&&(ac==0))&&(ae==0))&&(ag==0))&&(ai==0))&&(aj==0))&&(decide ((⟨(ak:Int),(am:Int)⟩:Span)=(⟨(812:Int),(1959:Int)⟩:Span))))&&(ao==1876))&&(ap==1557))&&aq)&&((av.length:Int)==2)) (gy_t rfl) (fun hg=>x_mv (v:=B aw) rfl) ?_
 refine s_val (x_pand (b:=((((((((((((aa==0)&&(ab==0))&&(ac==0))&&(ae==0))&&(ag==0))&&(ai==0))&&(aj==0))&&(decide ((⟨(ak:Int),(am:Int)⟩:Span)=(⟨(812:Int),(1959:Int)⟩:Span))))&&(ao==1876))&&(ap==1557))&&aq)&&((av.length:Int)==2))) (r:=aw) rfl (fun hb=>gd_of (c:=((((((((((((aa==0)&&(ab==0))&&(ac==0))&&(ae==0))&&(ag==0))&&(ai==0))&&(aj==0))&&(decide ((⟨(ak:Int),(am:Int)⟩:Span)=(⟨(812:Int),(1959:Int)⟩:Span))))&&(ao==1876))&&(ap==1557))&&aq)&&((av.length:Int)==2))) (by first | exact hb | (rw [hb]; rfl) | simp_all) (B aw)) rfl) ?_
 refine zM (B (((((((((((((aa==0)&&(ab==0))&&(ac==0))&&(ae==0))&&(ag==0))&&(ai==0))&&(aj==0))&&(decide ((⟨(ak:Int),(am:Int)⟩:Span)=(⟨(812:Int),(1959:Int)⟩:Span))))&&(ao==1876))&&(ap==1557))&&aq)&&((av.length:Int)==2))&&aw)) rfl ?_
 refine g_val (((((((((((((aa==0)&&(ab==0))&&(ac==0))&&(ae==0))&&(ag==0))&&(ai==0))&&(aj==0))&&(decide ((⟨(ak:Int),(am:Int)⟩:Span)=(⟨(812:Int),(1959:Int)⟩:Span))))&&(ao==1876))&&(ap==1557))&&aq)&&((av.length:Int)==2))&&aw) (gy_t rfl) (fun hg=>x_mv (v:=aC) rfl) ?_
 refine g_val (((((((((((((aa==0)&&(ab==0))&&(ac==0))&&(ae==0))&&(ag==0))&&(ai==0))&&(aj==0))&&(decide ((⟨(ak:Int),(am:Int)⟩:Span)=(⟨(812:Int),(1959:Int)⟩:Span))))&&(ao==1876))&&(ap==1557))&&aq)&&((av.length:Int)==2))&&aw) (gy_t rfl) (fun hg=>x_lenS T43.und (gd_of (c:=(((((((((((((aa==0)&&(ab==0))&&(ac==0))&&(ae==0))&&(ag==0))&&(ai==0))&&(aj==0))&&(decide ((⟨(ak:Int),(am:Int)⟩:Span)=(⟨(812:Int),(1959:Int)⟩:Span))))&&(ao==1876))&&(ap==1557))&&aq)&&((av.length:Int)==2))&&aw)) hg (aC)) (H.os 0)) ?_
 refine g_val (((((((((((((aa==0)&&(ab==0))&&(ac==0))&&(ae==0))&&(ag==0))&&(ai==0))&&(aj==0))&&(decide ((⟨(ak:Int),(am:Int)⟩:Span)=(⟨(812:Int),(1959:Int)⟩:Span))))&&(ao==1876))&&(ap==1557))&&aq)&&((av.length:Int)==2))&&aw) (gy_t rfl) (fun hg=>x_cmp (kd:=.i64) (a:=(ax.length:Int)) (b:=2) (r:=(ax.length:Int)==2) (gd_of (c:=(((((((((((((aa==0)&&(ab==0))&&(ac==0))&&(ae==0))&&(ag==0))&&(ai==0))&&(aj==0))&&(decide ((⟨(ak:Int),(am:Int)⟩:Span)=(⟨(812:Int),(1959:Int)⟩:Span))))&&(ao==1876))&&(ap==1557))&&aq)&&((av.length:Int)==2))&&aw)) hg (I (ax.length:Int))) rfl rfl) ?_
 refine s_val (x_pand (b:=(((((((((((((aa==0)&&(ab==0))&&(ac==0))&&(ae==0))&&(ag==0))&&(ai==0))&&(aj==0))&&(decide ((⟨(ak:Int),(am:Int)⟩:Span)=(⟨(812:Int),(1959:Int)⟩:Span))))&&(ao==1876))&&(ap==1557))&&aq)&&((av.length:Int)==2))&&aw)) (r:=(ax.length:Int)==2) rfl (fun hb=>gd_of (c:=(((((((((((((aa==0)&&(ab==0))&&(ac==0))&&(ae==0))&&(ag==0))&&(ai==0))&&(aj==0))&&(decide ((⟨(ak:Int),(am:Int)⟩:Span)=(⟨(812:Int),(1959:Int)⟩:Span))))&&(ao==1876))&&(ap==1557))&&aq)&&((av.length:Int)==2))&&aw)) (by first | exact hb | (rw [hb]; rfl) | simp_all) (B ((ax.length:Int)==2))) rfl) ?_
 refine zM (B ((((((((((((((aa==0)&&(ab==0))&&(ac==0))&&(ae==0))&&(ag==0))&&(ai==0))&&(aj==0))&&(decide ((⟨(ak:Int),(am:Int)⟩:Span)=(⟨(812:Int),(1959:Int)⟩:Span))))&&(ao==1876))&&(ap==1557))&&aq)&&((av.length:Int)==2))&&aw)&&((ax.length:Int)==2))) rfl ?_
 refine g_val ((((((((((((((aa==0)&&(ab==0))&&(ac==0))&&(ae==0))&&(ag==0))&&(ai==0))&&(aj==0))&&(decide ((⟨(ak:Int),(am:Int)⟩:Span)=(⟨(812:Int),(1959:Int)⟩:Span))))&&(ao==1876))&&(ap==1557))&&aq)&&((av.length:Int)==2))&&aw)&&((ax.length:Int)==2)) (gy_t rfl) (fun hg=>x_mv (v:=aC) rfl) ?_
 obtain ⟨aJ,hM⟩:=M.e_grd hM
 replace aJ:=M.imp_of aJ
 simp only [Bool.and_eq_true,decide_eq_true_eq] at aJ
 refine g_val ((((((((((((((aa==0)&&(ab==0))&&(ac==0))&&(ae==0))&&(ag==0))&&(ai==0))&&(aj==0))&&(decide ((⟨(ak:Int),(am:Int)⟩:Span)=(⟨(812:Int),(1959:Int)⟩:Span))))&&(ao==1876))&&(ap==1557))&&aq)&&((av.length:Int)==2))&&aw)&&((ax.length:Int)==2)) (gy_t rfl) (fun hg=>x_ix (a:=aC) (b:=I 0) (v:=vat aC 2 (Int.toNat 0)) (gd_of (c:=((((((((((((((aa==0)&&(ab==0))&&(ac==0))&&(ae==0))&&(ag==0))&&(ai==0))&&(aj==0))&&(decide ((⟨(ak:Int),(am:Int)⟩:Span)=(⟨(812:Int),(1959:Int)⟩:Span))))&&(ao==1876))&&(ap==1557))&&aq)&&((av.length:Int)==2))&&aw)&&((ax.length:Int)==2))) hg (aC)) rfl (Sl.ix (α:=Span) T43.und T43.size (H.os 0) (by have ay:=aJ.resolve_left (by rw [hg]; decide); first | exact ay | exact ay.1 | exact ay.2 | omega | (have aK:=hg; simp at aK; omega)) (by have ay:=aJ.resolve_left (by rw [hg]; decide); first | exact ay | exact ay.1 | exact ay.2 | omega | (have aK:=hg; simp at aK; omega)))) ?_
 refine g_val ((((((((((((((aa==0)&&(ab==0))&&(ac==0))&&(ae==0))&&(ag==0))&&(ai==0))&&(aj==0))&&(decide ((⟨(ak:Int),(am:Int)⟩:Span)=(⟨(812:Int),(1959:Int)⟩:Span))))&&(ao==1876))&&(ap==1557))&&aq)&&((av.length:Int)==2))&&aw)&&((ax.length:Int)==2)) (gy_t rfl) (fun hg=>x_ld (p:=vat aC 2 (Int.toNat 0)) (v:=.agg #[I ((ax.getD 0 default).lo),I ((ax.getD 0 default).hi)]) (gd_of (c:=((((((((((((((aa==0)&&(ab==0))&&(ac==0))&&(ae==0))&&(ag==0))&&(ai==0))&&(aj==0))&&(decide ((⟨(ak:Int),(am:Int)⟩:Span)=(⟨(812:Int),(1959:Int)⟩:Span))))&&(ao==1876))&&(ap==1557))&&aq)&&((av.length:Int)==2))&&aw)&&((ax.length:Int)==2))) hg (vat aC 2 (Int.toNat 0))) (ld_ag Ag54 Sz54 (At.mono (Span_atA (H.os 0) (i:=0) (by have ay:=aJ.resolve_left (by rw [hg]; decide); first | exact ay | exact ay.1 | exact ay.2 | omega | (have aK:=hg; simp at aK; omega)) (by have ay:=aJ.resolve_left (by rw [hg]; decide); first | exact ay | exact ay.1 | exact ay.2 | omega | (have aK:=hg; simp at aK; omega))) (H.ol 0)))) ?_
 refine g_val ((((((((((((((aa==0)&&(ab==0))&&(ac==0))&&(ae==0))&&(ag==0))&&(ai==0))&&(aj==0))&&(decide ((⟨(ak:Int),(am:Int)⟩:Span)=(⟨(812:Int),(1959:Int)⟩:Span))))&&(ao==1876))&&(ap==1557))&&aq)&&((av.length:Int)==2))&&aw)&&((ax.length:Int)==2)) (gy_t rfl) (fun hg=>x_bld (ps:=[(0,I 170),(1,I 2000)]) (zs:=[I 0,I 0]) (L':=[I 170,I 2000]) rfl Tryz.underlying54 Al54 rfl (Bd54 Tryz.underlying54) (.cons (cs:=[I 170]) rfl rfl rfl rfl rfl<|.cons (cs:=[I 2000]) rfl rfl rfl rfl rfl<|.nil)) ?_
 refine g_val ((((((((((((((aa==0)&&(ab==0))&&(ac==0))&&(ae==0))&&(ag==0))&&(ai==0))&&(aj==0))&&(decide ((⟨(ak:Int),(am:Int)⟩:Span)=(⟨(812:Int),(1959:Int)⟩:Span))))&&(ao==1876))&&(ap==1557))&&aq)&&((av.length:Int)==2))&&aw)&&((ax.length:Int)==2)) (gy_t rfl) (fun hg=>x_eqS (eqT54 (ax.getD 0 default) (⟨(170:Int),(2000:Int)⟩:Span) _) gdT54 (gd_of (c:=((((((((((((((aa==0)&&(ab==0))&&(ac==0))&&(ae==0))&&(ag==0))&&(ai==0))&&(aj==0))&&(decide ((⟨(ak:Int),(am:Int)⟩:Span)=(⟨(812:Int),(1959:Int)⟩:Span))))&&(ao==1876))&&(ap==1557))&&aq)&&((av.length:Int)==2))&&aw)&&((ax.length:Int)==2))) hg (.agg #[I ((ax.getD 0 default).lo),I ((ax.getD 0 default).hi)])) (gd_of (c:=((((((((((((((aa==0)&&(ab==0))&&(ac==0))&&(ae==0))&&(ag==0))&&(ai==0))&&(aj==0))&&(decide ((⟨(ak:Int),(am:Int)⟩:Span)=(⟨(812:Int),(1959:Int)⟩:Span))))&&(ao==1876))&&(ap==1557))&&aq)&&((av.length:Int)==2))&&aw)&&((ax.length:Int)==2))) hg (.agg #[I 170,I 2000]))) ?_
 refine s_val (x_pand (b:=((((((((((((((aa==0)&&(ab==0))&&(ac==0))&&(ae==0))&&(ag==0))&&(ai==0))&&(aj==0))&&(decide ((⟨(ak:Int),(am:Int)⟩:Span)=(⟨(812:Int),(1959:Int)⟩:Span))))&&(ao==1876))&&(ap==1557))&&aq)&&((av.length:Int)==2))&&aw)&&((ax.length:Int)==2))) (r:=decide ((ax.getD 0 default)=(⟨(170:Int),(2000:Int)⟩:Span))) rfl (fun hb=>gd_of (c:=((((((((((((((aa==0)&&(ab==0))&&(ac==0))&&(ae==0))&&(ag==0))&&(ai==0))&&(aj==0))&&(decide ((⟨(ak:Int),(am:Int)⟩:Span)=(⟨(812:Int),(1959:Int)⟩:Span))))&&(ao==1876))&&(ap==1557))&&aq)&&((av.length:Int)==2))&&aw)&&((ax.length:Int)==2))) (by first | exact hb | (rw [hb]; rfl) | simp_all) (B (decide ((ax.getD 0 default)=(⟨(170:Int),(2000:Int)⟩:Span))))) rfl) ?_
 refine zA (B (((((((((((((((aa==0)&&(ab==0))&&(ac==0))&&(ae==0))&&(ag==0))&&(ai==0))&&(aj==0))&&(decide ((⟨(ak:Int),(am:Int)⟩:Span)=(⟨(812:Int),(1959:Int)⟩:Span))))&&(ao==1876))&&(ap==1557))&&aq)&&((av.length:Int)==2))&&aw)&&((ax.length:Int)==2))&&(decide ((ax.getD 0 default)=(⟨(170:Int),(2000:Int)⟩:Span))))) rfl ?_
 refine s_nil ?_
 replace H:=H.pk []
 refine W.ret ?_
 have cd:=M.e_pure hM
 exact ⟨_,resE_tmp rfl,⟨(((((((((((((((aa==0)&&(ab==0))&&(ac==0))&&(ae==0))&&(ag==0))&&(ai==0))&&(aj==0))&&(decide ((⟨(ak:Int),(am:Int)⟩:Span)=(⟨(812:Int),(1959:Int)⟩:Span))))&&(ao==1876))&&(ap==1557))&&aq)&&((av.length:Int)==2))&&aw)&&((ax.length:Int)==2))&&(decide ((ax.getD 0 default)=(⟨(170:Int),(2000:Int)⟩:Span)))),cd,rfl,H⟩⟩

end Go.Proofs.YtlemgioaakecpaaGreat
end
namespace Go.Nm
open Go
/-- A call that panics. -/
def Pan (P:Program) (f:FuncId) (args:Array Value) (w:World) (R:Value->World->Prop):Prop :=
  Calls P f args w fun e w'=>∃ v,e = .panicked [{ v,recovered:=false }]/\R v w'
/-- One operation that has a value, that panics, or that calls what panics. -/
def opWP (P:Program) (o:Oper) (K:Env->World->Prop) (E:Value->World->Prop) (σ:Env) (w:World):Prop :=
  match (execOp (ev σ) o).run P w with
  | .ok (.value v) w'=>K (updo σ o.dst v) w'
  | .ok (.enter f args) w'=>Pan P f args w' E
  | .halt (.panic v) w'=>E v w'
  | _=>False
def SLP (P:Program) (Q:Post):List Oper->Env->World->Prop
  | [],σ,w=>Q .normal σ w
  | o :: rest,σ,w=>o.guard=none/\(∀ c,o.op ≠ .defer c)/\opWP P o (SLP P Q rest) (fun v w'=>Q (.panic [{ v,recovered:=false }]) σ w') σ w
theorem opWP_wp {r:Option Nat} {P:Program} {ds:List Deferred} {n:Nat} {o:Oper} {K:Env->World->Prop} {E:Value->World->Prop} {σ:Env} {w:World} (hd:∀ d,o.dst=some d->d<n) {a:Act} (ha:Fr ds n σ a)
    {next:Act->World->Prop} {Q:Exit->Act->World->Prop} (hn:∀ c,o.op ≠ .defer c) (hK:∀ σ' a' w',Fr ds n σ' a'->K σ' w'->next a' w') (hE:∀ v w',E v w'->Q (.panic [{ v,recovered:=false }]) a w') (h:opWP P o K E σ w):o.wpIn (FR r) 0 P a w next Q:=by
  refine ⟨fun _ _=>trivial,?_⟩
  unfold opWP at h
  rw [ha.eval,Oper.semAt_eq _ _ _ hn]
  generalize (execOp (ev σ) o).run P w=res at *
  cases res with
  | halt x w' =>
    cases x with
    | panic v=>exact hE _ _ h
    | _=>exact h.elim
  | ok x w' =>
    cases x with
    | value v=>exact hK _ _ _ (ha.puto hd v) h
    | enter f args =>
      refine ⟨fun hc=>by simp [FR,Fence.wide] at hc,callsFR (Calls.mono h ?_)⟩
      rintro e w'' ⟨v,rfl,hk⟩
      exact hE _ _ hk
    | _=>exact h.elim
theorem SLP_wpOps {r:Option Nat} {P:Program} {ds:List Deferred} {n:Nat} {Q:Post} (all:List Oper) (hok:∀ o∈all,∀ d,o.dst=some d->d<n):∀ (l:List Oper) (k:Nat),
    (∀ j,l[j]?=all[k+j]?)->∀ (σ:Env) (w:World) (a:Act),Fr ds n σ a->SLP P Q l σ w →
    wpOpsIn (FR r) 0 P all.toArray (fun e a' w'=>∃ σ',Fr ds n σ' a'/\Q e σ' w') (List.range' k l.length) a w
  | [],_,_,σ,_,_,ha,h=>⟨σ,ha,h⟩
  | o :: rest,k,hl,σ,w,a,ha,h=>by
    have h0:all[k]?=some o:=by simpa using (hl 0).symm
    have hmem:o∈all:=List.mem_of_getElem? h0
    have ih:=SLP_wpOps (r:=r) (P:=P) (ds:=ds) (Q:=Q) all hok rest (k+1) (fun j=>by have:=hl (j+1); simpa [Nat.add_assoc,Nat.add_comm 1 j] using this)
    simp only [List.length_cons,List.range'_succ,wpOpsIn,List.getElem?_toArray,h0]
    obtain ⟨hg,hn,h⟩:=h
    simp only [Region.wanted,hg,if_true]
    exact opWP_wp (hok o hmem) ha hn (fun σ' a' w' ha' hk=>ih σ' w' a' ha' hk) (fun v w' hE=>⟨σ,ha,hE⟩) h
theorem W.regionP {r:Option Nat} {P:Program} {n:Nat} {Q:Post} {σ:Env} {w:World} {id:Nat} {l:List Oper} (hok:okDst n l=true) (h:SLP P Q l σ w) :
    WR r P n (.region id l.toArray false) Q σ w:=by
  intro ds a ha
  refine wpIn_region ?_
  have:=SLP_wpOps (r:=r) (P:=P) (ds:=ds) (Q:=Q) l (okDst_spec hok) l 0 (by simp) σ w a ha h
  simpa [List.range_eq_range'] using this
section
variable {P:Program} {Q:Post} {rest:List Oper} {σ:Env} {w:World} {ty:TypeId} {pos:String} {af:Array Edge}
theorem sp_val {d:Nat} {op:Op} {v:Value} (hn:∀ c,op ≠ .defer c) (h:(execOp (ev σ) ⟨some d,op,ty,pos,af,none⟩).run P w = .ok (.value v) w) (k:SLP P Q rest (upd σ d v) w) :
    SLP P Q (⟨some d,op,ty,pos,af,none⟩ :: rest) σ w:=by
  refine ⟨rfl,hn,?_⟩
  simp only [opWP,h]; exact k
theorem sp_panic {dst:Option Nat} {x:Operand} {t:TypeId} {v:Value} (hx:ev σ x = .iface t v) (k:Q (.panic [{ v:=.iface t v,recovered:=false }]) σ w) :
    SLP P Q (⟨dst,.panic x,ty,pos,af,none⟩ :: rest) σ w:=by
  refine ⟨rfl,fun c h=>(by cases h),?_⟩
  have h:(execOp (ev σ) ⟨dst,.panic x,ty,pos,af,none⟩).run P w = .halt (.panic (.iface t v)) w:=by
    simp [execOp,hx,Instr.panic]
  simp only [opWP,h]; exact k
theorem sp_call {f:FuncId} {dst:Option Nat} {ops:Array Operand} {ts:Array TypeId} {R:Value->World->Prop} (hcf:CF P f) (args:List Value) (ha:ops.toList.map (ev σ)=args)
    (hc:Pan P f args.toArray w R) (k:∀ v w',R v w'->Q (.panic [{ v,recovered:=false }]) σ w') :
    SLP P Q (⟨dst,.call ⟨.value (.func f),ops,ts⟩,ty,pos,af,none⟩ :: rest) σ w:=by
  refine ⟨rfl,fun c h=>(by cases h),?_⟩
  have h:(execOp (ev σ) ⟨dst,.call ⟨.value (.func f),ops,ts⟩,ty,pos,af,none⟩).run P w = .ok (.enter f args.toArray) w:=by
    subst ha
    simp [execOp,resolve,ev,Deferred.ofValue,invoke,run_callFunc hcf,amap]
  simp only [opWP,h]
  exact Calls.mono hc fun e w' ⟨v,he,hr⟩=>⟨v,he,k v w' hr⟩
end
/-- The end of a function that panics. -/
def bodyQp (R:Value->World->Prop):Post
  | .panic ch,_,w=>∃ v,ch=[{ v,recovered:=false }]/\R v w
  | _,_,_=>False
theorem pan_of_W {P:Program} {f:FuncId} {fn:Func} {c:Code} {n:Nat} {args:Array Value} {w:World} {R:Value->World->Prop}
    (hf:P.funcs[f]?=some fn) (hb:fn.body=some c) (hn:fn.ntmps=n) (hle':Nat.ble args.size n=true)
    (h:W P n c (bodyQp R) (argE args) w):Pan P f args w R:=by
  have hle:=Nat.le_of_ble_eq_true hle'
  subst hn
  refine calls_of_wp hf hb (wp_mono ((wpIn_wide (n:=0)).1 (h [] _ ⟨rfl,?_,fun k=>?_⟩)) ?_)
  · simp; omega
  · simp only [argE,Array.getD_eq_getD_getElem?,Array.getElem?_append]
    by_cases hk:k<args.size
    · simp [hk]
    · rw [if_neg hk]
      simp only [Array.getElem?_replicate]
      have:args[k]?=none:=by simp; omega
      rw [this]
      split <;> rfl
  · rintro e a' w' ⟨s,hs,h'⟩
    cases e with
    | panic ch =>
      obtain ⟨v,rfl,hR⟩:=h'
      exact ⟨hs.df,v,rfl,hR⟩
    | _=>exact h'.elim
/-- The end of a function that panics, and whose deferred call recovers. -/
def bodyQr (P:Program) (fn:Func) (f:FuncId) (args:Array Value) (R:Value->World->Prop):Post
  | .panic ch,σ,w=>∃ pv,ch=[{ v:=pv,recovered:=false }]/\CallsD P f args (.panicking [{ v:=pv,recovered:=false }]) w fun e u' w'=>(∃ v,e = .returned v)/\u' = .panicking [{ v:=pv,recovered:=true }]/\∃ v,resE P fn σ w' v/\R v w'
  | _,_,_=>False
theorem WB.deferP {P:Program} {fn:Func} {n:Nat} {R:Value->World->Prop} {σ:Env} {w:World} {id:Nat} {o1 o2:Oper} {y:Code} {d:Nat} {v:Value} {fv:Fn} {cap:Array Value} {f:FuncId} {args:Array Value}
    (hd:Nat.blt d n=true) (hd1:o1.dst=some d) (hg1:o1.guard=none) (hd2:o2.dst=none) (hg2:o2.guard=none)
    (h1:∀ w,(execOp (ev σ) o1).run P w = .ok (.value v) w) (h2:∀ w,(execOp (ev (upd σ d v)) o2).run P w = .ok (.defer { target:=.fn fv cap,args:=#[] }) w)
    (hi:∀ w,(invoke (.fn fv cap) #[]).run P w = .ok (.enter f args) w)
    (hk:W P n y (bodyQr P fn f args R) (upd σ d v) w):WB P fn n (.seq (.region id #[o1,o2] false) y) R σ w:=by
  intro a ha
  refine wp_seq (wp_region ?_)
  have hd':d<n:=Nat.lt_of_lt_of_le (Nat.lt_succ_self d) (Nat.le_of_ble_eq_true hd)
  have h2':(execOp (a.put (some d) v).eval o2).run P w = .ok (.defer { target:=.fn fv cap,args:=#[] }) w:=by
    rw [(ha.put hd' v).eval]
    exact h2 w
  have hr:List.range (#[o1,o2]:Array Oper).size=[0,1]:=rfl
  rw [hr]
  simp only [wpOps,List.getElem?_toArray,List.getElem?_cons_zero,List.getElem?_cons_succ,Region.wanted,hg1,hg2,if_true,Oper.wp,ha.eval,h1,hd1,Oper.upon,h2',hd2]
  refine .inl (.inl ?_)
  have ha':Fr [{ target:=.fn fv cap,args:=#[] }] n (upd σ d v) ({ a.put (some d) v with defers:={ target:=.fn fv cap,args:=#[] } :: (a.put (some d) v).defers }.put none undef):=by
    have h3:=ha.put hd' v
    exact ⟨by show _ :: (a.put (some d) v).defers=_; rw [h3.df],h3.sz,h3.get⟩
  refine wp_mono ((wpIn_wide (n:=0)).1 (hk _ _ ha')) ?_
  rintro e a' w' ⟨s,hs,h'⟩
  cases e with
  | panic ch =>
    obtain ⟨pv,rfl,hc⟩:=h'
    show Leaves P fn a'.tmps (RetE R) a'.defers (.panicking _) w'
    rw [hs.df]
    refine leaves_cons (by simp) (hi w') (hc.mono ?_)
    rintro e u' w'' ⟨⟨v,rfl⟩,rfl,v',hr,hR⟩
    exact ⟨v',hr _ hs.get,v',rfl,hR⟩
  | _=>exact h'.elim
/-! ### A deferred function that recovers ahead of all else -/
theorem opsIn_wide {P:Program} {ops:Array Oper} {Q:Exit->Act->World->Prop} {l:List Nat} {a:Act} {w:World} (h:wpOpsIn Fence.wide 0 P ops Q l a w) (b:Frame) (k:List Item) (cs:List Frame) (hr:b.roundOf=none) :
    ∃ e a' w',Q e a' w'/\Arrives P (lone (b.at a (.inRegion ops l :: k)) cs w) b k cs e a' w':=by
  obtain ⟨e,a',w',q,r⟩:=wp_opsIn l a w h b k cs hr trivial (room_wide _)
  rw [Frame.atR_of_none hr] at r
  exact ⟨e,a',w',q,(arrivesIn_iff (fun _ _=>stepsIn_wide) hr).1 r⟩
theorem wpS_recover {P:Program} {id:Nat} {ops:Array Oper} {o:Oper} {m:Nat} {Q:Exit->Act->List Frame->World->Prop} {Q1:Exit->Act->World->Prop} {a:Act} {cs cs':List Frame} {w:World} {v:Value}
    (h0:ops[0]?=some o) (hs:ops.size=m+1) (hg:o.guard=none) (hr:(execOp a.eval o).run P w = .ok .recover w) (hrec:recoverD cs=some (v,cs'))
    (h:wpOpsIn Fence.wide 0 P ops Q1 (List.range' 1 m) (a.put o.dst v) w) (hQ:∀ e a' w',Q1 e a' w'->Q e a' cs' w'):(Code.region id ops false).wpS P Q a cs w:=by
  intro b k hb hro
  obtain ⟨e,a',w',hq,harr⟩:=opsIn_wide h b k cs' hro
  have hl:List.range ops.size=0 :: List.range' 1 m:=by rw [hs,List.range_eq_range',List.range'_succ]
  have s1:=step_region (P:=P) (b:=b) (a:=a) (k:=k) (cs:=cs) (w:=w) (ops:=ops) (id:=id)
  rw [hl] at s1
  have hw:Region.wanted o (yielded ops a.tmps)=true:=by simp [Region.wanted,hg]
  have hgs:=stepG_op (P:=P) (b:=b) (a:=a) (k:=k) (cs:=cs) (w:=w) (rest:=List.range' 1 m) h0 hw
  have hfin:∀ v,(b.at a (.inRegion ops (0 :: List.range' 1 m) :: k)).finish v=b.at (a.put o.dst v) (.inRegion ops (List.range' 1 m) :: k):=by
    intro v; rw [Frame.finish_at,h0]; rfl
  have hk:(b.at a (.inRegion ops (0 :: List.range' 1 m) :: k)).kind = .deferred:=hb
  have htr:=tryRecover_deferred hk cs
  refine ⟨e,a',cs',w',hQ _ _ _ hq,.of_steps (.head s1 (.one (step_lone_go ?_))) harr⟩
  rw [hgs,← hfin]
  simp only [Frame.at] at htr ⊢
  simp [stepG.apply,hr,htr,hrec]
end Go.Nm
namespace Go.Proofs.YtlemgioaakecpaaGreat
open Go Go.Nm
/-- The fault that read panics with. -/
abbrev flt:Value:=.iface 119 (.agg #[I 2])
theorem Al119:(Tryz.prog.info? 119).map (·.zero)=some (some (.agg #[I 0])):=by kernel_rfl
theorem Sz119:(Tryz.prog.info? 119).map (·.size)=some 1:=by kernel_rfl
theorem Fd119_0:(Tryz.prog.underlying 119).bind (fun d=>match d with | .struct fs=>(fs[0]?).map (fun f=>(f.offset,f.type)) | _=>none)=some (0,35):=by rw [Tryz.underlying119]; rfl
theorem Bd119 {fs:Array Field} (h:Tryz.prog.underlying 119=some (.struct fs)):fs.toList.mapM (fun f=>(Tryz.prog.info? f.type).map fun i=>(f.offset,i.size))=some [(0,1)]:=by rw [Tryz.underlying119] at h; simp only [Option.some.injEq,TypeDesc.struct.injEq] at h; subst h; kernel_rfl
theorem ta_hit (w:World):(Instr.typeAssert flt 20 119 true).run Tryz.prog w = .ok (.tuple #[.agg #[I 2],.bool true]) w:=by
  simp [Instr.typeAssert,go_sem]
theorem x_ta {σ:Env} {x:Operand} {d:Nat} {ty:TypeId} {pos:String} {af:Array Edge} {w:World} (h:ev σ x=flt):(execOp (ev σ) ⟨some d,.typeAssert x 20 119 true,ty,pos,af,none⟩).run Tryz.prog w = .ok (.value (.tuple #[.agg #[I 2],.bool true])) w:=by
  have:=ta_hit w
  simp [execOp,h,this]
theorem x_mi {σ:Env} {x:Operand} {d:Nat} {ty:TypeId} {pos:String} {af:Array Edge} {w:World} (h:ev σ x = .agg #[I 2]):(execOp (ev σ) ⟨some d,.makeInterface 119 x,ty,pos,af,none⟩).run Tryz.prog w = .ok (.value flt) w:=by
  simp [execOp,h,Instr.makeInterface,go_sem]
theorem Fr.enter {args:Array Value} {n:Nat} (hle:Nat.ble args.size n=true):Fr [] n (argE args) { tmps:=args++Array.replicate (n-args.size) undef,defers:=[] }:=by
  have hle:=Nat.le_of_ble_eq_true hle
  refine ⟨rfl,by simp; omega,fun k=>?_⟩
  simp only [argE,Array.getD_eq_getD_getElem?,Array.getElem?_append]
  by_cases hk:k<args.size
  · simp [hk]
  · rw [if_neg hk]
    simp only [Array.getElem?_replicate]
    have:args[k]?=none:=by simp; omega
    rw [this]
    split <;> rfl
theorem SL_tail {P:Program} {ds:List Deferred} {n:Nat} {Q:Post} {o:Oper} {l:List Oper} {σ:Env} {w:World} {a:Act} (hok:okDst n (o :: l)=true) (ha:Fr ds n σ a) (h:SL P (o :: l) Q l σ w) :
    wpOpsIn Fence.wide 0 P (o :: l).toArray (fun e a' w'=>∃ σ',Fr ds n σ' a'/\Q e σ' w') (List.range' 1 l.length) a w :=
  SL_wpOps (r:=none) (o :: l) (okDst_spec hok) l 1 (fun j=>by rw [Nat.add_comm]; rfl) σ w a ha h
set_option maxRecDepth 100000 in
set_option maxHeartbeats 4000000 in
theorem catch_hit {w0 w:World} {R:List Chunk} {b2 b3:Nat} {x y:Value} (H:St w0 w [cBlk b3 [y] 35,cBlk b2 [x] 4] R) :
    CallsD Tryz.prog 53 #[Pq b2,Pq b3] (.panicking [{ v:=flt,recovered:=false }]) w fun e u' w'=>(∃ v,e = .returned v)/\u' = .panicking [{ v:=flt,recovered:=true }]/\St w0 w' [cBlk b3 [I 2] 35,cBlk b2 [B false] 4] R:=by
  refine callsD_of_wpS Tryz.func53 rfl fun c₀ cs hu=>?_
  apply wpS_seq
  refine wpS_recover (m:=7) (v:=flt) (cs':={ c₀ with mode:=.panicking [{ v:=flt,recovered:=true }] } :: cs) rfl rfl rfl rfl ?_ (SL_tail (n:=12) (Q:=fun e σ' w'=>e = .normal/\∃ (b:Nat) (ρ:Env),σ'=upds ρ [(0,Pq b2),(1,Pq b3),(2,Pq b),(3,B true)]/\St w0 w' [cBlk b [I 2] 119,cBlk b3 [y] 35,cBlk b2 [x] 4] R) rfl ((Fr.enter (args:=#[Pq b2,Pq b3]) (n:=12) rfl).put (d:=5) (by decide) flt) ?_) ?_
  · simp [recoverD,hu]
  · refine s_val (x_ta rfl) ?_
    refine zM (.tuple #[.agg #[I 2],.bool true]) rfl ?_
    refine zX [.agg #[I 2],.bool true] (.agg #[I 2]) rfl rfl ?_
    refine zX [.agg #[I 2],.bool true] (.bool true) rfl rfl ?_
    refine t_alloc (cs:=[I 0]) H Al119 rfl ?_
    intro b w1 H
    refine t_sw 0 0 [I 2] (.agg #[I 2]) H rfl rfl Sz119 rfl rfl rfl rfl ?_
    intro w2 H
    refine zA (B true) rfl ?_
    exact s_nil ⟨rfl,b,_,upds_of _ _ ⟨rfl,rfl,rfl,rfl,trivial⟩,H⟩
  · rintro e a' w' ⟨σ',hF,rfl,b,ρ,rfl,H⟩
    refine wpS_of_wp (wp_mono ((wpIn_wide (n:=0)).1 ((?_:W Tryz.prog 12 _ (fun e _ w'=>e = .normal/\St w0 w' [cBlk b3 [I 2] 35,cBlk b2 [B false] 4] R) _ _) [] _ hF)) ?_)
    · refine W.seq ?_
      refine W.region rfl ?_
      refine zM (B true) rfl ?_
      refine s_nil ?_
      refine W.cond true rfl (fun _=>?_) (fun h=>by cases h)
      refine W.draw (fun W=>St w0 W [cBlk b [I 2] 119] R) [(0,true),(1,true),(2,false),(3,false)] mixed (by decide +kernel) rfl ?_
      intro w3 hx
      replace H:=H.ext hx
      refine ⟨H.pk [0],?_⟩
      refine d_q rfl (fun w' H=>x_fa (a:=Pq b) (v:=Pq b) rfl (fa_blk (o:=0) Fd119_0 Sz35)) ?_
      refine d_q rfl (fun w' H=>x_ld (p:=Pq b) (v:=I 2) rfl (ldb_sc Sc35 (H.bl 0) rfl)) ?_
      refine d_l rfl ?_
      refine t_sw 2 0 [B false] (B false) H rfl rfl Sz4 rfl rfl rfl rfl ?_
      intro w4 H
      refine s_nil ⟨H.pk [0],?_⟩
      refine d_l rfl ?_
      refine t_sw 1 0 [I 2] (I 2) H rfl rfl Sz35 rfl rfl rfl rfl ?_
      intro w5 H
      refine s_nil ⟨H.pk [0],?_⟩
      exact d_nil ⟨rfl,H.pk [1,2]⟩
    · rintro e a'' w'' ⟨s,hs,rfl,H'⟩
      exact ⟨hs.df,_,rfl,_,by simp [results,Tryz.results53]; rfl,⟨_,rfl⟩,rfl,H'⟩
set_option maxRecDepth 100000 in
set_option maxHeartbeats 16000000 in
theorem read_bad {R:List Chunk} {b_w_:Nat} {C_w__Site_Sections:Cells} {v_w__Site_Sections:Value} {C_w__Site_Marks:Cells} {v_w__Site_Marks:Value} {C_w__Site_Reaches:Cells} {v_w__Site_Reaches:Value} {b_w__carried:Nat} {C_row:Cells} {v_row:Value} {b_met:Nat} (w__Site_Sections:List Sect) (w__Site_Marks:List Mrk) (w__Site_Reaches:List Rch) (row:List Int) (met:List Bool) (hC_w__Site_Sections:Reads R C_w__Site_Sections) (hs_w__Site_Sections:Sl C_w__Site_Sections v_w__Site_Sections w__Site_Sections) (hC_w__Site_Marks:Reads R C_w__Site_Marks) (hs_w__Site_Marks:Sl C_w__Site_Marks v_w__Site_Marks w__Site_Marks) (hC_w__Site_Reaches:Reads R C_w__Site_Reaches) (hs_w__Site_Reaches:Sl C_w__Site_Reaches v_w__Site_Reaches w__Site_Reaches) (h_b_w_:Has R (cBlk b_w_ [v_w__Site_Sections,v_w__Site_Marks,v_w__Site_Reaches,.map (some b_w__carried)] 177)) (hC_row:Reads R C_row) (hs_row:Sl C_row v_row row) (hl_met:met.length=16) {r2:Bool} (hx3z:(M.opt (!((row.length:Int)==0)) (zag row (fun xqz=>zai xqz w__Site_Sections w__Site_Marks w__Site_Reaches)) false).Ends r2) (hbad:(((row.length:Int)==0)||(!r2))=true) (w:World) (H:St w w [cBlk b_met (encB met) 121] R):Pan Tryz.prog 54 #[Pq b_w_,v_row,Pq b_met] w fun v w'=>v=flt/\St w w' [] R:=by
 refine pan_of_W Tryz.func54 rfl rfl rfl ?_
 refine W.seq ?_
 refine W.region rfl ?_
 refine t_box (v:=Pq b_w_) (cs:=[Pq b_w_]) H rfl rfl ?_
 intro b_1 w1z H
 refine zA (B false) rfl ?_
 refine s_nil ?_
 refine W.seq ?_
 refine W.seq ?_
 refine W.region rfl ?_
 refine zM v_row rfl ?_
 have hl2z:=(hs_row).len_le
 refine s_val (x_lenS T28.und rfl hs_row) ?_
 refine zC (row.length:Int) 0 ((row.length:Int)==0) rfl rfl rfl ?_
 refine zM (B ((row.length:Int)==0)) rfl ?_
 refine g_val (!((row.length:Int)==0)) (gy_f rfl) (fun hg=>x_mv (v:=v_row) rfl) ?_
 refine g_val (!((row.length:Int)==0)) (gy_f rfl) (fun hg=>x_mf (fs:=[]) (cs:=[Pq b_1]) rfl rfl) ?_
 refine t_gcall (!((row.length:Int)==0)) (gy_f rfl) cf99 (B r2) (fun _=>[v_row,.func (.func 100) #[] #[Pq b_1]]) (fun hg=>lst2 (gd_of (c:=!((row.length:Int)==0)) hg (v_row)) (gd_of (c:=!((row.length:Int)==0)) hg (.func (.func 100) #[] #[Pq b_1]))) H (fun hg=>(zbH row (fun xqz=>zai xqz w__Site_Sections w__Site_Marks w__Site_Reaches) (hC_row.app _) hs_row ⟨100,[Pq b_1],rfl,cf100,fun wqz Lqz Cqz vqz xqz bqz hsqz hCqz hAqz hpqz=>by obtain rfl:=Arg.int hAqz; exact (zdb xqz w__Site_Sections w__Site_Marks w__Site_Reaches (Reads.app (hC_w__Site_Sections.app _) _) hs_w__Site_Sections (Reads.app (hC_w__Site_Marks.app _) _) hs_w__Site_Marks (Reads.app (hC_w__Site_Reaches.app _) _) hs_w__Site_Reaches (Has.app (h_b_w_.app _) _) (Has.app (Has.here (k:=0) rfl) _) hpqz wqz (St.refl hsqz)).mono fun vqz wqz ⟨yqz,hrqz,hvqz,Hqz⟩=>by subst hrqz; exact ⟨hvqz,Hqz⟩⟩ (M.e_opt hx3z hg) _ (H.give (A:=[]) rfl)).mono fun v_ w_ ⟨y_,hr_,hv_,H_⟩=>by subst hr_; exact ⟨hv_,H.via H_⟩) ?_
 intro w4z H
 refine g_val (!((row.length:Int)==0)) (gy_f rfl) (fun hg=>x_not (b:=r2) (gd_of (c:=!((row.length:Int)==0)) hg (B r2))) ?_
 refine s_val (x_por (b:=(row.length:Int)==0) (r:=!r2) rfl rfl (fun hb=>gd_of (c:=!((row.length:Int)==0)) (by first | exact hb | (rw [hb]; rfl) | simp_all) (B (!r2)))) ?_
 refine s_nil ?_
 refine W.cond (((row.length:Int)==0)||(!r2)) rfl (fun _=>?_) (fun c=>by rw [hbad] at c; cases c)
 refine W.regionP rfl ?_
 refine sp_val (fun _ h=>by cases h) (x_bld (ps:=[(0,I 2)]) (zs:=[I 0]) (L':=[I 2]) rfl Tryz.underlying119 Al119 rfl (Bd119 Tryz.underlying119) (.cons (cs:=[I 2]) rfl rfl rfl rfl rfl<|.nil)) ?_
 refine sp_val (fun _ h=>by cases h) (x_mi rfl) ?_
 refine sp_panic (v:=.agg #[I 2]) (t:=119) rfl ?_
 exact ⟨flt,rfl,rfl,H.pk []⟩
set_option maxRecDepth 100000 in
set_option maxHeartbeats 16000000 in
theorem Proves_bad {R:List Chunk} {C_s_Sections:Cells} {v_s_Sections:Value} {C_s_Marks:Cells} {v_s_Marks:Value} {C_s_Reaches:Cells} {v_s_Reaches:Value} {C_rows:Cells} {v_rows:Value} (s_Sections:List Sect) (s_Marks:List Mrk) (s_Reaches:List Rch) (many:Int) (rows:List (List Int)) (hC_s_Sections:Reads R C_s_Sections) (hs_s_Sections:Sl C_s_Sections v_s_Sections s_Sections) (hC_s_Marks:Reads R C_s_Marks) (hs_s_Marks:Sl C_s_Marks v_s_Marks s_Marks) (hC_s_Reaches:Reads R C_s_Reaches) (hs_s_Reaches:Sl C_s_Reaches v_s_Reaches s_Reaches) (hC_rows:Reads R C_rows) (hs_rows:Sl C_rows v_rows rows) (hO:(zad s_Sections s_Marks s_Reaches).Ends (.inr 0)) (h16:rows.length<=16) (k:Nat) (hk:k<rows.length)
    (hgood:∀ j,j<k->∀ met:List Bool,met.length=16->∃ r,(zaZ s_Sections s_Marks s_Reaches (rows.getD j ([])) met).Ends r)
    (hbad:∃ r2,(M.opt (!(((rows.getD k ([])).length:Int)==0)) (zag (rows.getD k ([])) (fun xqz=>zai xqz s_Sections s_Marks s_Reaches)) false).Ends r2/\((((rows.getD k ([])).length:Int)==0)||(!r2))=true)
    (w:World) (H:St w w [] R):Ret Tryz.prog 12 #[.agg #[v_s_Sections,v_s_Marks,v_s_Reaches],I many,v_rows] w fun v w'=>v = .tuple #[B false,I 2]/\St w w' [] R:=by
 refine ret_of_WB Tryz.func12 rfl rfl rfl ?_
 refine WB.seq ?_
 refine W.region rfl ?_
 refine t_box (v:=.agg #[v_s_Sections,v_s_Marks,v_s_Reaches]) (cs:=[v_s_Sections,v_s_Marks,v_s_Reaches]) H rfl rfl ?_
 intro b_1 w1z H
 refine t_alloc (cs:=[B false]) H Al4 rfl ?_
 intro b_2 w2z H
 refine t_alloc (cs:=[I 0]) H Al35 rfl ?_
 intro b_3 w3z H
 refine s_nil ?_
 refine WB.seq ?_
 refine W.region rfl ?_
 refine s_val (x_ld (p:=Pq b_1) (v:=.agg #[v_s_Sections,v_s_Marks,v_s_Reaches]) rfl (ldb_ag (ds:=[v_s_Sections,v_s_Marks,v_s_Reaches]) Ag27 Sz27 (H.bl 2) rfl rfl)) ?_
 refine s_call cf49 [.agg #[v_s_Sections,v_s_Marks,v_s_Reaches]] rfl (zap s_Sections s_Marks s_Reaches (hC_s_Sections.app _) hs_s_Sections (hC_s_Marks.app _) hs_s_Marks (hC_s_Reaches.app _) hs_s_Reaches hO _ (H.gt 3)) ?_
 rintro vq w6z (⟨r1,hr7z,hvq,H2_⟩ | ⟨r12,nb0_4,nb1_5,hr8z,hvq,H2_⟩)
 · cases hr7z
 obtain rfl:r12=0:=by cases hr8z; rfl
 subst vq
 replace H:=H.bk H2_
 clear H2_
 refine zM (.tuple #[Pq nb0_4,I 0]) rfl ?_
 refine zX [Pq nb0_4,I 0] (Pq nb0_4) rfl rfl ?_
 refine zX [Pq nb0_4,I 0] (I 0) rfl rfl ?_
 refine zA (Pq nb0_4) rfl ?_
 refine t_sw 2 0 [I 0] (I 0) H rfl rfl Sz35 rfl rfl rfl rfl ?_
 intro w22z H
 refine s_nil ?_
 refine WB.seq ?_
 refine W.block ?_
 refine W.seq ?_
 refine W.region rfl ?_
 refine s_val (x_ld (p:=Pq b_3) (v:=I 0) rfl (ldb_sc Sc35 (H.bl 2) rfl)) ?_
 refine zC 0 0 (0 != 0) rfl rfl rfl ?_
 refine zA (B (0 != 0)) rfl ?_
 refine s_nil ?_
 refine W.cond ((0:Int) != 0) rfl (fun c=>absurd c (by decide)) (fun _=>?_)
 refine W.seq ?_
 refine W.region rfl ?_
 refine zM v_rows rfl ?_
 have hl24z:=(hs_rows).len_le
 refine s_val (x_lenS T38.und rfl hs_rows) ?_
 refine zC (rows.length:Int) 16 (decide (16<(rows.length:Int))) rfl rfl rfl ?_
 refine zA (B (decide (16<(rows.length:Int)))) rfl ?_
 refine s_nil ?_
 refine W.cond (decide (16<(rows.length:Int))) rfl (fun c=>absurd (of_decide_eq_true c) (by omega)) (fun _=>?_)
 refine W.skip ?_
 refine WB.deferP (d:=25) (v:=.func (.func 53) #[] #[Pq b_2,Pq b_3]) (fv:=.func 53) (cap:=#[Pq b_2,Pq b_3]) (f:=53) (args:=#[Pq b_2,Pq b_3]) rfl rfl rfl rfl rfl (fun _=>x_mf (fs:=[]) (cs:=[Pq b_2,Pq b_3]) rfl rfl) (x_defer rfl) (x_invoke cf53) ?_
 refine W.seq ?_
 refine W.region rfl ?_
 refine t_alloc (cs:=encB (List.replicate 16 false)) H Al121 rfl ?_
 intro b_6 w30z H
 have hl_b_6:(List.replicate 16 false).length=16:=by simp
 refine s_nil ?_
 refine W.seq ?_
 refine W.region rfl ?_
 refine zM v_rows rfl ?_
 have hl31z:=(hs_rows).len_le
 refine s_val (x_lenS T38.und rfl hs_rows) ?_
 refine zM (I many) rfl ?_
 refine zC (rows.length:Int) many (decide ((rows.length:Int)<=many)) rfl rfl rfl ?_
 refine t_sw 4 0 [B (decide ((rows.length:Int)<=many))] (B (decide ((rows.length:Int)<=many))) H rfl rfl Sz4 rfl rfl rfl rfl ?_
 intro w32z H
 refine s_nil ?_
 refine W.seq ?_
 refine W.seq ?_
 refine W.region rfl ?_
 refine zM v_rows rfl ?_
 have hl33z:=(hs_rows).len_le
 refine s_val (x_lenS T38.und rfl hs_rows) ?_
 refine zM (I 0) rfl ?_
 refine s_nil ?_
 refine W.block ?_
 refine W.loop (fun m σ W=>∃ (s2:Bool) (ar:List Bool) (s3:Nat) (ρ:Env),σ=upds ρ [(3,Pq b_1),(6,Pq b_2),(7,Pq b_3),(8,Pq nb0_4),(9,Pq b_6),(30,v_rows),(31,I (rows.length:Int)),(32,I (s3:Int))]/\s3<=k/\m=k-s3/\St w W [cBlk b_6 (encB ar) 121,cBlk nb0_4 [v_s_Sections,v_s_Marks,v_s_Reaches,.map (some nb1_5)] 177,cMemI encSpt nb1_5 (zaa s_Sections s_Marks s_Reaches),cBlk b_3 [I 0] 35,cBlk b_2 [B s2] 4,cBlk b_1 [v_s_Sections,v_s_Marks,v_s_Reaches] 27] R/\ar.length=16) ?_ ?_
 ·exact ⟨_,decide ((rows.length:Int)<=many),List.replicate 16 false,0,_,upds_of _ _ ⟨rfl,rfl,rfl,rfl,rfl,rfl,rfl,rfl,trivial⟩,Nat.zero_le _,rfl,H,hl_b_6⟩
 ·rintro m39z σ w37z ⟨s2,ar,s3,ρ,rfl,hle,rfl,H,hl_ar⟩
  refine W.seq ?_
  refine W.region rfl ?_
  refine zC (s3:Int) (rows.length:Int) (decide ((s3:Int)<(rows.length:Int))) rfl rfl rfl ?_
  refine s_nil ?_
  refine W.seq ?_
  refine W.cond (decide ((s3:Int)<(rows.length:Int))) rfl (fun c44z=>?_) (fun c44z=>absurd (of_decide_eq_false c44z) (by omega))
  refine W.skip ?_
  refine W.seq ?_
  refine W.block ?_
  refine W.seq ?_
  refine W.region rfl ?_
  refine s_val (x_ix (a:=v_rows) (b:=I (s3:Int)) (v:=vat v_rows 1 (Int.toNat (s3:Int))) rfl rfl (Sl.ix (α:=List Int) T38.und T38.size hs_rows (by omega) (by omega))) ?_
  obtain ⟨u46z,ha_u46z,hs47z⟩:=List_at hs_rows (i:=(s3:Int)) (by omega) (by omega)
  replace hs47z:Sl _ u46z (rows.getD s3 ([])):=hs47z
  have hl_hs47z:=hs47z.len_le
  refine s_val (x_ld (p:=vat v_rows 1 (Int.toNat (s3:Int))) (v:=u46z) rfl (ld_sc Sc28 (At.mono (ha_u46z) (hC_rows.at H)))) ?_
  refine zA u46z rfl ?_
  refine s_nil ?_
  refine W.seq ?_
  by_cases e:s3=k
  · subst e
    obtain ⟨r2,hx,hb⟩:=hbad
    refine W.regionP rfl ?_
    refine sp_val (fun _ h=>by cases h) (x_mv (v:=Pq nb0_4) rfl) ?_
    refine sp_val (fun _ h=>by cases h) (x_mv (v:=u46z) rfl) ?_
    refine sp_call cf54 [Pq nb0_4,u46z,Pq b_6] rfl (read_bad s_Sections s_Marks s_Reaches (rows.getD s3 ([])) ar (hC_s_Sections.app _) hs_s_Sections (hC_s_Marks.app _) hs_s_Marks (hC_s_Reaches.app _) hs_s_Reaches (Has.here (k:=0) rfl) (hC_rows.app _) hs47z hl_ar hx hb _ (H.gt 5)) ?_
    rintro pv w50z ⟨rfl,H2_⟩
    replace H:=H.back (A:=[]) H2_ rfl
    replace H:=H.pk [2,3]
    refine ⟨flt,rfl,(catch_hit H).mono ?_⟩
    rintro e u' w' ⟨he,hu,H⟩
    have hb28z:=(H.bl 1)
    have hb29z:=(H.bl 0)
    exact ⟨he,hu,_,(resE_ofn (vs:=[B false,I 2]) rfl rfl (.cell (v:=B false) rfl (run_loadVar_sc Sc4 hb28z rfl)<|.cell (v:=I 2) rfl (run_loadVar_sc Sc35 hb29z rfl)<|.nil)),rfl,H.pk []⟩
  · obtain ⟨r49z,hx48z⟩:=hgood s3 (by omega) ar hl_ar
    refine W.region rfl ?_
    refine zM (Pq nb0_4) rfl ?_
    refine zM u46z rfl ?_
    refine s_call cf54 [Pq nb0_4,u46z,Pq b_6] rfl (zcY s_Sections s_Marks s_Reaches (rows.getD s3 ([])) ar (hC_s_Sections.app _) hs_s_Sections (hC_s_Marks.app _) hs_s_Marks (hC_s_Reaches.app _) hs_s_Reaches (Has.here (k:=0) rfl) (hC_rows.app _) hs47z hl_ar hx48z _ (H.gt 5)) ?_
    rintro vq w50z ⟨r2,q_b_met,hr51z,hvq,H2_,hf52z⟩
    subst hr51z
    subst vq
    replace H:=H.bk H2_
    clear H2_
    refine s_val (x_not (b:=r2) rfl) ?_
    refine s_nil ?_
    refine W.cond (!r2) rfl (fun c53z=>?_) (fun c53z=>?_)
    · refine W.region rfl ?_
      refine t_sw 4 0 [B false] (B false) H rfl rfl Sz4 rfl rfl rfl rfl ?_
      intro w54z H
      refine s_nil ?_
      refine W.region rfl ?_
      refine zR (s3:Int) 1 ((s3:Int)+1) rfl rfl rfl (by omega) ?_
      refine zM (I ((s3:Int)+1)) rfl ?_
      refine s_nil ?_
      exact ⟨k-(s3+1),by omega,false,q_b_met,s3+1,_,upds_of _ _ ⟨rfl,rfl,rfl,rfl,rfl,rfl,rfl,rfl,trivial⟩,by omega,rfl,H,hf52z⟩
    · refine W.skip ?_
      refine W.region rfl ?_
      refine zR (s3:Int) 1 ((s3:Int)+1) rfl rfl rfl (by omega) ?_
      refine zM (I ((s3:Int)+1)) rfl ?_
      refine s_nil ?_
      exact ⟨k-(s3+1),by omega,s2,q_b_met,s3+1,_,upds_of _ _ ⟨rfl,rfl,rfl,rfl,rfl,rfl,rfl,rfl,trivial⟩,by omega,rfl,H,hf52z⟩
end Go.Proofs.YtlemgioaakecpaaGreat
namespace Go.Nm
theorem M.uniq {α:Type} {m:M α} {a b:α} (h:m.Ends a) (h':m.Ends b):a=b:=by
  obtain ⟨n,h⟩:=h
  obtain ⟨k,h'⟩:=h'
  have key:∀ (x:α) (n j:Nat),m.run n=some x->m.run (n+j)=some x:=fun x n j hx=>by
    induction j with
    | zero=>exact hx
    | succ j ih=>exact m.mono _ _ ih
  have e1:=key a n k h
  have e2:=key b k n h'
  rw [Nat.add_comm] at e2
  exact Option.some.inj (e1.symm.trans e2)
/-- A row that is no row of marks. -/
def badRow (n:Nat) (row:List Int):Bool:=(row.length==0)||row.any (fun k=>decide (k<0)||decide ((n:Int)<=k))
theorem first_bad (n:Nat):∀ rows:List (List Int),rows.any (badRow n)=true->∃ k,k<rows.length/\badRow n (rows.getD k [])=true/\∀ j,j<k->badRow n (rows.getD j [])=false
  | [],h=>by cases h
  | r :: rs,h=>by
    cases hb:badRow n r with
    | true=>exact ⟨0,by simp,hb,fun j hj=>by omega⟩
    | false =>
      rw [List.any_cons,hb,Bool.false_or] at h
      obtain ⟨k,hk,h1,h2⟩:=first_bad n rs h
      exact ⟨k+1,by simpa using hk,by simpa using h1,fun j hj=>by
        match j with
        | 0=>simpa using hb
        | j+1=>simpa using h2 j (by omega)⟩
theorem row_isRow {n:Nat} {row:List Int} (h:badRow n row=false):row ≠ []/\∀ k∈row,0<=k/\k<n:=by
  unfold badRow at h
  rw [Bool.or_eq_false_iff,List.any_eq_false] at h
  refine ⟨fun e=>by rw [e] at h; exact Bool.noConfusion h.1,fun k hk=>?_⟩
  have:=h.2 k hk
  rw [Bool.or_eq_true,decide_eq_true_eq,decide_eq_true_eq] at this
  omega
end Go.Nm
namespace Go.Proofs.YtlemgioaakecpaaGreat
open Go Go.Nm
def zb5 (s_Sections:List Sect) (s_Marks:List Mrk) (s_Reaches:List Rch) (many:Int) (rows:List (List Int)):M (Bool × Int) :=
  M.bind (zad s_Sections s_Marks s_Reaches) fun x_=>match x_ with
  | .inl _=>zaj s_Sections s_Marks s_Reaches many rows
  | .inr _=>bif (decide (s_Marks.length<=16)&&decide (rows.length<=16))&&rows.any (badRow s_Marks.length) then M.pure (false,2) else zaj s_Sections s_Marks s_Reaches many rows
theorem opened_zero {S:List Sect} {M':List Mrk} {R':List Rch} {e:Int} (h:(zad S M' R').Ends (.inr e)):e=0:=by
  unfold zad at h
  obtain ⟨c,_,h⟩:=M.e_bind h
  cases hb:(c != 0) with
  | true =>
    have:=M.e_pure (M.e_t h hb)
    cases this
  | false =>
    have:=M.e_pure (M.e_f h hb)
    cases this
    rfl
theorem bad_every {S:List Sect} {M':List Mrk} {R':List Rch} {row:List Int} (h:badRow M'.length row=true):∃ r2,(M.opt (!((row.length:Int)==0)) (zag row (fun xqz=>zai xqz S M' R')) false).Ends r2/\(((row.length:Int)==0)||(!r2))=true:=by
  unfold badRow at h
  by_cases e:row.length=0
  · refine ⟨false,M.i_opt (fun q=>?_) (fun _=>rfl),by rw [Bool.not_false,Bool.or_true]⟩
    rw [e] at q
    exact absurd q (by decide)
  · have h:row.any (fun k=>decide (k<0)||decide ((M'.length:Int)<=k))=true:=by
      rw [Bool.or_eq_true] at h
      rcases h with h | h
      · exact absurd (by simpa using h) e
      · exact h
    obtain ⟨r,h1,h2⟩:=every_all row (fun xqz=>zai xqz S M' R') (fun t=>decide (0<=t)&&decide (t<=(M'.length:Int)-1)) (fun t _=>by
      unfold zai zab
      exact M.i_bind M.i_pure M.i_pure)
    have hr:r=false:=by
      cases r with
      | false=>rfl
      | true =>
        obtain ⟨t,ht,hb⟩:=List.any_eq_true.1 h
        have:=h2.1 rfl t ht
        rw [Bool.and_eq_true,decide_eq_true_eq,decide_eq_true_eq] at this
        rw [Bool.or_eq_true,decide_eq_true_eq,decide_eq_true_eq] at hb
        omega
    subst hr
    exact ⟨false,M.i_opt (fun _=>h1) (fun _=>rfl),by rw [Bool.not_false,Bool.or_true]⟩
theorem zdy {R:List Chunk} {C_s_Sections:Cells} {v_s_Sections:Value} {C_s_Marks:Cells} {v_s_Marks:Value} {C_s_Reaches:Cells} {v_s_Reaches:Value} {C_rows:Cells} {v_rows:Value} (s_Sections:List Sect) (s_Marks:List Mrk) (s_Reaches:List Rch) (many:Int) (rows:List (List Int)) (hC_s_Sections:Reads R C_s_Sections) (hs_s_Sections:Sl C_s_Sections v_s_Sections s_Sections) (hC_s_Marks:Reads R C_s_Marks) (hs_s_Marks:Sl C_s_Marks v_s_Marks s_Marks) (hC_s_Reaches:Reads R C_s_Reaches) (hs_s_Reaches:Sl C_s_Reaches v_s_Reaches s_Reaches) (hC_rows:Reads R C_rows) (hs_rows:Sl C_rows v_rows rows) {r:(Bool × Int)} (hM:(zb5 s_Sections s_Marks s_Reaches many rows).Ends r) (w:World) (H:St w w [] R):Ret Tryz.prog 12 #[.agg #[v_s_Sections,v_s_Marks,v_s_Reaches],I many,v_rows] w fun v w'=>∃ (y0:Bool) (y1:Int),(y0,y1)=r/\v = .tuple #[B y0,I y1]/\St w w' [] R:=by
  obtain ⟨x,hx,hM⟩:=M.e_bind hM
  match x,hx,hM with
  | .inl _,_,hM=>exact zcU s_Sections s_Marks s_Reaches many rows hC_s_Sections hs_s_Sections hC_s_Marks hs_s_Marks hC_s_Reaches hs_s_Reaches hC_rows hs_rows hM w H
  | .inr e,hx,hM =>
    obtain rfl:=opened_zero hx
    dsimp only at hM
    cases hb:((decide (s_Marks.length<=16)&&decide (rows.length<=16))&&rows.any (badRow s_Marks.length)) with
    | false=>exact zcU s_Sections s_Marks s_Reaches many rows hC_s_Sections hs_s_Sections hC_s_Marks hs_s_Marks hC_s_Reaches hs_s_Reaches hC_rows hs_rows (M.e_f hM hb) w H
    | true =>
      obtain rfl:=M.e_pure (M.e_t hM hb)
      rw [Bool.and_eq_true,Bool.and_eq_true,decide_eq_true_eq,decide_eq_true_eq] at hb
      obtain ⟨k,hk,h1,h2⟩:=first_bad s_Marks.length rows hb.2
      refine Ret.mono (Proves_bad s_Sections s_Marks s_Reaches many rows hC_s_Sections hs_s_Sections hC_s_Marks hs_s_Marks hC_s_Reaches hs_s_Reaches hC_rows hs_rows hx hb.1.2 k hk (fun j hj met hm=>?_) (bad_every h1) w H) ?_
      · have g:=row_isRow (h2 j hj)
        obtain ⟨r,hr,_⟩:=read_out (S:=s_Sections) (R':=s_Reaches) hb.1.1 g.1 g.2 hm
        exact ⟨r,hr⟩
      · rintro v w' ⟨rfl,H'⟩
        exact ⟨false,2,rfl,rfl,H'⟩
end Go.Proofs.YtlemgioaakecpaaGreat
