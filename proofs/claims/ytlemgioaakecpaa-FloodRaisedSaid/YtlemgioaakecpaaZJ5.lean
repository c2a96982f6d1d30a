/- Part 5 of the texts on which the proof rests. Conditions: none. -/
import Derived.KernelRfl
import Derived.Test.YtlemgioaakecpaaZJ4
set_option linter.unusedVariables false
set_option linter.unusedSimpArgs false
set_option linter.unusedSectionVars false
section
set_option maxRecDepth 100000
set_option maxHeartbeats 16000000
namespace Go.Proofs.Ytlemgioaakecpaa
open Go Go.Nm
def zaG (a : Int) (ai : List Sect) (aa : List Mrk) (aj : List Rch) (ab : List Sect) (ac : List Mrk) (ae : List Rch) (ak : (Int × (List Sect) × (List Mrk) × (List Rch) × (List Sect) × (List Mrk) × (List Rch) × (Int -> Option Bool) × (List Int) × (List Int)) -> M (Bool × (Int -> Option Bool) × (List Int) × (List Int))) : (Nat × (Int -> Option Bool) × (List Int) × (List Int)) -> M ((Nat × (Int -> Option Bool) × (List Int) × (List Int)) ⊕ (((Int -> Option Bool) × (List Int) × (List Int)) ⊕ ((Int -> Option Bool) × (List Int) × (List Int)))) := fun (s, mp, s2, s3) =>
  bif decide ((s : Int) < (aa.length : Int)) then (
  M.bind (zag ab ac ae a (s : Int)) fun r2 =>
  bif ((!r2) || ((mp (s : Int)).getD false)) then (
  M.pure (.inl (s + 1, mp, s2, s3)))
  else (
  M.grd (decide ((0 : Int) <= (s : Int)) && decide ((s : Int) < (16 : Int))) <|
  bif !((s3.getD s 0) == (-1)) then (
  M.bind (ak ((s3.getD s 0), ai, aa, aj, ab, ac, ae, (updF mp (s : Int) true), s2, s3)) fun (r3, ag, q0, q1) =>
  bif (((s3.getD s 0) == (-1)) || r3) then (
  M.grd (decide ((0 : Int) <= a) && decide (a < (16 : Int))) <|
  M.pure (.inr (.inl (ag, q0.set (Int.toNat a) (s : Int), q1.set s a))))
  else (
  M.pure (.inl (s + 1, ag, q0, q1))))
  else (
  bif (((s3.getD s 0) == (-1)) || false) then (
  M.grd (decide ((0 : Int) <= a) && decide (a < (16 : Int))) <|
  M.pure (.inr (.inl (updF mp (s : Int) true, s2.set (Int.toNat a) (s : Int), s3.set s a))))
  else (
  M.pure (.inl (s + 1, updF mp (s : Int) true, s2, s3))))))
  else (
  M.pure (.inr (.inr (mp, s2, s3))))
def zal (aa : (Int × (List Sect) × (List Mrk) × (List Rch) × (List Sect) × (List Mrk) × (List Rch) × (Int -> Option Bool) × (List Int) × (List Int)) -> M (Bool × (Int -> Option Bool) × (List Int) × (List Int))) : (Int × (List Sect) × (List Mrk) × (List Rch) × (List Sect) × (List Mrk) × (List Rch) × (Int -> Option Bool) × (List Int) × (List Int)) -> M (Bool × (Int -> Option Bool) × (List Int) × (List Int)) := fun (a, ab, ac, ae, ag, ai, aj, ak, am, ao) =>
  M.bind (M.iter (zaG a ab ac ae ag ai aj aa) (0, ak, am, ao)) fun x_ => match x_ with
  | (.inl (ap, l, l2)) => (
  M.pure (true, ap, l, l2))
  | (.inr (aq, l3, l4)) => (
  M.pure (false, aq, l3, l4))
theorem zcA : M.Mon zal := by
  intro n f g h a
  obtain ⟨a, aa, ab, ac, ae, ag, ai, aj, ak, am⟩ := a
  simp only [zal, zaG]
  repeat' (first | exact M.le_same _ _ | exact h _ | refine M.le_grd ?_ | refine M.le_if ?_ ?_ | refine M.le_bind ?_ (fun x => ?_) | refine M.le_opt ?_ | refine M.le_iter (fun x => ?_) _ | refine zcX (M.le_yl (fun s_ a_ => ?_)) _ _ _ | (rename_i x; cases x) | (rename_i x; obtain ⟨_, _⟩ := x))
def zbr (a : Int) (aa : List Sect) (ab : List Mrk) (ac : List Rch) (ae : List Sect) (ag : List Mrk) (ai : List Rch) (aj : Int -> Option Bool) (ak : List Int) (am : List Int) : M (Bool × (Int -> Option Bool) × (List Int) × (List Int)) := M.fix zal zcA (a, aa, ab, ac, ae, ag, ai, aj, ak, am)
theorem zdg (n_ : Nat) : ∀ {R : List Chunk} {ap : Nat} {ag : Nat} {aO : Cells} {aP : Value} {aQ : Cells} {aE : Value} {aR : Cells} {aS : Value} {bj : Nat} {ak : Nat} {ay : Nat} {aT : Cells} {aU : Value} {aV : Cells} {aW : Value} {aX : Cells} {aY : Value} {bm : Nat} {ai : Nat} {ab : Nat} {ac : Nat} {aa : Nat} {am : Nat} (a : Int) (az : List Sect) (aj : List Mrk) (aA : List Rch) (av : List Sect) (aw : List Mrk) (ax : List Rch) (aF : Int -> Option Bool) (aB : List Int) (aC : List Int) (bn : Reads R aO) (bo : Sl aO aP az) (bp : Reads R aQ) (aG : Sl aQ aE aj) (bq : Reads R aR) (br : Sl aR aS aA) (aZ : Has R (cBlk ag [aP, aE, aS, .map (some bj)] 99)) (a6 : Has R (cBlk ap [Pq ag] 72)) (a7 : Reads R aT) (a8 : Sl aT aU av) (ba : Reads R aV) (bb : Sl aV aW aw) (bc : Reads R aX) (bf : Sl aX aY ax) (bg : Has R (cBlk ay [aU, aW, aY, .map (some bm)] 99)) (bh : Has R (cBlk ak [.func (.func 23) #[Pq ay] #[]] 77)) (aH : Has R (cBlk ai [.map (some ab)] 133)) (bt : aB.length = 16) (bu : aC.length = 16) (ao : Has R (cBlk ac [Pq aa] 100)) (bi : Has R (cBlk am [.func (.func 64) #[] #[Pq ap, Pq ak, Pq ai, Pq ac, Pq am]] 118)) {r : (Bool × (Int -> Option Bool) × (List Int) × (List Int))} (hM : (M.fixN zal n_ (a, az, aj, aA, av, aw, ax, aF, aB, aC)).Ends r) (w : World) (H : St w w [cMap I B ab aF, cBlk aa (List.flatten [[], encF (α := Int) aB, encF (α := Int) aC]) 104] R), Ret Try.prog 64 #[I a, Pq ap, Pq ak, Pq ai, Pq ac, Pq am] w fun v w' => ∃ (y0 : Bool) (y1 : Int -> Option Bool) (y2 : List Int) (y3 : List Int), (y0, y1, y2, y3) = r /\ v = B y0 /\ St w w' [cMap I B ab y1, cBlk aa (List.flatten [[], encF (α := Int) y2, encF (α := Int) y3]) 104] R /\ y2.length = 16 /\ y3.length = 16 := by
  induction n_ with
  | zero => intro R ap ag aO aP aQ aE aR aS bj ak ay aT aU aV aW aX aY bm ai ab ac aa am a az aj aA av aw ax aF aB aC bn bo bp aG bq br aZ a6 a7 a8 ba bb bc bf bg bh aH bt bu ao bi r hM w H; exact (M.e_fail hM).elim
  | succ n_ ih =>
    intro R ap ag aO aP aQ aE aR aS bj ak ay aT aU aV aW aX aY bm ai ab ac aa am a az aj aA av aw ax aF aB aC bn bo bp aG bq br aZ a6 a7 a8 ba bb bc bf bg bh aH bt bu ao bi r hM w H
    refine ret_of_W Try.func64 rfl rfl rfl ?_
    refine W.seq ?_
    refine W.region rfl ?_
    refine zA (B false) rfl ?_
    refine s_nil ?_
    refine W.seq ?_
    refine W.seq ?_
    refine W.region rfl ?_
    refine s_val (x_ld (p := Pq ap) (v := Pq ag) rfl (ldb_sc Sc72 (a6.blk H) rfl)) ?_
    refine s_val (x_nc (a := ⟨ag, 0, none⟩) rfl) ?_
    refine s_val (x_fa (a := Pq ag) (v := Pq ag) rfl (fa_blk (o := 0) Fd99_0 Sz27)) ?_
    refine s_val (x_fa (a := Pq ag) (v := Oq ag 1) rfl (fa_blk (o := 0) Fd27_1 Sz24)) ?_
    refine s_val (x_ld (p := Oq ag 1) (v := aE) rfl (ldb_sc Sc24 (aZ.blk H) rfl)) ?_
    have bV := (aG).len_le
    refine s_val (x_lenS T24.und rfl aG) ?_
    refine zM (I 0) rfl ?_
    refine s_nil ?_
    refine W.block ?_
    obtain ⟨bI, bv, bw⟩ := M.e_bind hM
    obtain ⟨bW, bv⟩ := M.e_iter bv
    refine W.loop (fun m σ W => ∃ (s : Nat) (mp : Int -> Option Bool) (s2 : List Int) (s3 : List Int) (ρ : Env), σ = upds ρ [(0, I a), (2, Pq ak), (3, Pq ai), (4, Pq ac), (5, Pq am), (14, I (aj.length : Int)), (15, I (s : Int))] /\ M.iterN (zaG a az aj aA av aw ax (M.fixN zal n_)) m (s, mp, s2, s3) = some bI /\ St w W [cMap I B ab mp, cBlk aa (List.flatten [[], encF (α := Int) s2, encF (α := Int) s3]) 104] R /\ s2.length = 16 /\ s3.length = 16) ?_ ?_
    ·exact ⟨_, 0, aF, aB, aC, _, upds_of _ _ ⟨rfl, rfl, rfl, rfl, rfl, rfl, rfl, trivial⟩, bv, H, bt, bu⟩
    rintro bX σ bY ⟨s, mp, s2, s3, ρ, rfl, bF, H, aq, au⟩
    obtain ⟨bx, bz, bZ, hM, aD⟩ := M.e_iterN bF
    simp only [zaG] at hM
    clear bF
    refine W.seq ?_
    refine W.region rfl ?_
    refine zC (s : Int) (aj.length : Int) (decide ((s : Int) < (aj.length : Int))) rfl rfl rfl ?_
    refine s_nil ?_
    refine W.seq ?_
    refine W.cond (decide ((s : Int) < (aj.length : Int))) rfl (fun aI => ?_) (fun aI => ?_)
    ·replace hM := M.e_t hM aI
     simp only [qy1, qy2, qy3, qy4, qy5, qy6, ne_eq, qy7] at aI
     refine W.skip ?_
     refine W.seq ?_
     refine W.block ?_
     refine W.seq ?_
     refine W.region rfl ?_
     refine zM (I (s : Int)) rfl ?_
     refine zA (I (s : Int)) rfl ?_
     refine s_nil ?_
     refine W.seq ?_
     refine W.seq ?_
     refine W.region rfl ?_
     refine s_val (x_ld (p := Pq ak) (v := .func (.func 23) #[Pq ay] #[]) rfl (ldb_sc Sc77 (bh.blk H) rfl)) ?_
     refine zM (I a) rfl ?_
     refine zM (I (s : Int)) rfl ?_
     obtain ⟨b3, bJ, hM⟩ := M.e_bind hM
     refine s_callm (f := 23) (fs := [Pq ay]) rfl cf23 [I a, I (s : Int)] rfl (zar av aw ax a (s : Int) (a7.app _) a8 (ba.app _) bb (bc.app _) bf (bg.app _) bJ _ (H.gt 2)) ?_
     rintro vq b4 ⟨r2, bK, hvq, aJ⟩
     subst bK
     subst vq
     try dsimp only at hM
     replace H := H.bk aJ
     clear aJ
     refine s_val (x_not (b := r2) rfl) ?_
     refine zM (B (!r2)) rfl ?_
     refine g_val (!(!r2)) (gy_f rfl) (fun hg => x_ld (p := Pq ai) (v := .map (some ab)) rfl (ldb_sc Sc133 (aH.blk H) rfl)) ?_
     refine g_val (!(!r2)) (gy_f rfl) (fun hg => x_mv (v := I (s : Int)) rfl) ?_
     refine g_val (!(!r2)) (gy_f rfl) (fun hg => q_look (kenc := I) (venc := B) (f := mp) (k := (s : Int)) (v := B ((mp (s : Int)).getD false)) keyIntB Try.underlying133 Al4 (by exact (gd_of (c := !(!r2)) hg (.map (some ab)))) (by exact (gd_of (c := !(!r2)) hg (I (s : Int)))) (H.get (k := 0) rfl) false (by rw [if_neg (by decide), bool_val])) ?_
     refine s_val (x_por (b := !r2) (r := (mp (s : Int)).getD false) rfl rfl (fun hb => gd_of (c := !(!r2)) (by first | exact hb | (rw [hb]; rfl) | simp_all) (B ((mp (s : Int)).getD false)))) ?_
     refine s_nil ?_
     refine W.cond ((!r2) || ((mp (s : Int)).getD false)) rfl (fun bA => ?_) (fun bA => ?_)
     ·replace hM := M.e_t hM bA
      refine W.exit ?_
      refine W.region rfl ?_
      refine zR (s : Int) 1 ((s : Int) + 1) rfl rfl rfl (by omega) ?_
      refine zM (I ((s : Int) + 1)) rfl ?_
      refine s_nil ?_
      exact ⟨bx, bz, s + 1, mp, s2, s3, _, upds_of _ _ ⟨rfl, rfl, rfl, rfl, rfl, rfl, rfl, trivial⟩, M.e_inl hM aD, H, aq, au⟩
     replace hM := M.e_f hM bA
     refine W.skip ?_
     refine W.seq ?_
     refine W.region rfl ?_
     refine s_val (x_ld (p := Pq ai) (v := .map (some ab)) rfl (ldb_sc Sc133 (aH.blk H) rfl)) ?_
     refine zM (I (s : Int)) rfl ?_
     refine t_mapu (i := 0) (kenc := I) (venc := B) (f := mp) (k := (s : Int)) (v := true) (L' := [cMap I B ab (updF mp (s : Int) true), cBlk aa (List.flatten [[], encF (α := Int) s2, encF (α := Int) s3]) 104]) keyIntB Try.underlying133 H rfl rfl rfl rfl rfl ?_
     intro b5 H
     refine s_nil ?_
     refine W.seq ?_
     refine W.draw (fun W => St w W [] R) [(0, true), (1, true), (2, true), (3, true), (4, true), (5, false), (6, true), (7, true), (8, true), (9, true), (10, true), (11, true), (12, true), (13, true), (14, false), (15, false), (16, true)] mixed (by decide +kernel) rfl ?_
     intro b6 ae
     replace H := H.ext ae
     clear ae
     refine ⟨(H.pk []), ?_⟩
     refine d_q rfl (fun w' H => x_ld (p := Pq ac) (v := Pq aa) rfl (ldb_sc Sc100 (ao.blk H) rfl)) ?_
     refine d_q rfl (fun w' H => x_mv (v := I (s : Int)) rfl) ?_
     refine d_q rfl (fun w' H => x_nc (a := ⟨aa, 0, none⟩) rfl) ?_
     refine d_q rfl (fun w' H => x_fa (a := Pq aa) (v := Oq aa 16) rfl (fa_blk (o := 0) Fd104_1 Sz102)) ?_
     obtain ⟨bL, hM⟩ := M.e_grd hM
     simp only [Bool.and_eq_true, decide_eq_true_eq] at bL
     refine d_q rfl (fun w' H => x_ix (a := Oq aa 16) (b := I (s : Int)) (v := .pointer (some ⟨aa, 16 + Int.toNat (s : Int) * 1, none⟩)) rfl rfl (run_indexS Try.underlying102 Sz3 (by omega) (by omega))) ?_
     refine d_l rfl ?_
     refine s_val (x_ld (p := .pointer (some ⟨aa, 16 + Int.toNat (s : Int) * 1, none⟩)) (v := I (s3.getD s 0)) rfl (ldS (α := Int) (k := 2) (off := 16) (i := s) (f := 0) (sz := 1) 0 Sc3 (H.bl 1) rfl (sgo2 aq rfl) rfl (by decide) (by have aK := au; omega) (by omega) rfl)) ?_
     refine s_nil ⟨(H.pk []), ?_⟩
     refine d_q rfl (fun w' H => x_cmp (kd := .i64) (a := s3.getD s 0) (b := -1) (r := (s3.getD s 0) == (-1)) rfl rfl rfl) ?_
     refine d_q rfl (fun w' H => x_mv (v := B ((s3.getD s 0) == (-1))) rfl) ?_
     refine d_qg (!((s3.getD s 0) == (-1))) rfl (gy_f rfl) (fun hg => (fun w' H => x_ld (p := Pq am) (v := .func (.func 64) #[] #[Pq ap, Pq ak, Pq ai, Pq ac, Pq am]) rfl (ldb_sc Sc118 (bi.blk H) rfl))) ?_
     refine d_qg (!((s3.getD s 0) == (-1))) rfl (gy_f rfl) (fun hg => (fun w' H => x_ld (p := Pq ac) (v := Pq aa) rfl (ldb_sc Sc100 (ao.blk H) rfl))) ?_
     refine d_qg (!((s3.getD s 0) == (-1))) rfl (gy_f rfl) (fun hg => (fun w' H => x_mv (v := I (s : Int)) rfl)) ?_
     refine d_qg (!((s3.getD s 0) == (-1))) rfl (gy_f rfl) (fun hg => (fun w' H => x_nc (a := ⟨aa, 0, none⟩) (gd_of (c := !((s3.getD s 0) == (-1))) hg (Pq aa)))) ?_
     refine d_qg (!((s3.getD s 0) == (-1))) rfl (gy_f rfl) (fun hg => (fun w' H => x_fa (a := Pq aa) (v := Oq aa 16) (gd_of (c := !((s3.getD s 0) == (-1))) hg (Pq aa)) (fa_blk (o := 0) Fd104_1 Sz102))) ?_
     refine d_qg (!((s3.getD s 0) == (-1))) rfl (gy_f rfl) (fun hg => (fun w' H => x_ix (a := Oq aa 16) (b := I (s : Int)) (v := .pointer (some ⟨aa, 16 + Int.toNat (s : Int) * 1, none⟩)) (gd_of (c := !((s3.getD s 0) == (-1))) hg (Oq aa 16)) (gd_of (c := !((s3.getD s 0) == (-1))) hg (I (s : Int))) (run_indexS Try.underlying102 Sz3 (by first | omega | (have ae := hg; simp at ae; omega)) (by first | omega | (have ae := hg; simp at ae; omega))))) ?_
     refine d_l rfl ?_
     refine g_val (!((s3.getD s 0) == (-1))) (gy_f rfl) (fun hg => x_ld (p := .pointer (some ⟨aa, 16 + Int.toNat (s : Int) * 1, none⟩)) (v := I (s3.getD s 0)) (gd_of (c := !((s3.getD s 0) == (-1))) hg (.pointer (some ⟨aa, 16 + Int.toNat (s : Int) * 1, none⟩))) (ldS (α := Int) (k := 2) (off := 16) (i := s) (f := 0) (sz := 1) 0 Sc3 (H.bl 1) rfl (sgo2 aq rfl) rfl (by decide) (by have aK := au; first | omega | (have ae := hg; simp at ae; omega)) (by omega) rfl)) ?_
     refine s_nil ⟨(H.pk []), ?_⟩
     refine d_l rfl ?_
     refine g_splitV (!((s3.getD s 0) == (-1))) (B false) (gy_f rfl) (fun aL => ?_) (fun aL => ?_)
     ·replace hM := M.e_t hM aL
      obtain ⟨b7, bM, hM⟩ := M.e_bind hM
      refine s_callv (f := 64) (by exact (gd_of (c := !((s3.getD s 0) == (-1))) aL (.func (.func 64) #[] #[Pq ap, Pq ak, Pq ai, Pq ac, Pq am]))) cf64 [I (s3.getD s 0)] (by exact (lst1 (gd_of (c := !((s3.getD s 0) == (-1))) aL (I (s3.getD s 0))))) (ih (s3.getD s 0) az aj aA av aw ax (updF mp (s : Int) true) s2 s3 (bn.app _) bo (bp.app _) aG (bq.app _) br (aZ.app _) (a6.app _) (a7.app _) a8 (ba.app _) bb (bc.app _) bf (bg.app _) (bh.app _) (aH.app _) aq au (ao.app _) (bi.app _) bM _ (H.gt 0)) ?_
      rintro vq b8 ⟨r3, aM, q0, q1, bN, hvq, aJ, bB, bC⟩
      subst bN
      subst vq
      try dsimp only at hM
      replace H := H.bk aJ
      clear aJ
      refine s_nil ⟨(H.pk []), ?_⟩
      refine d_q rfl (fun w' H => x_por (b := (s3.getD s 0) == (-1)) (r := r3) rfl rfl (fun _ => rfl)) ?_
      refine d_nil ?_
      refine W.cond (((s3.getD s 0) == (-1)) || r3) rfl (fun bD => ?_) (fun bD => ?_)
      ·replace hM := M.e_t hM bD
       refine W.seq ?_
       refine W.draw (fun W => St w W [cMap I B ab aM] R) [(0, true), (1, true), (2, true), (3, true), (4, true), (5, true), (6, true), (7, true), (8, true), (10, true), (11, true), (9, false), (12, true), (13, false)] mixed (by decide +kernel) rfl ?_
       intro b9 ae
       replace H := H.ext ae
       clear ae
       refine ⟨(H.pk [0]), ?_⟩
       refine d_q rfl (fun w' H => x_ld (p := Pq ac) (v := Pq aa) rfl (ldb_sc Sc100 (ao.blk H) rfl)) ?_
       refine d_q rfl (fun w' H => x_mv (v := I a) rfl) ?_
       refine d_q rfl (fun w' H => x_ld (p := Pq ac) (v := Pq aa) rfl (ldb_sc Sc100 (ao.blk H) rfl)) ?_
       refine d_q rfl (fun w' H => x_mv (v := I (s : Int)) rfl) ?_
       refine d_q rfl (fun w' H => x_mv (v := I (s : Int)) rfl) ?_
       refine d_q rfl (fun w' H => x_mv (v := I a) rfl) ?_
       refine d_q rfl (fun w' H => x_nc (a := ⟨aa, 0, none⟩) rfl) ?_
       refine d_q rfl (fun w' H => x_fa (a := Pq aa) (v := Pq aa) rfl (fa_blk (o := 0) Fd104_0 Sz102)) ?_
       obtain ⟨bO, hM⟩ := M.e_grd hM
       simp only [Bool.and_eq_true, decide_eq_true_eq] at bO
       refine d_q rfl (fun w' H => x_ix (a := Pq aa) (b := I a) (v := .pointer (some ⟨aa, 0 + Int.toNat a * 1, none⟩)) rfl rfl (run_indexS Try.underlying102 Sz3 (by omega) (by omega))) ?_
       refine d_q rfl (fun w' H => x_nc (a := ⟨aa, 0, none⟩) rfl) ?_
       refine d_q rfl (fun w' H => x_fa (a := Pq aa) (v := Oq aa 16) rfl (fa_blk (o := 0) Fd104_1 Sz102)) ?_
       refine d_l rfl ?_
       refine t_stS (α := Int) (kc := 1) (b := aa) (k := 1) (off := 0) (i := (Int.toNat a)) (f := 0) (sz := 1) (segs := [[], encF (α := Int) q0, encF (α := Int) q1]) (segs' := [[], encF (α := Int) (q0.set (Int.toNat a) (s : Int)), encF (α := Int) q1]) (l := q0) (l' := q0.set (Int.toNat a) (s : Int)) (vs := [I (s : Int)]) (L' := [cMap I B ab aM, cBlk aa (List.flatten [[], encF (α := Int) (q0.set (Int.toNat a) (s : Int)), encF (α := Int) q1]) 104]) H rfl rfl rfl Sz3 rfl rfl rfl rfl (sgo1 rfl) rfl rfl (by have aK := bB; omega) (by omega) 0 (s : Int) rfl rfl rfl rfl ?_
       intro cb H
       have bG : (q0.set (Int.toNat a) (s : Int)).length = 16 := List.length_set.trans bB
       refine s_nil ⟨(H.pk [0]), ?_⟩
       refine d_q rfl (fun w' H => x_ix (a := Oq aa 16) (b := I (s : Int)) (v := .pointer (some ⟨aa, 16 + Int.toNat (s : Int) * 1, none⟩)) rfl rfl (run_indexS Try.underlying102 Sz3 (by omega) (by omega))) ?_
       refine d_l rfl ?_
       refine t_stS (α := Int) (kc := 1) (b := aa) (k := 2) (off := 16) (i := s) (f := 0) (sz := 1) (segs := [[], encF (α := Int) (q0.set (Int.toNat a) (s : Int)), encF (α := Int) q1]) (segs' := [[], encF (α := Int) (q0.set (Int.toNat a) (s : Int)), encF (α := Int) (q1.set s a)]) (l := q1) (l' := q1.set s a) (vs := [I a]) (L' := [cMap I B ab aM, cBlk aa (List.flatten [[], encF (α := Int) (q0.set (Int.toNat a) (s : Int)), encF (α := Int) (q1.set s a)]) 104]) H rfl rfl rfl Sz3 rfl rfl rfl rfl (sgo2 bG rfl) rfl rfl (by have aK := bC; omega) (by omega) 0 a rfl rfl rfl rfl ?_
       intro cc H
       have bP : (q1.set s a).length = 16 := List.length_set.trans bC
       refine s_nil ⟨(H.pk [0]), ?_⟩
       refine d_nil ?_
       refine W.seq ?_
       refine W.region rfl ?_
       refine zA (B true) rfl ?_
       refine s_nil ?_
       refine W.ret ?_
       have bQ := M.e_inr hM aD
       subst bQ
       replace hM := bw
       try dsimp only at hM
       have aN := M.e_pure hM
       exact ⟨_, resE_tmp rfl, ⟨true, aM, (q0.set (Int.toNat a) (s : Int)), (q1.set s a), aN, rfl, H, bG, bP⟩⟩
      replace hM := M.e_f hM bD
      refine W.skip ?_
      refine W.region rfl ?_
      refine zR (s : Int) 1 ((s : Int) + 1) rfl rfl rfl (by omega) ?_
      refine zM (I ((s : Int) + 1)) rfl ?_
      refine s_nil ?_
      exact ⟨bx, bz, s + 1, aM, q0, q1, _, upds_of _ _ ⟨rfl, rfl, rfl, rfl, rfl, rfl, rfl, trivial⟩, M.e_inl hM aD, H, bB, bC⟩
     replace hM := M.e_f hM aL
     refine s_nil ⟨(H.pk []), ?_⟩
     refine d_q rfl (fun w' H => x_por (b := (s3.getD s 0) == (-1)) (r := false) rfl rfl (fun hb => gd_of (c := !((s3.getD s 0) == (-1))) (by first | exact hb | (rw [hb]; rfl) | simp_all) (B false))) ?_
     refine d_nil ?_
     refine W.cond (((s3.getD s 0) == (-1)) || false) rfl (fun bE => ?_) (fun bE => ?_)
     ·replace hM := M.e_t hM bE
      refine W.seq ?_
      refine W.draw (fun W => St w W [cMap I B ab (updF mp (s : Int) true)] R) [(0, true), (1, true), (2, true), (3, true), (4, true), (5, true), (6, true), (7, true), (8, true), (10, true), (11, true), (9, false), (12, true), (13, false)] mixed (by decide +kernel) rfl ?_
      intro cd ae
      replace H := H.ext ae
      clear ae
      refine ⟨(H.pk [0]), ?_⟩
      refine d_q rfl (fun w' H => x_ld (p := Pq ac) (v := Pq aa) rfl (ldb_sc Sc100 (ao.blk H) rfl)) ?_
      refine d_q rfl (fun w' H => x_mv (v := I a) rfl) ?_
      refine d_q rfl (fun w' H => x_ld (p := Pq ac) (v := Pq aa) rfl (ldb_sc Sc100 (ao.blk H) rfl)) ?_
      refine d_q rfl (fun w' H => x_mv (v := I (s : Int)) rfl) ?_
      refine d_q rfl (fun w' H => x_mv (v := I (s : Int)) rfl) ?_
      refine d_q rfl (fun w' H => x_mv (v := I a) rfl) ?_
      refine d_q rfl (fun w' H => x_nc (a := ⟨aa, 0, none⟩) rfl) ?_
      refine d_q rfl (fun w' H => x_fa (a := Pq aa) (v := Pq aa) rfl (fa_blk (o := 0) Fd104_0 Sz102)) ?_
      obtain ⟨bR, hM⟩ := M.e_grd hM
      simp only [Bool.and_eq_true, decide_eq_true_eq] at bR
      refine d_q rfl (fun w' H => x_ix (a := Pq aa) (b := I a) (v := .pointer (some ⟨aa, 0 + Int.toNat a * 1, none⟩)) rfl rfl (run_indexS Try.underlying102 Sz3 (by omega) (by omega))) ?_
      refine d_q rfl (fun w' H => x_nc (a := ⟨aa, 0, none⟩) rfl) ?_
      refine d_q rfl (fun w' H => x_fa (a := Pq aa) (v := Oq aa 16) rfl (fa_blk (o := 0) Fd104_1 Sz102)) ?_
      refine d_l rfl ?_
      refine t_stS (α := Int) (kc := 1) (b := aa) (k := 1) (off := 0) (i := (Int.toNat a)) (f := 0) (sz := 1) (segs := [[], encF (α := Int) s2, encF (α := Int) s3]) (segs' := [[], encF (α := Int) (s2.set (Int.toNat a) (s : Int)), encF (α := Int) s3]) (l := s2) (l' := s2.set (Int.toNat a) (s : Int)) (vs := [I (s : Int)]) (L' := [cMap I B ab (updF mp (s : Int) true), cBlk aa (List.flatten [[], encF (α := Int) (s2.set (Int.toNat a) (s : Int)), encF (α := Int) s3]) 104]) H rfl rfl rfl Sz3 rfl rfl rfl rfl (sgo1 rfl) rfl rfl (by have aK := aq; omega) (by omega) 0 (s : Int) rfl rfl rfl rfl ?_
      intro ce H
      have bH : (s2.set (Int.toNat a) (s : Int)).length = 16 := List.length_set.trans aq
      refine s_nil ⟨(H.pk [0]), ?_⟩
      refine d_q rfl (fun w' H => x_ix (a := Oq aa 16) (b := I (s : Int)) (v := .pointer (some ⟨aa, 16 + Int.toNat (s : Int) * 1, none⟩)) rfl rfl (run_indexS Try.underlying102 Sz3 (by omega) (by omega))) ?_
      refine d_l rfl ?_
      refine t_stS (α := Int) (kc := 1) (b := aa) (k := 2) (off := 16) (i := s) (f := 0) (sz := 1) (segs := [[], encF (α := Int) (s2.set (Int.toNat a) (s : Int)), encF (α := Int) s3]) (segs' := [[], encF (α := Int) (s2.set (Int.toNat a) (s : Int)), encF (α := Int) (s3.set s a)]) (l := s3) (l' := s3.set s a) (vs := [I a]) (L' := [cMap I B ab (updF mp (s : Int) true), cBlk aa (List.flatten [[], encF (α := Int) (s2.set (Int.toNat a) (s : Int)), encF (α := Int) (s3.set s a)]) 104]) H rfl rfl rfl Sz3 rfl rfl rfl rfl (sgo2 bH rfl) rfl rfl (by have aK := au; omega) (by omega) 0 a rfl rfl rfl rfl ?_
      intro cf H
      have bS : (s3.set s a).length = 16 := List.length_set.trans au
      refine s_nil ⟨(H.pk [0]), ?_⟩
      refine d_nil ?_
      refine W.seq ?_
      refine W.region rfl ?_
      refine zA (B true) rfl ?_
      refine s_nil ?_
      refine W.ret ?_
      have bT := M.e_inr hM aD
      subst bT
      replace hM := bw
      try dsimp only at hM
      have aN := M.e_pure hM
      exact ⟨_, resE_tmp rfl, ⟨true, (updF mp (s : Int) true), (s2.set (Int.toNat a) (s : Int)), (s3.set s a), aN, rfl, H, bH, bS⟩⟩
     replace hM := M.e_f hM bE
     refine W.skip ?_
     refine W.region rfl ?_
     refine zR (s : Int) 1 ((s : Int) + 1) rfl rfl rfl (by omega) ?_
     refine zM (I ((s : Int) + 1)) rfl ?_
     refine s_nil ?_
     exact ⟨bx, bz, s + 1, updF mp (s : Int) true, s2, s3, _, upds_of _ _ ⟨rfl, rfl, rfl, rfl, rfl, rfl, rfl, trivial⟩, M.e_inl hM aD, H, aq, au⟩
    replace hM := M.e_f hM aI
    simp only [qy1, qy2, qy3, qy4, qy5, qy6, ne_eq, qy7] at aI
    refine W.exit ?_
    have bU := M.e_inr hM aD
    subst bU
    replace hM := bw
    try dsimp only at hM
    refine W.seq ?_
    refine W.region rfl ?_
    refine zA (B false) rfl ?_
    refine s_nil ?_
    refine W.ret ?_
    have aN := M.e_pure hM
    exact ⟨_, resE_tmp rfl, ⟨false, mp, s2, s3, aN, rfl, H, aq, au⟩⟩
theorem zc3 {R : List Chunk} {ac : Nat} {ay : Nat} {az : Cells} {aA : Value} {aB : Cells} {aC : Value} {aD : Cells} {aE : Value} {aM : Nat} {ae : Nat} {aF : Nat} {aG : Cells} {aH : Value} {aI : Cells} {aJ : Value} {aK : Cells} {aL : Value} {aN : Nat} {ag : Nat} {ai : Nat} {aj : Nat} {ak : Nat} {am : Nat} (a : Int) (ao : List Sect) (ap : List Mrk) (aq : List Rch) (au : List Sect) (av : List Mrk) (aw : List Rch) (ax : Int -> Option Bool) (aa : List Int) (ab : List Int) (aO : Reads R az) (aP : Sl az aA ao) (aQ : Reads R aB) (aR : Sl aB aC ap) (aS : Reads R aD) (aT : Sl aD aE aq) (aU : Has R (cBlk ay [aA, aC, aE, .map (some aM)] 99)) (aV : Has R (cBlk ac [Pq ay] 72)) (aW : Reads R aG) (aX : Sl aG aH au) (aY : Reads R aI) (aZ : Sl aI aJ av) (a6 : Reads R aK) (a7 : Sl aK aL aw) (a8 : Has R (cBlk aF [aH, aJ, aL, .map (some aN)] 99)) (ba : Has R (cBlk ae [.func (.func 23) #[Pq aF] #[]] 77)) (bb : Has R (cBlk ag [.map (some ai)] 133)) (bc : aa.length = 16) (bf : ab.length = 16) (bg : Has R (cBlk aj [Pq ak] 100)) (bh : Has R (cBlk am [.func (.func 64) #[] #[Pq ac, Pq ae, Pq ag, Pq aj, Pq am]] 118)) {r : (Bool × (Int -> Option Bool) × (List Int) × (List Int))} (hM : (zbr a ao ap aq au av aw ax aa ab).Ends r) (w : World) (H : St w w [cMap I B ai ax, cBlk ak (List.flatten [[], encF (α := Int) aa, encF (α := Int) ab]) 104] R) : Ret Try.prog 64 #[I a, Pq ac, Pq ae, Pq ag, Pq aj, Pq am] w fun v w' => ∃ (y0 : Bool) (y1 : Int -> Option Bool) (y2 : List Int) (y3 : List Int), (y0, y1, y2, y3) = r /\ v = B y0 /\ St w w' [cMap I B ai y1, cBlk ak (List.flatten [[], encF (α := Int) y2, encF (α := Int) y3]) 104] R /\ y2.length = 16 /\ y3.length = 16 := by
  obtain ⟨n_, hM⟩ := M.e_fix hM
  exact zdg n_ a ao ap aq au av aw ax aa ab aO aP aQ aR aS aT aU aV aW aX aY aZ a6 a7 a8 ba bb bc bf bg bh hM w H

def zb8 : ((List Int) × (List Int) × Nat) -> M (((List Int) × (List Int) × Nat) ⊕ ((List Int) × (List Int))) := fun (s, s2, s3) =>
  bif decide ((s3 : Int) < 16) then (
  M.grd (decide ((0 : Int) <= (s3 : Int)) && decide ((s3 : Int) < (16 : Int))) <|
  M.pure (.inl (s.set s3 (-1), s2.set s3 (-1), s3 + 1)))
  else (
  M.pure (.inr (s, s2)))
def za2 (ab : List Sect) (aa : List Mrk) (ac : List Rch) : ((List Int) × (List Int) × Nat) -> M (((List Int) × (List Int) × Nat) ⊕ ((List Int) × (List Int))) := fun (s4, s5, s6) =>
  bif decide ((s6 : Int) < (aa.length : Int)) then (
  M.bind (zbr (s6 : Int) ab aa ac ab aa ac (fun _ => none) s4 s5) fun (r2, ae, q0, q1) =>
  M.pure (.inl (q0, q1, s6 + 1)))
  else (
  M.pure (.inr (s4, s5)))
def zbj (aa : List Sect) (ab : List Mrk) (ac : List Rch) : M ((List Int) × (List Int)) :=
  M.bind (M.iter (zb8) (List.replicate 16 0, List.replicate 16 0, 0)) fun (l, l2) =>
  M.bind (M.iter (za2 aa ab ac) (l, l2, 0)) fun (l3, l4) =>
  M.pure (l3, l4)
theorem zdb {R : List Chunk} {ab : Nat} {aB : Cells} {aC : Value} {aD : Cells} {av : Value} {aE : Cells} {aF : Value} {aW : Nat} (aj : List Sect) (ag : List Mrk) (ak : List Rch) (aG : Reads R aB) (aH : Sl aB aC aj) (aI : Reads R aD) (aq : Sl aD av ag) (aJ : Reads R aE) (aK : Sl aE aF ak) (aw : Has R (cBlk ab [aC, av, aF, .map (some aW)] 99)) {r : ((List Int) × (List Int))} (hM : (zbj aj ag ak).Ends r) (w : World) (H : St w w [] R) : Ret Try.prog 39 #[Pq ab] w fun v w' => ∃ (y0 : List Int) (y1 : List Int) (aL : Nat), (y0, y1) = r /\ v = Pq aL /\ St w w' [cBlk aL (List.flatten [[], encF (α := Int) y0, encF (α := Int) y1]) 104] R /\ y0.length = 16 /\ y1.length = 16 := by
 refine ret_of_W Try.func39 rfl rfl rfl ?_
 refine W.seq ?_
 refine W.region rfl ?_
 refine t_box (v := Pq ab) (cs := [Pq ab]) H rfl rfl ?_
 intro ae br H
 refine zA (.pointer none) rfl ?_
 refine s_nil ?_
 refine W.seq ?_
 refine W.region rfl ?_
 refine s_val (x_bld (ps := []) (zs := (List.flatten [[], encF (α := Int) (List.replicate 16 0), encF (α := Int) (List.replicate 16 0)])) (L' := (List.flatten [[], encF (α := Int) (List.replicate 16 0), encF (α := Int) (List.replicate 16 0)])) rfl Try.underlying104 Al104 rfl (Bd104 Try.underlying104) (.nil)) ?_
 refine t_box (v := .agg (List.flatten [[], encF (α := Int) (List.replicate 16 0), encF (α := Int) (List.replicate 16 0)]).toArray) (cs := (List.flatten [[], encF (α := Int) (List.replicate 16 0), encF (α := Int) (List.replicate 16 0)])) H rfl rfl ?_
 intro aa bt H
 refine t_alloc (cs := [.pointer none]) H Al100 rfl ?_
 intro ac bu H
 refine t_sw 0 0 [Pq aa] (Pq aa) H rfl rfl Sz100 rfl rfl rfl rfl ?_
 intro bv H
 refine s_nil ?_
 refine W.seq ?_
 refine W.seq ?_
 refine W.region rfl ?_
 refine zM (I 0) rfl ?_
 refine s_nil ?_
 refine W.block ?_
 obtain ⟨aX, ax, aY⟩ := M.e_bind hM
 obtain ⟨aZ, ax⟩ := M.e_iter ax
 refine W.loop (fun m σ W => ∃ (s : List Int) (s2 : List Int) (s3 : Nat) (ρ : Env), σ = upds ρ [(1, Pq ae), (3, Pq ac), (11, I (s3 : Int))] /\ M.iterN (zb8) m (s, s2, s3) = some aX /\ St w W [cBlk ac [Pq aa] 100, cBlk aa (List.flatten [[], encF (α := Int) s, encF (α := Int) s2]) 104, cBlk ae [Pq ab] 72] R /\ s.length = 16 /\ s2.length = 16) ?_ ?_
 ·exact ⟨_, List.replicate 16 0, List.replicate 16 0, 0, _, upds_of _ _ ⟨rfl, rfl, rfl, trivial⟩, ax, H, List.length_replicate, List.length_replicate⟩
 rintro bw σ bx ⟨s, s2, s3, ρ, rfl, aM, H, ay, az⟩
 obtain ⟨a6, a7, bz, hM, aN⟩ := M.e_iterN aM
 simp only [zb8] at hM
 clear aM
 refine W.seq ?_
 refine W.region rfl ?_
 refine zC (s3 : Int) 16 (decide ((s3 : Int) < 16)) rfl rfl rfl ?_
 refine s_nil ?_
 refine W.seq ?_
 refine W.cond (decide ((s3 : Int) < 16)) rfl (fun am => ?_) (fun am => ?_)
 ·replace hM := M.e_t hM am
  simp only [qy1, qy2, qy3, qy4, qy5, qy6, ne_eq, qy7] at am
  refine W.skip ?_
  refine W.seq ?_
  refine W.block ?_
  refine W.seq ?_
  refine W.region rfl ?_
  refine zM (I (s3 : Int)) rfl ?_
  refine zA (I (s3 : Int)) rfl ?_
  refine s_nil ?_
  refine W.draw (fun W => St w W [cBlk ac [Pq aa] 100, cBlk ae [Pq ab] 72] R) [(0, true), (1, true), (2, true), (3, true), (4, true), (5, true), (6, true), (8, true), (9, true), (7, false), (10, true), (11, false)] mixed (by decide +kernel) rfl ?_
  intro bA aO
  replace H := H.ext aO
  clear aO
  refine ⟨(H.pk [0, 2]), ?_⟩
  refine d_q rfl (fun w' H => x_ld (p := Pq ac) (v := Pq aa) rfl (ldb_sc Sc100 (H.bl 0) rfl)) ?_
  refine d_q rfl (fun w' H => x_mv (v := I (s3 : Int)) rfl) ?_
  refine d_q rfl (fun w' H => x_ld (p := Pq ac) (v := Pq aa) rfl (ldb_sc Sc100 (H.bl 0) rfl)) ?_
  refine d_q rfl (fun w' H => x_mv (v := I (s3 : Int)) rfl) ?_
  refine d_q rfl (fun w' H => x_nc (a := ⟨aa, 0, none⟩) rfl) ?_
  refine d_q rfl (fun w' H => x_fa (a := Pq aa) (v := Pq aa) rfl (fa_blk (o := 0) Fd104_0 Sz102)) ?_
  obtain ⟨a8, hM⟩ := M.e_grd hM
  simp only [Bool.and_eq_true, decide_eq_true_eq] at a8
  refine d_q rfl (fun w' H => x_ix (a := Pq aa) (b := I (s3 : Int)) (v := .pointer (some ⟨aa, 0 + Int.toNat (s3 : Int) * 1, none⟩)) rfl rfl (run_indexS Try.underlying102 Sz3 (by omega) (by omega))) ?_
  refine d_q rfl (fun w' H => x_nc (a := ⟨aa, 0, none⟩) rfl) ?_
  refine d_q rfl (fun w' H => x_fa (a := Pq aa) (v := Oq aa 16) rfl (fa_blk (o := 0) Fd104_1 Sz102)) ?_
  refine d_l rfl ?_
  refine t_stS (α := Int) (kc := 1) (b := aa) (k := 1) (off := 0) (i := s3) (f := 0) (sz := 1) (segs := [[], encF (α := Int) s, encF (α := Int) s2]) (segs' := [[], encF (α := Int) (s.set s3 (-1)), encF (α := Int) s2]) (l := s) (l' := s.set s3 (-1)) (vs := [I (-1)]) (L' := [cBlk ac [Pq aa] 100, cBlk aa (List.flatten [[], encF (α := Int) (s.set s3 (-1)), encF (α := Int) s2]) 104, cBlk ae [Pq ab] 72]) H rfl rfl rfl Sz3 rfl rfl rfl rfl (sgo1 rfl) rfl rfl (by have ba := ay; omega) (by omega) 0 (-1) rfl rfl rfl rfl ?_
  intro bB H
  have aP : (s.set s3 (-1)).length = 16 := List.length_set.trans ay
  refine s_nil ⟨(H.pk [0, 2]), ?_⟩
  refine d_q rfl (fun w' H => x_ix (a := Oq aa 16) (b := I (s3 : Int)) (v := .pointer (some ⟨aa, 16 + Int.toNat (s3 : Int) * 1, none⟩)) rfl rfl (run_indexS Try.underlying102 Sz3 (by omega) (by omega))) ?_
  refine d_l rfl ?_
  refine t_stS (α := Int) (kc := 1) (b := aa) (k := 2) (off := 16) (i := s3) (f := 0) (sz := 1) (segs := [[], encF (α := Int) (s.set s3 (-1)), encF (α := Int) s2]) (segs' := [[], encF (α := Int) (s.set s3 (-1)), encF (α := Int) (s2.set s3 (-1))]) (l := s2) (l' := s2.set s3 (-1)) (vs := [I (-1)]) (L' := [cBlk ac [Pq aa] 100, cBlk aa (List.flatten [[], encF (α := Int) (s.set s3 (-1)), encF (α := Int) (s2.set s3 (-1))]) 104, cBlk ae [Pq ab] 72]) H rfl rfl rfl Sz3 rfl rfl rfl rfl (sgo2 aP rfl) rfl rfl (by have ba := az; omega) (by omega) 0 (-1) rfl rfl rfl rfl ?_
  intro bC H
  have bb : (s2.set s3 (-1)).length = 16 := List.length_set.trans az
  refine s_nil ⟨(H.pk [0, 2]), ?_⟩
  refine d_nil ?_
  refine W.region rfl ?_
  refine zR (s3 : Int) 1 ((s3 : Int) + 1) rfl rfl rfl (by omega) ?_
  refine zM (I ((s3 : Int) + 1)) rfl ?_
  refine s_nil ?_
  exact ⟨a6, a7, s.set s3 (-1), s2.set s3 (-1), s3 + 1, _, upds_of _ _ ⟨rfl, rfl, rfl, trivial⟩, M.e_inl hM aN, H, aP, bb⟩
 replace hM := M.e_f hM am
 simp only [qy1, qy2, qy3, qy4, qy5, qy6, ne_eq, qy7] at am
 refine W.exit ?_
 have bc := M.e_inr hM aN
 subst bc
 replace hM := aY
 try dsimp only at hM
 refine W.seq ?_
 refine W.region rfl ?_
 refine s_val (x_ld (p := Pq ae) (v := Pq ab) rfl (ldb_sc Sc72 (H.bl 2) rfl)) ?_
 refine s_val (x_mf (fs := [Pq ab]) (cs := []) rfl rfl) ?_
 refine t_alloc (cs := [.nilFunc]) H Al77 rfl ?_
 intro ai bD H
 refine t_sw 0 0 [.func (.func 23) #[Pq ab] #[]] (.func (.func 23) #[Pq ab] #[]) H rfl rfl Sz77 rfl rfl rfl rfl ?_
 intro bE H
 refine s_nil ?_
 refine W.seq ?_
 refine W.seq ?_
 refine W.region rfl ?_
 refine s_val (x_ld (p := Pq ae) (v := Pq ab) rfl (ldb_sc Sc72 (H.bl 3) rfl)) ?_
 refine s_val (x_nc (a := ⟨ab, 0, none⟩) rfl) ?_
 refine s_val (x_fa (a := Pq ab) (v := Pq ab) rfl (fa_blk (o := 0) Fd99_0 Sz27)) ?_
 refine s_val (x_fa (a := Pq ab) (v := Oq ab 1) rfl (fa_blk (o := 0) Fd27_1 Sz24)) ?_
 refine s_val (x_ld (p := Oq ab 1) (v := av) rfl (ldb_sc Sc24 (aw.blk H) rfl)) ?_
 have bF := (aq).len_le
 refine s_val (x_lenS T24.und rfl aq) ?_
 refine zM (I 0) rfl ?_
 refine s_nil ?_
 refine W.block ?_
 obtain ⟨bf, aA, bg⟩ := M.e_bind hM
 obtain ⟨aZ, aA⟩ := M.e_iter aA
 refine W.loop (fun m σ W => ∃ (s4 : List Int) (s5 : List Int) (s6 : Nat) (ρ : Env), σ = upds ρ [(1, Pq ae), (3, Pq ac), (5, Pq ai), (32, I (ag.length : Int)), (33, I (s6 : Int))] /\ M.iterN (za2 aj ag ak) m (s4, s5, s6) = some bf /\ St w W [cBlk ai [.func (.func 23) #[Pq ab] #[]] 77, cBlk ac [Pq aa] 100, cBlk aa (List.flatten [[], encF (α := Int) s4, encF (α := Int) s5]) 104, cBlk ae [Pq ab] 72] R /\ s4.length = 16 /\ s5.length = 16) ?_ ?_
 ·exact ⟨_, s, s2, 0, _, upds_of _ _ ⟨rfl, rfl, rfl, rfl, rfl, trivial⟩, aA, H, ay, az⟩
 rintro bG σ bH ⟨s4, s5, s6, ρ, rfl, aQ, H, aR, aS⟩
 obtain ⟨bh, bi, bI, hM, aT⟩ := M.e_iterN aQ
 simp only [za2] at hM
 clear aQ
 refine W.seq ?_
 refine W.region rfl ?_
 refine zC (s6 : Int) (ag.length : Int) (decide ((s6 : Int) < (ag.length : Int))) rfl rfl rfl ?_
 refine s_nil ?_
 refine W.seq ?_
 refine W.cond (decide ((s6 : Int) < (ag.length : Int))) rfl (fun ao => ?_) (fun ao => ?_)
 ·replace hM := M.e_t hM ao
  simp only [qy1, qy2, qy3, qy4, qy5, qy6, ne_eq, qy7] at ao
  refine W.skip ?_
  refine W.seq ?_
  refine W.block ?_
  refine W.seq ?_
  refine W.region rfl ?_
  refine zM (I (s6 : Int)) rfl ?_
  refine zA (I (s6 : Int)) rfl ?_
  refine s_nil ?_
  refine W.seq ?_
  refine W.region rfl ?_
  refine t_mkmap (κ := Int) (ν := Bool) I B H ?_
  intro aU bJ H
  refine t_alloc (cs := [.map none]) H Al133 rfl ?_
  intro au bK H
  refine t_sw 0 0 [.map (some aU)] (.map (some aU)) H rfl rfl Sz133 rfl rfl rfl rfl ?_
  intro bL H
  refine s_nil ?_
  refine W.seq ?_
  refine W.region rfl ?_
  refine t_alloc (cs := [.nilFunc]) H Al118 rfl ?_
  intro ap bM H
  refine s_nil ?_
  refine W.seq ?_
  refine W.region rfl ?_
  refine s_val (x_mf (fs := []) (cs := [Pq ae, Pq ai, Pq au, Pq ac, Pq ap]) rfl rfl) ?_
  refine t_sw 0 0 [.func (.func 64) #[] #[Pq ae, Pq ai, Pq au, Pq ac, Pq ap]] (.func (.func 64) #[] #[Pq ae, Pq ai, Pq au, Pq ac, Pq ap]) H rfl rfl Sz118 rfl rfl rfl rfl ?_
  intro bN H
  refine s_nil ?_
  refine W.region rfl ?_
  refine s_val (x_ld (p := Pq ap) (v := .func (.func 64) #[] #[Pq ae, Pq ai, Pq au, Pq ac, Pq ap]) rfl (ldb_sc Sc118 (H.bl 0) rfl)) ?_
  refine zM (I (s6 : Int)) rfl ?_
  obtain ⟨bO, bj, hM⟩ := M.e_bind hM
  refine s_callv (f := 64) rfl cf64 [I (s6 : Int)] rfl (zc3 (s6 : Int) aj ag ak aj ag ak (fun _ => none) s4 s5 (aG.app _) aH (aI.app _) aq (aJ.app _) aK (aw.app _) (Has.here (k := 4) rfl) (aG.app _) aH (aI.app _) aq (aJ.app _) aK (aw.app _) (Has.here (k := 2) rfl) (Has.here (k := 1) rfl) aR aS (Has.here (k := 3) rfl) (Has.here (k := 0) rfl) bj _ ((H.pk [2, 5, 0, 1, 3, 4, 6]).gt 5)) ?_
  rintro vq bP ⟨r2, bQ, q0, q1, bm, hvq, aV, bn, bo⟩
  subst bm
  subst vq
  try dsimp only at hM
  replace H := H.pk [2, 5, 0, 1, 3, 4, 6] |>.bk aV
  clear aV
  refine s_nil ?_
  replace H := H.pk [1, 4, 5, 6]
  refine W.region rfl ?_
  refine zR (s6 : Int) 1 ((s6 : Int) + 1) rfl rfl rfl (by omega) ?_
  refine zM (I ((s6 : Int) + 1)) rfl ?_
  refine s_nil ?_
  exact ⟨bh, bi, q0, q1, s6 + 1, _, upds_of _ _ ⟨rfl, rfl, rfl, rfl, rfl, trivial⟩, M.e_inl hM aT, (H.pk [1, 2, 0, 3]), bn, bo⟩
 replace hM := M.e_f hM ao
 simp only [qy1, qy2, qy3, qy4, qy5, qy6, ne_eq, qy7] at ao
 refine W.exit ?_
 have bp := M.e_inr hM aT
 subst bp
 replace hM := bg
 try dsimp only at hM
 replace H := H.pk [1, 2]
 refine W.seq ?_
 refine W.region rfl ?_
 refine s_val (x_ld (p := Pq ac) (v := Pq aa) rfl (ldb_sc Sc100 (H.bl 0) rfl)) ?_
 refine zA (Pq aa) rfl ?_
 refine s_nil ?_
 refine W.ret ?_
 have bq := M.e_pure hM
 exact ⟨_, resE_tmp rfl, ⟨s4, s5, aa, bq, rfl, (H.pk [1]), aR, aS⟩⟩

def zba (r0 : List Int) : (Int × (List Int)) -> M ((Int × (List Int)) ⊕ ((List Int) × (List Int))) := fun (s, l) =>
  bif s != (-1) then (
  M.grd (decide ((l.length + ([(s : Int)]).length) * 8 <= 140737488355328)) <|
  M.grd (decide ((0 : Int) <= s) && decide (s < (16 : Int))) <|
  M.pure (.inl (r0.getD (Int.toNat s) 0, l ++ ([(s : Int)]))))
  else (
  M.pure (.inr (l, l)))
def za4 (aa : List Mrk) (r0 : List Int) (r1 : List Int) : (Nat × (List (List Int))) -> M ((Nat × (List (List Int))) ⊕ ((List (List Int)) × (List (List Int)))) := fun (s2, l4) =>
  bif decide ((s2 : Int) < (aa.length : Int)) then (
  M.grd (decide ((0 : Int) <= (s2 : Int)) && decide ((s2 : Int) < (16 : Int))) <|
  bif (r1.getD s2 0) != (-1) then (
  M.pure (.inl (s2 + 1, l4)))
  else (
  M.bind (M.iter (zba r0) ((s2 : Int), [])) fun (l2, l3) =>
  M.grd (decide ((l4.length + ([l3]).length) * 24 <= 140737488355328)) <|
  M.pure (.inl (s2 + 1, l4 ++ ([l3])))))
  else (
  M.pure (.inr (l4, l4)))
def za1 (ab : List Sect) (aa : List Mrk) (ac : List Rch) : M (List (List Int)) :=
  M.bind (zbj ab aa ac) fun (r0, r1) =>
  M.bind (M.iter (za4 aa r0 r1) (0, [])) fun (l5, l6) =>
  M.pure l6
theorem zda {R : List Chunk} {ab : Nat} {aC : Cells} {aD : Value} {aE : Cells} {av : Value} {aF : Cells} {aG : Value} {aU : Nat} (aw : List Sect) (ae : List Mrk) (ax : List Rch) (aV : Reads R aC) (aW : Sl aC aD aw) (aX : Reads R aE) (ay : Sl aE av ae) (aY : Reads R aF) (aZ : Sl aF aG ax) (aH : Has R (cBlk ab [aD, av, aG, .map (some aU)] 99)) {r : (List (List Int))} (hM : (za1 aw ae ax).Ends r) (w : World) (H : St w w [] R) : Ret Try.prog 22 #[Pq ab] w fun v w' => ∃ (y0 : List (List Int)) (u0 : Value) (rr1 : List (Raw 0)) (aI : Base), y0 = r /\ v = u0 /\ St w w' [cOwn (α := Raw 0) 28 u0 rr1, cRo aI] R /\ RepR (α := List Int) aI.cells rr1 y0 := by
 refine ret_of_W Try.func22 rfl rfl rfl ?_
 refine W.seq ?_
 refine W.region rfl ?_
 refine zA (.slice none 0 0) rfl ?_
 refine s_nil ?_
 refine W.seq ?_
 refine W.region rfl ?_
 refine zM (Pq ab) rfl ?_
 obtain ⟨bG, a6, hM⟩ := M.e_bind hM
 refine s_call cf39 [Pq ab] rfl (zdb aw ae ax (aV.app _) aW (aX.app _) ay (aY.app _) aZ (aH.app _) a6 _ (H.gt 0)) ?_
 rintro vq bH ⟨r0, r1, aa, a7, hvq, aJ, aK, a8⟩
 subst a7
 subst vq
 try dsimp only at hM
 replace H := H.bk aJ
 clear aJ
 refine zA (Pq aa) rfl ?_
 refine s_nil ?_
 refine W.seq ?_
 refine W.region rfl ?_
 refine zA (.slice none 0 0) rfl ?_
 refine s_nil ?_
 refine W.seq ?_
 refine W.seq ?_
 refine W.region rfl ?_
 refine zM (Pq ab) rfl ?_
 refine s_val (x_nc (a := ⟨ab, 0, none⟩) rfl) ?_
 refine s_val (x_fa (a := Pq ab) (v := Pq ab) rfl (fa_blk (o := 0) Fd99_0 Sz27)) ?_
 refine s_val (x_fa (a := Pq ab) (v := Oq ab 1) rfl (fa_blk (o := 0) Fd27_1 Sz24)) ?_
 refine s_val (x_ld (p := Oq ab 1) (v := av) rfl (ldb_sc Sc24 (aH.blk H) rfl)) ?_
 have bI := (ay).len_le
 refine s_val (x_lenS T24.und rfl ay) ?_
 refine zM (I 0) rfl ?_
 refine s_nil ?_
 refine W.block ?_
 obtain ⟨aL, H⟩ := H.emptyE
 replace H := H.nilOwn (α := Raw 0) 28
 have ba : RepR (α := List Int) (n := 0) aL.cells [] [] := .nil
 obtain ⟨bb, az, bc⟩ := M.e_bind hM
 obtain ⟨bf, az⟩ := M.e_iter az
 refine W.loop (fun m σ W => ∃ (s2 : Nat) (l4 : List (List Int)) (ac : Value) (ag : List (Raw 0)) (B_l4 : Base) (ρ : Env), σ = upds ρ [(3, Pq aa), (4, ac), (15, I (ae.length : Int)), (16, I (s2 : Int))] /\ M.iterN (za4 ae r0 r1) m (s2, l4) = some bb /\ St w W [cOwn (α := Raw 0) 28 ac ag, cRo B_l4, cBlk aa (List.flatten [[], encF (α := Int) r0, encF (α := Int) r1]) 104] R /\ RepR (α := List Int) B_l4.cells ag l4) ?_ ?_
 ·exact ⟨_, 0, [], (.slice none 0 0), [], aL, _, upds_of _ _ ⟨rfl, rfl, rfl, rfl, trivial⟩, az, H, ba⟩
 rintro bJ σ bK ⟨s2, l4, ac, ag, B_l4, ρ, rfl, aM, H, ak⟩
 obtain ⟨aN, aO, bL, hM, aA⟩ := M.e_iterN aM
 simp only [za4] at hM
 clear aM
 refine W.seq ?_
 refine W.region rfl ?_
 refine zC (s2 : Int) (ae.length : Int) (decide ((s2 : Int) < (ae.length : Int))) rfl rfl rfl ?_
 refine s_nil ?_
 refine W.seq ?_
 refine W.cond (decide ((s2 : Int) < (ae.length : Int))) rfl (fun am => ?_) (fun am => ?_)
 ·replace hM := M.e_t hM am
  simp only [qy1, qy2, qy3, qy4, qy5, qy6, ne_eq, qy7] at am
  refine W.skip ?_
  refine W.seq ?_
  refine W.block ?_
  refine W.seq ?_
  refine W.region rfl ?_
  refine zM (I (s2 : Int)) rfl ?_
  refine zA (I (s2 : Int)) rfl ?_
  refine s_nil ?_
  refine W.seq ?_
  refine W.seq ?_
  refine W.region rfl ?_
  refine zM (Pq aa) rfl ?_
  refine zM (I (s2 : Int)) rfl ?_
  refine s_val (x_nc (a := ⟨aa, 0, none⟩) rfl) ?_
  refine s_val (x_fa (a := Pq aa) (v := Oq aa 16) rfl (fa_blk (o := 0) Fd104_1 Sz102)) ?_
  obtain ⟨bg, hM⟩ := M.e_grd hM
  simp only [Bool.and_eq_true, decide_eq_true_eq] at bg
  refine s_val (x_ix (a := Oq aa 16) (b := I (s2 : Int)) (v := .pointer (some ⟨aa, 16 + Int.toNat (s2 : Int) * 1, none⟩)) rfl rfl (run_indexS Try.underlying102 Sz3 (by omega) (by omega))) ?_
  refine s_val (x_ld (p := .pointer (some ⟨aa, 16 + Int.toNat (s2 : Int) * 1, none⟩)) (v := I (r1.getD s2 0)) rfl (ldS (α := Int) (k := 2) (off := 16) (i := s2) (f := 0) (sz := 1) 0 Sc3 (H.bl 2) rfl (sgo2 aK rfl) rfl (by decide) (by have bh := a8; omega) (by omega) rfl)) ?_
  refine zC (r1.getD s2 0) (-1) ((r1.getD s2 0) != (-1)) rfl rfl rfl ?_
  refine s_nil ?_
  refine W.cond ((r1.getD s2 0) != (-1)) rfl (fun ao => ?_) (fun ao => ?_)
  ·replace hM := M.e_t hM ao
   simp only [qy1, qy2, qy3, qy4, qy5, qy6, ne_eq, qy7] at ao
   refine W.exit ?_
   refine W.region rfl ?_
   refine zR (s2 : Int) 1 ((s2 : Int) + 1) rfl rfl rfl (by omega) ?_
   refine zM (I ((s2 : Int) + 1)) rfl ?_
   refine s_nil ?_
   exact ⟨aN, aO, s2 + 1, l4, ac, ag, B_l4, _, upds_of _ _ ⟨rfl, rfl, rfl, rfl, trivial⟩, M.e_inl hM aA, H, ak⟩
  replace hM := M.e_f hM ao
  simp only [qy1, qy2, qy3, qy4, qy5, qy6, ne_eq, qy7] at ao
  refine W.skip ?_
  refine W.seq ?_
  refine W.region rfl ?_
  refine zA (.slice none 0 0) rfl ?_
  refine s_nil ?_
  refine W.seq ?_
  refine W.seq ?_
  refine W.region rfl ?_
  refine zM (I (s2 : Int)) rfl ?_
  refine zA (I (s2 : Int)) rfl ?_
  refine s_nil ?_
  refine W.block ?_
  replace H := H.nilOwn (α := Int) 3
  obtain ⟨bi, aB, bj⟩ := M.e_bind hM
  obtain ⟨bf, aB⟩ := M.e_iter aB
  refine W.loop (fun m σ W => ∃ (s : Int) (l : List Int) (ai : Value) (ρ : Env), σ = upds ρ [(3, Pq aa), (4, ac), (6, ai), (7, I s), (15, I (ae.length : Int)), (16, I (s2 : Int))] /\ M.iterN (zba r0) m (s, l) = some bi /\ St w W [cOwn (α := Int) 3 ai l, cOwn (α := Raw 0) 28 ac ag, cRo B_l4, cBlk aa (List.flatten [[], encF (α := Int) r0, encF (α := Int) r1]) 104] R) ?_ ?_
  ·exact ⟨_, (s2 : Int), [], (.slice none 0 0), _, upds_of _ _ ⟨rfl, rfl, rfl, rfl, rfl, rfl, trivial⟩, aB, H⟩
  rintro bM σ bN ⟨s, l, ai, ρ, rfl, aP, H⟩
  obtain ⟨bm, bn, bO, hM, aQ⟩ := M.e_iterN aP
  simp only [zba] at hM
  clear aP
  refine W.seq ?_
  refine W.seq ?_
  refine W.region rfl ?_
  refine zM (I s) rfl ?_
  refine zC s (-1) (s != (-1)) rfl rfl rfl ?_
  refine s_nil ?_
  refine W.cond (s != (-1)) rfl (fun ap => ?_) (fun ap => ?_)
  ·replace hM := M.e_t hM ap
   simp only [qy1, qy2, qy3, qy4, qy5, qy6, ne_eq, qy7] at ap
   refine W.skip ?_
   refine W.seq ?_
   refine W.block ?_
   refine W.region rfl ?_
   refine zM ai rfl ?_
   refine zM (I s) rfl ?_
   refine t_bs (α := Int) T28 [I s] [(s : Int)] H rfl (.cons rfl (Flat.rep_enc _ (s : Int)) <| .nil) rfl rfl rfl ?_
   intro bo bP H
   obtain ⟨bp, hM⟩ := M.e_grd hM
   simp only [Bool.and_eq_true, decide_eq_true_eq] at bp
   refine t_app (α := Int) (k := 1) (l := l) (l2 := [(s : Int)]) (l' := l ++ ([(s : Int)])) (vy := bo) T28 rfl H rfl rfl rfl (H.os 0) (H.ol 0) (rfl) (by first | omega | (simp only [List.length_nil] at *; omega)) ?_
   intro aR bQ H
   replace H := H.nf
   refine zA aR rfl ?_
   refine s_nil ?_
   refine W.region rfl ?_
   refine zM (Pq aa) rfl ?_
   refine zM (I s) rfl ?_
   refine s_val (x_nc (a := ⟨aa, 0, none⟩) rfl) ?_
   refine s_val (x_fa (a := Pq aa) (v := Pq aa) rfl (fa_blk (o := 0) Fd104_0 Sz102)) ?_
   obtain ⟨bq, hM⟩ := M.e_grd hM
   simp only [Bool.and_eq_true, decide_eq_true_eq] at bq
   refine s_val (x_ix (a := Pq aa) (b := I s) (v := .pointer (some ⟨aa, 0 + Int.toNat s * 1, none⟩)) rfl rfl (run_indexS Try.underlying102 Sz3 (by omega) (by omega))) ?_
   refine s_val (x_ld (p := .pointer (some ⟨aa, 0 + Int.toNat s * 1, none⟩)) (v := I (r0.getD (Int.toNat s) 0)) rfl (ldS (α := Int) (k := 1) (off := 0) (i := (Int.toNat s)) (f := 0) (sz := 1) 0 Sc3 (H.bl 4) rfl (sgo1 rfl) rfl (by decide) (by have bh := aK; omega) (by omega) rfl)) ?_
   refine zA (I (r0.getD (Int.toNat s) 0)) rfl ?_
   refine s_nil ?_
   exact ⟨bm, bn, r0.getD (Int.toNat s) 0, l ++ ([(s : Int)]), aR, _, upds_of _ _ ⟨rfl, rfl, rfl, rfl, rfl, rfl, trivial⟩, M.e_inl hM aQ, (H.pk [1, 2, 3, 4])⟩
  replace hM := M.e_f hM ap
  simp only [qy1, qy2, qy3, qy4, qy5, qy6, ne_eq, qy7] at ap
  refine W.exit ?_
  have br := M.e_inr hM aQ
  subst br
  replace hM := bj
  try dsimp only at hM
  refine W.region rfl ?_
  refine zM ac rfl ?_
  refine zM ai rfl ?_
  obtain ⟨bR, H⟩ := H.emptyE
  obtain ⟨bS, H, bt⟩ := H.freezeE (k := 1) rfl
  replace H := H.nf
  have aq := bt
  obtain ⟨bu, H, bT, bv⟩ := H.joinE (i := 0) (j := 1) rfl rfl
  replace aq := aq.mono bv
  obtain ⟨aj, aS⟩ : ∃ r : Raw 0, r.cs = [ai] := ⟨Raw.of [ai] rfl (by simp only [List.all_cons, List.all_nil, Bool.true_and, Bool.and_true, Sl.oc aq]; try rfl), rfl⟩
  have bw : RepR (α := List Int) bu.cells [aj] [l] := .cons (by rw [aS]; exact ⟨_, rfl, aq⟩) <| .nil
  refine t_bs (α := Raw 0) T75 [ai] [aj] H rfl (.cons (by rw [show (Flat.enc aj : List Value) = aj.cs from rfl, aS]; exact Sl.cells aq) (Flat.rep_enc _ _) <| .nil) rfl rfl rfl ?_
  intro bx bU H
  replace H := H.nf
  obtain ⟨bz, hM⟩ := M.e_grd hM
  simp only [Bool.and_eq_true, decide_eq_true_eq] at bz
  have au := bw
  obtain ⟨bA, H, bB, bC⟩ := H.joinE (i := 5) (j := 1) rfl rfl
  replace ak := ak.mono bB
  replace au := au.mono bC
  have bD := ak.app au
  refine t_app (α := Raw 0) (k := 5) (l := ag) (l2 := [aj]) (l' := ag ++ ([aj])) (vy := bx) T75 rfl H rfl rfl rfl (H.os 1) (H.ol 1) (rfl) (by have a_ := ak.len; have b_ := au.len; (try simp only [List.length_nil] at *); first | omega | (rw [a_, b_]; omega)) ?_
  intro aT bV H
  replace H := H.nf
  refine zA aT rfl ?_
  refine s_nil ?_
  replace H := H.pk [0, 5, 6, 7]
  refine W.region rfl ?_
  refine zR (s2 : Int) 1 ((s2 : Int) + 1) rfl rfl rfl (by omega) ?_
  refine zM (I ((s2 : Int) + 1)) rfl ?_
  refine s_nil ?_
  exact ⟨aN, aO, s2 + 1, l4 ++ ([l]), aT, ag ++ ([aj]), bA, _, upds_of _ _ ⟨rfl, rfl, rfl, rfl, trivial⟩, M.e_inl hM aA, (H.pk [1, 0, 3]), bD⟩
 replace hM := M.e_f hM am
 simp only [qy1, qy2, qy3, qy4, qy5, qy6, ne_eq, qy7] at am
 refine W.exit ?_
 have bE := M.e_inr hM aA
 subst bE
 replace hM := bc
 try dsimp only at hM
 refine W.seq ?_
 refine W.region rfl ?_
 refine zM ac rfl ?_
 refine zA ac rfl ?_
 refine s_nil ?_
 refine W.ret ?_
 have bF := M.e_pure hM
 exact ⟨_, resE_tmp rfl, ⟨l4, ac, ag, B_l4, bF, rfl, (H.pk [0, 1]), ak⟩⟩

def zaB (s_Sections : List Sect) (s_Marks : List Mrk) (s_Reaches : List Rch) (r2 : List (List Int)) (l6 : List Int) (s3 : Nat) : Nat -> M (Nat ⊕ (Unit ⊕ Unit)) := fun s2 =>
  bif decide ((s2 : Int) < (r2.length : Int)) then (
  M.grd (decide ((s2 : Int) < (r2.length : Int))) <|
  M.grd ((!((s3 : Int) != (s2 : Int)) || (decide ((s3 : Int) < (l6.length : Int))))) <|
  M.grd ((!(((s3 : Int) != (s2 : Int)) && (decide ((l6.getD s3 0) < ((r2.getD s3 ([])).length : Int)))) || (decide ((s2 : Int) < (l6.length : Int))))) <|
  M.grd ((!((((s3 : Int) != (s2 : Int)) && (decide ((l6.getD s3 0) < ((r2.getD s3 ([])).length : Int)))) && (decide ((l6.getD s2 0) < ((r2.getD s2 ([])).length : Int)))) || (decide ((s3 : Int) < (l6.length : Int))))) <|
  M.grd ((!((((s3 : Int) != (s2 : Int)) && (decide ((l6.getD s3 0) < ((r2.getD s3 ([])).length : Int)))) && (decide ((l6.getD s2 0) < ((r2.getD s2 ([])).length : Int)))) || (decide ((0 : Int) <= (l6.getD s3 0)) && decide ((l6.getD s3 0) < ((r2.getD s3 ([])).length : Int))))) <|
  M.grd ((!((((s3 : Int) != (s2 : Int)) && (decide ((l6.getD s3 0) < ((r2.getD s3 ([])).length : Int)))) && (decide ((l6.getD s2 0) < ((r2.getD s2 ([])).length : Int)))) || (decide ((s2 : Int) < (l6.length : Int))))) <|
  M.grd ((!((((s3 : Int) != (s2 : Int)) && (decide ((l6.getD s3 0) < ((r2.getD s3 ([])).length : Int)))) && (decide ((l6.getD s2 0) < ((r2.getD s2 ([])).length : Int)))) || (decide ((0 : Int) <= (l6.getD s2 0)) && decide ((l6.getD s2 0) < ((r2.getD s2 ([])).length : Int))))) <|
  M.bind (M.opt ((((s3 : Int) != (s2 : Int)) && (decide ((l6.getD s3 0) < ((r2.getD s3 ([])).length : Int)))) && (decide ((l6.getD s2 0) < ((r2.getD s2 ([])).length : Int)))) (zag s_Sections s_Marks s_Reaches ((r2.getD s3 ([])).getD (Int.toNat (l6.getD s3 0)) 0) ((r2.getD s2 ([])).getD (Int.toNat (l6.getD s2 0)) 0)) false) fun r3 =>
  bif (((((s3 : Int) != (s2 : Int)) && (decide ((l6.getD s3 0) < ((r2.getD s3 ([])).length : Int)))) && (decide ((l6.getD s2 0) < ((r2.getD s2 ([])).length : Int)))) && r3) then (
  M.grd (decide ((s3 : Int) < (l6.length : Int))) <|
  M.grd (decide ((-9223372036854775808 : Int) <= ((l6.getD s3 0) + 1)) && decide (((l6.getD s3 0) + 1) <= (9223372036854775807 : Int))) <|
  M.pure (.inr (.inl ())))
  else (
  M.pure (.inl (s2 + 1))))
  else (
  M.pure (.inr (.inr ())))
def zaD (s_Sections : List Sect) (s_Marks : List Mrk) (s_Reaches : List Rch) (r2 : List (List Int)) (l6 : List Int) : Nat -> M (Nat ⊕ (((List Int) × (List Int)) ⊕ Unit)) := fun s3 =>
  bif decide ((s3 : Int) < (r2.length : Int)) then (
  M.grd (decide ((s3 : Int) < (r2.length : Int))) <|
  M.bind (M.iter (zaB s_Sections s_Marks s_Reaches r2 l6 s3) 0) fun x_ => match x_ with
  | (.inl (_ : Unit)) => (
  M.pure (.inr (.inl (l6.set s3 ((l6.getD s3 0) + 1 : Int), l6.set s3 ((l6.getD s3 0) + 1 : Int)))))
  | (.inr (_ : Unit)) => (
  M.pure (.inl (s3 + 1))))
  else (
  M.pure (.inr (.inr ())))
def zaI (r2 : List (List Int)) (l6 : List Int) : (Nat × (List Int)) -> M ((Nat × (List Int)) ⊕ ((List Int) × (List Int))) := fun (s4, l3) =>
  bif decide ((s4 : Int) < (r2.length : Int)) then (
  M.grd (decide ((s4 : Int) < (r2.length : Int))) <|
  M.grd (decide ((s4 : Int) < (l6.length : Int))) <|
  bif decide ((l6.getD s4 0) < ((r2.getD s4 ([])).length : Int)) then (
  M.grd (decide ((0 : Int) <= (l6.getD s4 0)) && decide ((l6.getD s4 0) < ((r2.getD s4 ([])).length : Int))) <|
  M.grd (decide ((l3.length + ([((r2.getD s4 ([])).getD (Int.toNat (l6.getD s4 0)) 0 : Int)]).length) * 8 <= 140737488355328)) <|
  M.pure (.inl (s4 + 1, l3 ++ ([((r2.getD s4 ([])).getD (Int.toNat (l6.getD s4 0)) 0 : Int)]))))
  else (
  M.pure (.inl (s4 + 1, l3))))
  else (
  M.pure (.inr (l3, l3)))
def zbK (s_Sections : List Sect) (s_Marks : List Mrk) (s_Reaches : List Rch) (r2 : List (List Int)) : (List Int) -> M ((List Int) ⊕ ((List Int) × (List Int))) := fun l6 =>
  M.bind (M.iter (zaD s_Sections s_Marks s_Reaches r2 l6) 0) fun x_ => match x_ with
  | (.inl (l, l2)) => (
  M.pure (.inl l2))
  | (.inr (_ : Unit)) => (
  M.bind (M.iter (zaI r2 l6) (0, [])) fun (l4, l5) =>
  M.grd (decide (l5.length <= 1000000)) <|
  M.pure (.inr (isort l5, l6)))
def zaF (s_Sections : List Sect) (s_Marks : List Mrk) (s_Reaches : List Rch) : M ((List Int) × Int) :=
  M.bind (zan s_Sections s_Marks s_Reaches) fun x_ => match x_ with
  | (.inl r1) => (
  bif r1 != 0 then (
  M.pure (([]), r1))
  else (
  M.fail))
  | (.inr aa) => (
  bif aa != 0 then (
  M.fail)
  else (
  M.bind (za1 s_Sections s_Marks s_Reaches) fun r2 =>
  M.grd (decide ((0 : Int) <= (r2.length : Int)) && decide ((8 : Int) * (r2.length : Int) <= 281474976710656) && decide ((r2.length : Int) <= (9223372036854775807 : Int))) <|
  M.bind (M.iter (zbK s_Sections s_Marks s_Reaches r2) (List.replicate (r2.length) (0 : Int))) fun (l7, l8) =>
  M.pure (l7, 0)))
theorem zbY {R : List Chunk} {bi : Cells} {aj : Value} {bj : Cells} {ak : Value} {bm : Cells} {am : Value} (s_Sections : List Sect) (s_Marks : List Mrk) (s_Reaches : List Rch) (aU : Reads R bi) (aV : Sl bi aj s_Sections) (aW : Reads R bj) (aX : Sl bj ak s_Marks) (aY : Reads R bm) (aZ : Sl bm am s_Reaches) {r : ((List Int) × Int)} (hM : (zaF s_Sections s_Marks s_Reaches).Ends r) (w : World) (H : St w w [] R) : Ret Try.prog 10 #[.agg #[aj, ak, am]] w fun v w' => ∃ (y0 : List Int) (y1 : Int) (u0 : Value), (y0, y1) = r /\ v = .tuple #[u0, I y1] /\ St w w' [cOwn (α := Int) 3 u0 y0] R := by
 refine ret_of_W Try.func10 rfl rfl rfl ?_
 refine W.seq ?_
 refine W.region rfl ?_
 refine t_box (v := .agg #[aj, ak, am]) (cs := [aj, ak, am]) H rfl rfl ?_
 intro aC cp H
 refine zA (.slice none 0 0) rfl ?_
 refine zA (I 0) rfl ?_
 refine s_nil ?_
 refine W.jumpS 0 rfl ?_
 refine W.seq ?_
 refine W.region rfl ?_
 refine s_val (x_ld (p := Pq aC) (v := .agg #[aj, ak, am]) rfl (ldb_ag (ds := [aj, ak, am]) Ag27 Sz27 (H.bl 0) rfl rfl)) ?_
 obtain ⟨cq, bD, hM⟩ := M.e_bind hM
 refine s_call cf21 [.agg #[aj, ak, am]] rfl (zaZ s_Sections s_Marks s_Reaches (aU.app _) aV (aW.app _) aX (aY.app _) aZ bD _ (H.gt 1)) ?_
 rintro vq cr (⟨r1, bE, hvq, aD⟩ | ⟨aB, ao, av, bF, hvq, aD⟩)
 ·subst bE
  subst vq
  try dsimp only at hM
  replace H := H.bk aD
  clear aD
  refine zM (.tuple #[.pointer none, I r1]) rfl ?_
  refine zX [.pointer none, I r1] (.pointer none) rfl rfl ?_
  refine zX [.pointer none, I r1] (I r1) rfl rfl ?_
  refine zA (.pointer none) rfl ?_
  refine zA (I r1) rfl ?_
  refine s_nil ?_
  refine W.seq ?_
  refine W.seq ?_
  refine W.region rfl ?_
  refine zM (I r1) rfl ?_
  refine zC r1 0 (r1 != 0) rfl rfl rfl ?_
  refine s_nil ?_
  refine W.cond (r1 != 0) rfl (fun aS => ?_) (fun aS => ?_)
  ·replace hM := M.e_t hM aS
   simp only [qy1, qy2, qy3, qy4, qy5, qy6, ne_eq, qy7] at aS
   refine W.seq ?_
   refine W.region rfl ?_
   refine zM (I r1) rfl ?_
   refine zA (.slice none 0 0) rfl ?_
   refine zA (I r1) rfl ?_
   refine s_nil ?_
   refine W.ret ?_
   have aN := M.e_pure hM
   replace H := H.nilOwn (α := Int) 3
   exact ⟨_, resE_tmp2 rfl, ⟨([]), r1, (.slice none 0 0), aN, rfl, (H.pk [0])⟩⟩
  replace hM := M.e_f hM aS
  exact (M.e_fail hM).elim
 subst bF
 subst vq
 try dsimp only at hM
 replace H := H.bk aD
 clear aD
 refine zM (.tuple #[Pq ao, I aB]) rfl ?_
 refine zX [Pq ao, I aB] (Pq ao) rfl rfl ?_
 refine zX [Pq ao, I aB] (I aB) rfl rfl ?_
 refine zA (Pq ao) rfl ?_
 refine zA (I aB) rfl ?_
 refine s_nil ?_
 refine W.seq ?_
 refine W.seq ?_
 refine W.region rfl ?_
 refine zM (I aB) rfl ?_
 refine zC aB 0 (aB != 0) rfl rfl rfl ?_
 refine s_nil ?_
 refine W.cond (aB != 0) rfl (fun aT => ?_) (fun aT => ?_)
 ·replace hM := M.e_t hM aT
  exact (M.e_fail hM).elim
 replace hM := M.e_f hM aT
 simp only [qy1, qy2, qy3, qy4, qy5, qy6, ne_eq, qy7] at aT
 refine W.skip ?_
 refine W.seq ?_
 refine W.region rfl ?_
 refine zM (Pq ao) rfl ?_
 obtain ⟨ct, bG, hM⟩ := M.e_bind hM
 refine s_call cf22 [Pq ao] rfl (zda s_Sections s_Marks s_Reaches (aU.app _) aV (aW.app _) aX (aY.app _) aZ (Has.here (k := 0) rfl) bG _ (H.gt 3)) ?_
 rintro vq cu ⟨r2, ai, aF, aG, bH, hvq, aD, aw⟩
 subst bH
 subst vq
 try dsimp only at hM
 replace H := H.bk aD
 clear aD
 refine zA ai rfl ?_
 refine s_nil ?_
 refine W.seq ?_
 refine W.region rfl ?_
 refine zM ai rfl ?_
 have cv := ((rowSl rfl (H.get (k := 0) rfl) (roLe _ (H.get (k := 1) rfl)) aw)).len_le
 refine s_val (x_lenS T75.und rfl (rowSl rfl (H.get (k := 0) rfl) (roLe _ (H.get (k := 1) rfl)) aw)) ?_
 obtain ⟨bI, hM⟩ := M.e_grd hM
 simp only [Bool.and_eq_true, decide_eq_true_eq] at bI
 refine t_mk (α := Int) T28 (0 : Int) rfl (n := (r2.length : Int)) H rfl rfl (by omega) (by omega) (by omega) ?_
 intro bn cw H
 replace H := H.nf
 refine zA bn rfl ?_
 refine s_nil ?_
 obtain ⟨bJ, a6, bK⟩ := M.e_bind hM
 obtain ⟨a7, a6⟩ := M.e_iter a6
 refine W.jumpL (fun m σ W => ∃ (l6 : List Int) (ab : Value) (ρ : Env), σ = upds ρ [(4, Pq ao), (6, ai), (7, ab)] /\ M.iterN (zbK s_Sections s_Marks s_Reaches r2) m l6 = some bJ /\ St w W [cOwn (α := Int) 3 ab l6, cOwn (α := Raw 0) 28 ai aF, cRo aG, cBlk ao [aj, ak, am, .map (some av)] 99, cMemI encSpt av (zaa s_Sections s_Marks s_Reaches), cBlk aC [aj, ak, am] 27] R) ?_ ?_
 ·exact ⟨_, List.replicate (r2.length) (0 : Int), bn, _, upds_of _ _ ⟨rfl, rfl, rfl, trivial⟩, a6, H⟩
 rintro cx σ cy ⟨l6, ab, ρ, rfl, bo, H⟩
 obtain ⟨bL, bM, cz, hM, bp⟩ := M.e_iterN bo
 simp only [zbK] at hM
 clear bo
 refine W.seq ?_
 refine W.seq ?_
 refine W.region rfl ?_
 refine zM ai rfl ?_
 have cA := ((rowSl rfl (H.get (k := 1) rfl) (roLe _ (H.get (k := 2) rfl)) aw)).len_le
 refine s_val (x_lenS T75.und rfl (rowSl rfl (H.get (k := 1) rfl) (roLe _ (H.get (k := 2) rfl)) aw)) ?_
 refine zM (I 0) rfl ?_
 refine s_nil ?_
 refine W.block ?_
 obtain ⟨bN, a8, bq⟩ := M.e_bind hM
 obtain ⟨a7, a8⟩ := M.e_iter a8
 refine W.loop (fun m σ W => ∃ (s3 : Nat) (ρ : Env), σ = upds ρ [(4, Pq ao), (6, ai), (7, ab), (28, ai), (29, I (r2.length : Int)), (30, I (s3 : Int))] /\ M.iterN (zaD s_Sections s_Marks s_Reaches r2 l6) m s3 = some bN /\ St w W [cOwn (α := Int) 3 ab l6, cOwn (α := Raw 0) 28 ai aF, cRo aG, cBlk ao [aj, ak, am, .map (some av)] 99, cMemI encSpt av (zaa s_Sections s_Marks s_Reaches), cBlk aC [aj, ak, am] 27] R) ?_ ?_
 ·exact ⟨_, 0, _, upds_of _ _ ⟨rfl, rfl, rfl, rfl, rfl, rfl, trivial⟩, a8, H⟩
 rintro cB σ cC ⟨s3, ρ, rfl, br, H⟩
 obtain ⟨bO, bP, cD, hM, ba⟩ := M.e_iterN br
 simp only [zaD] at hM
 clear br
 refine W.seq ?_
 refine W.region rfl ?_
 refine zC (s3 : Int) (r2.length : Int) (decide ((s3 : Int) < (r2.length : Int))) rfl rfl rfl ?_
 refine s_nil ?_
 refine W.seq ?_
 refine W.cond (decide ((s3 : Int) < (r2.length : Int))) rfl (fun aO => ?_) (fun aO => ?_)
 ·replace hM := M.e_t hM aO
  simp only [qy1, qy2, qy3, qy4, qy5, qy6, ne_eq, qy7] at aO
  refine W.skip ?_
  refine W.seq ?_
  refine W.block ?_
  refine W.seq ?_
  refine W.region rfl ?_
  refine zM (I (s3 : Int)) rfl ?_
  obtain ⟨bQ, hM⟩ := M.e_grd hM
  simp only [Bool.and_eq_true, decide_eq_true_eq] at bQ
  refine s_val (x_ix (a := ai) (b := I (s3 : Int)) (v := vat ai 1 (Int.toNat (s3 : Int))) rfl rfl (Sl.ix (α := List Int) T75.und T75.size (rowSl rfl (H.get (k := 1) rfl) (roLe _ (H.get (k := 2) rfl)) aw) (by omega) (by omega))) ?_
  obtain ⟨ax, bR, aL⟩ := List_at (rowSl rfl (H.get (k := 1) rfl) (roLe _ (H.get (k := 2) rfl)) aw) (i := (s3 : Int)) (by omega) (by omega)
  replace aL : Sl _ ax (r2.getD s3 ([])) := aL
  have cE := aL.len_le
  refine s_val (x_ld (p := vat ai 1 (Int.toNat (s3 : Int))) (v := ax) rfl (ld_sc Sc28 (At.mono (bR) (Cells.sup_le (H.ol 1) (roLe _ (H.get (k := 2) rfl)))))) ?_
  refine zA (I (s3 : Int)) rfl ?_
  refine zA ax rfl ?_
  refine s_nil ?_
  refine W.seq ?_
  refine W.region rfl ?_
  refine zM ai rfl ?_
  have cF := ((rowSl rfl (H.get (k := 1) rfl) (roLe _ (H.get (k := 2) rfl)) aw)).len_le
  refine s_val (x_lenS T75.und rfl (rowSl rfl (H.get (k := 1) rfl) (roLe _ (H.get (k := 2) rfl)) aw)) ?_
  refine zM (I 0) rfl ?_
  refine s_nil ?_
  refine W.block ?_
  obtain ⟨bS, bb, bt⟩ := M.e_bind hM
  obtain ⟨a7, bb⟩ := M.e_iter bb
  refine W.loop (fun m σ W => ∃ (s2 : Nat) (ρ : Env), σ = upds ρ [(4, Pq ao), (6, ai), (7, ab), (8, I (s3 : Int)), (9, ax), (28, ai), (29, I (r2.length : Int)), (30, I (s3 : Int)), (35, ai), (36, I (r2.length : Int)), (37, I (s2 : Int))] /\ M.iterN (zaB s_Sections s_Marks s_Reaches r2 l6 s3) m s2 = some bS /\ St w W [cOwn (α := Int) 3 ab l6, cOwn (α := Raw 0) 28 ai aF, cRo aG, cBlk ao [aj, ak, am, .map (some av)] 99, cMemI encSpt av (zaa s_Sections s_Marks s_Reaches), cBlk aC [aj, ak, am] 27] R) ?_ ?_
  ·exact ⟨_, 0, _, upds_of _ _ ⟨rfl, rfl, rfl, rfl, rfl, rfl, rfl, rfl, rfl, rfl, rfl, trivial⟩, bb, H⟩
  rintro cG σ cH ⟨s2, ρ, rfl, bu, H⟩
  obtain ⟨bT, bU, cI, hM, bc⟩ := M.e_iterN bu
  simp only [zaB] at hM
  clear bu
  refine W.seq ?_
  refine W.region rfl ?_
  refine zC (s2 : Int) (r2.length : Int) (decide ((s2 : Int) < (r2.length : Int))) rfl rfl rfl ?_
  refine s_nil ?_
  refine W.seq ?_
  refine W.cond (decide ((s2 : Int) < (r2.length : Int))) rfl (fun aP => ?_) (fun aP => ?_)
  ·replace hM := M.e_t hM aP
   simp only [qy1, qy2, qy3, qy4, qy5, qy6, ne_eq, qy7] at aP
   refine W.skip ?_
   refine W.seq ?_
   refine W.block ?_
   refine W.seq ?_
   refine W.region rfl ?_
   refine zM (I (s2 : Int)) rfl ?_
   obtain ⟨bV, hM⟩ := M.e_grd hM
   simp only [Bool.and_eq_true, decide_eq_true_eq] at bV
   refine s_val (x_ix (a := ai) (b := I (s2 : Int)) (v := vat ai 1 (Int.toNat (s2 : Int))) rfl rfl (Sl.ix (α := List Int) T75.und T75.size (rowSl rfl (H.get (k := 1) rfl) (roLe _ (H.get (k := 2) rfl)) aw) (by omega) (by omega))) ?_
   obtain ⟨ay, bW, aM⟩ := List_at (rowSl rfl (H.get (k := 1) rfl) (roLe _ (H.get (k := 2) rfl)) aw) (i := (s2 : Int)) (by omega) (by omega)
   replace aM : Sl _ ay (r2.getD s2 ([])) := aM
   have cJ := aM.len_le
   refine s_val (x_ld (p := vat ai 1 (Int.toNat (s2 : Int))) (v := ay) rfl (ld_sc Sc28 (At.mono (bW) (Cells.sup_le (H.ol 1) (roLe _ (H.get (k := 2) rfl)))))) ?_
   refine zA (I (s2 : Int)) rfl ?_
   refine zA ay rfl ?_
   refine s_nil ?_
   refine W.seq ?_
   refine W.draw (fun W => St w W [cOwn (α := Int) 3 ab l6, cOwn (α := Raw 0) 28 ai aF, cRo aG, cBlk ao [aj, ak, am, .map (some av)] 99, cMemI encSpt av (zaa s_Sections s_Marks s_Reaches), cBlk aC [aj, ak, am] 27] R) [(0, true), (1, true), (2, true), (3, true), (4, true), (5, true), (6, true), (7, true), (8, true), (9, true), (10, true), (11, true), (12, true), (13, true), (14, true), (15, true), (16, true), (17, true), (18, true), (19, true), (20, true), (21, true), (22, true), (23, true), (24, true), (25, true), (26, true), (27, true), (28, true), (29, true), (30, true), (31, true), (32, true), (33, true), (34, true), (35, true), (36, true), (37, false), (38, true)] mixed (by decide +kernel) rfl ?_
   intro cK ac
   replace H := H.ext ac
   clear ac
   refine ⟨(H.pk [0, 1, 2, 3, 4, 5]), ?_⟩
   refine d_q rfl (fun w' H => x_mv (v := I (s3 : Int)) rfl) ?_
   refine d_q rfl (fun w' H => x_mv (v := I (s2 : Int)) rfl) ?_
   refine d_q rfl (fun w' H => x_cmp (kd := .i64) (a := (s3 : Int)) (b := (s2 : Int)) (r := (s3 : Int) != (s2 : Int)) rfl rfl rfl) ?_
   refine d_q rfl (fun w' H => x_mv (v := B ((s3 : Int) != (s2 : Int))) rfl) ?_
   refine d_qg ((s3 : Int) != (s2 : Int)) rfl (gy_t rfl) (fun hg => (fun w' H => x_mv (v := ab) rfl)) ?_
   refine d_qg ((s3 : Int) != (s2 : Int)) rfl (gy_t rfl) (fun hg => (fun w' H => x_mv (v := I (s3 : Int)) rfl)) ?_
   obtain ⟨aH, hM⟩ := M.e_grd hM
   replace aH := M.imp_of aH
   simp only [Bool.and_eq_true, decide_eq_true_eq] at aH
   refine d_qg ((s3 : Int) != (s2 : Int)) rfl (gy_t rfl) (fun hg => (fun w' H => x_ix (a := ab) (b := I (s3 : Int)) (v := vat ab 1 (Int.toNat (s3 : Int))) (gd_of (c := (s3 : Int) != (s2 : Int)) hg (ab)) (gd_of (c := (s3 : Int) != (s2 : Int)) hg (I (s3 : Int))) (Sl.ix (α := Int) T28.und T28.size (H.os 0) (by have aa := aH.resolve_left (by rw [hg]; decide); first | exact aa | exact aa.1 | exact aa.2 | omega | (have ac := hg; simp at ac; omega)) (by have aa := aH.resolve_left (by rw [hg]; decide); first | exact aa | exact aa.1 | exact aa.2 | omega | (have ac := hg; simp at ac; omega))))) ?_
   refine d_qg ((s3 : Int) != (s2 : Int)) rfl (gy_t rfl) (fun hg => (fun w' H => x_ld (p := vat ab 1 (Int.toNat (s3 : Int))) (v := I (l6.getD s3 0)) (gd_of (c := (s3 : Int) != (s2 : Int)) hg (vat ab 1 (Int.toNat (s3 : Int)))) (ld_sc Sc3 (At.mono (Int_at (H.os 0) (i := (s3 : Int)) (by have aa := aH.resolve_left (by rw [hg]; decide); first | exact aa | exact aa.1 | exact aa.2 | omega | (have ac := hg; simp at ac; omega)) (by have aa := aH.resolve_left (by rw [hg]; decide); first | exact aa | exact aa.1 | exact aa.2 | omega | (have ac := hg; simp at ac; omega))) (H.ol 0))))) ?_
   refine d_qg ((s3 : Int) != (s2 : Int)) rfl (gy_t rfl) (fun hg => (fun w' H => x_mv (v := ax) rfl)) ?_
   refine d_qg ((s3 : Int) != (s2 : Int)) rfl (gy_t rfl) (fun hg => (fun w' H => x_lenS T28.und (gd_of (c := (s3 : Int) != (s2 : Int)) hg (ax)) aL)) ?_
   refine d_qg ((s3 : Int) != (s2 : Int)) rfl (gy_t rfl) (fun hg => (fun w' H => x_cmp (kd := .i64) (a := l6.getD s3 0) (b := ((r2.getD s3 ([])).length : Int)) (r := decide ((l6.getD s3 0) < ((r2.getD s3 ([])).length : Int))) (gd_of (c := (s3 : Int) != (s2 : Int)) hg (I (l6.getD s3 0))) (gd_of (c := (s3 : Int) != (s2 : Int)) hg (I ((r2.getD s3 ([])).length : Int))) rfl)) ?_
   refine d_q rfl (fun w' H => x_pand (b := (s3 : Int) != (s2 : Int)) (r := decide ((l6.getD s3 0) < ((r2.getD s3 ([])).length : Int))) rfl (fun hb => gd_of (c := (s3 : Int) != (s2 : Int)) (by first | exact hb | (rw [hb]; rfl) | simp_all) (B (decide ((l6.getD s3 0) < ((r2.getD s3 ([])).length : Int))))) rfl) ?_
   refine d_q rfl (fun w' H => x_mv (v := B (((s3 : Int) != (s2 : Int)) && (decide ((l6.getD s3 0) < ((r2.getD s3 ([])).length : Int))))) rfl) ?_
   refine d_qg (((s3 : Int) != (s2 : Int)) && (decide ((l6.getD s3 0) < ((r2.getD s3 ([])).length : Int)))) rfl (gy_t rfl) (fun hg => (fun w' H => x_mv (v := ab) rfl)) ?_
   refine d_qg (((s3 : Int) != (s2 : Int)) && (decide ((l6.getD s3 0) < ((r2.getD s3 ([])).length : Int)))) rfl (gy_t rfl) (fun hg => (fun w' H => x_mv (v := I (s2 : Int)) rfl)) ?_
   obtain ⟨aI, hM⟩ := M.e_grd hM
   replace aI := M.imp_of aI
   simp only [Bool.and_eq_true, decide_eq_true_eq] at aI
   refine d_qg (((s3 : Int) != (s2 : Int)) && (decide ((l6.getD s3 0) < ((r2.getD s3 ([])).length : Int)))) rfl (gy_t rfl) (fun hg => (fun w' H => x_ix (a := ab) (b := I (s2 : Int)) (v := vat ab 1 (Int.toNat (s2 : Int))) (gd_of (c := (((s3 : Int) != (s2 : Int)) && (decide ((l6.getD s3 0) < ((r2.getD s3 ([])).length : Int))))) hg (ab)) (gd_of (c := (((s3 : Int) != (s2 : Int)) && (decide ((l6.getD s3 0) < ((r2.getD s3 ([])).length : Int))))) hg (I (s2 : Int))) (Sl.ix (α := Int) T28.und T28.size (H.os 0) (by have aa := aI.resolve_left (by rw [hg]; decide); first | exact aa | exact aa.1 | exact aa.2 | omega | (have ac := hg; simp at ac; omega)) (by have aa := aI.resolve_left (by rw [hg]; decide); first | exact aa | exact aa.1 | exact aa.2 | omega | (have ac := hg; simp at ac; omega))))) ?_
   refine d_qg (((s3 : Int) != (s2 : Int)) && (decide ((l6.getD s3 0) < ((r2.getD s3 ([])).length : Int)))) rfl (gy_t rfl) (fun hg => (fun w' H => x_ld (p := vat ab 1 (Int.toNat (s2 : Int))) (v := I (l6.getD s2 0)) (gd_of (c := (((s3 : Int) != (s2 : Int)) && (decide ((l6.getD s3 0) < ((r2.getD s3 ([])).length : Int))))) hg (vat ab 1 (Int.toNat (s2 : Int)))) (ld_sc Sc3 (At.mono (Int_at (H.os 0) (i := (s2 : Int)) (by have aa := aI.resolve_left (by rw [hg]; decide); first | exact aa | exact aa.1 | exact aa.2 | omega | (have ac := hg; simp at ac; omega)) (by have aa := aI.resolve_left (by rw [hg]; decide); first | exact aa | exact aa.1 | exact aa.2 | omega | (have ac := hg; simp at ac; omega))) (H.ol 0))))) ?_
   refine d_qg (((s3 : Int) != (s2 : Int)) && (decide ((l6.getD s3 0) < ((r2.getD s3 ([])).length : Int)))) rfl (gy_t rfl) (fun hg => (fun w' H => x_mv (v := ay) rfl)) ?_
   refine d_qg (((s3 : Int) != (s2 : Int)) && (decide ((l6.getD s3 0) < ((r2.getD s3 ([])).length : Int)))) rfl (gy_t rfl) (fun hg => (fun w' H => x_lenS T28.und (gd_of (c := (((s3 : Int) != (s2 : Int)) && (decide ((l6.getD s3 0) < ((r2.getD s3 ([])).length : Int))))) hg (ay)) aM)) ?_
   refine d_qg (((s3 : Int) != (s2 : Int)) && (decide ((l6.getD s3 0) < ((r2.getD s3 ([])).length : Int)))) rfl (gy_t rfl) (fun hg => (fun w' H => x_cmp (kd := .i64) (a := l6.getD s2 0) (b := ((r2.getD s2 ([])).length : Int)) (r := decide ((l6.getD s2 0) < ((r2.getD s2 ([])).length : Int))) (gd_of (c := (((s3 : Int) != (s2 : Int)) && (decide ((l6.getD s3 0) < ((r2.getD s3 ([])).length : Int))))) hg (I (l6.getD s2 0))) (gd_of (c := (((s3 : Int) != (s2 : Int)) && (decide ((l6.getD s3 0) < ((r2.getD s3 ([])).length : Int))))) hg (I ((r2.getD s2 ([])).length : Int))) rfl)) ?_
   refine d_q rfl (fun w' H => x_pand (b := (((s3 : Int) != (s2 : Int)) && (decide ((l6.getD s3 0) < ((r2.getD s3 ([])).length : Int))))) (r := decide ((l6.getD s2 0) < ((r2.getD s2 ([])).length : Int))) rfl (fun hb => gd_of (c := (((s3 : Int) != (s2 : Int)) && (decide ((l6.getD s3 0) < ((r2.getD s3 ([])).length : Int))))) (by first | exact hb | (rw [hb]; rfl) | simp_all) (B (decide ((l6.getD s2 0) < ((r2.getD s2 ([])).length : Int))))) rfl) ?_
   refine d_q rfl (fun w' H => x_mv (v := B ((((s3 : Int) != (s2 : Int)) && (decide ((l6.getD s3 0) < ((r2.getD s3 ([])).length : Int)))) && (decide ((l6.getD s2 0) < ((r2.getD s2 ([])).length : Int))))) rfl) ?_
   refine d_qg ((((s3 : Int) != (s2 : Int)) && (decide ((l6.getD s3 0) < ((r2.getD s3 ([])).length : Int)))) && (decide ((l6.getD s2 0) < ((r2.getD s2 ([])).length : Int)))) rfl (gy_t rfl) (fun hg => (fun w' H => x_mv (v := Pq ao) rfl)) ?_
   refine d_qg ((((s3 : Int) != (s2 : Int)) && (decide ((l6.getD s3 0) < ((r2.getD s3 ([])).length : Int)))) && (decide ((l6.getD s2 0) < ((r2.getD s2 ([])).length : Int)))) rfl (gy_t rfl) (fun hg => (fun w' H => x_mv (v := ax) rfl)) ?_
   refine d_qg ((((s3 : Int) != (s2 : Int)) && (decide ((l6.getD s3 0) < ((r2.getD s3 ([])).length : Int)))) && (decide ((l6.getD s2 0) < ((r2.getD s2 ([])).length : Int)))) rfl (gy_t rfl) (fun hg => (fun w' H => x_mv (v := ab) rfl)) ?_
   refine d_qg ((((s3 : Int) != (s2 : Int)) && (decide ((l6.getD s3 0) < ((r2.getD s3 ([])).length : Int)))) && (decide ((l6.getD s2 0) < ((r2.getD s2 ([])).length : Int)))) rfl (gy_t rfl) (fun hg => (fun w' H => x_mv (v := I (s3 : Int)) rfl)) ?_
   obtain ⟨ap, hM⟩ := M.e_grd hM
   replace ap := M.imp_of ap
   simp only [Bool.and_eq_true, decide_eq_true_eq] at ap
   refine d_qg ((((s3 : Int) != (s2 : Int)) && (decide ((l6.getD s3 0) < ((r2.getD s3 ([])).length : Int)))) && (decide ((l6.getD s2 0) < ((r2.getD s2 ([])).length : Int)))) rfl (gy_t rfl) (fun hg => (fun w' H => x_ix (a := ab) (b := I (s3 : Int)) (v := vat ab 1 (Int.toNat (s3 : Int))) (gd_of (c := ((((s3 : Int) != (s2 : Int)) && (decide ((l6.getD s3 0) < ((r2.getD s3 ([])).length : Int)))) && (decide ((l6.getD s2 0) < ((r2.getD s2 ([])).length : Int))))) hg (ab)) (gd_of (c := ((((s3 : Int) != (s2 : Int)) && (decide ((l6.getD s3 0) < ((r2.getD s3 ([])).length : Int)))) && (decide ((l6.getD s2 0) < ((r2.getD s2 ([])).length : Int))))) hg (I (s3 : Int))) (Sl.ix (α := Int) T28.und T28.size (H.os 0) (by have aa := ap.resolve_left (by rw [hg]; decide); first | exact aa | exact aa.1 | exact aa.2 | omega | (have ac := hg; simp at ac; omega)) (by have aa := ap.resolve_left (by rw [hg]; decide); first | exact aa | exact aa.1 | exact aa.2 | omega | (have ac := hg; simp at ac; omega))))) ?_
   refine d_qg ((((s3 : Int) != (s2 : Int)) && (decide ((l6.getD s3 0) < ((r2.getD s3 ([])).length : Int)))) && (decide ((l6.getD s2 0) < ((r2.getD s2 ([])).length : Int)))) rfl (gy_t rfl) (fun hg => (fun w' H => x_ld (p := vat ab 1 (Int.toNat (s3 : Int))) (v := I (l6.getD s3 0)) (gd_of (c := ((((s3 : Int) != (s2 : Int)) && (decide ((l6.getD s3 0) < ((r2.getD s3 ([])).length : Int)))) && (decide ((l6.getD s2 0) < ((r2.getD s2 ([])).length : Int))))) hg (vat ab 1 (Int.toNat (s3 : Int)))) (ld_sc Sc3 (At.mono (Int_at (H.os 0) (i := (s3 : Int)) (by have aa := ap.resolve_left (by rw [hg]; decide); first | exact aa | exact aa.1 | exact aa.2 | omega | (have ac := hg; simp at ac; omega)) (by have aa := ap.resolve_left (by rw [hg]; decide); first | exact aa | exact aa.1 | exact aa.2 | omega | (have ac := hg; simp at ac; omega))) (H.ol 0))))) ?_
   obtain ⟨aq, hM⟩ := M.e_grd hM
   replace aq := M.imp_of aq
   simp only [Bool.and_eq_true, decide_eq_true_eq] at aq
   refine d_qg ((((s3 : Int) != (s2 : Int)) && (decide ((l6.getD s3 0) < ((r2.getD s3 ([])).length : Int)))) && (decide ((l6.getD s2 0) < ((r2.getD s2 ([])).length : Int)))) rfl (gy_t rfl) (fun hg => (fun w' H => x_ix (a := ax) (b := I (l6.getD s3 0)) (v := vat ax 1 (Int.toNat (l6.getD s3 0))) (gd_of (c := ((((s3 : Int) != (s2 : Int)) && (decide ((l6.getD s3 0) < ((r2.getD s3 ([])).length : Int)))) && (decide ((l6.getD s2 0) < ((r2.getD s2 ([])).length : Int))))) hg (ax)) (gd_of (c := ((((s3 : Int) != (s2 : Int)) && (decide ((l6.getD s3 0) < ((r2.getD s3 ([])).length : Int)))) && (decide ((l6.getD s2 0) < ((r2.getD s2 ([])).length : Int))))) hg (I (l6.getD s3 0))) (Sl.ix (α := Int) T28.und T28.size aL (by have aa := ap.resolve_left (by rw [hg]; decide); have ae := aq.resolve_left (by rw [hg]; decide); first | exact aa | exact aa.1 | exact aa.2 | exact ae | exact ae.1 | exact ae.2 | omega | (have ac := hg; simp at ac; omega)) (by have aa := ap.resolve_left (by rw [hg]; decide); have ae := aq.resolve_left (by rw [hg]; decide); first | exact aa | exact aa.1 | exact aa.2 | exact ae | exact ae.1 | exact ae.2 | omega | (have ac := hg; simp at ac; omega))))) ?_
   refine d_qg ((((s3 : Int) != (s2 : Int)) && (decide ((l6.getD s3 0) < ((r2.getD s3 ([])).length : Int)))) && (decide ((l6.getD s2 0) < ((r2.getD s2 ([])).length : Int)))) rfl (gy_t rfl) (fun hg => (fun w' H => x_ld (p := vat ax 1 (Int.toNat (l6.getD s3 0))) (v := I ((r2.getD s3 ([])).getD (Int.toNat (l6.getD s3 0)) 0)) (gd_of (c := ((((s3 : Int) != (s2 : Int)) && (decide ((l6.getD s3 0) < ((r2.getD s3 ([])).length : Int)))) && (decide ((l6.getD s2 0) < ((r2.getD s2 ([])).length : Int))))) hg (vat ax 1 (Int.toNat (l6.getD s3 0)))) (ld_sc Sc3 (At.mono (Int_at aL (i := l6.getD s3 0) (by have aa := ap.resolve_left (by rw [hg]; decide); have ae := aq.resolve_left (by rw [hg]; decide); first | exact aa | exact aa.1 | exact aa.2 | exact ae | exact ae.1 | exact ae.2 | omega | (have ac := hg; simp at ac; omega)) (by have aa := ap.resolve_left (by rw [hg]; decide); have ae := aq.resolve_left (by rw [hg]; decide); first | exact aa | exact aa.1 | exact aa.2 | exact ae | exact ae.1 | exact ae.2 | omega | (have ac := hg; simp at ac; omega))) (Cells.sup_le (H.ol 1) (roLe _ (H.get (k := 2) rfl))))))) ?_
   refine d_qg ((((s3 : Int) != (s2 : Int)) && (decide ((l6.getD s3 0) < ((r2.getD s3 ([])).length : Int)))) && (decide ((l6.getD s2 0) < ((r2.getD s2 ([])).length : Int)))) rfl (gy_t rfl) (fun hg => (fun w' H => x_mv (v := ay) rfl)) ?_
   refine d_qg ((((s3 : Int) != (s2 : Int)) && (decide ((l6.getD s3 0) < ((r2.getD s3 ([])).length : Int)))) && (decide ((l6.getD s2 0) < ((r2.getD s2 ([])).length : Int)))) rfl (gy_t rfl) (fun hg => (fun w' H => x_mv (v := ab) rfl)) ?_
   refine d_qg ((((s3 : Int) != (s2 : Int)) && (decide ((l6.getD s3 0) < ((r2.getD s3 ([])).length : Int)))) && (decide ((l6.getD s2 0) < ((r2.getD s2 ([])).length : Int)))) rfl (gy_t rfl) (fun hg => (fun w' H => x_mv (v := I (s2 : Int)) rfl)) ?_
   obtain ⟨az, hM⟩ := M.e_grd hM
   replace az := M.imp_of az
   simp only [Bool.and_eq_true, decide_eq_true_eq] at az
   refine d_qg ((((s3 : Int) != (s2 : Int)) && (decide ((l6.getD s3 0) < ((r2.getD s3 ([])).length : Int)))) && (decide ((l6.getD s2 0) < ((r2.getD s2 ([])).length : Int)))) rfl (gy_t rfl) (fun hg => (fun w' H => x_ix (a := ab) (b := I (s2 : Int)) (v := vat ab 1 (Int.toNat (s2 : Int))) (gd_of (c := ((((s3 : Int) != (s2 : Int)) && (decide ((l6.getD s3 0) < ((r2.getD s3 ([])).length : Int)))) && (decide ((l6.getD s2 0) < ((r2.getD s2 ([])).length : Int))))) hg (ab)) (gd_of (c := ((((s3 : Int) != (s2 : Int)) && (decide ((l6.getD s3 0) < ((r2.getD s3 ([])).length : Int)))) && (decide ((l6.getD s2 0) < ((r2.getD s2 ([])).length : Int))))) hg (I (s2 : Int))) (Sl.ix (α := Int) T28.und T28.size (H.os 0) (by have aa := ap.resolve_left (by rw [hg]; decide); have ae := aq.resolve_left (by rw [hg]; decide); have ag := az.resolve_left (by rw [hg]; decide); first | exact aa | exact aa.1 | exact aa.2 | exact ae | exact ae.1 | exact ae.2 | exact ag | exact ag.1 | exact ag.2 | omega | (have ac := hg; simp at ac; omega)) (by have aa := ap.resolve_left (by rw [hg]; decide); have ae := aq.resolve_left (by rw [hg]; decide); have ag := az.resolve_left (by rw [hg]; decide); first | exact aa | exact aa.1 | exact aa.2 | exact ae | exact ae.1 | exact ae.2 | exact ag | exact ag.1 | exact ag.2 | omega | (have ac := hg; simp at ac; omega))))) ?_
   refine d_qg ((((s3 : Int) != (s2 : Int)) && (decide ((l6.getD s3 0) < ((r2.getD s3 ([])).length : Int)))) && (decide ((l6.getD s2 0) < ((r2.getD s2 ([])).length : Int)))) rfl (gy_t rfl) (fun hg => (fun w' H => x_ld (p := vat ab 1 (Int.toNat (s2 : Int))) (v := I (l6.getD s2 0)) (gd_of (c := ((((s3 : Int) != (s2 : Int)) && (decide ((l6.getD s3 0) < ((r2.getD s3 ([])).length : Int)))) && (decide ((l6.getD s2 0) < ((r2.getD s2 ([])).length : Int))))) hg (vat ab 1 (Int.toNat (s2 : Int)))) (ld_sc Sc3 (At.mono (Int_at (H.os 0) (i := (s2 : Int)) (by have aa := ap.resolve_left (by rw [hg]; decide); have ae := aq.resolve_left (by rw [hg]; decide); have ag := az.resolve_left (by rw [hg]; decide); first | exact aa | exact aa.1 | exact aa.2 | exact ae | exact ae.1 | exact ae.2 | exact ag | exact ag.1 | exact ag.2 | omega | (have ac := hg; simp at ac; omega)) (by have aa := ap.resolve_left (by rw [hg]; decide); have ae := aq.resolve_left (by rw [hg]; decide); have ag := az.resolve_left (by rw [hg]; decide); first | exact aa | exact aa.1 | exact aa.2 | exact ae | exact ae.1 | exact ae.2 | exact ag | exact ag.1 | exact ag.2 | omega | (have ac := hg; simp at ac; omega))) (H.ol 0))))) ?_
   obtain ⟨aJ, hM⟩ := M.e_grd hM
   replace aJ := M.imp_of aJ
   simp only [Bool.and_eq_true, decide_eq_true_eq] at aJ
   refine d_qg ((((s3 : Int) != (s2 : Int)) && (decide ((l6.getD s3 0) < ((r2.getD s3 ([])).length : Int)))) && (decide ((l6.getD s2 0) < ((r2.getD s2 ([])).length : Int)))) rfl (gy_t rfl) (fun hg => (fun w' H => x_ix (a := ay) (b := I (l6.getD s2 0)) (v := vat ay 1 (Int.toNat (l6.getD s2 0))) (gd_of (c := ((((s3 : Int) != (s2 : Int)) && (decide ((l6.getD s3 0) < ((r2.getD s3 ([])).length : Int)))) && (decide ((l6.getD s2 0) < ((r2.getD s2 ([])).length : Int))))) hg (ay)) (gd_of (c := ((((s3 : Int) != (s2 : Int)) && (decide ((l6.getD s3 0) < ((r2.getD s3 ([])).length : Int)))) && (decide ((l6.getD s2 0) < ((r2.getD s2 ([])).length : Int))))) hg (I (l6.getD s2 0))) (Sl.ix (α := Int) T28.und T28.size aM (by have aa := ap.resolve_left (by rw [hg]; decide); have ae := aq.resolve_left (by rw [hg]; decide); have ag := az.resolve_left (by rw [hg]; decide); have au := aJ.resolve_left (by rw [hg]; decide); first | exact aa | exact aa.1 | exact aa.2 | exact ae | exact ae.1 | exact ae.2 | exact ag | exact ag.1 | exact ag.2 | exact au | exact au.1 | exact au.2 | omega | (have ac := hg; simp at ac; omega)) (by have aa := ap.resolve_left (by rw [hg]; decide); have ae := aq.resolve_left (by rw [hg]; decide); have ag := az.resolve_left (by rw [hg]; decide); have au := aJ.resolve_left (by rw [hg]; decide); first | exact aa | exact aa.1 | exact aa.2 | exact ae | exact ae.1 | exact ae.2 | exact ag | exact ag.1 | exact ag.2 | exact au | exact au.1 | exact au.2 | omega | (have ac := hg; simp at ac; omega))))) ?_
   refine d_qg ((((s3 : Int) != (s2 : Int)) && (decide ((l6.getD s3 0) < ((r2.getD s3 ([])).length : Int)))) && (decide ((l6.getD s2 0) < ((r2.getD s2 ([])).length : Int)))) rfl (gy_t rfl) (fun hg => (fun w' H => x_ld (p := vat ay 1 (Int.toNat (l6.getD s2 0))) (v := I ((r2.getD s2 ([])).getD (Int.toNat (l6.getD s2 0)) 0)) (gd_of (c := ((((s3 : Int) != (s2 : Int)) && (decide ((l6.getD s3 0) < ((r2.getD s3 ([])).length : Int)))) && (decide ((l6.getD s2 0) < ((r2.getD s2 ([])).length : Int))))) hg (vat ay 1 (Int.toNat (l6.getD s2 0)))) (ld_sc Sc3 (At.mono (Int_at aM (i := l6.getD s2 0) (by have aa := ap.resolve_left (by rw [hg]; decide); have ae := aq.resolve_left (by rw [hg]; decide); have ag := az.resolve_left (by rw [hg]; decide); have au := aJ.resolve_left (by rw [hg]; decide); first | exact aa | exact aa.1 | exact aa.2 | exact ae | exact ae.1 | exact ae.2 | exact ag | exact ag.1 | exact ag.2 | exact au | exact au.1 | exact au.2 | omega | (have ac := hg; simp at ac; omega)) (by have aa := ap.resolve_left (by rw [hg]; decide); have ae := aq.resolve_left (by rw [hg]; decide); have ag := az.resolve_left (by rw [hg]; decide); have au := aJ.resolve_left (by rw [hg]; decide); first | exact aa | exact aa.1 | exact aa.2 | exact ae | exact ae.1 | exact ae.2 | exact ag | exact ag.1 | exact ag.2 | exact au | exact au.1 | exact au.2 | omega | (have ac := hg; simp at ac; omega))) (Cells.sup_le (H.ol 1) (roLe _ (H.get (k := 2) rfl))))))) ?_
   refine d_l rfl ?_
   obtain ⟨r3, bX, hM⟩ := M.e_bind hM
   refine t_gcall ((((s3 : Int) != (s2 : Int)) && (decide ((l6.getD s3 0) < ((r2.getD s3 ([])).length : Int)))) && (decide ((l6.getD s2 0) < ((r2.getD s2 ([])).length : Int)))) (gy_t rfl) cf23 (B r3) (fun _ => [Pq ao, I ((r2.getD s3 ([])).getD (Int.toNat (l6.getD s3 0)) 0), I ((r2.getD s2 ([])).getD (Int.toNat (l6.getD s2 0)) 0)]) (fun hg => lst3 (gd_of (c := ((((s3 : Int) != (s2 : Int)) && (decide ((l6.getD s3 0) < ((r2.getD s3 ([])).length : Int)))) && (decide ((l6.getD s2 0) < ((r2.getD s2 ([])).length : Int))))) hg (Pq ao)) (gd_of (c := ((((s3 : Int) != (s2 : Int)) && (decide ((l6.getD s3 0) < ((r2.getD s3 ([])).length : Int)))) && (decide ((l6.getD s2 0) < ((r2.getD s2 ([])).length : Int))))) hg (I ((r2.getD s3 ([])).getD (Int.toNat (l6.getD s3 0)) 0))) (gd_of (c := ((((s3 : Int) != (s2 : Int)) && (decide ((l6.getD s3 0) < ((r2.getD s3 ([])).length : Int)))) && (decide ((l6.getD s2 0) < ((r2.getD s2 ([])).length : Int))))) hg (I ((r2.getD s2 ([])).getD (Int.toNat (l6.getD s2 0)) 0)))) H (fun hg => (zar s_Sections s_Marks s_Reaches ((r2.getD s3 ([])).getD (Int.toNat (l6.getD s3 0)) 0) ((r2.getD s2 ([])).getD (Int.toNat (l6.getD s2 0)) 0) (aU.app _) aV (aW.app _) aX (aY.app _) aZ (Has.here (k := 3) rfl) (M.e_opt bX hg) _ (H.give (A := []) rfl)).mono fun v_ w_ ⟨y_, aN, bY, H_⟩ => by subst aN; exact ⟨bY, H.via H_⟩) ?_
   intro cL H
   refine s_nil ⟨(H.pk [0, 1, 2, 3, 4, 5]), ?_⟩
   refine d_q rfl (fun w' H => x_pand (b := ((((s3 : Int) != (s2 : Int)) && (decide ((l6.getD s3 0) < ((r2.getD s3 ([])).length : Int)))) && (decide ((l6.getD s2 0) < ((r2.getD s2 ([])).length : Int))))) (r := r3) rfl (fun hb => gd_of (c := ((((s3 : Int) != (s2 : Int)) && (decide ((l6.getD s3 0) < ((r2.getD s3 ([])).length : Int)))) && (decide ((l6.getD s2 0) < ((r2.getD s2 ([])).length : Int))))) (by first | exact hb | (rw [hb]; rfl) | simp_all) (B r3)) rfl) ?_
   refine d_nil ?_
   refine W.cond (((((s3 : Int) != (s2 : Int)) && (decide ((l6.getD s3 0) < ((r2.getD s3 ([])).length : Int)))) && (decide ((l6.getD s2 0) < ((r2.getD s2 ([])).length : Int)))) && r3) rfl (fun bf => ?_) (fun bf => ?_)
   ·replace hM := M.e_t hM bf
    refine W.seq ?_
    refine W.region rfl ?_
    refine zM ab rfl ?_
    refine zM (I (s3 : Int)) rfl ?_
    obtain ⟨bZ, hM⟩ := M.e_grd hM
    simp only [Bool.and_eq_true, decide_eq_true_eq] at bZ
    refine s_val (x_ix (a := ab) (b := I (s3 : Int)) (v := vat ab 1 (Int.toNat (s3 : Int))) rfl rfl (Sl.ix (α := Int) T28.und T28.size (H.os 0) (by omega) (by omega))) ?_
    refine s_val (x_ld (p := vat ab 1 (Int.toNat (s3 : Int))) (v := I (l6.getD s3 0)) rfl (ld_sc Sc3 (At.mono (Int_at (H.os 0) (i := (s3 : Int)) (by omega) (by omega)) (H.ol 0)))) ?_
    obtain ⟨b3, hM⟩ := M.e_grd hM
    simp only [Bool.and_eq_true, decide_eq_true_eq] at b3
    refine zR (l6.getD s3 0) 1 ((l6.getD s3 0) + 1) rfl rfl rfl (by omega) ?_
    refine s_val (x_ix (a := ab) (b := I (s3 : Int)) (v := vat ab 1 (Int.toNat (s3 : Int))) rfl rfl (Sl.ix (α := Int) T28.und T28.size (H.os 0) (by omega) (by omega))) ?_
    refine t_ost (k := 0) (i := (s3 : Int)) (l := l6) (l' := l6.set s3 ((l6.getD s3 0) + 1 : Int)) (val := I ((l6.getD s3 0) + 1)) (L' := [cOwn (α := Int) 3 ab (l6.set s3 ((l6.getD s3 0) + 1 : Int)), cOwn (α := Raw 0) 28 ai aF, cRo aG, cBlk ao [aj, ak, am, .map (some av)] 99, cMemI encSpt av (zaa s_Sections s_Marks s_Reaches), cBlk aC [aj, ak, am] 27]) H rfl Sz3 (by omega) (by omega) ((l6.getD s3 0) + 1 : Int) rfl rfl rfl rfl rfl ?_
    intro cM H
    refine s_nil ?_
    refine W.goto ?_
    have b4 := M.e_inr hM bc
    subst b4
    replace hM := bt
    try dsimp only at hM
    have b5 := M.e_inr hM ba
    subst b5
    replace hM := bq
    try dsimp only at hM
    exact ⟨rfl, bL, bM, l6.set s3 ((l6.getD s3 0) + 1 : Int), ab, _, upds_of _ _ ⟨rfl, rfl, rfl, trivial⟩, M.e_inl hM bp, H⟩
   replace hM := M.e_f hM bf
   refine W.skip ?_
   refine W.region rfl ?_
   refine zR (s2 : Int) 1 ((s2 : Int) + 1) rfl rfl rfl (by omega) ?_
   refine zM (I ((s2 : Int) + 1)) rfl ?_
   refine s_nil ?_
   exact ⟨bT, bU, s2 + 1, _, upds_of _ _ ⟨rfl, rfl, rfl, rfl, rfl, rfl, rfl, rfl, rfl, rfl, rfl, trivial⟩, M.e_inl hM bc, H⟩
  replace hM := M.e_f hM aP
  simp only [qy1, qy2, qy3, qy4, qy5, qy6, ne_eq, qy7] at aP
  refine W.exit ?_
  have b6 := M.e_inr hM bc
  subst b6
  replace hM := bt
  try dsimp only at hM
  refine W.region rfl ?_
  refine zR (s3 : Int) 1 ((s3 : Int) + 1) rfl rfl rfl (by omega) ?_
  refine zM (I ((s3 : Int) + 1)) rfl ?_
  refine s_nil ?_
  exact ⟨bO, bP, s3 + 1, _, upds_of _ _ ⟨rfl, rfl, rfl, rfl, rfl, rfl, trivial⟩, M.e_inl hM ba, H⟩
 replace hM := M.e_f hM aO
 simp only [qy1, qy2, qy3, qy4, qy5, qy6, ne_eq, qy7] at aO
 refine W.exit ?_
 have b7 := M.e_inr hM ba
 subst b7
 replace hM := bq
 try dsimp only at hM
 refine W.seq ?_
 refine W.region rfl ?_
 refine zA (.slice none 0 0) rfl ?_
 refine s_nil ?_
 refine W.seq ?_
 refine W.seq ?_
 refine W.region rfl ?_
 refine zM ai rfl ?_
 have cN := ((rowSl rfl (H.get (k := 1) rfl) (roLe _ (H.get (k := 2) rfl)) aw)).len_le
 refine s_val (x_lenS T75.und rfl (rowSl rfl (H.get (k := 1) rfl) (roLe _ (H.get (k := 2) rfl)) aw)) ?_
 refine zM (I 0) rfl ?_
 refine s_nil ?_
 refine W.block ?_
 replace H := H.nilOwn (α := Int) 3
 obtain ⟨b8, bg, b9⟩ := M.e_bind hM
 obtain ⟨a7, bg⟩ := M.e_iter bg
 refine W.loop (fun m σ W => ∃ (s4 : Nat) (l3 : List Int) (aA : Value) (ρ : Env), σ = upds ρ [(7, ab), (12, aA), (89, ai), (90, I (r2.length : Int)), (91, I (s4 : Int))] /\ M.iterN (zaI r2 l6) m (s4, l3) = some b8 /\ St w W [cOwn (α := Int) 3 aA l3, cOwn (α := Int) 3 ab l6, cOwn (α := Raw 0) 28 ai aF, cRo aG, cBlk ao [aj, ak, am, .map (some av)] 99, cMemI encSpt av (zaa s_Sections s_Marks s_Reaches), cBlk aC [aj, ak, am] 27] R) ?_ ?_
 ·exact ⟨_, 0, [], (.slice none 0 0), _, upds_of _ _ ⟨rfl, rfl, rfl, rfl, rfl, trivial⟩, bg, H⟩
 rintro cO σ cP ⟨s4, l3, aA, ρ, rfl, bv, H⟩
 obtain ⟨bw, bx, cQ, hM, bh⟩ := M.e_iterN bv
 simp only [zaI] at hM
 clear bv
 refine W.seq ?_
 refine W.region rfl ?_
 refine zC (s4 : Int) (r2.length : Int) (decide ((s4 : Int) < (r2.length : Int))) rfl rfl rfl ?_
 refine s_nil ?_
 refine W.seq ?_
 refine W.cond (decide ((s4 : Int) < (r2.length : Int))) rfl (fun aQ => ?_) (fun aQ => ?_)
 ·replace hM := M.e_t hM aQ
  simp only [qy1, qy2, qy3, qy4, qy5, qy6, ne_eq, qy7] at aQ
  refine W.skip ?_
  refine W.seq ?_
  refine W.block ?_
  refine W.seq ?_
  refine W.region rfl ?_
  refine zM (I (s4 : Int)) rfl ?_
  obtain ⟨cb, hM⟩ := M.e_grd hM
  simp only [Bool.and_eq_true, decide_eq_true_eq] at cb
  refine s_val (x_ix (a := ai) (b := I (s4 : Int)) (v := vat ai 1 (Int.toNat (s4 : Int))) rfl rfl (Sl.ix (α := List Int) T75.und T75.size (rowSl rfl (H.get (k := 2) rfl) (roLe _ (H.get (k := 3) rfl)) aw) (by omega) (by omega))) ?_
  obtain ⟨aE, cc, aK⟩ := List_at (rowSl rfl (H.get (k := 2) rfl) (roLe _ (H.get (k := 3) rfl)) aw) (i := (s4 : Int)) (by omega) (by omega)
  replace aK : Sl _ aE (r2.getD s4 ([])) := aK
  have cR := aK.len_le
  refine s_val (x_ld (p := vat ai 1 (Int.toNat (s4 : Int))) (v := aE) rfl (ld_sc Sc28 (At.mono (cc) (Cells.sup_le (H.ol 2) (roLe _ (H.get (k := 3) rfl)))))) ?_
  refine zA (I (s4 : Int)) rfl ?_
  refine zA aE rfl ?_
  refine s_nil ?_
  refine W.seq ?_
  refine W.region rfl ?_
  refine zM ab rfl ?_
  refine zM (I (s4 : Int)) rfl ?_
  obtain ⟨cd, hM⟩ := M.e_grd hM
  simp only [Bool.and_eq_true, decide_eq_true_eq] at cd
  refine s_val (x_ix (a := ab) (b := I (s4 : Int)) (v := vat ab 1 (Int.toNat (s4 : Int))) rfl rfl (Sl.ix (α := Int) T28.und T28.size (H.os 1) (by omega) (by omega))) ?_
  refine s_val (x_ld (p := vat ab 1 (Int.toNat (s4 : Int))) (v := I (l6.getD s4 0)) rfl (ld_sc Sc3 (At.mono (Int_at (H.os 1) (i := (s4 : Int)) (by omega) (by omega)) (H.ol 1)))) ?_
  refine zM aE rfl ?_
  have cS := (aK).len_le
  refine s_val (x_lenS T28.und rfl aK) ?_
  refine zC (l6.getD s4 0) ((r2.getD s4 ([])).length : Int) (decide ((l6.getD s4 0) < ((r2.getD s4 ([])).length : Int))) rfl rfl rfl ?_
  refine s_nil ?_
  refine W.cond (decide ((l6.getD s4 0) < ((r2.getD s4 ([])).length : Int))) rfl (fun aR => ?_) (fun aR => ?_)
  ·replace hM := M.e_t hM aR
   simp only [qy1, qy2, qy3, qy4, qy5, qy6, ne_eq, qy7] at aR
   refine W.region rfl ?_
   refine zM aA rfl ?_
   refine zM aE rfl ?_
   refine zM ab rfl ?_
   refine zM (I (s4 : Int)) rfl ?_
   refine s_val (x_ix (a := ab) (b := I (s4 : Int)) (v := vat ab 1 (Int.toNat (s4 : Int))) rfl rfl (Sl.ix (α := Int) T28.und T28.size (H.os 1) (by omega) (by omega))) ?_
   refine s_val (x_ld (p := vat ab 1 (Int.toNat (s4 : Int))) (v := I (l6.getD s4 0)) rfl (ld_sc Sc3 (At.mono (Int_at (H.os 1) (i := (s4 : Int)) (by omega) (by omega)) (H.ol 1)))) ?_
   obtain ⟨ce, hM⟩ := M.e_grd hM
   simp only [Bool.and_eq_true, decide_eq_true_eq] at ce
   refine s_val (x_ix (a := aE) (b := I (l6.getD s4 0)) (v := vat aE 1 (Int.toNat (l6.getD s4 0))) rfl rfl (Sl.ix (α := Int) T28.und T28.size aK (by omega) (by omega))) ?_
   refine s_val (x_ld (p := vat aE 1 (Int.toNat (l6.getD s4 0))) (v := I ((r2.getD s4 ([])).getD (Int.toNat (l6.getD s4 0)) 0)) rfl (ld_sc Sc3 (At.mono (Int_at aK (i := l6.getD s4 0) (by omega) (by omega)) (Cells.sup_le (H.ol 2) (roLe _ (H.get (k := 3) rfl)))))) ?_
   refine t_bs (α := Int) T28 [I ((r2.getD s4 ([])).getD (Int.toNat (l6.getD s4 0)) 0)] [((r2.getD s4 ([])).getD (Int.toNat (l6.getD s4 0)) 0 : Int)] H rfl (.cons rfl (Flat.rep_enc _ ((r2.getD s4 ([])).getD (Int.toNat (l6.getD s4 0)) 0 : Int)) <| .nil) rfl rfl rfl ?_
   intro cf cT H
   obtain ⟨cg, hM⟩ := M.e_grd hM
   simp only [Bool.and_eq_true, decide_eq_true_eq] at cg
   refine t_app (α := Int) (k := 1) (l := l3) (l2 := [((r2.getD s4 ([])).getD (Int.toNat (l6.getD s4 0)) 0 : Int)]) (l' := l3 ++ ([((r2.getD s4 ([])).getD (Int.toNat (l6.getD s4 0)) 0 : Int)])) (vy := cf) T28 rfl H rfl rfl rfl (H.os 0) (H.ol 0) (rfl) (by first | omega | (simp only [List.length_nil] at *; omega)) ?_
   intro bz cU H
   replace H := H.nf
   refine zA bz rfl ?_
   refine s_nil ?_
   refine W.region rfl ?_
   refine zR (s4 : Int) 1 ((s4 : Int) + 1) rfl rfl rfl (by omega) ?_
   refine zM (I ((s4 : Int) + 1)) rfl ?_
   refine s_nil ?_
   exact ⟨bw, bx, s4 + 1, l3 ++ ([((r2.getD s4 ([])).getD (Int.toNat (l6.getD s4 0)) 0 : Int)]), bz, _, upds_of _ _ ⟨rfl, rfl, rfl, rfl, rfl, trivial⟩, M.e_inl hM bh, (H.pk [1, 2, 3, 4, 5, 6, 7])⟩
  replace hM := M.e_f hM aR
  simp only [qy1, qy2, qy3, qy4, qy5, qy6, ne_eq, qy7] at aR
  refine W.skip ?_
  refine W.region rfl ?_
  refine zR (s4 : Int) 1 ((s4 : Int) + 1) rfl rfl rfl (by omega) ?_
  refine zM (I ((s4 : Int) + 1)) rfl ?_
  refine s_nil ?_
  exact ⟨bw, bx, s4 + 1, l3, aA, _, upds_of _ _ ⟨rfl, rfl, rfl, rfl, rfl, trivial⟩, M.e_inl hM bh, H⟩
 replace hM := M.e_f hM aQ
 simp only [qy1, qy2, qy3, qy4, qy5, qy6, ne_eq, qy7] at aQ
 refine W.exit ?_
 have cj := M.e_inr hM bh
 subst cj
 replace hM := b9
 try dsimp only at hM
 refine W.seq ?_
 refine W.region rfl ?_
 refine zM aA rfl ?_
 obtain ⟨ck, hM⟩ := M.e_grd hM
 simp only [Bool.and_eq_true, decide_eq_true_eq] at ck
 refine s_call cf24 [aA] rfl (sort_any (H.get (k := 0) rfl) (by omega)) ?_
 rintro _ cn ⟨rfl, bA, bB, bC⟩
 replace H : St w cn [cOwn (α := Int) 3 aA (isort l3), cOwn (α := Int) 3 ab l6, cOwn (α := Raw 0) 28 ai aF, cRo aG, cBlk ao [aj, ak, am, .map (some av)] 99, cMemI encSpt av (zaa s_Sections s_Marks s_Reaches), cBlk aC [aj, ak, am] 27] R := H.sorted (k := 0) rfl bA bB bC rfl
 clear bA bB bC
 refine s_nil ?_
 refine W.seq ?_
 refine W.region rfl ?_
 refine zM aA rfl ?_
 refine zA aA rfl ?_
 refine zA (I 0) rfl ?_
 refine s_nil ?_
 refine W.ret ?_
 have co := M.e_inr hM bp
 subst co
 replace hM := bK
 try dsimp only at hM
 have aN := M.e_pure hM
 exact ⟨_, resE_tmp2 rfl, ⟨(isort l3), 0, aA, aN, rfl, (H.pk [0])⟩⟩

def zbQ (i : Int) (ab : List Sect) (aa : List Mrk) (ac : List Rch) : M Bool :=
  M.bind (zab i 0 ((aa.length : Int) - 1)) fun r2 =>
  M.pure r2
theorem zdh {R : List Chunk} {ac : Nat} {aa : Nat} {ag : Cells} {ai : Value} {aj : Cells} {ae : Value} {ak : Cells} {am : Value} {av : Nat} (i : Int) (ao : List Sect) (ab : List Mrk) (ap : List Rch) (aB : Reads R ag) (aC : Sl ag ai ao) (aD : Reads R aj) (aq : Sl aj ae ab) (aE : Reads R ak) (aF : Sl ak am ap) (aw : Has R (cBlk aa [ai, ae, am, .map (some av)] 99)) (ax : Has R (cBlk ac [Pq aa] 72)) {r : Bool} (hM : (zbQ i ao ab ap).Ends r) (w : World) (H : St w w [] R) : Ret Try.prog 76 #[I i, Pq ac] w fun v w' => ∃ (y0 : Bool), y0 = r /\ v = B y0 /\ St w w' [] R := by
 refine ret_of_W Try.func76 rfl rfl rfl ?_
 refine W.seq ?_
 refine W.region rfl ?_
 refine zA (B false) rfl ?_
 refine s_nil ?_
 refine W.seq ?_
 refine W.region rfl ?_
 refine zM (I i) rfl ?_
 refine s_val (x_ld (p := Pq ac) (v := Pq aa) rfl (ldb_sc Sc72 (ax.blk H) rfl)) ?_
 refine s_val (x_nc (a := ⟨aa, 0, none⟩) rfl) ?_
 refine s_val (x_fa (a := Pq aa) (v := Pq aa) rfl (fa_blk (o := 0) Fd99_0 Sz27)) ?_
 refine s_val (x_fa (a := Pq aa) (v := Oq aa 1) rfl (fa_blk (o := 0) Fd27_1 Sz24)) ?_
 refine s_val (x_ld (p := Oq aa 1) (v := ae) rfl (ldb_sc Sc24 (aw.blk H) rfl)) ?_
 have aG := (aq).len_le
 refine s_val (x_lenS T24.und rfl aq) ?_
 refine zR (ab.length : Int) 1 ((ab.length : Int) - 1) rfl rfl rfl (by omega) ?_
 obtain ⟨aH, ay, hM⟩ := M.e_bind hM
 refine s_call cf34 [I i, I 0, I ((ab.length : Int) - 1)] rfl (zac i 0 ((ab.length : Int) - 1) ay _ (H.gt 0)) ?_
 rintro vq aI ⟨r2, az, hvq, au⟩
 subst az
 subst vq
 try dsimp only at hM
 replace H := H.bk au
 clear au
 refine zA (B r2) rfl ?_
 refine s_nil ?_
 refine W.ret ?_
 have aA := M.e_pure hM
 exact ⟨_, resE_tmp rfl, ⟨r2, aA, rfl, H⟩⟩

def zbZ (j : Int) (aa : List Sect) (ab : List Mrk) (ac : List Rch) (ae : Int) : M Bool :=
  M.bind (zag aa ab ac ae j) fun r2 =>
  M.bind (M.opt (!r2) (zag aa ab ac j ae) false) fun r3 =>
  M.pure (r2 || r3)
theorem zdl {R : List Chunk} {ac : Nat} {ab : Nat} {am : Cells} {ao : Value} {ap : Cells} {aq : Value} {au : Cells} {av : Value} {aG : Nat} {ae : Nat} (j : Int) (ag : List Sect) (ai : List Mrk) (aj : List Rch) (aa : Int) (aw : Reads R am) (ax : Sl am ao ag) (ay : Reads R ap) (az : Sl ap aq ai) (aA : Reads R au) (aB : Sl au av aj) (aC : Has R (cBlk ab [ao, aq, av, .map (some aG)] 99)) (aD : Has R (cBlk ac [Pq ab] 72)) (aE : Has R (cBlk ae [I aa] 3)) {r : Bool} (hM : (zbZ j ag ai aj aa).Ends r) (w : World) (H : St w w [] R) : Ret Try.prog 77 #[I j, Pq ac, Pq ae] w fun v w' => ∃ (y0 : Bool), y0 = r /\ v = B y0 /\ St w w' [] R := by
 refine ret_of_W Try.func77 rfl rfl rfl ?_
 refine W.seq ?_
 refine W.region rfl ?_
 refine zA (B false) rfl ?_
 refine s_nil ?_
 refine W.seq ?_
 refine W.region rfl ?_
 refine s_val (x_ld (p := Pq ac) (v := Pq ab) rfl (ldb_sc Sc72 (aD.blk H) rfl)) ?_
 refine s_val (x_ld (p := Pq ae) (v := I aa) rfl (ldb_sc Sc3 (aE.blk H) rfl)) ?_
 refine zM (I j) rfl ?_
 obtain ⟨aL, aH, hM⟩ := M.e_bind hM
 refine s_call cf23 [Pq ab, I aa, I j] rfl (zar ag ai aj aa j (aw.app _) ax (ay.app _) az (aA.app _) aB (aC.app _) aH _ (H.gt 0)) ?_
 rintro vq aM ⟨r2, aI, hvq, aF⟩
 subst aI
 subst vq
 try dsimp only at hM
 replace H := H.bk aF
 clear aF
 refine zM (B r2) rfl ?_
 refine g_val (!r2) (gy_f rfl) (fun hg => x_ld (p := Pq ac) (v := Pq ab) rfl (ldb_sc Sc72 (aD.blk H) rfl)) ?_
 refine g_val (!r2) (gy_f rfl) (fun hg => x_mv (v := I j) rfl) ?_
 refine g_val (!r2) (gy_f rfl) (fun hg => x_ld (p := Pq ae) (v := I aa) rfl (ldb_sc Sc3 (aE.blk H) rfl)) ?_
 obtain ⟨r3, aJ, hM⟩ := M.e_bind hM
 refine t_gcall (!r2) (gy_f rfl) cf23 (B r3) (fun _ => [Pq ab, I j, I aa]) (fun hg => lst3 (gd_of (c := !r2) hg (Pq ab)) (gd_of (c := !r2) hg (I j)) (gd_of (c := !r2) hg (I aa))) H (fun hg => (zar ag ai aj j aa (aw.app _) ax (ay.app _) az (aA.app _) aB (aC.app _) (M.e_opt aJ hg) _ (H.give (A := []) rfl)).mono fun v_ w_ ⟨y_, ak, aK, H_⟩ => by subst ak; exact ⟨aK, H.via H_⟩) ?_
 intro aN H
 refine s_val (x_por (b := r2) (r := r3) rfl rfl (fun hb => gd_of (c := !r2) (by first | exact hb | (rw [hb]; rfl) | simp_all) (B r3))) ?_
 refine zA (B (r2 || r3)) rfl ?_
 refine s_nil ?_
 refine W.ret ?_
 have ak := M.e_pure hM
 exact ⟨_, resE_tmp rfl, ⟨(r2 || r3), ak, rfl, H⟩⟩

def zcg (aa : List Sect) (ab : List Mrk) (ac : List Rch) (row : List Int) : ((List Bool) × Bool × Nat) -> M (((List Bool) × Bool × Nat) ⊕ (Bool × (List Bool))) := fun (ar, out, s) =>
  bif decide ((s : Int) < (row.length : Int)) then (
  M.grd (decide ((s : Int) < (row.length : Int))) <|
  M.grd (decide ((0 : Int) <= (row.getD s 0)) && decide ((row.getD s 0) < (16 : Int))) <|
  M.bind (M.opt out (zas (row.take s) (fun ae => zbZ ae aa ab ac (row.getD s 0))) false) fun r3 =>
  M.pure (.inl (ar.set (Int.toNat (row.getD s 0)) true, (out && r3), s + 1)))
  else (
  M.pure (.inr (out, ar)))
def zcC (aa : List Sect) (ab : List Mrk) (ac : List Rch) (row : List Int) (met : List Bool) : M (Bool × (List Bool)) :=
  M.bind (M.opt (!((row.length : Int) == 0)) (zas row (fun ae => zbQ ae aa ab ac)) false) fun r2 =>
  bif (((row.length : Int) == 0) || (!r2)) then (
  M.fail)
  else (
  M.bind (M.iter (zcg aa ab ac row) (met, true, 0)) fun (out2, ag) =>
  M.pure (out2, ag))
theorem zcJ {R : List Chunk} {ag : Nat} {aK : Cells} {aL : Value} {aM : Cells} {aN : Value} {aO : Cells} {aP : Value} {a6 : Nat} {aQ : Cells} {aa : Value} {ac : Nat} (ai : List Sect) (aj : List Mrk) (ak : List Rch) (row : List Int) (met : List Bool) (aR : Reads R aK) (aS : Sl aK aL ai) (aT : Reads R aM) (aU : Sl aM aN aj) (aV : Reads R aO) (aW : Sl aO aP ak) (aX : Has R (cBlk ag [aL, aN, aP, .map (some a6)] 99)) (ax : Reads R aQ) (ae : Sl aQ aa row) (a7 : met.length = 16) {r : (Bool × (List Bool))} (hM : (zcC ai aj ak row met).Ends r) (w : World) (H : St w w [cBlk ac (encB met) 111] R) : Ret Try.prog 43 #[Pq ag, aa, Pq ac] w fun v w' => ∃ (y0 : Bool) (y1 : List Bool), (y0, y1) = r /\ v = B y0 /\ St w w' [cBlk ac (encB y1) 111] R /\ y1.length = 16 := by
 refine ret_of_W Try.func43 rfl rfl rfl ?_
 refine W.seq ?_
 refine W.region rfl ?_
 refine t_box (v := Pq ag) (cs := [Pq ag]) H rfl rfl ?_
 intro ab bu H
 refine zA (B false) rfl ?_
 refine s_nil ?_
 refine W.seq ?_
 refine W.seq ?_
 refine W.region rfl ?_
 refine zM aa rfl ?_
 have bv := (ae).len_le
 refine s_val (x_lenS T28.und rfl ae) ?_
 refine zC (row.length : Int) 0 ((row.length : Int) == 0) rfl rfl rfl ?_
 refine zM (B ((row.length : Int) == 0)) rfl ?_
 refine g_val (!((row.length : Int) == 0)) (gy_f rfl) (fun hg => x_mv (v := aa) rfl) ?_
 refine g_val (!((row.length : Int) == 0)) (gy_f rfl) (fun hg => x_mf (fs := []) (cs := [Pq ab]) rfl rfl) ?_
 obtain ⟨r2, a8, hM⟩ := M.e_bind hM
 refine t_gcall (!((row.length : Int) == 0)) (gy_f rfl) cf46 (B r2) (fun _ => [aa, .func (.func 76) #[] #[Pq ab]]) (fun hg => lst2 (gd_of (c := !((row.length : Int) == 0)) hg (aa)) (gd_of (c := !((row.length : Int) == 0)) hg (.func (.func 76) #[] #[Pq ab]))) H (fun hg => (zbC row (fun am => zbQ am ai aj ak) (ax.app _) ae ⟨76, [Pq ab], rfl, cf76, fun aq ba bb ay am bc az bf aA aB => by obtain rfl := Arg.int aA; exact (zdh am ai aj ak (Reads.app (aR.app _) _) aS (Reads.app (aT.app _) _) aU (Reads.app (aV.app _) _) aW (Has.app (aX.app _) _) (Has.app (Has.here (k := 0) rfl) _) aB aq (St.refl az)).mono fun ay aq ⟨bg, aC, aD, aE⟩ => by subst aC; exact ⟨aD, aE⟩⟩ (M.e_opt a8 hg) _ (H.give (A := []) rfl)).mono fun v_ w_ ⟨y_, au, aF, H_⟩ => by subst au; exact ⟨aF, H.via H_⟩) ?_
 intro bw H
 refine g_val (!((row.length : Int) == 0)) (gy_f rfl) (fun hg => x_not (b := r2) (gd_of (c := !((row.length : Int) == 0)) hg (B r2))) ?_
 refine s_val (x_por (b := (row.length : Int) == 0) (r := !r2) rfl rfl (fun hb => gd_of (c := !((row.length : Int) == 0)) (by first | exact hb | (rw [hb]; rfl) | simp_all) (B (!r2)))) ?_
 refine s_nil ?_
 refine W.cond (((row.length : Int) == 0) || (!r2)) rfl (fun aG => ?_) (fun aG => ?_)
 ·replace hM := M.e_t hM aG
  refine W.region rfl ?_
  exact (M.e_fail hM).elim
 replace hM := M.e_f hM aG
 refine W.skip ?_
 refine W.seq ?_
 refine W.region rfl ?_
 refine zA (B true) rfl ?_
 refine s_nil ?_
 refine W.seq ?_
 refine W.seq ?_
 refine W.region rfl ?_
 refine zM aa rfl ?_
 have bx := (ae).len_le
 refine s_val (x_lenS T28.und rfl ae) ?_
 refine zM (I 0) rfl ?_
 refine s_nil ?_
 refine W.block ?_
 obtain ⟨bh, aH, bi⟩ := M.e_bind hM
 obtain ⟨bz, aH⟩ := M.e_iter aH
 refine W.loop (fun m σ W => ∃ (ar : List Bool) (out : Bool) (s : Nat) (ρ : Env), σ = upds ρ [(1, aa), (2, Pq ac), (3, Pq ab), (7, B out), (21, aa), (22, I (row.length : Int)), (23, I (s : Int))] /\ M.iterN (zcg ai aj ak row) m (ar, out, s) = some bh /\ St w W [cBlk ab [Pq ag] 72, cBlk ac (encB ar) 111] R /\ ar.length = 16) ?_ ?_
 ·exact ⟨_, met, true, 0, _, upds_of _ _ ⟨rfl, rfl, rfl, rfl, rfl, rfl, rfl, trivial⟩, aH, H, a7⟩
 rintro bA σ bB ⟨ar, out, s, ρ, rfl, aY, H, aI⟩
 obtain ⟨bj, bm, bC, hM, aZ⟩ := M.e_iterN aY
 simp only [zcg] at hM
 clear aY
 refine W.seq ?_
 refine W.region rfl ?_
 refine zC (s : Int) (row.length : Int) (decide ((s : Int) < (row.length : Int))) rfl rfl rfl ?_
 refine s_nil ?_
 refine W.seq ?_
 refine W.cond (decide ((s : Int) < (row.length : Int))) rfl (fun av => ?_) (fun av => ?_)
 ·replace hM := M.e_t hM av
  simp only [qy1, qy2, qy3, qy4, qy5, qy6, ne_eq, qy7] at av
  refine W.skip ?_
  refine W.seq ?_
  refine W.block ?_
  refine W.seq ?_
  refine W.region rfl ?_
  refine zM (I (s : Int)) rfl ?_
  obtain ⟨bn, hM⟩ := M.e_grd hM
  simp only [Bool.and_eq_true, decide_eq_true_eq] at bn
  refine s_val (x_ix (a := aa) (b := I (s : Int)) (v := vat aa 1 (Int.toNat (s : Int))) rfl rfl (Sl.ix (α := Int) T28.und T28.size ae (by omega) (by omega))) ?_
  refine s_val (x_ld (p := vat aa 1 (Int.toNat (s : Int))) (v := I (row.getD s 0)) rfl (ld_sc Sc3 (At.mono (Int_at ae (i := (s : Int)) (by omega) (by omega)) (ax.at H)))) ?_
  refine t_alloc (cs := [I 0]) H Al3 rfl ?_
  intro ao bD H
  refine zA (I (s : Int)) rfl ?_
  refine t_sw 0 0 [I (row.getD s 0)] (I (row.getD s 0)) H rfl rfl Sz3 rfl rfl rfl rfl ?_
  intro bE H
  refine s_nil ?_
  refine W.seq ?_
  refine W.draw (fun W => St w W [cBlk ao [I (row.getD s 0)] 3, cBlk ab [Pq ag] 72] R) [(0, true), (1, true), (2, true), (3, true), (4, false)] mixed (by decide +kernel) rfl ?_
  intro bF ap
  replace H := H.ext ap
  clear ap
  refine ⟨(H.pk [0, 1]), ?_⟩
  refine d_q rfl (fun w' H => x_mv (v := Pq ac) rfl) ?_
  refine d_q rfl (fun w' H => x_ld (p := Pq ao) (v := I (row.getD s 0)) rfl (ldb_sc Sc3 (H.bl 0) rfl)) ?_
  refine d_q rfl (fun w' H => x_nc (a := ⟨ac, 0, none⟩) rfl) ?_
  obtain ⟨bo, hM⟩ := M.e_grd hM
  simp only [Bool.and_eq_true, decide_eq_true_eq] at bo
  refine d_q rfl (fun w' H => x_ix (a := Pq ac) (b := I (row.getD s 0)) (v := .pointer (some ⟨ac, 0 + Int.toNat (row.getD s 0), none⟩)) rfl rfl (run_indexArr Try.underlying111 Sz4 (by omega) (by omega))) ?_
  refine d_l rfl ?_
  refine t_stArr (k := 2) (b := ac) (l := ar) (l' := ar.set (Int.toNat (row.getD s 0)) true) (i := row.getD s 0) (v := true) (L' := [cBlk ao [I (row.getD s 0)] 3, cBlk ab [Pq ag] 72, cBlk ac (encB (ar.set (Int.toNat (row.getD s 0)) true)) 111]) H rfl rfl rfl Sz4 (by omega) (by have bG := aI; omega) rfl rfl ?_
  intro bH H
  have bp : (ar.set (Int.toNat (row.getD s 0)) true).length = 16 := List.length_set.trans aI
  refine s_nil ⟨(H.pk [0, 1]), ?_⟩
  refine d_nil ?_
  refine W.region rfl ?_
  refine zM (B out) rfl ?_
  refine zM (B out) rfl ?_
  refine g_val out (gy_t rfl) (fun hg => x_mv (v := aa) rfl) ?_
  refine g_val out (gy_t rfl) (fun hg => x_mv (v := I (s : Int)) rfl) ?_
  obtain ⟨aw, bq, aJ⟩ := gd_ex (c := out) fun hg => sl_hi T28.und T28.size ae (j := (s : Int)) (by first | omega | (have ap := hg; simp at ap; omega)) (by first | omega | (have ap := hg; simp at ap; omega))
  replace aJ : out = true -> Sl _ aw (row.take s) := aJ
  refine g_val out (gy_t rfl) (fun hg => x_sl (v := aa) (u := aw) (lo' := none) (hi' := some (I (s : Int))) (mx' := none) (gd_of (c := out) hg (aa)) rfl (congrArg some (gd_of (c := out) hg (I (s : Int)))) rfl (bq hg _)) ?_
  refine g_val out (gy_t rfl) (fun hg => x_mf (fs := []) (cs := [Pq ab, Pq ao]) rfl rfl) ?_
  obtain ⟨r3, br, hM⟩ := M.e_bind hM
  refine t_gcall out (gy_t rfl) cf46 (B r3) (fun _ => [aw, .func (.func 77) #[] #[Pq ab, Pq ao]]) (fun hg => lst2 (gd_of (c := out) hg (aw)) (gd_of (c := out) hg (.func (.func 77) #[] #[Pq ab, Pq ao]))) H (fun hg => (zbC (row.take s) (fun am => zbZ am ai aj ak (row.getD s 0)) (ax.app _) (aJ hg) ⟨77, [Pq ab, Pq ao], rfl, cf77, fun aq ba bb ay am bc az bf aA aB => by obtain rfl := Arg.int aA; exact (zdl am ai aj ak (row.getD s 0) (Reads.app (aR.app _) _) aS (Reads.app (aT.app _) _) aU (Reads.app (aV.app _) _) aW (Has.app (aX.app _) _) (Has.app (Has.here (k := 1) rfl) _) (Has.app (Has.here (k := 0) rfl) _) aB aq (St.refl az)).mono fun ay aq ⟨bg, aC, aD, aE⟩ => by subst aC; exact ⟨aD, aE⟩⟩ (M.e_opt br hg) _ (H.give (A := []) rfl)).mono fun v_ w_ ⟨y_, au, aF, H_⟩ => by subst au; exact ⟨aF, H.via H_⟩) ?_
  intro bI H
  refine s_val (x_pand (b := out) (r := r3) rfl (fun hb => gd_of (c := out) (by first | exact hb | (rw [hb]; rfl) | simp_all) (B r3)) rfl) ?_
  refine zA (B (out && r3)) rfl ?_
  refine s_nil ?_
  refine W.region rfl ?_
  refine zR (s : Int) 1 ((s : Int) + 1) rfl rfl rfl (by omega) ?_
  refine zM (I ((s : Int) + 1)) rfl ?_
  refine s_nil ?_
  exact ⟨bj, bm, ar.set (Int.toNat (row.getD s 0)) true, (out && r3), s + 1, _, upds_of _ _ ⟨rfl, rfl, rfl, rfl, rfl, rfl, rfl, trivial⟩, M.e_inl hM aZ, (H.pk [1, 2]), bp⟩
 replace hM := M.e_f hM av
 simp only [qy1, qy2, qy3, qy4, qy5, qy6, ne_eq, qy7] at av
 refine W.exit ?_
 have bt := M.e_inr hM aZ
 subst bt
 replace hM := bi
 try dsimp only at hM
 refine W.seq ?_
 refine W.region rfl ?_
 refine zM (B out) rfl ?_
 refine zA (B out) rfl ?_
 refine s_nil ?_
 refine W.ret ?_
 have au := M.e_pure hM
 exact ⟨_, resE_tmp rfl, ⟨out, ar, au, rfl, (H.pk [1]), aI⟩⟩

def zcf (s : List Bool) (f : Bool -> M Bool) : Nat -> M (Nat ⊕ (Int ⊕ Unit)) := fun s2 =>
  bif decide ((s2 : Int) < (s.length : Int)) then (
  M.grd (decide ((s2 : Int) < (s.length : Int))) <|
  M.bind (f (s.getD s2 false)) fun r2 =>
  bif r2 then (
  M.pure (.inr (.inl (s2 : Int))))
  else (
  M.pure (.inl (s2 + 1))))
  else (
  M.pure (.inr (.inr ())))
def zcD (s : List Bool) (f : Bool -> M Bool) : M Int :=
  M.bind (M.iter (zcf s f) 0) fun x_ => match x_ with
  | (.inl s3) => (
  M.pure s3)
  | (.inr (_ : Unit)) => (
  M.pure (-1))
theorem zdd {R : List Chunk} {am : Cells} {aa : Value} {ac : Value} (s : List Bool) (f : Bool -> M Bool) (aq : Reads R am) (ae : Sl am aa s) (au : FnM Try.prog R ac f) {r : Int} (hM : (zcD s f).Ends r) (w : World) (H : St w w [] R) : Ret Try.prog 100 #[aa, ac] w fun v w' => ∃ (y0 : Int), y0 = r /\ v = I y0 /\ St w w' [] R := by
 refine ret_of_W Try.func100 rfl rfl rfl ?_
 refine W.seq ?_
 refine W.region rfl ?_
 refine zA (I 0) rfl ?_
 refine s_nil ?_
 refine W.seq ?_
 refine W.seq ?_
 refine W.region rfl ?_
 refine zM aa rfl ?_
 have aC := (ae).len_le
 refine s_val (x_lenS T115.und rfl ae) ?_
 refine zM (I 0) rfl ?_
 refine s_nil ?_
 refine W.block ?_
 obtain ⟨av, ag, ao⟩ := M.e_bind hM
 obtain ⟨aD, ag⟩ := M.e_iter ag
 refine W.loop (fun m σ W => ∃ (s2 : Nat) (ρ : Env), σ = upds ρ [(0, aa), (1, ac), (7, I (s.length : Int)), (8, I (s2 : Int))] /\ M.iterN (zcf s f) m s2 = some av /\ St w W [] R) ?_ ?_
 ·exact ⟨_, 0, _, upds_of _ _ ⟨rfl, rfl, rfl, rfl, trivial⟩, ag, H⟩
 rintro aE σ aF ⟨s2, ρ, rfl, ap, H⟩
 obtain ⟨aw, ax, aG, hM, ai⟩ := M.e_iterN ap
 simp only [zcf] at hM
 clear ap
 refine W.seq ?_
 refine W.region rfl ?_
 refine zC (s2 : Int) (s.length : Int) (decide ((s2 : Int) < (s.length : Int))) rfl rfl rfl ?_
 refine s_nil ?_
 refine W.seq ?_
 refine W.cond (decide ((s2 : Int) < (s.length : Int))) rfl (fun ab => ?_) (fun ab => ?_)
 ·replace hM := M.e_t hM ab
  simp only [qy1, qy2, qy3, qy4, qy5, qy6, ne_eq, qy7] at ab
  refine W.skip ?_
  refine W.seq ?_
  refine W.block ?_
  refine W.seq ?_
  refine W.region rfl ?_
  refine zM (I (s2 : Int)) rfl ?_
  refine zA (I (s2 : Int)) rfl ?_
  refine s_nil ?_
  refine W.seq ?_
  refine W.region rfl ?_
  refine zM ac rfl ?_
  refine zM aa rfl ?_
  refine zM (I (s2 : Int)) rfl ?_
  obtain ⟨ay, hM⟩ := M.e_grd hM
  simp only [Bool.and_eq_true, decide_eq_true_eq] at ay
  refine s_val (x_ix (a := aa) (b := I (s2 : Int)) (v := vat aa 1 (Int.toNat (s2 : Int))) rfl rfl (Sl.ix (α := Bool) T115.und T115.size ae (by omega) (by omega))) ?_
  refine s_val (x_ld (p := vat aa 1 (Int.toNat (s2 : Int))) (v := B (s.getD s2 false)) rfl (ld_sc Sc4 (At.mono (Bool_at ae (i := (s2 : Int)) (by omega) (by omega)) (aq.at H)))) ?_
  obtain ⟨r2, az, hM⟩ := M.e_bind hM
  refine t_callM H au rfl rfl (s.getD s2 false) Reads.none (show Arg (fun _ => none) (B (s.getD s2 false)) (s.getD s2 false) from ⟨[B (s.getD s2 false)], rfl, rfl⟩) az ?_
  intro aH H
  refine s_nil ?_
  refine W.cond r2 rfl (fun aj => ?_) (fun aj => ?_)
  ·replace hM := M.e_t hM aj
   refine W.seq ?_
   refine W.region rfl ?_
   refine zM (I (s2 : Int)) rfl ?_
   refine zA (I (s2 : Int)) rfl ?_
   refine s_nil ?_
   refine W.ret ?_
   have aA := M.e_inr hM ai
   subst aA
   replace hM := ao
   try dsimp only at hM
   have ak := M.e_pure hM
   exact ⟨_, resE_tmp rfl, ⟨(s2 : Int), ak, rfl, H⟩⟩
  replace hM := M.e_f hM aj
  refine W.skip ?_
  refine W.region rfl ?_
  refine zR (s2 : Int) 1 ((s2 : Int) + 1) rfl rfl rfl (by omega) ?_
  refine zM (I ((s2 : Int) + 1)) rfl ?_
  refine s_nil ?_
  exact ⟨aw, ax, s2 + 1, _, upds_of _ _ ⟨rfl, rfl, rfl, rfl, trivial⟩, M.e_inl hM ai, H⟩
 replace hM := M.e_f hM ab
 simp only [qy1, qy2, qy3, qy4, qy5, qy6, ne_eq, qy7] at ab
 refine W.exit ?_
 have aB := M.e_inr hM ai
 subst aB
 replace hM := ao
 try dsimp only at hM
 refine W.seq ?_
 refine W.region rfl ?_
 refine zA (I (-1)) rfl ?_
 refine s_nil ?_
 refine W.ret ?_
 have ak := M.e_pure hM
 exact ⟨_, resE_tmp rfl, ⟨(-1), ak, rfl, H⟩⟩

def zct (s : List Bool) (f : Bool -> M Bool) : M Bool :=
  M.bind (zcD s f) fun r2 =>
  M.pure (decide (0 <= r2))
theorem zcU {R : List Chunk} {ac : Cells} {aa : Value} {ab : Value} (s : List Bool) (f : Bool -> M Bool) (ag : Reads R ac) (ai : Sl ac aa s) (aj : FnM Try.prog R ab f) {r : Bool} (hM : (zct s f).Ends r) (w : World) (H : St w w [] R) : Ret Try.prog 78 #[aa, ab] w fun v w' => ∃ (y0 : Bool), y0 = r /\ v = B y0 /\ St w w' [] R := by
 refine ret_of_W Try.func78 rfl rfl rfl ?_
 refine W.seq ?_
 refine W.region rfl ?_
 refine zA (B false) rfl ?_
 refine s_nil ?_
 refine W.seq ?_
 refine W.region rfl ?_
 refine zM aa rfl ?_
 refine zM ab rfl ?_
 obtain ⟨ap, ak, hM⟩ := M.e_bind hM
 refine s_call cf100 [aa, ab] rfl (zdd s f (ag.app _) ai (aj.app _) ak _ (H.gt 0)) ?_
 rintro vq aq ⟨r2, am, hvq, ae⟩
 subst am
 subst vq
 try dsimp only at hM
 replace H := H.bk ae
 clear ae
 refine zC r2 0 (decide (0 <= r2)) rfl rfl rfl ?_
 refine zA (B (decide (0 <= r2))) rfl ?_
 refine s_nil ?_
 refine W.ret ?_
 have ao := M.e_pure hM
 exact ⟨_, resE_tmp rfl, ⟨(decide (0 <= r2)), ao, rfl, H⟩⟩

def zbX (x : Bool) (aa : Bool -> M Bool) : M Bool :=
  M.bind (aa x) fun r2 =>
  M.pure (!r2)
theorem zc9 {R : List Chunk} {aa : Nat} {ab : Value} (x : Bool) (ac : Bool -> M Bool) (ae : FnM Try.prog R ab ac) (ag : Has R (cBlk aa [ab] 116)) {r : Bool} (hM : (zbX x ac).Ends r) (w : World) (H : St w w [] R) : Ret Try.prog 79 #[B x, Pq aa] w fun v w' => ∃ (y0 : Bool), y0 = r /\ v = B y0 /\ St w w' [] R := by
 refine ret_of_W Try.func79 rfl rfl rfl ?_
 refine W.seq ?_
 refine W.region rfl ?_
 refine zA (B false) rfl ?_
 refine s_nil ?_
 refine W.seq ?_
 refine W.region rfl ?_
 refine s_val (x_ld (p := Pq aa) (v := ab) rfl (ldb_sc Sc116 (ag.blk H) rfl)) ?_
 refine zM (B x) rfl ?_
 obtain ⟨r2, ai, hM⟩ := M.e_bind hM
 refine t_callM H ae rfl rfl x Reads.none (show Arg (fun _ => none) (B x) x from ⟨[B x], rfl, rfl⟩) ai ?_
 intro ak H
 refine s_val (x_not (b := r2) rfl) ?_
 refine zA (B (!r2)) rfl ?_
 refine s_nil ?_
 refine W.ret ?_
 have aj := M.e_pure hM
 exact ⟨_, resE_tmp rfl, ⟨(!r2), aj, rfl, H⟩⟩

def zcp (l : List Bool) (so : Bool -> M Bool) : M Bool :=
  M.bind (zct l (fun aa => zbX aa so)) fun r2 =>
  M.pure (!r2)
theorem zcH {R : List Chunk} {ag : Cells} {aa : Value} {ab : Value} (l : List Bool) (so : Bool -> M Bool) (am : Reads R ag) (ao : Sl ag aa l) (ai : FnM Try.prog R ab so) {r : Bool} (hM : (zcp l so).Ends r) (w : World) (H : St w w [] R) : Ret Try.prog 44 #[aa, ab] w fun v w' => ∃ (y0 : Bool), y0 = r /\ v = B y0 /\ St w w' [] R := by
 refine ret_of_W Try.func44 rfl rfl rfl ?_
 refine W.seq ?_
 refine W.region rfl ?_
 refine t_box (v := ab) (cs := [ab]) H rfl (FnM.cells ai) ?_
 intro ac aC H
 refine zA (B false) rfl ?_
 refine s_nil ?_
 refine W.seq ?_
 refine W.region rfl ?_
 refine zM aa rfl ?_
 refine s_val (x_mf (fs := []) (cs := [Pq ac]) rfl rfl) ?_
 obtain ⟨aD, ap, hM⟩ := M.e_bind hM
 refine s_call cf78 [aa, .func (.func 79) #[] #[Pq ac]] rfl (zcU l (fun ae => zbX ae so) (am.app _) ao ⟨79, [Pq ac], rfl, cf79, fun aj aE aF aq ae aG au aH av aw => by obtain ⟨_, rfl, rfl⟩ := av; exact (zc9 ae so (FnM.app (ai.app _) _) (Has.app (Has.here (k := 0) rfl) _) aw aj (St.refl au)).mono fun aq aj ⟨aI, ax, ay, az⟩ => by subst ax; exact ⟨ay, az⟩⟩ ap _ (H.gt 1)) ?_
 rintro vq aJ ⟨r2, aA, hvq, ak⟩
 subst aA
 subst vq
 try dsimp only at hM
 replace H := H.bk ak
 clear ak
 refine s_val (x_not (b := r2) rfl) ?_
 refine zA (B (!r2)) rfl ?_
 refine s_nil ?_
 refine W.ret ?_
 have aB := M.e_pure hM
 exact ⟨_, resE_tmp rfl, ⟨(!r2), aB, rfl, (H.pk [])⟩⟩

def zci (x : Bool) : M Bool :=
  M.pure x
theorem zc7 {R : List Chunk}  (x : Bool)  {r : Bool} (hM : (zci x).Ends r) (w : World) (H : St w w [] R) : Ret Try.prog 45 #[B x] w fun v w' => ∃ (y0 : Bool), y0 = r /\ v = B y0 /\ St w w' [] R := by
 refine ret_of_W Try.func45 rfl rfl rfl ?_
 refine W.seq ?_
 refine W.region rfl ?_
 refine zA (B false) rfl ?_
 refine s_nil ?_
 refine W.seq ?_
 refine W.region rfl ?_
 refine zM (B x) rfl ?_
 refine zA (B x) rfl ?_
 refine s_nil ?_
 refine W.ret ?_
 have aa := M.e_pure hM
 exact ⟨_, resE_tmp rfl, ⟨x, aa, rfl, H⟩⟩

def zch (s_Sections : List Sect) (s_Marks : List Mrk) (s_Reaches : List Rch) (rows : List (List Int)) : (Bool × (List Bool) × Nat) -> M ((Bool × (List Bool) × Nat) ⊕ (Bool × (List Bool))) := fun (s2, ar, s3) =>
  bif decide ((s3 : Int) < (rows.length : Int)) then (
  M.grd (decide ((s3 : Int) < (rows.length : Int))) <|
  M.bind (zcC s_Sections s_Marks s_Reaches (rows.getD s3 ([])) ar) fun (r2, aa) =>
  bif !r2 then (
  M.pure (.inl (false, aa, s3 + 1)))
  else (
  M.pure (.inl (s2, aa, s3 + 1))))
  else (
  M.pure (.inr (s2, ar)))
def zcu (s_Sections : List Sect) (s_Marks : List Mrk) (s_Reaches : List Rch) (many : Int) (rows : List (List Int)) : M (Bool × Int) :=
  M.bind (zan s_Sections s_Marks s_Reaches) fun x_ => match x_ with
  | (.inl r1) => (
  bif r1 != 0 then (
  M.pure (false, r1))
  else (
  M.fail))
  | (.inr aa) => (
  bif aa != 0 then (
  M.fail)
  else (
  bif decide (16 < (rows.length : Int)) then (
  M.pure (false, 3))
  else (
  M.bind (M.iter (zch s_Sections s_Marks s_Reaches rows) (decide ((rows.length : Int) <= many), List.replicate 16 false, 0)) fun (s4, ab) =>
  M.grd ((!s4 || (decide ((0 : Int) <= (s_Marks.length : Int)) && decide ((s_Marks.length : Int) <= (16 : Int))))) <|
  M.bind (M.opt s4 (zcp (ab.take (Int.toNat (s_Marks.length : Int))) (fun ac => zci ac)) false) fun r3 =>
  M.pure ((s4 && r3), 0))))
theorem zc0 {R : List Chunk} {aJ : Cells} {ae : Value} {aK : Cells} {ab : Value} {aL : Cells} {ag : Value} {aM : Cells} {ak : Value} (s_Sections : List Sect) (s_Marks : List Mrk) (s_Reaches : List Rch) (many : Int) (rows : List (List Int)) (aN : Reads R aJ) (aO : Sl aJ ae s_Sections) (aP : Reads R aK) (aB : Sl aK ab s_Marks) (aQ : Reads R aL) (aR : Sl aL ag s_Reaches) (aS : Reads R aM) (ap : Sl aM ak rows) {r : (Bool × Int)} (hM : (zcu s_Sections s_Marks s_Reaches many rows).Ends r) (w : World) (H : St w w [] R) : Ret Try.prog 28 #[.agg #[ae, ab, ag], I many, ak] w fun v w' => ∃ (y0 : Bool) (y1 : Int), (y0, y1) = r /\ v = .tuple #[B y0, I y1] /\ St w w' [] R := by
 refine ret_of_WB Try.func28 rfl rfl rfl ?_
 refine WB.seq ?_
 refine W.region rfl ?_
 refine t_box (v := .agg #[ae, ab, ag]) (cs := [ae, ab, ag]) H rfl rfl ?_
 intro aq bK H
 refine t_alloc (cs := [B false]) H Al4 rfl ?_
 intro aw bL H
 refine t_alloc (cs := [I 0]) H Al48 rfl ?_
 intro ai bM H
 refine s_nil ?_
 refine WB.seq ?_
 refine W.region rfl ?_
 refine s_val (x_ld (p := Pq aq) (v := .agg #[ae, ab, ag]) rfl (ldb_ag (ds := [ae, ab, ag]) Ag27 Sz27 (H.bl 2) rfl rfl)) ?_
 obtain ⟨bN, a7, hM⟩ := M.e_bind hM
 refine s_call cf21 [.agg #[ae, ab, ag]] rfl (zaZ s_Sections s_Marks s_Reaches (aN.app _) aO (aP.app _) aB (aQ.app _) aR a7 _ (H.gt 3)) ?_
 rintro vq bO (⟨r1, a8, hvq, au⟩ | ⟨ac, am, aT, ba, hvq, au⟩)
 ·subst a8
  subst vq
  try dsimp only at hM
  replace H := H.bk au
  clear au
  refine zM (.tuple #[.pointer none, I r1]) rfl ?_
  refine zX [.pointer none, I r1] (.pointer none) rfl rfl ?_
  refine zX [.pointer none, I r1] (I r1) rfl rfl ?_
  refine zA (.pointer none) rfl ?_
  refine t_sw 0 0 [I r1] (I r1) H rfl rfl Sz48 rfl rfl rfl rfl ?_
  intro bP H
  refine s_nil ?_
  refine WB.seq ?_
  refine W.block ?_
  refine W.seq ?_
  refine W.region rfl ?_
  refine s_val (x_ld (p := Pq ai) (v := I r1) rfl (ldb_sc Sc48 (H.bl 0) rfl)) ?_
  refine zC r1 0 (r1 != 0) rfl rfl rfl ?_
  refine zA (B (r1 != 0)) rfl ?_
  refine s_nil ?_
  refine W.cond (r1 != 0) rfl (fun aC => ?_) (fun aC => ?_)
  ·replace hM := M.e_t hM aC
   simp only [qy1, qy2, qy3, qy4, qy5, qy6, ne_eq, qy7] at aC
   refine W.seq ?_
   refine W.drawT (fun W => St w W [cBlk aq [ae, ab, ag] 27] R) (.l2 0 (.l 1 (.l 2 .nil)) 1 (.l 0 (.l 2 .nil))) mixed (by decide +kernel) rfl ?_
   intro bQ aj
   replace H := H.ext aj
   clear aj
   refine ⟨(H.pk [2]), ?_⟩
   refine t_l2 rfl rfl ?_ ?_
   ·skip
    refine s_val (x_ld (p := Pq ai) (v := I r1) rfl (ldb_sc Sc48 (H.bl 0) rfl)) ?_
    refine s_nil ⟨(H.pk [2]), ?_⟩
    refine t_l rfl ?_
    refine t_sw 1 0 [B false] (B false) H rfl rfl Sz4 rfl rfl rfl rfl ?_
    intro bR H
    refine s_nil ⟨(H.pk [2]), ?_⟩
    refine t_l rfl ?_
    refine t_sw 0 0 [I r1] (I r1) H rfl rfl Sz48 rfl rfl rfl rfl ?_
    intro bS H
    refine s_nil ⟨(H.pk [2]), ?_⟩
    refine t_nil ?_
    refine W.ret ?_
    have bb := (H.bl 1)
    have bc := (H.bl 0)
    have ao := M.e_pure hM
    exact ⟨_, (resE_ofn (vs := [B false, I r1]) rfl rfl (.cell (v := B false) rfl (run_loadVar_sc Sc4 bb rfl) <| .cell (v := I r1) rfl (run_loadVar_sc Sc48 bc rfl) <| .nil)), ⟨false, r1, ao, rfl, (H.pk [])⟩⟩
   skip
   refine t_sw 1 0 [B false] (B false) H rfl rfl Sz4 rfl rfl rfl rfl ?_
   intro bT H
   refine s_nil ⟨(H.pk [2]), ?_⟩
   refine t_l rfl ?_
   refine s_val (x_ld (p := Pq ai) (v := I r1) rfl (ldb_sc Sc48 (H.bl 0) rfl)) ?_
   refine s_nil ⟨(H.pk [2]), ?_⟩
   refine t_l rfl ?_
   refine t_sw 0 0 [I r1] (I r1) H rfl rfl Sz48 rfl rfl rfl rfl ?_
   intro bU H
   refine s_nil ⟨(H.pk [2]), ?_⟩
   refine t_nil ?_
   refine W.ret ?_
   have bf := (H.bl 1)
   have bg := (H.bl 0)
   have ao := M.e_pure hM
   exact ⟨_, (resE_ofn (vs := [B false, I r1]) rfl rfl (.cell (v := B false) rfl (run_loadVar_sc Sc4 bf rfl) <| .cell (v := I r1) rfl (run_loadVar_sc Sc48 bg rfl) <| .nil)), ⟨false, r1, ao, rfl, (H.pk [])⟩⟩
  replace hM := M.e_f hM aC
  exact (M.e_fail hM).elim
 subst ba
 subst vq
 try dsimp only at hM
 replace H := H.bk au
 clear au
 refine zM (.tuple #[Pq am, I ac]) rfl ?_
 refine zX [Pq am, I ac] (Pq am) rfl rfl ?_
 refine zX [Pq am, I ac] (I ac) rfl rfl ?_
 refine zA (Pq am) rfl ?_
 refine t_sw 2 0 [I ac] (I ac) H rfl rfl Sz48 rfl rfl rfl rfl ?_
 intro bV H
 refine s_nil ?_
 refine WB.seq ?_
 refine W.block ?_
 refine W.seq ?_
 refine W.region rfl ?_
 refine s_val (x_ld (p := Pq ai) (v := I ac) rfl (ldb_sc Sc48 (H.bl 2) rfl)) ?_
 refine zC ac 0 (ac != 0) rfl rfl rfl ?_
 refine zA (B (ac != 0)) rfl ?_
 refine s_nil ?_
 refine W.cond (ac != 0) rfl (fun aD => ?_) (fun aD => ?_)
 ·replace hM := M.e_t hM aD
  exact (M.e_fail hM).elim
 replace hM := M.e_f hM aD
 simp only [qy1, qy2, qy3, qy4, qy5, qy6, ne_eq, qy7] at aD
 refine W.seq ?_
 refine W.region rfl ?_
 refine zM ak rfl ?_
 have bW := (ap).len_le
 refine s_val (x_lenS T75.und rfl ap) ?_
 refine zC (rows.length : Int) 16 (decide (16 < (rows.length : Int))) rfl rfl rfl ?_
 refine zA (B (decide (16 < (rows.length : Int)))) rfl ?_
 refine s_nil ?_
 refine W.cond (decide (16 < (rows.length : Int))) rfl (fun ay => ?_) (fun ay => ?_)
 ·replace hM := M.e_t hM ay
  simp only [qy1, qy2, qy3, qy4, qy5, qy6, ne_eq, qy7] at ay
  refine W.seq ?_
  refine W.region rfl ?_
  refine t_sw 3 0 [B false] (B false) H rfl rfl Sz4 rfl rfl rfl rfl ?_
  intro bX H
  refine t_sw 2 0 [I 3] (I 3) H rfl rfl Sz48 rfl rfl rfl rfl ?_
  intro bY H
  refine s_nil ?_
  replace H := H.pk [2, 3]
  refine W.ret ?_
  have bh := (H.bl 1)
  have bi := (H.bl 0)
  have ao := M.e_pure hM
  exact ⟨_, (resE_ofn (vs := [B false, I 3]) rfl rfl (.cell (v := B false) rfl (run_loadVar_sc Sc4 bh rfl) <| .cell (v := I 3) rfl (run_loadVar_sc Sc48 bi rfl) <| .nil)), ⟨false, 3, ao, rfl, (H.pk [])⟩⟩
 replace hM := M.e_f hM ay
 simp only [qy1, qy2, qy3, qy4, qy5, qy6, ne_eq, qy7] at ay
 refine W.skip ?_
 refine WB.defer (d := 25) (v := .func (.func 42) #[] #[Pq aw, Pq ai]) (fv := .func 42) (cap := #[Pq aw, Pq ai]) (f := 42) (args := #[Pq aw, Pq ai]) rfl rfl rfl rfl rfl (fun _ => x_mf (fs := []) (cs := [Pq aw, Pq ai]) rfl rfl) (x_defer rfl) (x_invoke cf42) (fun w_ => catch_idle _ _ w_) ?_
 refine W.seq ?_
 refine W.region rfl ?_
 refine t_alloc (cs := encB (List.replicate 16 false)) H Al111 rfl ?_
 intro av bZ H
 have bj : (List.replicate 16 false).length = 16 := by simp
 refine s_nil ?_
 refine W.seq ?_
 refine W.region rfl ?_
 refine zM ak rfl ?_
 have b3 := (ap).len_le
 refine s_val (x_lenS T75.und rfl ap) ?_
 refine zM (I many) rfl ?_
 refine zC (rows.length : Int) many (decide ((rows.length : Int) <= many)) rfl rfl rfl ?_
 refine t_sw 4 0 [B (decide ((rows.length : Int) <= many))] (B (decide ((rows.length : Int) <= many))) H rfl rfl Sz4 rfl rfl rfl rfl ?_
 intro b4 H
 refine s_nil ?_
 refine W.seq ?_
 refine W.seq ?_
 refine W.region rfl ?_
 refine zM ak rfl ?_
 have b5 := (ap).len_le
 refine s_val (x_lenS T75.und rfl ap) ?_
 refine zM (I 0) rfl ?_
 refine s_nil ?_
 refine W.block ?_
 obtain ⟨bm, aF, bn⟩ := M.e_bind hM
 obtain ⟨b6, aF⟩ := M.e_iter aF
 refine W.loop (fun m σ W => ∃ (s2 : Bool) (ar : List Bool) (s3 : Nat) (ρ : Env), σ = upds ρ [(3, Pq aq), (6, Pq aw), (7, Pq ai), (8, Pq am), (9, Pq av), (30, ak), (31, I (rows.length : Int)), (32, I (s3 : Int))] /\ M.iterN (zch s_Sections s_Marks s_Reaches rows) m (s2, ar, s3) = some bm /\ St w W [cBlk av (encB ar) 111, cBlk am [ae, ab, ag, .map (some aT)] 99, cMemI encSpt aT (zaa s_Sections s_Marks s_Reaches), cBlk ai [I ac] 48, cBlk aw [B s2] 4, cBlk aq [ae, ab, ag] 27] R /\ ar.length = 16) ?_ ?_
 ·exact ⟨_, decide ((rows.length : Int) <= many), List.replicate 16 false, 0, _, upds_of _ _ ⟨rfl, rfl, rfl, rfl, rfl, rfl, rfl, rfl, trivial⟩, aF, H, bj⟩
 rintro b7 σ b8 ⟨s2, ar, s3, ρ, rfl, aU, H, aV⟩
 obtain ⟨aW, aX, b9, hM, aG⟩ := M.e_iterN aU
 simp only [zch] at hM
 clear aU
 refine W.seq ?_
 refine W.region rfl ?_
 refine zC (s3 : Int) (rows.length : Int) (decide ((s3 : Int) < (rows.length : Int))) rfl rfl rfl ?_
 refine s_nil ?_
 refine W.seq ?_
 refine W.cond (decide ((s3 : Int) < (rows.length : Int))) rfl (fun az => ?_) (fun az => ?_)
 ·replace hM := M.e_t hM az
  simp only [qy1, qy2, qy3, qy4, qy5, qy6, ne_eq, qy7] at az
  refine W.skip ?_
  refine W.seq ?_
  refine W.block ?_
  refine W.seq ?_
  refine W.region rfl ?_
  obtain ⟨bo, hM⟩ := M.e_grd hM
  simp only [Bool.and_eq_true, decide_eq_true_eq] at bo
  refine s_val (x_ix (a := ak) (b := I (s3 : Int)) (v := vat ak 1 (Int.toNat (s3 : Int))) rfl rfl (Sl.ix (α := List Int) T75.und T75.size ap (by omega) (by omega))) ?_
  obtain ⟨aA, bp, aE⟩ := List_at ap (i := (s3 : Int)) (by omega) (by omega)
  replace aE : Sl _ aA (rows.getD s3 ([])) := aE
  have cb := aE.len_le
  refine s_val (x_ld (p := vat ak 1 (Int.toNat (s3 : Int))) (v := aA) rfl (ld_sc Sc28 (At.mono (bp) (aS.at H)))) ?_
  refine zA aA rfl ?_
  refine s_nil ?_
  refine W.seq ?_
  refine W.region rfl ?_
  refine zM (Pq am) rfl ?_
  refine zM aA rfl ?_
  obtain ⟨cc, bq, hM⟩ := M.e_bind hM
  refine s_call cf43 [Pq am, aA, Pq av] rfl (zcJ s_Sections s_Marks s_Reaches (rows.getD s3 ([])) ar (aN.app _) aO (aP.app _) aB (aQ.app _) aR (Has.here (k := 0) rfl) (aS.app _) aE aV bq _ (H.gt 5)) ?_
  rintro vq cd ⟨r2, aY, br, hvq, au, aZ⟩
  subst br
  subst vq
  try dsimp only at hM
  replace H := H.bk au
  clear au
  refine s_val (x_not (b := r2) rfl) ?_
  refine s_nil ?_
  refine W.cond (!r2) rfl (fun aH => ?_) (fun aH => ?_)
  ·replace hM := M.e_t hM aH
   refine W.region rfl ?_
   refine t_sw 4 0 [B false] (B false) H rfl rfl Sz4 rfl rfl rfl rfl ?_
   intro ce H
   refine s_nil ?_
   refine W.region rfl ?_
   refine zR (s3 : Int) 1 ((s3 : Int) + 1) rfl rfl rfl (by omega) ?_
   refine zM (I ((s3 : Int) + 1)) rfl ?_
   refine s_nil ?_
   exact ⟨aW, aX, false, aY, s3 + 1, _, upds_of _ _ ⟨rfl, rfl, rfl, rfl, rfl, rfl, rfl, rfl, trivial⟩, M.e_inl hM aG, H, aZ⟩
  replace hM := M.e_f hM aH
  refine W.skip ?_
  refine W.region rfl ?_
  refine zR (s3 : Int) 1 ((s3 : Int) + 1) rfl rfl rfl (by omega) ?_
  refine zM (I ((s3 : Int) + 1)) rfl ?_
  refine s_nil ?_
  exact ⟨aW, aX, s2, aY, s3 + 1, _, upds_of _ _ ⟨rfl, rfl, rfl, rfl, rfl, rfl, rfl, rfl, trivial⟩, M.e_inl hM aG, H, aZ⟩
 replace hM := M.e_f hM az
 simp only [qy1, qy2, qy3, qy4, qy5, qy6, ne_eq, qy7] at az
 refine W.exit ?_
 have bt := M.e_inr hM aG
 subst bt
 replace hM := bn
 try dsimp only at hM
 replace H := H.pk [0, 3, 4, 5]
 refine W.seq ?_
 refine W.region rfl ?_
 refine s_val (x_ld (p := Pq aw) (v := B s2) rfl (ldb_sc Sc4 (H.bl 2) rfl)) ?_
 refine zM (B s2) rfl ?_
 refine g_val s2 (gy_t rfl) (fun hg => x_fa (a := Pq aq) (v := Oq aq 1) rfl (fa_blk (o := 0) Fd27_1 Sz24)) ?_
 refine g_val s2 (gy_t rfl) (fun hg => x_ld (p := Oq aq 1) (v := ab) (gd_of (c := s2) hg (Oq aq 1)) (ldb_sc Sc24 (H.bl 3) rfl)) ?_
 have cf := (aB).len_le
 refine g_val s2 (gy_t rfl) (fun hg => x_lenS T24.und (gd_of (c := s2) hg (ab)) aB) ?_
 obtain ⟨ax, hM⟩ := M.e_grd hM
 replace ax := M.imp_of ax
 simp only [Bool.and_eq_true, decide_eq_true_eq] at ax
 obtain ⟨bu, H, bv⟩ := St.freezeB H (k := 0) (n := 16) rfl (by have h_ := aV; omega) (by omega)
 replace H := H.nf
 have bw : s2 = true -> Sl bu.cells (.slice (some ⟨av, 0, none⟩) (Int.toNat (s_Marks.length : Int)) 16) (ar.take (Int.toNat (s_Marks.length : Int))) := fun hg => bv (s_Marks.length : Int) (by have aa := ax.resolve_left (by rw [hg]; decide); first | exact aa | exact aa.1 | exact aa.2 | omega | (have aj := hg; simp at aj; omega)) (by have aa := ax.resolve_left (by rw [hg]; decide); first | exact aa | exact aa.1 | exact aa.2 | omega | (have aj := hg; simp at aj; omega))
 refine g_val s2 (gy_t rfl) (fun hg => x_sl (v := Pq av) (u := (.slice (some ⟨av, 0, none⟩) (Int.toNat (s_Marks.length : Int)) 16)) (lo' := none) (hi' := some (I (s_Marks.length : Int))) (mx' := none) rfl rfl (congrArg some (gd_of (c := s2) hg (I (s_Marks.length : Int)))) rfl (run_sliceB Try.underlying111 Sz4 (by have aa := ax.resolve_left (by rw [hg]; decide); first | exact aa | exact aa.1 | exact aa.2 | omega | (have aj := hg; simp at aj; omega)) (by have aa := ax.resolve_left (by rw [hg]; decide); first | exact aa | exact aa.1 | exact aa.2 | omega | (have aj := hg; simp at aj; omega)))) ?_
 obtain ⟨r3, bx, hM⟩ := M.e_bind hM
 refine t_gcall s2 (gy_t rfl) cf44 (B r3) (fun _ => [(.slice (some ⟨av, 0, none⟩) (Int.toNat (s_Marks.length : Int)) 16), .func (.func 45) #[] #[]]) (fun hg => lst2 (gd_of (c := s2) hg ((.slice (some ⟨av, 0, none⟩) (Int.toNat (s_Marks.length : Int)) 16))) rfl) H (fun hg => (zcH (ar.take (Int.toNat (s_Marks.length : Int))) (fun aI => zci aI) (Reads.of (k := 0) rfl roLe) (bw hg) ⟨45, [], rfl, cf45, fun a6 cg cj bz aI ck bA cn bB bC => by obtain ⟨_, rfl, rfl⟩ := bB; exact (zc7 aI bC a6 (St.refl bA)).mono fun bz a6 ⟨co, bD, bE, bF⟩ => by subst bD; exact ⟨bE, bF⟩⟩ (M.e_opt bx hg) _ (H.give (A := []) rfl)).mono fun v_ w_ ⟨y_, ao, bG, H_⟩ => by subst ao; exact ⟨bG, H.via H_⟩) ?_
 intro cp H
 refine s_val (x_pand (b := s2) (r := r3) rfl (fun hb => gd_of (c := s2) (by first | exact hb | (rw [hb]; rfl) | simp_all) (B r3)) rfl) ?_
 refine t_sw 2 0 [B (s2 && r3)] (B (s2 && r3)) H rfl rfl Sz4 rfl rfl rfl rfl ?_
 intro cq H
 refine t_sw 1 0 [I 0] (I 0) H rfl rfl Sz48 rfl rfl rfl rfl ?_
 intro cr H
 refine s_nil ?_
 replace H := H.pk [1, 2]
 refine W.ret ?_
 intro ct bH
 replace H := bH _ _ _ H
 replace H := H.nf
 have bI := (H.bl 1)
 have bJ := (H.bl 0)
 have ao := M.e_pure hM
 exact ⟨_, (resE_ofn (vs := [B (s2 && r3), I 0]) rfl rfl (.cell (v := B (s2 && r3)) rfl (run_loadVar_sc Sc4 bI rfl) <| .cell (v := I 0) rfl (run_loadVar_sc Sc48 bJ rfl) <| .nil)), ⟨(s2 && r3), 0, ao, rfl, (H.pk [])⟩⟩

end Go.Proofs.Ytlemgioaakecpaa
end
namespace Go.Proofs.Ytlemgioaakecpaa
open Go Go.Nm
section
variable {S : List Sect} {M' : List Mrk} {R' : List Rch}
theorem ahN_ends {a b : Nat} (ha : a < M'.length) (hb : b < M'.length) : (zag S M' R' (a : Int) (b : Int)).Ends (decide (Fl.ah M' a b)) := by
  have := ahead_ends (S := S) (M' := M') (R' := R') (a := (a : Int)) (b := (b : Int)) (by omega) (by omega)
  rw [Int.toNat_natCast, Int.toNat_natCast] at this
  have e : (decide ((M'.getD a default).place <= (M'.getD b default).place) && decide ((M'.getD a default).hi < (M'.getD b default).lo)) = decide (Fl.ah M' a b) := by
    rw [Bool.eq_iff_iff, Bool.and_eq_true, decide_eq_true_iff, decide_eq_true_iff, decide_eq_true_iff]
    exact Iff.rfl
  rwa [e] at this
theorem join_out (hn : M'.length <= 16) {K : Nat -> Prop} : ∀ (m a : Nat) (mp : Int -> Option Bool) (nx ls : List Int), Fl.cnt (fun b => !Fl.met mp b) M'.length <= m -> a < M'.length -> Fl.Mtc M' nx ls -> Fl.Cl M' K ls -> (∀ b, b < M'.length -> ls.getD b 0 = (a : Int) -> Fl.met mp b = true) →
    (zbr (a : Int) S M' R' S M' R' mp nx ls).Out (fun z => (z.1 = true /\ Fl.Sc M' K a mp nx ls z.2.2.1 z.2.2.2) ∨ (z.1 = false /\ z.2.2.1 = nx /\ z.2.2.2 = ls /\ Fl.Ps M' a M'.length mp z.2.1 ls)) := by
  intro m
  induction m using Nat.strongRecOn with
  | _ m ih =>
  intro a mp nx ls hm ha hM hK hp
  have n1 := hM.n1
  have l1 := hM.l1
  have fix : ∀ {Q : Bool × (Int -> Option Bool) × List Int × List Int -> Prop}, (zal (fun z => M.fix zal zcA z) ((a : Int), S, M', R', S, M', R', mp, nx, ls)).Out Q -> (zbr (a : Int) S M' R' S M' R' mp nx ls).Out Q := by
    rintro Q ⟨r, h1, h2⟩
    exact ⟨r, M.i_fix h1, h2⟩
  refine fix ?_
  simp only [zal]
  refine M.o_bind (P := fun z => match z with | .inl (_, nx', ls') => Fl.Sc M' K a mp nx ls nx' ls' | .inr (mp', nx', ls') => nx' = nx /\ ls' = ls /\ Fl.Ps M' a M'.length mp mp' ls) ?_ ?_
  · refine M.o_for M'.length (fun i (s : Nat × (Int -> Option Bool) × List Int × List Int) => s.1 = i /\ s.2.2.1 = nx /\ s.2.2.2 = ls /\ Fl.Ps M' a i mp s.2.1 ls) ?_ ?_ (s := (0, mp, nx, ls)) ⟨rfl, rfl, rfl, Fl.Ps.zero⟩
    · rintro i ⟨s, mp1, nx, ls⟩ hi ⟨rfl, rfl, rfl, h⟩
      dsimp only at hi hM hK hp n1 l1 h ⊢
      simp only [zaG]
      refine M.o_t (decide_eq_true (by omega)) (M.o_bindE (ahN_ends ha hi) (M.o_if (fun hb => ?_) (fun hb => ?_)))
      · refine M.o_pure ⟨rfl, rfl, rfl, h.skip fun hah => ?_⟩
        rw [Bool.or_eq_true, Bool.not_eq_true', decide_eq_false_iff_not] at hb
        rcases hb with hb | hb
        · exact absurd hah hb
        · exact hb
      · rw [Bool.or_eq_false_iff, Bool.not_eq_false', decide_eq_true_eq] at hb
        obtain ⟨hah, hmet⟩ := hb
        have hmet : Fl.met mp1 s = false := hmet
        refine M.o_grd (gA2 (by omega) (by omega)) ?_
        rcases hM.l s hi with e | ⟨c, hc, e, q2, q3⟩
        · refine M.o_f (by rw [e]; rfl) (M.o_t (by rw [e]; rfl) (M.o_grd (gA2 (by omega) (by omega)) (M.o_pure ?_)))
          rw [Int.toNat_natCast]
          refine Fl.Sc.free hM hK hn ha hi ?_ hah e
          cases q : Fl.met mp s with
          | false => rfl
          | true => rw [h.le _ q] at hmet; cases hmet
        · have hlt : Fl.cnt (fun b => !Fl.met (updF mp1 (s : Int) true) b) M'.length < Fl.cnt (fun b => !Fl.met mp1 b) M'.length := Fl.cnt_lt M'.length (fun b _ hb => by
              rw [Bool.not_eq_true'] at hb ⊢
              cases q : Fl.met mp1 b with
              | false => rfl
              | true => rw [Fl.met_upd.2 (.inr q)] at hb; cases hb) _ hi (by rw [Fl.met_upd.2 (.inl rfl)]; rfl) (by rw [hmet]; rfl)
          have hle : Fl.cnt (fun b => !Fl.met mp1 b) M'.length <= Fl.cnt (fun b => !Fl.met mp b) M'.length := Fl.cnt_le M'.length (fun b _ hb => by
              rw [Bool.not_eq_true'] at hb ⊢
              cases q : Fl.met mp b with
              | false => rfl
              | true => rw [h.le _ q] at hb; cases hb)
          have sub := ih _ (by omega) c (updF mp1 (s : Int) true) _ _ (Nat.le_refl _) hc hM hK (fun b hb k => by
            rcases hM.l b hb with q | ⟨d, hd, q4, q5, q6⟩
            · omega
            · obtain rfl : c = d := by omega
              exact Fl.met_upd.2 (.inl (by omega)))
          rw [e]
          refine M.o_t (by rw [Bool.not_eq_true', beq_eq_false_iff_ne]; omega) (M.o_bind sub ?_)
          rintro ⟨ok, mp2, nx2, ls2⟩ hz
          dsimp only at hz ⊢
          rcases hz with ⟨rfl, hz⟩ | ⟨rfl, rfl, rfl, hz⟩
          · refine M.o_t (Bool.or_true _) (M.o_grd (gA2 (by omega) (by omega)) (M.o_pure ?_))
            rw [Int.toNat_natCast]
            exact Fl.Sc.sub hM hK hn ha hi hah h.le hmet hp hc e hz
          · refine M.o_f (by rw [Bool.or_false, beq_eq_false_iff_ne]; omega) (M.o_pure ⟨rfl, rfl, rfl, h.fail hi hc e hz⟩)
    · rintro ⟨_, mp1, _, _⟩ ⟨rfl, rfl, rfl, h⟩
      dsimp only at h ⊢
      simp only [zaG]
      exact M.o_f (decide_eq_false (by omega)) (M.o_pure ⟨rfl, rfl, h⟩)
  · intro z hz
    match z, hz with
    | .inl (mp', nx', ls'), hz => exact M.o_pure (.inl ⟨rfl, hz⟩)
    | .inr (mp', nx', ls'), hz => exact M.o_pure (.inr ⟨rfl, hz⟩)
theorem linked_out (hn : M'.length <= 16) : (zbj S M' R').Out (fun z => ∃ K, Fl.Tp M' K M'.length z.1 z.2) := by
  have rep0 : ∀ n j : Nat, j < n -> (List.replicate n (-1 : Int)).getD j 0 = -1 := fun n j hj => by simp [List.getD, List.getElem?_replicate, hj]
  have rep := fun {j : Nat} (h : j < 16) => rep0 16 j h
  unfold zbj
  refine M.o_bindE (a := (List.replicate 16 (-1), List.replicate 16 (-1))) ⟨50, by kernel_rfl⟩ (M.o_bind (P := fun z => ∃ K, Fl.Tp M' K M'.length z.1 z.2) ?_ (fun z hz => M.o_pure hz))
  refine M.o_for M'.length (fun i (s : List Int × List Int × Nat) => s.2.2 = i /\ ∃ K, Fl.Tp M' K i s.1 s.2.1) ?_ ?_ (s := (_, _, 0)) ⟨rfl, fun _ => False, ⟨by simp, by simp, fun b hb => .inl (rep (by omega)), fun c hc => .inl (rep (by omega))⟩, fun j _ hj => rep (by omega), fun b hb => hb.elim, fun a ha => by omega⟩
  · rintro i ⟨nx, ls, _⟩ hi ⟨rfl, K, h⟩
    dsimp only at hi h ⊢
    simp only [za2]
    refine M.o_t (decide_eq_true (by omega)) (M.o_bind (join_out (K := K) hn _ _ _ _ _ (Nat.le_refl _) hi h.m h.cl (fun b hb e => absurd e (h.no hi b hb))) ?_)
    rintro ⟨ok, mp2, nx2, ls2⟩ hz
    dsimp only at hz ⊢
    rcases hz with ⟨rfl, hz⟩ | ⟨rfl, rfl, rfl, hz⟩
    · exact M.o_pure ⟨rfl, K, h.ok hi hz⟩
    · exact M.o_pure ⟨rfl, _, h.no' hi hz⟩
  · rintro ⟨nx, ls, _⟩ ⟨rfl, h⟩
    simp only [za2]
    exact M.o_f (decide_eq_false (by omega)) (M.o_pure h)
end
end Go.Proofs.Ytlemgioaakecpaa
namespace Go.Nm
namespace Fl
theorem sub_len : ∀ (a b : List Nat), a.Nodup -> (∀ x ∈ a, x ∈ b) -> a.length <= b.length
  | [], _, _, _ => Nat.zero_le _
  | x :: a, b, hn, hs => by
    rw [List.nodup_cons] at hn
    have hx := hs x (by simp)
    have h1 := sub_len a (b.erase x) hn.2 (fun y hy => (List.mem_erase_of_ne (fun e : y = x => hn.1 (by rw [← e]; exact hy))).2 (hs y (by simp [hy])))
    have h2 := List.length_erase_of_mem hx
    have h3 := List.length_pos_of_mem hx
    rw [List.length_cons]
    omega
def ci (l : List Nat) : List Int := l.map fun k : Nat => (k : Int)
theorem ci_len (l : List Nat) : (ci l).length = l.length := by simp [ci]
theorem ci_get (l : List Nat) (k : Nat) : (ci l).getD k 0 = ((l.getD k 0 : Nat) : Int) := by
  unfold ci
  simp only [List.getD, List.getElem?_map]
  cases l[k]? <;> rfl
theorem cis_get (L : List (List Nat)) (k : Nat) : (L.map ci).getD k [] = ci (L.getD k []) := by
  simp only [List.getD, List.getElem?_map]
  cases L[k]? <;> rfl
section
variable {M : List Mrk} {K : Nat -> Prop} {nx ls : List Int} {i j : Nat} {l l' : List Nat}
theorem ch_nd (hk : ∀ x ∈ M, Mok x) (hp : l.Pairwise (ah M)) (hr : ∀ v ∈ l, v < M.length) : l.Nodup := by
  refine List.Pairwise.imp_of_mem ?_ hp
  intro a b ha _ h e
  subst e
  exact ah_irr hk (hr a ha) h
theorem ch_len (hk : ∀ x ∈ M, Mok x) (hp : l.Pairwise (ah M)) (hr : ∀ v ∈ l, v < M.length) : l.length <= M.length := by
  have := sub_len l (List.range M.length) (ch_nd hk hp hr) (fun x hx => List.mem_range.2 (hr x hx))
  rwa [List.length_range] at this
/-- A row that begins with a mark. -/
structure IsRow (M : List Mrk) (nx : List Int) (i : Nat) (l : List Nat) : Prop where
  hd : ∃ t, l = i :: t
  pw : l.Pairwise (ah M)
  rg : ∀ v ∈ l, v < M.length
  cl : ∀ c ∈ l, nx.getD c 0 = -1 ∨ ∃ v ∈ l, nx.getD c 0 = (v : Int)
  pr : ∀ v ∈ l, v = i ∨ ∃ c ∈ l, nx.getD c 0 = (v : Int)
  en : ∃ c ∈ l, nx.getD c 0 = -1
/-- A row that is begun. -/
structure Rs (M : List Mrk) (nx : List Int) (i : Nat) (s : Int) (l : List Nat) : Prop where
  st : (l = [] /\ s = (i : Int)) ∨ ∃ t, l = i :: t
  pw : l.Pairwise (ah M)
  rg : ∀ v ∈ l, v < M.length
  sv : s = -1 ∨ ∃ k, k < M.length /\ s = (k : Int) /\ ∀ u ∈ l, ah M u k
  cl : ∀ c ∈ l, nx.getD c 0 = s ∨ ∃ v ∈ l, nx.getD c 0 = (v : Int)
  pr : ∀ v ∈ l, v = i ∨ ∃ c ∈ l, nx.getD c 0 = (v : Int)
  ls : l = [] ∨ ∃ c ∈ l, nx.getD c 0 = s
theorem Mtc.ah (h : Mtc M nx ls) {c b : Nat} (hc : c < M.length) (e : nx.getD c 0 = (b : Int)) : b < M.length /\ ls.getD b 0 = (c : Int) /\ Fl.ah M c b := by
  rcases h.n c hc with q | ⟨b', hb, q1, q2⟩
  · omega
  · obtain rfl : b = b' := by omega
    rcases h.l b hb with q | ⟨d, hd, q3, q4, q5⟩
    · omega
    · obtain rfl : c = d := by omega
      exact ⟨hb, q2, q4⟩
theorem Rs.step {s : Int} (h : Rs M nx i s l) (hk : ∀ x ∈ M, Mok x) (hM : Mtc M nx ls) {k : Nat} (hkl : k < M.length) (e : s = (k : Int)) (hu : ∀ u ∈ l, ah M u k) : Rs M nx i (nx.getD k 0) (l ++ [k]) := by
  refine ⟨.inr ?_, ?_, fun v hv => ?_, ?_, fun c hc => ?_, fun v hv => ?_, .inr ⟨k, by simp, rfl⟩⟩
  · rcases h.st with ⟨q, q'⟩ | ⟨t, q⟩
    · obtain rfl : k = i := by omega
      exact ⟨[], by rw [q]; rfl⟩
    · exact ⟨t ++ [k], by rw [q]; rfl⟩
  · rw [List.pairwise_append]
    refine ⟨h.pw, by simp, fun a ha b hb => ?_⟩
    rw [List.mem_singleton] at hb
    subst hb
    exact hu a ha
  · rcases List.mem_append.1 hv with hv | hv
    · exact h.rg v hv
    · rw [List.mem_singleton] at hv; omega
  · rcases hM.n k hkl with q | ⟨b, hb, q1, q2⟩
    · exact .inl q
    · have hab := (hM.ah hkl q1).2.2
      refine .inr ⟨b, hb, q1, fun u hu' => ?_⟩
      rcases List.mem_append.1 hu' with hu' | hu'
      · exact ah_trans hk hkl (hu u hu') hab
      · rw [List.mem_singleton] at hu'; rw [hu']; exact hab
  · rcases List.mem_append.1 hc with hc | hc
    · rcases h.cl c hc with q | ⟨v, hv, q⟩
      · exact .inr ⟨k, by simp, by omega⟩
      · exact .inr ⟨v, by simp [hv], q⟩
    · rw [List.mem_singleton] at hc
      rw [hc]
      exact .inl rfl
  · rcases List.mem_append.1 hv with hv | hv
    · rcases h.pr v hv with q | ⟨c, hc, q⟩
      · exact .inl q
      · exact .inr ⟨c, by simp [hc], q⟩
    · rw [List.mem_singleton] at hv
      subst hv
      rcases h.ls with q | ⟨c, hc, q⟩
      · rcases h.st with ⟨_, q'⟩ | ⟨t, q'⟩
        · exact .inl (by omega)
        · rw [q] at q'; cases q'
      · exact .inr ⟨c, by simp [hc], by omega⟩
theorem Rs.fin (h : Rs M nx i (-1) l) : IsRow M nx i l := by
  refine ⟨?_, h.pw, h.rg, h.cl, h.pr, ?_⟩
  · rcases h.st with ⟨_, q⟩ | q
    · omega
    · exact q
  · rcases h.ls with q | q
    · rcases h.st with ⟨_, q'⟩ | ⟨t, q'⟩
      · omega
      · rw [q] at q'; cases q'
    · exact q
/-- How many marks contradict one from above. -/
def up (M : List Mrk) (v : Nat) : Nat := cnt (fun u => decide (ah M u v)) M.length
theorem up_lt (hk : ∀ x ∈ M, Mok x) {c v : Nat} (hc : c < M.length) (h : ah M c v) : up M c < up M v := by
  refine cnt_lt M.length (fun b hb q => ?_) c hc (decide_eq_false (ah_irr hk hc)) (decide_eq_true h)
  exact decide_eq_true (ah_trans hk hc (of_decide_eq_true q) h)
def dn (M : List Mrk) (v : Nat) : Nat := cnt (fun u => decide (ah M v u)) M.length
theorem dn_lt (hk : ∀ x ∈ M, Mok x) {c v : Nat} (hc : c < M.length) (hv : v < M.length) (h : ah M c v) : dn M v < dn M c := by
  refine cnt_lt M.length (fun b hb q => ?_) v hv (decide_eq_false (ah_irr hk hv)) (decide_eq_true h)
  exact decide_eq_true (ah_trans hk hv h (of_decide_eq_true q))
theorem IsRow.same (hk : ∀ x ∈ M, Mok x) (hM : Mtc M nx ls) (h : IsRow M nx i l) (h' : IsRow M nx j l') (hi : ls.getD i 0 = -1) (hj : ls.getD j 0 = -1) : ∀ (m v : Nat), up M v <= m -> v ∈ l -> v ∈ l' -> i = j := by
  intro m
  induction m with
  | zero =>
    intro v hm hv hv'
    rcases h.pr v hv with rfl | ⟨c, hc, q⟩
    · rcases h'.pr v hv' with rfl | ⟨c, hc, q⟩
      · rfl
      · have := (hM.ah (h'.rg c hc) q).2.1; omega
    · have := up_lt hk (h.rg c hc) (hM.ah (h.rg c hc) q).2.2; omega
  | succ m ih =>
    intro v hm hv hv'
    rcases h.pr v hv with rfl | ⟨c, hc, q⟩
    · rcases h'.pr v hv' with rfl | ⟨c, hc, q⟩
      · rfl
      · have := (hM.ah (h'.rg c hc) q).2.1; omega
    · have k1 := hM.ah (h.rg c hc) q
      rcases h'.pr v hv' with rfl | ⟨d, hd, q'⟩
      · omega
      · have k2 := hM.ah (h'.rg d hd) q'
        obtain rfl : c = d := by omega
        have := up_lt hk (h.rg c hc) k1.2.2
        exact ih c (by omega) hc hd
theorem has_row (hk : ∀ x ∈ M, Mok x) (hM : Mtc M nx ls) : ∀ (m v : Nat), up M v <= m -> v < M.length -> ∃ j, j < M.length /\ ls.getD j 0 = -1 /\ ∀ l, IsRow M nx j l -> v ∈ l := by
  intro m
  induction m with
  | zero =>
    intro v hm hv
    rcases hM.l v hv with q | ⟨c, hc, q1, q2, q3⟩
    · exact ⟨v, hv, q, fun l h => by obtain ⟨t, e⟩ := h.hd; rw [e]; simp⟩
    · have := up_lt hk hc q2; omega
  | succ m ih =>
    intro v hm hv
    rcases hM.l v hv with q | ⟨c, hc, q1, q2, q3⟩
    · exact ⟨v, hv, q, fun l h => by obtain ⟨t, e⟩ := h.hd; rw [e]; simp⟩
    · have := up_lt hk hc q2
      obtain ⟨j, hj, k1, k2⟩ := ih c (by omega) hc
      refine ⟨j, hj, k1, fun l h => ?_⟩
      rcases h.cl c (k2 l h) with k | ⟨w, hw, k⟩
      · omega
      · obtain rfl : v = w := by omega
        exact hw
/-- Marks of which no row leads into those that are closed. -/
def Xs (K : Nat -> Prop) (nx ls : List Int) (v : Nat) : Prop := (nx.getD v 0 = -1 ∨ ∃ b, K b /\ ls.getD b 0 = (v : Int)) /\ ¬K v
theorem Xs.anti (h : Tp M K M.length nx ls) {u v : Nat} (hu : Xs K nx ls u) (hv : Xs K nx ls v) (ul : u < M.length) (vl : v < M.length) : ¬ah M u v := fun ha => by
  rcases hu.1 with q | ⟨b, kb, q⟩
  · exact hv.2 (h.k u ul q v vl ha)
  · obtain ⟨_, c, hc, e, k⟩ := h.cl b kb
    obtain rfl : c = u := by omega
    exact hv.2 (k v vl ha)
theorem IsRow.pick (hk : ∀ x ∈ M, Mok x) (h : Tp M K M.length nx ls) (hr : IsRow M nx i l) (hi : ls.getD i 0 = -1) : ∃ v ∈ l, Xs K nx ls v := by
  refine Classical.byContradiction fun hc => ?_
  have no : ∀ v ∈ l, ¬Xs K nx ls v := fun v hv q => hc ⟨v, hv, q⟩
  have key : ∀ (m v : Nat), up M v <= m -> v ∈ l -> ¬K v := by
    intro m
    induction m with
    | zero =>
      intro v hm hv kv
      rcases hr.pr v hv with rfl | ⟨c, hcl, q⟩
      · obtain ⟨_, d, hd, e, _⟩ := h.cl v kv; omega
      · have := up_lt hk (hr.rg c hcl) (h.m.ah (hr.rg c hcl) q).2.2; omega
    | succ m ih =>
      intro v hm hv kv
      rcases hr.pr v hv with rfl | ⟨c, hcl, q⟩
      · obtain ⟨_, d, hd, e, _⟩ := h.cl v kv; omega
      · have k1 := h.m.ah (hr.rg c hcl) q
        have := up_lt hk (hr.rg c hcl) k1.2.2
        exact no c hcl ⟨.inr ⟨v, kv, k1.2.1⟩, ih c (by omega) hcl⟩
  obtain ⟨c, hcl, q⟩ := hr.en
  exact no c hcl ⟨.inl q, key _ c (Nat.le_refl _) hcl⟩
/-- Rows that hold each mark once, as few as there are marks that are true together. -/
structure RowsOk (M : List Mrk) (L : List (List Nat)) : Prop where
  ne : ∀ l ∈ L, l ≠ []
  pw : ∀ l ∈ L, l.Pairwise (ah M)
  rg : ∀ l ∈ L, ∀ v ∈ l, v < M.length
  cov : ∀ v, v < M.length -> ∃ l ∈ L, v ∈ l
  dis : L.Pairwise fun a b => ∀ v ∈ a, v ∉ b
  len : L.length <= M.length
  pick : ∃ X : Nat -> Prop, (∀ u v, X u -> X v -> u < M.length -> v < M.length -> ¬ah M u v) /\ ∀ l ∈ L, ∃ v ∈ l, X v
/-- Rows that are made of the first marks. -/
structure Rw (M : List Mrk) (nx ls : List Int) (i : Nat) (L : List (List Nat)) : Prop where
  ro : ∀ l ∈ L, ∃ j, j < i /\ ls.getD j 0 = -1 /\ IsRow M nx j l
  al : ∀ j, j < i -> ls.getD j 0 = -1 -> ∃ l ∈ L, IsRow M nx j l
  dis : L.Pairwise fun a b => ∀ v ∈ a, v ∉ b
  len : L.length <= i
theorem Rw.ok {L : List (List Nat)} (hk : ∀ x ∈ M, Mok x) (h : Tp M K M.length nx ls) (hr : Rw M nx ls M.length L) : RowsOk M L := by
  refine ⟨fun l hl => ?_, fun l hl => ?_, fun l hl => ?_, fun v hv => ?_, hr.dis, hr.len, Xs K nx ls, fun u v hu hv ul vl => Xs.anti h hu hv ul vl, fun l hl => ?_⟩
  · obtain ⟨j, _, _, q⟩ := hr.ro l hl
    obtain ⟨t, e⟩ := q.hd
    rw [e]; simp
  · obtain ⟨j, _, _, q⟩ := hr.ro l hl; exact q.pw
  · obtain ⟨j, _, _, q⟩ := hr.ro l hl; exact q.rg
  · obtain ⟨j, hj, e, q⟩ := has_row hk h.m _ v (Nat.le_refl _) hv
    obtain ⟨l, hl, k⟩ := hr.al j hj e
    exact ⟨l, hl, q l k⟩
  · obtain ⟨j, _, e, q⟩ := hr.ro l hl
    exact q.pick hk h e
theorem Rw.skip {L : List (List Nat)} (h : Rw M nx ls i L) (hi : ls.getD i 0 ≠ -1) : Rw M nx ls (i + 1) L :=
  ⟨fun l hl => by obtain ⟨j, hj, q⟩ := h.ro l hl; exact ⟨j, by omega, q⟩, fun j hj e => h.al j (by
    by_cases k : j = i
    · subst k; exact absurd e hi
    · omega) e, h.dis, by have := h.len; omega⟩
theorem Rw.step {L : List (List Nat)} (hk : ∀ x ∈ M, Mok x) (hM : Mtc M nx ls) (h : Rw M nx ls i L) (hi : ls.getD i 0 = -1) (hl : IsRow M nx i l) : Rw M nx ls (i + 1) (L ++ [l]) := by
  refine ⟨fun l' hl' => ?_, fun j hj e => ?_, ?_, by have := h.len; simp; omega⟩
  · rcases List.mem_append.1 hl' with hl' | hl'
    · obtain ⟨j, hj, q⟩ := h.ro l' hl'; exact ⟨j, by omega, q⟩
    · rw [List.mem_singleton] at hl'; rw [hl']; exact ⟨i, by omega, hi, hl⟩
  · by_cases k : j = i
    · subst k; exact ⟨l, by simp, hl⟩
    · obtain ⟨l', hl', q⟩ := h.al j (by omega) e
      exact ⟨l', by simp [hl'], q⟩
  · rw [List.pairwise_append]
    refine ⟨h.dis, by simp, fun a ha b hb v hv hv' => ?_⟩
    rw [List.mem_singleton] at hb
    subst hb
    obtain ⟨j, hj, e, q⟩ := h.ro a ha
    have := q.same hk hM hl e hi _ v (Nat.le_refl _) hv hv'
    omega
end
end Fl
end Go.Nm
namespace Go.Proofs.Ytlemgioaakecpaa
open Go Go.Nm
section
variable {S : List Sect} {M' : List Mrk} {R' : List Rch}
theorem row_out {nx ls : List Int} (hn : M'.length <= 16) (hk : ∀ x ∈ M', Fl.Mok x) (hM : Fl.Mtc M' nx ls) {i : Nat} (hi : i < M'.length) :
    (M.iter (zba nx) ((i : Int), [])).Out (fun z => ∃ l, z = (Fl.ci l, Fl.ci l) /\ Fl.IsRow M' nx i l) := by
  have n1 := hM.n1
  refine M.o_iter (fun m (s : Int × List Int) => ∃ l, s.2 = Fl.ci l /\ Fl.Rs M' nx i s.1 l /\ m = if s.1 = -1 then 0 else Fl.dn M' (Int.toNat s.1) + 1) ?_ _ ((i : Int), []) ⟨[], rfl, ⟨.inl ⟨rfl, rfl⟩, List.Pairwise.nil, fun v hv => (by cases hv), .inr ⟨i, hi, rfl, fun u hu => (by cases hu)⟩, fun c hc => (by cases hc), fun v hv => (by cases hv), .inl rfl⟩, rfl⟩
  rintro m ⟨s, _⟩ ⟨l, rfl, h, rfl⟩
  dsimp only at h ⊢
  simp only [zba]
  refine M.o_if (fun hb => ?_) (fun hb => ?_)
  · rw [bne_iff_ne] at hb
    rcases h.sv with q | ⟨k, hkl, rfl, hu⟩
    · exact absurd q hb
    · have := Fl.ch_len hk h.pw h.rg
      refine M.o_grd (decide_eq_true (by rw [Fl.ci_len]; simp; omega)) (M.o_grd (gA2 (by omega) (by omega)) (M.o_pure ⟨_, ?_, l ++ [k], ?_, h.step hk hM hkl rfl hu, rfl⟩))
      · rw [if_neg hb]
        dsimp only
        rw [Int.toNat_natCast]
        by_cases e : nx.getD k 0 = -1
        · rw [if_pos e]; omega
        · rw [if_neg e]
          rcases hM.n k hkl with q | ⟨b, hb', q1, q2⟩
          · exact absurd q e
          · have := Fl.dn_lt hk hkl hb' (hM.ah hkl q1).2.2
            rw [q1, Int.toNat_natCast]
            omega
      · unfold Fl.ci
        rw [List.map_append]
        rfl
  · rw [bne_eq_false_iff_eq] at hb
    subst hb
    exact M.o_pure ⟨l, rfl, h.fin⟩
theorem rows_out (hn : M'.length <= 16) (hk : ∀ x ∈ M', Fl.Mok x) : (za1 S M' R').Out (fun z => ∃ L : List (List Nat), z = L.map Fl.ci /\ Fl.RowsOk M' L) := by
  unfold za1
  refine M.o_bind (linked_out hn) ?_
  rintro ⟨nx, ls⟩ ⟨K, h⟩
  dsimp only at h ⊢
  have l1 := h.m.l1
  refine M.o_bind (P := fun z => z.1 = z.2 /\ ∃ L : List (List Nat), z.2 = L.map Fl.ci /\ Fl.RowsOk M' L) ?_ (fun z hz => M.o_pure hz.2)
  refine M.o_for M'.length (fun i (s : Nat × List (List Int)) => s.1 = i /\ ∃ L : List (List Nat), s.2 = L.map Fl.ci /\ Fl.Rw M' nx ls i L) ?_ ?_ (s := (0, [])) ⟨rfl, [], rfl, ⟨fun l hl => (by cases hl), fun j hj => (by omega), List.Pairwise.nil, Nat.le_refl _⟩⟩
  · rintro _ ⟨i, _⟩ hi ⟨rfl, L, rfl, hr⟩
    dsimp only at hi hr ⊢
    simp only [za4]
    refine M.o_t (decide_eq_true (by omega)) (M.o_grd (gA2 (by omega) (by omega)) (M.o_if (fun hb => ?_) (fun hb => ?_)))
    · rw [bne_iff_ne] at hb
      exact M.o_pure ⟨rfl, L, rfl, hr.skip hb⟩
    · rw [bne_eq_false_iff_eq] at hb
      refine M.o_bind (row_out hn hk h.m hi) ?_
      rintro _ ⟨l, rfl, hl⟩
      dsimp only
      have := hr.len
      refine M.o_grd (decide_eq_true (by simp; omega)) (M.o_pure ⟨rfl, L ++ [l], ?_, hr.step hk h.m hb hl⟩)
      rw [List.map_append]
      rfl
  · rintro ⟨_, _⟩ ⟨rfl, L, rfl, hr⟩
    simp only [za4]
    exact M.o_f (decide_eq_false (by omega)) (M.o_pure ⟨rfl, L, rfl, hr.ok hk h⟩)
end
end Go.Proofs.Ytlemgioaakecpaa
namespace Go.Nm
namespace Fl
/-- The sum of what numbers below n give. -/
def sm (g : Nat -> Nat) : Nat -> Nat
  | 0 => 0
  | n + 1 => sm g n + g n
theorem sm_le {g h : Nat -> Nat} : ∀ n, (∀ i, i < n -> g i <= h i) -> sm g n <= sm h n
  | 0, _ => Nat.le_refl _
  | n + 1, k => by
    have := sm_le n (fun i hi => k i (by omega))
    have := k n (by omega)
    unfold sm
    omega
theorem sm_lt {g h : Nat -> Nat} : ∀ n, (∀ i, i < n -> g i <= h i) -> ∀ x, x < n -> g x < h x -> sm g n < sm h n
  | 0, _, _, hx, _ => by omega
  | n + 1, k, x, hx, hl => by
    have q := k n (by omega)
    unfold sm
    by_cases e : x = n
    · subst e
      have := sm_le x (fun i hi => k i (by omega))
      omega
    · have := sm_lt n (fun i hi => k i (by omega)) x (by omega) hl
      omega
section
variable {M : List Mrk} {L : List (List Nat)}
/-- The mark of a row that is looked at. -/
def cur (L : List (List Nat)) (at_ : List Int) (i : Nat) : Nat := (L.getD i []).getD (Int.toNat (at_.getD i 0)) 0
/-- Where the rows are looked at: no further on than where their marks stand that do not contradict one another. -/
structure At (L : List (List Nat)) (f : Nat -> Nat) (at_ : List Int) : Prop where
  n : at_.length = L.length
  le : ∀ i, i < L.length -> ∃ k : Nat, at_.getD i 0 = (k : Int) /\ k <= f i
theorem rowIn {i : Nat} (hi : i < L.length) : L.getD i [] ∈ L := by
  rw [getD_el L hi]
  exact List.getElem_mem hi
theorem pw_le (hk : ∀ x ∈ M, Mok x) {l : List Nat} (hp : l.Pairwise (ah M)) {a b : Nat} (hab : a <= b) (hb : b < l.length) : l.getD a 0 = l.getD b 0 ∨ ah M (l.getD a 0) (l.getD b 0) := by
  rcases Nat.lt_or_eq_of_le hab with h | h
  · right
    rw [getD_el l (by omega : a < l.length), getD_el l hb]
    exact List.pairwise_iff_getElem.1 hp a b (by omega) hb h
  · left; rw [h]
theorem At.step {f : Nat -> Nat} {X : Nat -> Prop} {at_ : List Int} (hk : ∀ x ∈ M, Mok x) (h : RowsOk M L) (hX : ∀ u v, X u -> X v -> u < M.length -> v < M.length -> ¬ah M u v) (hf : ∀ i, i < L.length -> f i < (L.getD i []).length /\ X ((L.getD i []).getD (f i) 0)) (ha : At L f at_) {i k : Nat} (hi : i < L.length) (hk' : k < L.length) (hah : ah M (cur L at_ i) (cur L at_ k)) :
    At L f (at_.set i (at_.getD i 0 + 1)) /\ sm (fun j => f j - Int.toNat ((at_.set i (at_.getD i 0 + 1)).getD j 0)) L.length < sm (fun j => f j - Int.toNat (at_.getD j 0)) L.length := by
  have n := ha.n
  have g : ∀ j, (at_.set i (at_.getD i 0 + 1)).getD j 0 = if j = i then at_.getD i 0 + 1 else at_.getD j 0 := fun j => gset at_ i j _ 0 (by omega)
  obtain ⟨a, ea, la⟩ := ha.le i hi
  obtain ⟨b, eb, lb⟩ := ha.le k hk'
  have fi := hf i hi
  have fk := hf k hk'
  have ri := h.rg _ (rowIn hi)
  have rk := h.rg _ (rowIn hk')
  have mem : ∀ j (l : List Nat), j < l.length -> l.getD j 0 ∈ l := fun j l hj => by rw [getD_el l hj]; exact List.getElem_mem hj
  have lt : a < f i := by
    refine Nat.lt_of_le_of_ne la (fun e => ?_)
    unfold cur at hah
    rw [ea, eb, Int.toNat_natCast, Int.toNat_natCast, e] at hah
    have m1 := ri _ (mem _ _ fi.1)
    have m2 := rk _ (mem _ _ fk.1)
    have m3 := rk _ (mem b (L.getD k []) (by omega))
    rcases pw_le hk (h.pw _ (rowIn hk')) lb fk.1 with q | q
    · rw [q] at hah
      exact hX _ _ fi.2 fk.2 m1 m2 hah
    · exact hX _ _ fi.2 fk.2 m1 m2 (ah_trans hk m3 hah q)
  refine ⟨⟨by rw [List.length_set]; exact n, fun j hj => ?_⟩, sm_lt L.length (fun j hj => ?_) i hi ?_⟩
  · rw [g]
    by_cases e : j = i
    · subst e
      rw [if_pos rfl]
      exact ⟨a + 1, by omega, by omega⟩
    · rw [if_neg e]
      exact ha.le j hj
  · rw [g]
    by_cases e : j = i
    · subst e
      rw [if_pos rfl]
      omega
    · rw [if_neg e]
      exact Nat.le_refl _
  · rw [g, if_pos rfl, ea]
    have : Int.toNat ((a : Int) + 1) = a + 1 := by omega
    rw [this, Int.toNat_natCast]
    omega
/-- What is chosen: one mark of each row. -/
def chs (L : List (List Nat)) (at_ : List Int) : List Nat := (List.range L.length).map (cur L at_)
theorem chs_len {at_ : List Int} : (chs L at_).length = L.length := by simp [chs]
theorem cur_in {f : Nat -> Nat} {at_ : List Int} (ha : At L f at_) (hf : ∀ i, i < L.length -> f i < (L.getD i []).length) {i : Nat} (hi : i < L.length) : cur L at_ i ∈ L.getD i [] := by
  obtain ⟨a, ea, la⟩ := ha.le i hi
  have := hf i hi
  unfold cur
  rw [ea, Int.toNat_natCast, getD_el _ (by omega : a < (L.getD i []).length)]
  exact List.getElem_mem _
theorem chs_nd {f : Nat -> Nat} {at_ : List Int} (h : RowsOk M L) (ha : At L f at_) (hf : ∀ i, i < L.length -> f i < (L.getD i []).length) : (chs L at_).Nodup := by
  unfold chs List.Nodup
  rw [List.pairwise_map]
  refine List.Pairwise.imp_of_mem ?_ List.pairwise_lt_range
  intro i j hi hj hij e
  have hi := List.mem_range.1 hi
  have hj := List.mem_range.1 hj
  have q := List.pairwise_iff_getElem.1 h.dis i j hi hj hij
  have c1 := cur_in ha hf hi
  have c2 := cur_in ha hf hj
  rw [getD_el L hi] at c1
  rw [getD_el L hj] at c2
  exact q _ c1 (by rw [e]; exact c2)
/-- Marks of which none contradicts another one, as many as there are rows. -/
structure Best (M : List Mrk) (L : List (List Nat)) (l : List Int) : Prop where
  n : l.length = L.length
  inc : Inc M l
  tog : Tog M l
theorem ah_iff {u v : Nat} : ah M u v ↔ ((M.getD (Int.toNat (u : Int)) default).place <= (M.getD (Int.toNat (v : Int)) default).place /\ (M.getD (Int.toNat (u : Int)) default).hi < (M.getD (Int.toNat (v : Int)) default).lo) := by
  rw [Int.toNat_natCast, Int.toNat_natCast]
  exact Iff.rfl
theorem Best.of {f : Nat -> Nat} {at_ : List Int} (hk : ∀ x ∈ M, Mok x) (h : RowsOk M L) (ha : At L f at_) (hf : ∀ i, i < L.length -> f i < (L.getD i []).length) (no : ∀ i k, i < L.length -> k < L.length -> i ≠ k -> ¬ah M (cur L at_ i) (cur L at_ k)) : Best M L (isort (ci (chs L at_))) := by
  have p := isort_perm (ci (chs L at_))
  have nd : (ci (chs L at_)).Nodup := by
    unfold ci List.Nodup
    rw [List.pairwise_map]
    exact List.Pairwise.imp (fun q e => q (by omega)) (chs_nd h ha hf)
  have mem : ∀ x ∈ isort (ci (chs L at_)), ∃ i, i < L.length /\ x = ((cur L at_ i : Nat) : Int) := fun x hx => by
    have hx := p.mem_iff.1 hx
    unfold ci chs at hx
    rw [List.map_map, List.mem_map] at hx
    obtain ⟨i, hi, rfl⟩ := hx
    exact ⟨i, List.mem_range.1 hi, rfl⟩
  have rg : ∀ i, i < L.length -> cur L at_ i < M.length := fun i hi => h.rg _ (rowIn hi) _ (cur_in ha hf hi)
  refine ⟨by rw [p.length_eq, ci_len, chs_len], ⟨?_, fun x hx => ?_⟩, fun a ha' b hb => ?_⟩
  · have s1 := isort_asc (ci (chs L at_))
    have s2 : (isort (ci (chs L at_))).Nodup := p.nodup_iff.2 nd
    exact List.Pairwise.imp₂ (fun a b (h1 : a <= b) (h2 : a ≠ b) => by omega) s1 s2
  · obtain ⟨i, hi, rfl⟩ := mem x hx
    have := rg i hi
    omega
  · obtain ⟨i, hi, rfl⟩ := mem a ha'
    obtain ⟨k, hkl, rfl⟩ := mem b hb
    rw [← ah_iff]
    by_cases e : i = k
    · subst e; exact ah_irr hk (rg i hi)
    · exact no i k hi hkl e
/-- Marks that are true together are no more than rows that hold all marks, each of which contradicts those ahead of it. -/
theorem few {X : List Nat} {L : List (List Nat)} (hX : X.Nodup) (hr : ∀ v ∈ X, v < M.length) (hno : ∀ u ∈ X, ∀ v ∈ X, ¬ah M u v) (cov : ∀ v, v < M.length -> ∃ l ∈ L, v ∈ l) (ch : ∀ l ∈ L, ∀ u ∈ l, ∀ v ∈ l, u ≠ v -> ah M u v ∨ ah M v u) : X.length <= L.length := by
  classical
  have w : ∀ v : Nat, ∃ i, v < M.length -> i < L.length /\ v ∈ L.getD i [] := fun v => by
    by_cases hv : v < M.length
    · obtain ⟨l, hl, q⟩ := cov v hv
      obtain ⟨i, hi, e⟩ := mem_getD hl []
      exact ⟨i, fun _ => ⟨hi, by rw [e]; exact q⟩⟩
    · exact ⟨0, fun q => absurd q hv⟩
  have hw := fun v => Classical.choose_spec (w v)
  generalize (fun v => Classical.choose (w v)) = g at hw
  have nd : (X.map fun v => Classical.choose (w v)).Nodup := by
    unfold List.Nodup
    rw [List.pairwise_map]
    refine List.Pairwise.imp_of_mem ?_ hX
    intro u v hu hv ne e
    have a := hw u (hr u hu)
    have b := hw v (hr v hv)
    rw [← e] at b
    rcases ch _ (rowIn a.1) u a.2 v b.2 ne with q | q
    · exact hno u hu v hv q
    · exact hno v hv u hu q
  have := sub_len _ (List.range L.length) nd (fun x hx => by
    obtain ⟨v, hv, rfl⟩ := List.mem_map.1 hx
    exact List.mem_range.2 (hw v (hr v hv)).1)
  rwa [List.length_map, List.length_range] at this
theorem pw_any {l : List Nat} (hp : l.Pairwise (ah M)) : ∀ u ∈ l, ∀ v ∈ l, u ≠ v -> ah M u v ∨ ah M v u := fun u hu v hv ne => by
  obtain ⟨i, hi, rfl⟩ := List.getElem_of_mem hu
  obtain ⟨j, hj, rfl⟩ := List.getElem_of_mem hv
  rcases Nat.lt_trichotomy i j with q | q | q
  · exact .inl (List.pairwise_iff_getElem.1 hp i j hi hj q)
  · subst q; exact absurd rfl ne
  · exact .inr (List.pairwise_iff_getElem.1 hp j i hj hi q)
end
end Fl
end Go.Nm
namespace Go.Proofs.Ytlemgioaakecpaa
open Go Go.Nm
section
variable {S : List Sect} {M' : List Mrk} {R' : List Rch}
theorem mostb5_out {L : List (List Nat)} {f : Nat -> Nat} {at_ : List Int} (hm : ∀ x ∈ M', Fl.Mok x) (hn : M'.length <= 16) (h : Fl.RowsOk M' L) (hf : ∀ i, i < L.length -> f i < (L.getD i []).length) (ha : Fl.At L f at_) {i : Nat} (hi : i < L.length) :
    (M.iter (zaB S M' R' (L.map Fl.ci) at_ i) 0).Out (fun z => match z with | .inl _ => ∃ k, k < L.length /\ i ≠ k /\ Fl.ah M' (Fl.cur L at_ i) (Fl.cur L at_ k) | .inr _ => ∀ k, k < L.length -> i ≠ k -> ¬Fl.ah M' (Fl.cur L at_ i) (Fl.cur L at_ k)) := by
  have n := ha.n
  obtain ⟨a, ea, la⟩ := ha.le i hi
  have fi := hf i hi
  refine M.o_for L.length (fun j (s : Nat) => s = j /\ ∀ k, k < j -> i ≠ k -> ¬Fl.ah M' (Fl.cur L at_ i) (Fl.cur L at_ k)) ?_ ?_ ⟨rfl, fun k hk => by omega⟩
  · rintro _ k hk ⟨rfl, hj⟩
    obtain ⟨b, eb, lb⟩ := ha.le k hk
    have fk := hf k hk
    simp only [zaB, List.length_map, Fl.cis_get, Fl.ci_len, Fl.ci_get]
    refine M.o_t (decide_eq_true (by omega)) (M.o_grd (decide_eq_true (by omega)) (M.o_grd (gOr (by omega)) (M.o_grd (gOr (by omega)) (M.o_grd (gOr (by omega)) (M.o_grd (gOr2 (by omega) (by omega)) (M.o_grd (gOr (by omega)) (M.o_grd (gOr2 (by omega) (by omega)) ?_)))))))
    have c1 := Fl.cur_in ha hf hi
    have c2 := Fl.cur_in ha hf hk
    have r1 := h.rg _ (Fl.rowIn hi) _ c1
    have r2 := h.rg _ (Fl.rowIn hk) _ c2
    have t : (((!((i : Int) == (k : Int))) && decide (at_.getD i 0 < (((L.getD i []).length : Nat) : Int))) && decide (at_.getD k 0 < (((L.getD k []).length : Nat) : Int))) = !((i : Int) == (k : Int)) := by
      rw [decide_eq_true (by omega), decide_eq_true (by omega), Bool.and_true, Bool.and_true]
    have t' : ((((i : Int) != (k : Int)) && decide (at_.getD i 0 < (((L.getD i []).length : Nat) : Int))) && decide (at_.getD k 0 < (((L.getD k []).length : Nat) : Int))) = !((i : Int) == (k : Int)) := t
    rw [t']
    by_cases e : i = k
    · subst e
      have ee : (!((i : Int) == (i : Int))) = false := by simp
      rw [ee]
      refine M.o_bindE (M.i_opt (r := false) (fun q => by cases q) (fun _ => rfl)) (M.o_f rfl (M.o_pure ⟨rfl, fun k hk' ne => ?_⟩))
      by_cases q : k = i
      · exact absurd q.symm ne
      · exact hj k (by omega) ne
    · have ee : (!((i : Int) == (k : Int))) = true := by rw [Bool.not_eq_true', beq_eq_false_iff_ne]; omega
      rw [ee]
      refine M.o_bindE (M.i_opt (r := decide (Fl.ah M' (Fl.cur L at_ i) (Fl.cur L at_ k))) (fun _ => ahN_ends r1 r2) (fun q => by cases q)) (M.o_if (fun hb => ?_) (fun hb => ?_))
      · rw [Bool.true_and] at hb
        exact M.o_grd (decide_eq_true (by omega)) (M.o_grd (gA2 (by omega) (by rw [ea]; have q := Fl.ch_len hm (h.pw _ (Fl.rowIn hi)) (h.rg _ (Fl.rowIn hi)); omega)) (M.o_pure ⟨k, hk, e, of_decide_eq_true hb⟩))
      · rw [Bool.true_and] at hb
        refine M.o_pure ⟨rfl, fun k' hk' ne => ?_⟩
        by_cases q : k' = k
        · subst q; exact of_decide_eq_false hb
        · exact hj k' (by omega) ne
  · rintro _ ⟨rfl, hj⟩
    simp only [zaB, List.length_map]
    exact M.o_f (decide_eq_false (by omega)) (M.o_pure hj)
theorem mostb6_out {L : List (List Nat)} {f : Nat -> Nat} {at_ : List Int} (hm : ∀ x ∈ M', Fl.Mok x) (hn : M'.length <= 16) (h : Fl.RowsOk M' L) (hf : ∀ i, i < L.length -> f i < (L.getD i []).length) (ha : Fl.At L f at_) :
    (M.iter (zaD S M' R' (L.map Fl.ci) at_) 0).Out (fun z => match z with | .inl (a, b) => a = b /\ ∃ i k, i < L.length /\ k < L.length /\ Fl.ah M' (Fl.cur L at_ i) (Fl.cur L at_ k) /\ b = at_.set i (at_.getD i 0 + 1) | .inr _ => ∀ i k, i < L.length -> k < L.length -> i ≠ k -> ¬Fl.ah M' (Fl.cur L at_ i) (Fl.cur L at_ k)) := by
  refine M.o_for L.length (fun j (s : Nat) => s = j /\ ∀ i k, i < j -> k < L.length -> i ≠ k -> ¬Fl.ah M' (Fl.cur L at_ i) (Fl.cur L at_ k)) ?_ ?_ ⟨rfl, fun i k hi => by omega⟩
  · rintro _ i hi ⟨rfl, hj⟩
    simp only [zaD, List.length_map]
    refine M.o_t (decide_eq_true (by omega)) (M.o_grd (decide_eq_true (by omega)) (M.o_bind (mostb5_out hm hn h hf ha hi) ?_))
    intro z hz
    match z, hz with
    | .inl _, hz =>
      obtain ⟨k, hk, _, q⟩ := hz
      exact M.o_pure ⟨rfl, i, k, hi, hk, q, rfl⟩
    | .inr _, hz =>
      refine M.o_pure ⟨rfl, fun i' k hi' hk ne => ?_⟩
      by_cases e : i' = i
      · subst e; exact hz k hk ne
      · exact hj i' k (by omega) hk ne
  · rintro _ ⟨rfl, hj⟩
    simp only [zaD, List.length_map]
    exact M.o_f (decide_eq_false (by omega)) (M.o_pure hj)
theorem mostb7_ends {L : List (List Nat)} {f : Nat -> Nat} {at_ : List Int} (hl : L.length <= 16) (hf : ∀ i, i < L.length -> f i < (L.getD i []).length) (ha : Fl.At L f at_) :
    (M.iter (zaI (L.map Fl.ci) at_) (0, [])).Ends (Fl.ci (Fl.chs L at_), Fl.ci (Fl.chs L at_)) := by
  have n := ha.n
  refine M.i_for (fun i => (i, Fl.ci ((List.range i).map (Fl.cur L at_)))) L.length (fun i hi => ?_) ?_
  · obtain ⟨a, ea, la⟩ := ha.le i hi
    have fi := hf i hi
    simp only [zaI, List.length_map, Fl.cis_get, Fl.ci_len, Fl.ci_get]
    refine M.i_t (decide_eq_true (by omega)) (M.i_grd (decide_eq_true (by omega)) (M.i_grd (decide_eq_true (by omega)) (M.i_t (decide_eq_true (by omega)) (M.i_grd (gA2 (by omega) (by omega)) (M.i_grd (decide_eq_true (by simp; omega)) ?_)))))
    have e : Fl.ci ((List.range (i + 1)).map (Fl.cur L at_)) = Fl.ci ((List.range i).map (Fl.cur L at_)) ++ [((Fl.cur L at_ i : Nat) : Int)] := by
      rw [List.range_succ, List.map_append]
      unfold Fl.ci
      rw [List.map_append]
      rfl
    rw [e]
    exact M.i_pure
  · simp only [zaI, List.length_map]
    exact M.i_f (decide_eq_false (by omega)) M.i_pure
theorem Most_best (h : Fl.Site S M' R') : (zaF S M' R').Out (fun x => x.2 = 0 /\ ∃ L : List (List Nat), (za1 S M' R').Ends (L.map Fl.ci) /\ Fl.RowsOk M' L /\ Fl.Best M' L x.1) := by
  have hn := h.m
  have hm := h.mks
  unfold zaF
  obtain ⟨_, hE, L, rfl, hr⟩ := rows_out (S := S) (R' := R') hn.2 hm
  have hl := hr.len
  refine M.o_bindE (opened_ends h) (M.o_f rfl (M.o_bindE hE (M.o_grd (by rw [List.length_map]; exact gA3 (by omega) (by omega) (by omega)) ?_)))
  obtain ⟨X, hX, hp⟩ := hr.pick
  have hex : ∀ i, ∃ k, i < L.length -> k < (L.getD i []).length /\ X ((L.getD i []).getD k 0) := fun i => by
    by_cases hi : i < L.length
    · obtain ⟨v, hv, q⟩ := hp _ (Fl.rowIn hi)
      obtain ⟨k, hk, e⟩ := mem_getD hv 0
      exact ⟨k, fun _ => ⟨hk, by rw [e]; exact q⟩⟩
    · exact ⟨0, fun q => absurd q hi⟩
  have hf := fun i => Classical.choose_spec (hex i)
  generalize hg : (fun i => Classical.choose (hex i)) = f
  have hf : ∀ i, i < L.length -> f i < (L.getD i []).length /\ X ((L.getD i []).getD (f i) 0) := by subst hg; exact hf
  have hf1 := fun i hi => (hf i hi).1
  refine M.o_bind (P := fun z => Fl.Best M' L z.1) ?_ (fun z hz => M.o_pure ⟨rfl, L, hE, hr, hz⟩)
  rw [List.length_map]
  have rep : ∀ i, (List.replicate L.length (0 : Int)).getD i 0 = 0 := fun i => by
    simp only [List.getD, List.getElem?_replicate]
    split <;> rfl
  refine M.o_iter (fun m (at_ : List Int) => Fl.At L f at_ /\ m = Fl.sm (fun j => f j - Int.toNat (at_.getD j 0)) L.length) ?_ _ (List.replicate L.length (0 : Int)) ⟨⟨by simp, fun i hi => ⟨0, rep i, Nat.zero_le _⟩⟩, rfl⟩
  rintro m at_ ⟨ha, rfl⟩
  simp only [zbK]
  refine M.o_bind (mostb6_out hm hn.2 hr hf1 ha) ?_
  intro z hz
  match z, hz with
  | .inl (a, b), hz =>
    obtain ⟨rfl, i, k, hi, hk, q, rfl⟩ := hz
    have := ha.step hm hr hX hf hi hk q
    exact M.o_pure ⟨_, this.2, this.1, rfl⟩
  | .inr _, hz =>
    refine M.o_bindE (mostb7_ends (by omega) hf1 ha) (M.o_grd (decide_eq_true (by rw [Fl.ci_len, Fl.chs_len]; omega)) (M.o_pure ?_))
    exact Fl.Best.of hm hr ha hf1 hz
end
end Go.Proofs.Ytlemgioaakecpaa
section
set_option maxRecDepth 100000
set_option maxHeartbeats 16000000
namespace Go.Proofs.Ytlemgioaakecpaa
open Go Go.Nm
def zbm (place : Int) (lo : Int) (hi : Int) : M (Int × Int × Int) :=
  M.pure (place, lo, hi)
theorem zb1 {R : List Chunk}  (place : Int) (lo : Int) (hi : Int)  {r : (Int × Int × Int)} (hM : (zbm place lo hi).Ends r) (w : World) (H : St w w [] R) : Ret Try.prog 26 #[I place, I lo, I hi] w fun v w' => ∃ (y0 : Int) (y1 : Int) (y2 : Int), (y0, y1, y2) = r /\ v = .agg #[I y0, I y1, I y2] /\ St w w' [] R := by
 refine ret_of_W Try.func26 rfl rfl rfl ?_
 refine W.seq ?_
 refine W.region rfl ?_
 refine t_alloc (cs := [I 0, I 0, I 0]) H Al46 rfl ?_
 intro ac ae H
 refine s_nil ?_
 refine W.seq ?_
 refine W.region rfl ?_
 refine zM (I place) rfl ?_
 refine zM (I lo) rfl ?_
 refine zM (I hi) rfl ?_
 refine s_val (x_bld (ps := [(0, I lo), (1, I hi)]) (zs := [I 0, I 0]) (L' := [I lo, I hi]) rfl Try.underlying44 Al44 rfl (Bd44 Try.underlying44) (.cons (cs := [I lo]) rfl rfl rfl rfl rfl <| .cons (cs := [I hi]) rfl rfl rfl rfl rfl <| .nil)) ?_
 refine s_val (x_bld (ps := [(0, I place), (1, .agg #[I lo, I hi])]) (zs := [I 0, I 0, I 0]) (L' := [I place, I lo, I hi]) rfl Try.underlying46 Al46 rfl (Bd46 Try.underlying46) (.cons (cs := [I place]) rfl rfl rfl rfl rfl <| .cons (cs := [I lo, I hi]) rfl rfl rfl rfl rfl <| .nil)) ?_
 refine t_sw 0 0 [I place, I lo, I hi] (.agg #[I place, I lo, I hi]) H rfl rfl Sz46 rfl rfl rfl rfl ?_
 intro ag H
 refine s_nil ?_
 refine W.ret ?_
 have aa := (H.bl 0)
 have ab := M.e_pure hM
 exact ⟨_, (resE_of1 (v := .agg #[I place, I lo, I hi]) rfl (.cell (v := .agg #[I place, I lo, I hi]) rfl (run_loadVar_ag (ds := [I place, I lo, I hi]) Ag46 Sz46 aa rfl rfl) <| .nil)), ⟨place, lo, hi, ab, rfl, (H.pk [])⟩⟩

def zbe (marks : List Mrk) : M ((List Sect) × (List Mrk) × (List Rch)) :=
  M.bind (zbm 0 150 160) fun (r0, r1, r2) =>
  M.bind (zbm 100 100 110) fun (aa, ab, ac) =>
  M.grd (decide ((([(⟨(r0 : Int), (r1 : Int), (r2 : Int)⟩ : Mrk), (⟨(aa : Int), (ab : Int), (ac : Int)⟩ : Mrk)]).length + marks.length) * 24 <= 140737488355328)) <|
  M.pure (([(⟨(0 : Int), ([(⟨(0 : Int), (0 : Int)⟩ : FRow), (⟨(200 : Int), (2000 : Int)⟩ : FRow)])⟩ : Sect), (⟨(100 : Int), ([(⟨(0 : Int), (0 : Int)⟩ : FRow), (⟨(200 : Int), (2000 : Int)⟩ : FRow)])⟩ : Sect)]), (([(⟨(r0 : Int), (r1 : Int), (r2 : Int)⟩ : Mrk), (⟨(aa : Int), (ab : Int), (ac : Int)⟩ : Mrk)]) ++ marks), ([(⟨(0 : Int), (1 : Int), (50 : Int), (100 : Int), false⟩ : Rch)]))
theorem zbn {R : List Chunk} {av : Cells} {aq : Value} (marks : List Mrk) (aA : Reads R av) (aB : Sl av aq marks) {r : ((List Sect) × (List Mrk) × (List Rch))} (hM : (zbe marks).Ends r) (w : World) (H : St w w [] R) : Ret Try.prog 25 #[aq] w fun v w' => ∃ (y0 : List Sect) (y1 : List Mrk) (y2 : List Rch) (u0 : Value) (rr1 : List (Raw 1)) (aw : Base) (u3 : Value) (u4 : Value), (y0, y1, y2) = r /\ v = .agg #[u0, u3, u4] /\ St w w' [cOwn (α := Raw 1) 39 u0 rr1, cRo aw, cOwn (α := Mrk) 46 u3 y1, cOwn (α := Rch) 56 u4 y2] R /\ RepR (α := Sect) aw.cells rr1 y0 := by
 refine ret_of_W Try.func25 rfl rfl rfl ?_
 refine W.seq ?_
 refine W.region rfl ?_
 refine t_alloc (cs := [.slice none 0 0, .slice none 0 0, .slice none 0 0]) H Al27 rfl ?_
 intro aL aM H
 refine s_nil ?_
 refine W.seq ?_
 refine W.region rfl ?_
 refine s_val (x_bld (ps := []) (zs := [I 0, I 0]) (L' := [I 0, I 0]) rfl Try.underlying41 Al41 rfl (Bd41 Try.underlying41) (.nil)) ?_
 refine s_val (x_bld (ps := [(0, I 200), (1, I 2000)]) (zs := [I 0, I 0]) (L' := [I 200, I 2000]) rfl Try.underlying41 Al41 rfl (Bd41 Try.underlying41) (.cons (cs := [I 200]) rfl rfl rfl rfl rfl <| .cons (cs := [I 2000]) rfl rfl rfl rfl rfl <| .nil)) ?_
 refine t_bs (α := FRow) T37 [.agg #[I 0, I 0], .agg #[I 200, I 2000]] [(⟨(0 : Int), (0 : Int)⟩ : FRow), (⟨(200 : Int), (2000 : Int)⟩ : FRow)] H rfl (.cons rfl (Flat.rep_enc _ (⟨(0 : Int), (0 : Int)⟩ : FRow)) <| .cons rfl (Flat.rep_enc _ (⟨(200 : Int), (2000 : Int)⟩ : FRow)) <| .nil) rfl rfl rfl ?_
 intro aa aN H
 refine zA aa rfl ?_
 refine s_nil ?_
 refine W.seq ?_
 refine W.region rfl ?_
 refine zM aa rfl ?_
 refine s_val (x_bld (ps := [(1, aa)]) (zs := [I 0, .slice none 0 0]) (L' := [I 0, aa]) rfl Try.underlying39 Al39 rfl (Bd39 Try.underlying39) (.cons (cs := [aa]) (Sl.cells (H.os 0)) rfl rfl rfl rfl <| .nil)) ?_
 refine zM aa rfl ?_
 refine s_val (x_bld (ps := [(0, I 100), (1, aa)]) (zs := [I 0, .slice none 0 0]) (L' := [I 100, aa]) rfl Try.underlying39 Al39 rfl (Bd39 Try.underlying39) (.cons (cs := [I 100]) rfl rfl rfl rfl rfl <| .cons (cs := [aa]) (Sl.cells (H.os 0)) rfl rfl rfl rfl <| .nil)) ?_
 obtain ⟨aO, H⟩ := H.emptyE
 obtain ⟨aP, H, aC⟩ := H.freezeE (k := 1) rfl
 replace H := H.nf
 have ag := aC
 obtain ⟨ax, H, aQ, aD⟩ := H.joinE (i := 0) (j := 1) rfl rfl
 replace ag := ag.mono aD
 obtain ⟨am, ay⟩ : ∃ r : Raw 1, r.cs = [I 0, aa] := ⟨Raw.of [I 0, aa] rfl (by simp only [List.all_cons, List.all_nil, Bool.true_and, Bool.and_true, Sl.oc ag]; try rfl), rfl⟩
 obtain ⟨ao, az⟩ : ∃ r : Raw 1, r.cs = [I 100, aa] := ⟨Raw.of [I 100, aa] rfl (by simp only [List.all_cons, List.all_nil, Bool.true_and, Bool.and_true, Sl.oc ag]; try rfl), rfl⟩
 have au : RepR (α := Sect) ax.cells [am, ao] [(⟨(0 : Int), ([(⟨(0 : Int), (0 : Int)⟩ : FRow), (⟨(200 : Int), (2000 : Int)⟩ : FRow)])⟩ : Sect), (⟨(100 : Int), ([(⟨(0 : Int), (0 : Int)⟩ : FRow), (⟨(200 : Int), (2000 : Int)⟩ : FRow)])⟩ : Sect)] := .cons (by rw [ay]; exact ⟨_, rfl, ag⟩) <| .cons (by rw [az]; exact ⟨_, rfl, ag⟩) <| .nil
 refine t_bs (α := Raw 1) T23 [.agg #[I 0, aa], .agg #[I 100, aa]] [am, ao] H rfl (.cons (by rw [show (Flat.enc am : List Value) = am.cs from rfl, ay]; rfl) (Flat.rep_enc _ _) <| .cons (by rw [show (Flat.enc ao : List Value) = ao.cs from rfl, az]; rfl) (Flat.rep_enc _ _) <| .nil) rfl rfl rfl ?_
 intro ab aR H
 replace H := H.nf
 obtain ⟨aS, aE, hM⟩ := M.e_bind hM
 refine s_call cf26 [I 0, I 150, I 160] rfl (zb1 0 150 160 aE _ (H.gt 5)) ?_
 rintro vq aT ⟨r0, r1, r2, aF, hvq, ap⟩
 subst aF
 subst vq
 try dsimp only at hM
 replace H := H.bk ap
 clear ap
 obtain ⟨aU, aG, hM⟩ := M.e_bind hM
 refine s_call cf26 [I 100, I 100, I 110] rfl (zb1 100 100 110 aG _ (H.gt 5)) ?_
 rintro vq aV ⟨ai, aj, ak, aH, hvq, ap⟩
 subst aH
 subst vq
 try dsimp only at hM
 replace H := H.bk ap
 clear ap
 refine t_bs (α := Mrk) T24 [.agg #[I r0, I r1, I r2], .agg #[I ai, I aj, I ak]] [(⟨(r0 : Int), (r1 : Int), (r2 : Int)⟩ : Mrk), (⟨(ai : Int), (aj : Int), (ak : Int)⟩ : Mrk)] H rfl (.cons rfl (Flat.rep_enc _ (⟨(r0 : Int), (r1 : Int), (r2 : Int)⟩ : Mrk)) <| .cons rfl (Flat.rep_enc _ (⟨(ai : Int), (aj : Int), (ak : Int)⟩ : Mrk)) <| .nil) rfl rfl rfl ?_
 intro aW aX H
 refine zM aq rfl ?_
 obtain ⟨aI, hM⟩ := M.e_grd hM
 simp only [Bool.and_eq_true, decide_eq_true_eq] at aI
 refine t_app (α := Mrk) (k := 0) (l := [(⟨(r0 : Int), (r1 : Int), (r2 : Int)⟩ : Mrk), (⟨(ai : Int), (aj : Int), (ak : Int)⟩ : Mrk)]) (l2 := marks) (l' := ([(⟨(r0 : Int), (r1 : Int), (r2 : Int)⟩ : Mrk), (⟨(ai : Int), (aj : Int), (ak : Int)⟩ : Mrk)]) ++ marks) (vy := aq) T24 rfl H rfl rfl rfl aB (aA.at H) (rfl) (by first | omega | (simp only [List.length_nil] at *; omega)) ?_
 intro ac aY H
 replace H := H.nf
 refine s_val (x_bld (ps := [(0, I 50), (1, I 100)]) (zs := [I 0, I 0]) (L' := [I 50, I 100]) rfl Try.underlying44 Al44 rfl (Bd44 Try.underlying44) (.cons (cs := [I 50]) rfl rfl rfl rfl rfl <| .cons (cs := [I 100]) rfl rfl rfl rfl rfl <| .nil)) ?_
 refine s_val (x_bld (ps := [(1, I 1), (2, .agg #[I 50, I 100])]) (zs := [I 0, I 0, I 0, I 0, B false]) (L' := [I 0, I 1, I 50, I 100, B false]) rfl Try.underlying56 Al56 rfl (Bd56 Try.underlying56) (.cons (cs := [I 1]) rfl rfl rfl rfl rfl <| .cons (cs := [I 50, I 100]) rfl rfl rfl rfl rfl <| .nil)) ?_
 refine t_bs (α := Rch) T25 [.agg #[I 0, I 1, I 50, I 100, B false]] [(⟨(0 : Int), (1 : Int), (50 : Int), (100 : Int), false⟩ : Rch)] H rfl (.cons rfl (Flat.rep_enc _ (⟨(0 : Int), (1 : Int), (50 : Int), (100 : Int), false⟩ : Rch)) <| .nil) rfl rfl rfl ?_
 intro ae aZ H
 refine s_val (x_bld (ps := [(0, ab), (1, ac), (2, ae)]) (zs := [.slice none 0 0, .slice none 0 0, .slice none 0 0]) (L' := [ab, ac, ae]) rfl Try.underlying27 Al27 rfl (Bd27 Try.underlying27) (.cons (cs := [ab]) (Sl.cells (rowSl rfl (H.get (k := 2) rfl) (roLe _ (H.get (k := 3) rfl)) au)) rfl rfl rfl rfl <| .cons (cs := [ac]) (Sl.cells (H.os 1)) rfl rfl rfl rfl <| .cons (cs := [ae]) (Sl.cells (H.os 0)) rfl rfl rfl rfl <| .nil)) ?_
 refine t_sw 6 0 [ab, ac, ae] (.agg #[ab, ac, ae]) H rfl rfl Sz27 rfl rfl rfl (by simp only [List.all_cons, List.all_nil, Bool.true_and, Bool.and_true, Sl.oc (rowSl rfl (H.get (k := 2) rfl) (roLe _ (H.get (k := 3) rfl)) au), Sl.oc (H.os 1), Sl.oc (H.os 0)]; try rfl) ?_
 intro a6 H
 refine s_nil ?_
 replace H := H.pk [0, 1, 2, 3, 6]
 refine W.ret ?_
 have aJ := (H.bl 4)
 have aK := M.e_pure hM
 exact ⟨_, (resE_of1 (v := .agg #[ab, ac, ae]) rfl (.cell (v := .agg #[ab, ac, ae]) rfl (run_loadVar_ag (ds := [ab, ac, ae]) Ag27 Sz27 aJ rfl rfl) <| .nil)), ⟨([(⟨(0 : Int), ([(⟨(0 : Int), (0 : Int)⟩ : FRow), (⟨(200 : Int), (2000 : Int)⟩ : FRow)])⟩ : Sect), (⟨(100 : Int), ([(⟨(0 : Int), (0 : Int)⟩ : FRow), (⟨(200 : Int), (2000 : Int)⟩ : FRow)])⟩ : Sect)]), (([(⟨(r0 : Int), (r1 : Int), (r2 : Int)⟩ : Mrk), (⟨(ai : Int), (aj : Int), (ak : Int)⟩ : Mrk)]) ++ marks), ([(⟨(0 : Int), (1 : Int), (50 : Int), (100 : Int), false⟩ : Rch)]), ab, [am, ao], ax, ac, ae, aK, rfl, (H.pk [2, 3, 1, 0]), au⟩⟩

def zbz : M Bool :=
  M.bind (zbe ([] : List Mrk)) fun (r0, r1, r2) =>
  M.bind (zav r0 r1 r2 ([(0 : Int), (1 : Int)]) 0) fun (ai, aj, ak) =>
  M.bind (zbe ([] : List Mrk)) fun (aB, aC, aD) =>
  M.bind (zcn aB aC aD 0 (⟨(160 : Int), (110 : Int), (50 : Int), (50 : Int)⟩ : Cas)) fun (am, ao) =>
  M.bind (zbe ([] : List Mrk)) fun (aE, aF, ag) =>
  M.grd (decide (0 < (ag.length : Int))) <|
  M.bind (zav aE aF (ag.set 0 ({ (ag.getD 0 default) with narrow := true })) ([(0 : Int), (1 : Int)]) 0) fun (aJ, ap, aq) =>
  M.bind (zbm 50 170 180) fun (aG, aH, aI) =>
  M.bind (zbe ([(⟨(aG : Int), (aH : Int), (aI : Int)⟩ : Mrk)])) fun (aa, ab, ac) =>
  M.bind (zcv aa ab ac 0 2) fun (au, av) =>
  M.bind (zaF aa ab ac) fun (aw, ax) =>
  M.bind (zcu aa ab ac 2 ([[(0 : Int), (2 : Int)], [(1 : Int)]])) fun (ay, az) =>
  M.bind (zay aa ab ac ([(1 : Int), (2 : Int)])) fun (ae, aA) =>
  M.grd ((!((((((((((((((ak == 0) && (ao == 0)) && (aq == 0)) && (av == 0)) && (ax == 0)) && (az == 0)) && (aA == 0)) && (decide ((⟨(ai : Int), (aj : Int)⟩ : Span) = (⟨(812 : Int), (1959 : Int)⟩ : Span)))) && (am == 1876)) && (ap == 1557)) && au) && ((aw.length : Int) == 2)) && ay) && ((ae.length : Int) == 2)) || (decide (0 < (ae.length : Int))))) <|
  M.pure (((((((((((((((ak == 0) && (ao == 0)) && (aq == 0)) && (av == 0)) && (ax == 0)) && (az == 0)) && (aA == 0)) && (decide ((⟨(ai : Int), (aj : Int)⟩ : Span) = (⟨(812 : Int), (1959 : Int)⟩ : Span)))) && (am == 1876)) && (ap == 1557)) && au) && ((aw.length : Int) == 2)) && ay) && ((ae.length : Int) == 2)) && (decide ((ae.getD 0 default) = (⟨(170 : Int), (2000 : Int)⟩ : Span))))
theorem zcj {R : List Chunk}    {r : Bool} (hM : (zbz).Ends r) (w : World) (H : St w w [] R) : Ret Try.prog 11 #[] w fun v w' => ∃ (y0 : Bool), y0 = r /\ v = B y0 /\ St w w' [] R := by
 refine ret_of_W Try.func11 rfl rfl rfl ?_
 refine W.seq ?_
 refine W.region rfl ?_
 refine zA (B false) rfl ?_
 refine s_nil ?_
 refine W.seq ?_
 refine W.region rfl ?_
 refine t_bs (α := Int) T28 [I 0, I 1] [(0 : Int), (1 : Int)] H rfl (.cons rfl (Flat.rep_enc _ (0 : Int)) <| .cons rfl (Flat.rep_enc _ (1 : Int)) <| .nil) rfl rfl rfl ?_
 intro aL cc H
 refine zA aL rfl ?_
 refine s_nil ?_
 refine W.seq ?_
 refine W.region rfl ?_
 obtain ⟨cd, bg, hM⟩ := M.e_bind hM
 refine s_call cf25 [.slice none 0 0] rfl (zbn ([] : List Mrk) Reads.none (Sl.nil (fun _ => none)) bg _ (H.gt 1)) ?_
 rintro vq ce ⟨r0, r1, r2, bh, cf, cg, bi, bj, bm, hvq, au, bn⟩
 subst bm
 subst vq
 try dsimp only at hM
 replace H := H.bk au
 clear au
 refine zM aL rfl ?_
 obtain ⟨cj, bo, hM⟩ := M.e_bind hM
 refine s_call cf13 [.agg #[bh, bi, bj], aL, I 0] rfl (zbM r0 r1 r2 ([(0 : Int), (1 : Int)]) 0 (Reads.sup (rdo 0) (Reads.of (k := 1) rfl roLe)) (rowSl rfl (H.get (k := 0) rfl) (roLe _ (H.get (k := 1) rfl)) bn) (rdo 2) (H.os 2) (rdo 3) (H.os 3) (rdo 4) (H.os 4) bo _ (H.gt 5)) ?_
 rintro vq ck ⟨ak, am, aa, bp, hvq, au⟩
 subst bp
 subst vq
 try dsimp only at hM
 replace H := H.bk au
 clear au
 refine zM (.tuple #[.agg #[I ak, I am], I aa]) rfl ?_
 refine zX [.agg #[I ak, I am], I aa] (.agg #[I ak, I am]) rfl rfl ?_
 refine zX [.agg #[I ak, I am], I aa] (I aa) rfl rfl ?_
 refine t_alloc (cs := [I 0, I 0]) H Al44 rfl ?_
 intro a8 cn H
 refine t_sw 0 0 [I ak, I am] (.agg #[I ak, I am]) H rfl rfl Sz44 rfl rfl rfl rfl ?_
 intro co H
 refine zA (I aa) rfl ?_
 refine s_nil ?_
 replace H := H.pk [0, 5]
 refine W.seq ?_
 refine W.region rfl ?_
 obtain ⟨cp, bq, hM⟩ := M.e_bind hM
 refine s_call cf25 [.slice none 0 0] rfl (zbn ([] : List Mrk) Reads.none (Sl.nil (fun _ => none)) bq _ (H.gt 2)) ?_
 rintro vq cq ⟨br, bt, bu, bv, cr, ct, bw, bx, bz, hvq, au, bA⟩
 subst bz
 subst vq
 try dsimp only at hM
 replace H := H.bk au
 clear au
 refine s_val (x_bld (ps := [(0, I 160), (1, I 110), (2, I 50), (3, I 50)]) (zs := [I 0, I 0, I 0, I 0]) (L' := [I 160, I 110, I 50, I 50]) rfl Try.underlying64 Al64 rfl (Bd64 Try.underlying64) (.cons (cs := [I 160]) rfl rfl rfl rfl rfl <| .cons (cs := [I 110]) rfl rfl rfl rfl rfl <| .cons (cs := [I 50]) rfl rfl rfl rfl rfl <| .cons (cs := [I 50]) rfl rfl rfl rfl rfl <| .nil)) ?_
 obtain ⟨cu, bB, hM⟩ := M.e_bind hM
 refine s_call cf15 [.agg #[bv, bw, bx], I 0, .agg #[I 160, I 110, I 50, I 50]] rfl (zc6 br bt bu 0 (⟨(160 : Int), (110 : Int), (50 : Int), (50 : Int)⟩ : Cas) (Reads.sup (rdo 0) (Reads.of (k := 1) rfl roLe)) (rowSl rfl (H.get (k := 0) rfl) (roLe _ (H.get (k := 1) rfl)) bA) (rdo 2) (H.os 2) (rdo 3) (H.os 3) bB _ (H.gt 6)) ?_
 rintro vq cv ⟨ao, ab, bC, hvq, au⟩
 subst bC
 subst vq
 try dsimp only at hM
 replace H := H.bk au
 clear au
 refine zM (.tuple #[I ao, I ab]) rfl ?_
 refine zX [I ao, I ab] (I ao) rfl rfl ?_
 refine zX [I ao, I ab] (I ab) rfl rfl ?_
 refine zA (I ao) rfl ?_
 refine zA (I ab) rfl ?_
 refine s_nil ?_
 replace H := H.pk [4, 5]
 refine W.seq ?_
 refine W.region rfl ?_
 obtain ⟨cw, bD, hM⟩ := M.e_bind hM
 refine s_call cf25 [.slice none 0 0] rfl (zbn ([] : List Mrk) Reads.none (Sl.nil (fun _ => none)) bD _ (H.gt 2)) ?_
 rintro vq cx ⟨bE, ba, aD, aF, bF, bG, aG, aE, bH, hvq, au, bb⟩
 subst bH
 subst vq
 try dsimp only at hM
 replace H := H.bk au
 clear au
 refine t_alloc (cs := [.slice none 0 0, .slice none 0 0, .slice none 0 0]) H Al27 rfl ?_
 intro aN cy H
 refine t_sw 0 0 [aF, aG, aE] (.agg #[aF, aG, aE]) H rfl rfl Sz27 rfl rfl rfl (by simp only [List.all_cons, List.all_nil, Bool.true_and, Bool.and_true, Sl.oc (rowSl rfl (H.get (k := 1) rfl) (roLe _ (H.get (k := 2) rfl)) bb), Sl.oc (H.os 3), Sl.oc (H.os 4)]; try rfl) ?_
 intro cz H
 refine s_nil ?_
 refine W.seq ?_
 refine W.region rfl ?_
 refine s_val (x_fa (a := Pq aN) (v := Oq aN 2) rfl (fa_blk (o := 0) Fd27_2 Sz25)) ?_
 refine s_val (x_ld (p := Oq aN 2) (v := aE) rfl (ldb_sc Sc25 (H.bl 0) rfl)) ?_
 obtain ⟨bI, hM⟩ := M.e_grd hM
 simp only [Bool.and_eq_true, decide_eq_true_eq] at bI
 refine s_val (x_ix (a := aE) (b := I 0) (v := vat aE 5 (Int.toNat 0)) rfl rfl (Sl.ix (α := Rch) T25.und T25.size (H.os 4) (by omega) (by omega))) ?_
 refine s_val (x_fa (a := vat aE 5 (Int.toNat 0)) (v := fat (vat aE 5 (Int.toNat 0)) 4) rfl (fa_pl Fd56_3 Sz4 (Sl.pl (i := 0) (H.os 4) (by omega) (by omega)))) ?_
 refine t_fst (α := Rch) (k := 4) (i := 0) (off := 4) (l := aD) (l' := aD.set 0 ({ (aD.getD 0 default) with narrow := true })) (val := B true) (L' := [cBlk aN [aF, aG, aE] 27, cOwn (α := Raw 1) 39 aF bF, cRo bG, cOwn (α := Mrk) 46 aG ba, cOwn (α := Rch) 56 aE (aD.set 0 ({ (aD.getD 0 default) with narrow := true })), cBlk a8 [I ak, I am] 44, cOwn (α := Int) 3 aL ([(0 : Int), (1 : Int)])]) H rfl Sz4 (by omega) (by omega) (aD.getD 0 default) ({ (aD.getD 0 default) with narrow := true }) (getD_some _ (by omega) _) rfl rfl [B true] rfl rfl rfl rfl rfl rfl rfl ?_
 intro cA H
 have cB : (aD.set 0 ({ (aD.getD 0 default) with narrow := true })).length = (aD).length := List.length_set
 refine s_nil ?_
 refine W.seq ?_
 refine W.region rfl ?_
 refine s_val (x_ld (p := Pq aN) (v := .agg #[aF, aG, aE]) rfl (ldb_ag (ds := [aF, aG, aE]) Ag27 Sz27 (H.bl 0) rfl rfl)) ?_
 refine zM aL rfl ?_
 obtain ⟨cC, bJ, hM⟩ := M.e_bind hM
 refine s_call cf13 [.agg #[aF, aG, aE], aL, I 0] rfl (zbM bE ba (aD.set 0 ({ (aD.getD 0 default) with narrow := true })) ([(0 : Int), (1 : Int)]) 0 (Reads.sup (rdo 1) (Reads.of (k := 2) rfl roLe)) (rowSl rfl (H.get (k := 1) rfl) (roLe _ (H.get (k := 2) rfl)) bb) (rdo 3) (H.os 3) (rdo 4) (H.os 4) (rdo 6) (H.os 6) bJ _ (H.gt 7)) ?_
 rintro vq cD ⟨aM, ap, ac, bK, hvq, au⟩
 subst bK
 subst vq
 try dsimp only at hM
 replace H := H.bk au
 clear au
 refine zM (.tuple #[.agg #[I aM, I ap], I ac]) rfl ?_
 refine zX [.agg #[I aM, I ap], I ac] (.agg #[I aM, I ap]) rfl rfl ?_
 refine zX [.agg #[I aM, I ap], I ac] (I ac) rfl rfl ?_
 refine t_alloc (cs := [I 0, I 0]) H Al44 rfl ?_
 intro aQ cE H
 refine t_sw 0 0 [I aM, I ap] (.agg #[I aM, I ap]) H rfl rfl Sz44 rfl rfl rfl rfl ?_
 intro cF H
 refine zA (I ac) rfl ?_
 refine s_nil ?_
 replace H := H.pk [0, 6]
 refine W.seq ?_
 refine W.region rfl ?_
 obtain ⟨cG, bL, hM⟩ := M.e_bind hM
 refine s_call cf26 [I 50, I 170, I 180] rfl (zb1 50 170 180 bL _ (H.gt 2)) ?_
 rintro vq cH ⟨aR, aS, aT, bM, hvq, au⟩
 subst bM
 subst vq
 try dsimp only at hM
 replace H := H.bk au
 clear au
 refine t_bs (α := Mrk) T24 [.agg #[I aR, I aS, I aT]] [(⟨(aR : Int), (aS : Int), (aT : Int)⟩ : Mrk)] H rfl (.cons rfl (Flat.rep_enc _ (⟨(aR : Int), (aS : Int), (aT : Int)⟩ : Mrk)) <| .nil) rfl rfl rfl ?_
 intro bN cI H
 obtain ⟨cJ, bO, hM⟩ := M.e_bind hM
 refine s_call cf25 [bN] rfl (zbn ([(⟨(aR : Int), (aS : Int), (aT : Int)⟩ : Mrk)]) (rdo 0) (H.os 0) bO _ (H.gt 3)) ?_
 rintro vq cK ⟨aU, aV, aW, az, cL, cM, aA, aB, bP, hvq, au, aO⟩
 subst bP
 subst vq
 try dsimp only at hM
 replace H := H.bk au
 clear au
 refine t_alloc (cs := [.slice none 0 0, .slice none 0 0, .slice none 0 0]) H Al27 rfl ?_
 intro aX cN H
 refine t_sw 0 0 [az, aA, aB] (.agg #[az, aA, aB]) H rfl rfl Sz27 rfl rfl rfl (by simp only [List.all_cons, List.all_nil, Bool.true_and, Bool.and_true, Sl.oc (rowSl rfl (H.get (k := 1) rfl) (roLe _ (H.get (k := 2) rfl)) aO), Sl.oc (H.os 3), Sl.oc (H.os 4)]; try rfl) ?_
 intro cO H
 refine s_nil ?_
 refine W.seq ?_
 refine W.region rfl ?_
 refine s_val (x_ld (p := Pq aX) (v := .agg #[az, aA, aB]) rfl (ldb_ag (ds := [az, aA, aB]) Ag27 Sz27 (H.bl 0) rfl rfl)) ?_
 obtain ⟨cP, bQ, hM⟩ := M.e_bind hM
 refine s_call cf27 [.agg #[az, aA, aB], I 0, I 2] rfl (zcY aU aV aW 0 2 (Reads.sup (rdo 1) (Reads.of (k := 2) rfl roLe)) (rowSl rfl (H.get (k := 1) rfl) (roLe _ (H.get (k := 2) rfl)) aO) (rdo 3) (H.os 3) (rdo 4) (H.os 4) bQ _ (H.gt 8)) ?_
 rintro vq cQ ⟨aq, ae, bR, hvq, au⟩
 subst bR
 subst vq
 try dsimp only at hM
 replace H := H.bk au
 clear au
 refine zM (.tuple #[B aq, I ae]) rfl ?_
 refine zX [B aq, I ae] (B aq) rfl rfl ?_
 refine zX [B aq, I ae] (I ae) rfl rfl ?_
 refine zA (B aq) rfl ?_
 refine zA (I ae) rfl ?_
 refine s_nil ?_
 refine W.seq ?_
 refine W.region rfl ?_
 refine s_val (x_ld (p := Pq aX) (v := .agg #[az, aA, aB]) rfl (ldb_ag (ds := [az, aA, aB]) Ag27 Sz27 (H.bl 0) rfl rfl)) ?_
 obtain ⟨cR, bS, hM⟩ := M.e_bind hM
 refine s_call cf10 [.agg #[az, aA, aB]] rfl (zbY aU aV aW (Reads.sup (rdo 1) (Reads.of (k := 2) rfl roLe)) (rowSl rfl (H.get (k := 1) rfl) (roLe _ (H.get (k := 2) rfl)) aO) (rdo 3) (H.os 3) (rdo 4) (H.os 4) bS _ (H.gt 8)) ?_
 rintro vq cS ⟨av, ag, aH, bT, hvq, au⟩
 subst bT
 subst vq
 try dsimp only at hM
 replace H := H.bk au
 clear au
 refine zM (.tuple #[aH, I ag]) rfl ?_
 refine zX [aH, I ag] aH rfl rfl ?_
 refine zX [aH, I ag] (I ag) rfl rfl ?_
 refine zA aH rfl ?_
 refine zA (I ag) rfl ?_
 refine s_nil ?_
 refine W.seq ?_
 refine W.region rfl ?_
 refine s_val (x_ld (p := Pq aX) (v := .agg #[az, aA, aB]) rfl (ldb_ag (ds := [az, aA, aB]) Ag27 Sz27 (H.bl 1) rfl rfl)) ?_
 refine t_bs (α := Int) T28 [I 0, I 2] [(0 : Int), (2 : Int)] H rfl (.cons rfl (Flat.rep_enc _ (0 : Int)) <| .cons rfl (Flat.rep_enc _ (2 : Int)) <| .nil) rfl rfl rfl ?_
 intro a6 cT H
 refine t_bs (α := Int) T28 [I 1] [(1 : Int)] H rfl (.cons rfl (Flat.rep_enc _ (1 : Int)) <| .nil) rfl rfl rfl ?_
 intro a7 cU H
 obtain ⟨cV, H⟩ := H.emptyE
 obtain ⟨cW, H, bU⟩ := H.freezeE (k := 2) rfl
 replace H := H.nf
 have aI := bU
 obtain ⟨cX, H, cY, bV⟩ := H.joinE (i := 0) (j := 2) rfl rfl
 replace aI := aI.mono bV
 obtain ⟨cZ, H, bW⟩ := H.freezeE (k := 2) rfl
 replace H := H.nf
 have aP := bW
 obtain ⟨bX, H, bY, bZ⟩ := H.joinE (i := 0) (j := 2) rfl rfl
 replace aI := aI.mono bY
 replace aP := aP.mono bZ
 obtain ⟨aY, bc⟩ : ∃ r : Raw 0, r.cs = [a6] := ⟨Raw.of [a6] rfl (by simp only [List.all_cons, List.all_nil, Bool.true_and, Bool.and_true, Sl.oc aI]; try rfl), rfl⟩
 obtain ⟨aZ, bf⟩ : ∃ r : Raw 0, r.cs = [a7] := ⟨Raw.of [a7] rfl (by simp only [List.all_cons, List.all_nil, Bool.true_and, Bool.and_true, Sl.oc aP]; try rfl), rfl⟩
 have b3 : RepR (α := List Int) bX.cells [aY, aZ] [[(0 : Int), (2 : Int)], [(1 : Int)]] := .cons (by rw [bc]; exact ⟨_, rfl, aI⟩) <| .cons (by rw [bf]; exact ⟨_, rfl, aP⟩) <| .nil
 refine t_bs (α := Raw 0) T75 [a6, a7] [aY, aZ] H rfl (.cons (by rw [show (Flat.enc aY : List Value) = aY.cs from rfl, bc]; exact Sl.cells aI) (Flat.rep_enc _ _) <| .cons (by rw [show (Flat.enc aZ : List Value) = aZ.cs from rfl, bf]; exact Sl.cells aP) (Flat.rep_enc _ _) <| .nil) rfl rfl rfl ?_
 intro b4 c8 H
 replace H := H.nf
 obtain ⟨c9, b5, hM⟩ := M.e_bind hM
 refine s_call cf28 [.agg #[az, aA, aB], I 2, b4] rfl (zc0 aU aV aW 2 ([[(0 : Int), (2 : Int)], [(1 : Int)]]) (Reads.sup (rdo 8) (Reads.of (k := 9) rfl roLe)) (rowSl rfl (H.get (k := 8) rfl) (roLe _ (H.get (k := 9) rfl)) aO) (rdo 10) (H.os 10) (rdo 11) (H.os 11) (Reads.sup (rdo 0) (Reads.of (k := 1) rfl roLe)) (rowSl rfl (H.get (k := 0) rfl) (roLe _ (H.get (k := 1) rfl)) b3) b5 _ (H.gt 15)) ?_
 rintro vq da ⟨aw, ai, b6, hvq, au⟩
 subst b6
 subst vq
 try dsimp only at hM
 replace H := H.bk au
 clear au
 refine zM (.tuple #[B aw, I ai]) rfl ?_
 refine zX [B aw, I ai] (B aw) rfl rfl ?_
 refine zX [B aw, I ai] (I ai) rfl rfl ?_
 refine zA (B aw) rfl ?_
 refine zA (I ai) rfl ?_
 refine s_nil ?_
 replace H := H.pk [6, 7, 8, 9, 10, 11, 13, 14]
 refine W.seq ?_
 refine W.region rfl ?_
 refine s_val (x_ld (p := Pq aX) (v := .agg #[az, aA, aB]) rfl (ldb_ag (ds := [az, aA, aB]) Ag27 Sz27 (H.bl 1) rfl rfl)) ?_
 refine t_bs (α := Int) T28 [I 1, I 2] [(1 : Int), (2 : Int)] H rfl (.cons rfl (Flat.rep_enc _ (1 : Int)) <| .cons rfl (Flat.rep_enc _ (2 : Int)) <| .nil) rfl rfl rfl ?_
 intro b7 db H
 obtain ⟨dc, b8, hM⟩ := M.e_bind hM
 refine s_call cf12 [.agg #[az, aA, aB], b7] rfl (zbT aU aV aW ([(1 : Int), (2 : Int)]) (Reads.sup (rdo 3) (Reads.of (k := 4) rfl roLe)) (rowSl rfl (H.get (k := 3) rfl) (roLe _ (H.get (k := 4) rfl)) aO) (rdo 5) (H.os 5) (rdo 6) (H.os 6) (rdo 0) (H.os 0) b8 _ (H.gt 9)) ?_
 rintro vq dd ⟨ax, aj, aC, b9, hvq, au⟩
 subst b9
 subst vq
 try dsimp only at hM
 replace H := H.bk au
 clear au
 refine zM (.tuple #[aC, I aj]) rfl ?_
 refine zX [aC, I aj] aC rfl rfl ?_
 refine zX [aC, I aj] (I aj) rfl rfl ?_
 refine zA aC rfl ?_
 refine zA (I aj) rfl ?_
 refine s_nil ?_
 replace H := H.pk [0, 2, 8, 9]
 refine W.seq ?_
 refine W.region rfl ?_
 refine zM (I aa) rfl ?_
 refine zC aa 0 (aa == 0) rfl rfl rfl ?_
 refine zM (B (aa == 0)) rfl ?_
 refine g_val (aa == 0) (gy_t rfl) (fun hg => x_mv (v := I ab) rfl) ?_
 refine g_val (aa == 0) (gy_t rfl) (fun hg => x_cmp (kd := .i64) (a := ab) (b := 0) (r := ab == 0) (gd_of (c := aa == 0) hg (I ab)) rfl rfl) ?_
 refine s_val (x_pand (b := aa == 0) (r := ab == 0) rfl (fun hb => gd_of (c := aa == 0) (by first | exact hb | (rw [hb]; rfl) | simp_all) (B (ab == 0))) rfl) ?_
 refine zM (B ((aa == 0) && (ab == 0))) rfl ?_
 refine g_val ((aa == 0) && (ab == 0)) (gy_t rfl) (fun hg => x_mv (v := I ac) rfl) ?_
 refine g_val ((aa == 0) && (ab == 0)) (gy_t rfl) (fun hg => x_cmp (kd := .i64) (a := ac) (b := 0) (r := ac == 0) (gd_of (c := ((aa == 0) && (ab == 0))) hg (I ac)) rfl rfl) ?_
 refine s_val (x_pand (b := ((aa == 0) && (ab == 0))) (r := ac == 0) rfl (fun hb => gd_of (c := ((aa == 0) && (ab == 0))) (by first | exact hb | (rw [hb]; rfl) | simp_all) (B (ac == 0))) rfl) ?_
 refine zM (B (((aa == 0) && (ab == 0)) && (ac == 0))) rfl ?_
 refine g_val (((aa == 0) && (ab == 0)) && (ac == 0)) (gy_t rfl) (fun hg => x_mv (v := I ae) rfl) ?_
 refine g_val (((aa == 0) && (ab == 0)) && (ac == 0)) (gy_t rfl) (fun hg => x_cmp (kd := .i64) (a := ae) (b := 0) (r := ae == 0) (gd_of (c := (((aa == 0) && (ab == 0)) && (ac == 0))) hg (I ae)) rfl rfl) ?_
 refine s_val (x_pand (b := (((aa == 0) && (ab == 0)) && (ac == 0))) (r := ae == 0) rfl (fun hb => gd_of (c := (((aa == 0) && (ab == 0)) && (ac == 0))) (by first | exact hb | (rw [hb]; rfl) | simp_all) (B (ae == 0))) rfl) ?_
 refine zM (B ((((aa == 0) && (ab == 0)) && (ac == 0)) && (ae == 0))) rfl ?_
 refine g_val ((((aa == 0) && (ab == 0)) && (ac == 0)) && (ae == 0)) (gy_t rfl) (fun hg => x_mv (v := I ag) rfl) ?_
 refine g_val ((((aa == 0) && (ab == 0)) && (ac == 0)) && (ae == 0)) (gy_t rfl) (fun hg => x_cmp (kd := .i64) (a := ag) (b := 0) (r := ag == 0) (gd_of (c := ((((aa == 0) && (ab == 0)) && (ac == 0)) && (ae == 0))) hg (I ag)) rfl rfl) ?_
 refine s_val (x_pand (b := ((((aa == 0) && (ab == 0)) && (ac == 0)) && (ae == 0))) (r := ag == 0) rfl (fun hb => gd_of (c := ((((aa == 0) && (ab == 0)) && (ac == 0)) && (ae == 0))) (by first | exact hb | (rw [hb]; rfl) | simp_all) (B (ag == 0))) rfl) ?_
 refine zM (B (((((aa == 0) && (ab == 0)) && (ac == 0)) && (ae == 0)) && (ag == 0))) rfl ?_
 refine g_val (((((aa == 0) && (ab == 0)) && (ac == 0)) && (ae == 0)) && (ag == 0)) (gy_t rfl) (fun hg => x_mv (v := I ai) rfl) ?_
 refine g_val (((((aa == 0) && (ab == 0)) && (ac == 0)) && (ae == 0)) && (ag == 0)) (gy_t rfl) (fun hg => x_cmp (kd := .i64) (a := ai) (b := 0) (r := ai == 0) (gd_of (c := (((((aa == 0) && (ab == 0)) && (ac == 0)) && (ae == 0)) && (ag == 0))) hg (I ai)) rfl rfl) ?_
 refine s_val (x_pand (b := (((((aa == 0) && (ab == 0)) && (ac == 0)) && (ae == 0)) && (ag == 0))) (r := ai == 0) rfl (fun hb => gd_of (c := (((((aa == 0) && (ab == 0)) && (ac == 0)) && (ae == 0)) && (ag == 0))) (by first | exact hb | (rw [hb]; rfl) | simp_all) (B (ai == 0))) rfl) ?_
 refine zM (B ((((((aa == 0) && (ab == 0)) && (ac == 0)) && (ae == 0)) && (ag == 0)) && (ai == 0))) rfl ?_
 refine g_val ((((((aa == 0) && (ab == 0)) && (ac == 0)) && (ae == 0)) && (ag == 0)) && (ai == 0)) (gy_t rfl) (fun hg => x_mv (v := I aj) rfl) ?_
 refine g_val ((((((aa == 0) && (ab == 0)) && (ac == 0)) && (ae == 0)) && (ag == 0)) && (ai == 0)) (gy_t rfl) (fun hg => x_cmp (kd := .i64) (a := aj) (b := 0) (r := aj == 0) (gd_of (c := ((((((aa == 0) && (ab == 0)) && (ac == 0)) && (ae == 0)) && (ag == 0)) && (ai == 0))) hg (I aj)) rfl rfl) ?_
 refine s_val (x_pand (b := ((((((aa == 0) && (ab == 0)) && (ac == 0)) && (ae == 0)) && (ag == 0)) && (ai == 0))) (r := aj == 0) rfl (fun hb => gd_of (c := ((((((aa == 0) && (ab == 0)) && (ac == 0)) && (ae == 0)) && (ag == 0)) && (ai == 0))) (by first | exact hb | (rw [hb]; rfl) | simp_all) (B (aj == 0))) rfl) ?_
 refine zM (B (((((((aa == 0) && (ab == 0)) && (ac == 0)) && (ae == 0)) && (ag == 0)) && (ai == 0)) && (aj == 0))) rfl ?_
 refine g_val (((((((aa == 0) && (ab == 0)) && (ac == 0)) && (ae == 0)) && (ag == 0)) && (ai == 0)) && (aj == 0)) (gy_t rfl) (fun hg => x_ld (p := Pq a8) (v := .agg #[I ak, I am]) rfl (ldb_ag (ds := [I ak, I am]) Ag44 Sz44 (H.bl 3) rfl rfl)) ?_
 refine g_val (((((((aa == 0) && (ab == 0)) && (ac == 0)) && (ae == 0)) && (ag == 0)) && (ai == 0)) && (aj == 0)) (gy_t rfl) (fun hg => x_bld (ps := [(0, I 812), (1, I 1959)]) (zs := [I 0, I 0]) (L' := [I 812, I 1959]) rfl Try.underlying44 Al44 rfl (Bd44 Try.underlying44) (.cons (cs := [I 812]) rfl rfl rfl rfl rfl <| .cons (cs := [I 1959]) rfl rfl rfl rfl rfl <| .nil)) ?_
 refine g_val (((((((aa == 0) && (ab == 0)) && (ac == 0)) && (ae == 0)) && (ag == 0)) && (ai == 0)) && (aj == 0)) (gy_t rfl) (fun hg => x_eqS (eqT44 (⟨(ak : Int), (am : Int)⟩ : Span) (⟨(812 : Int), (1959 : Int)⟩ : Span) _) gdT44 (gd_of (c := (((((((aa == 0) && (ab == 0)) && (ac == 0)) && (ae == 0)) && (ag == 0)) && (ai == 0)) && (aj == 0))) hg (.agg #[I ak, I am])) (gd_of (c := (((((((aa == 0) && (ab == 0)) && (ac == 0)) && (ae == 0)) && (ag == 0)) && (ai == 0)) && (aj == 0))) hg (.agg #[I 812, I 1959]))) ?_
 refine s_val (x_pand (b := (((((((aa == 0) && (ab == 0)) && (ac == 0)) && (ae == 0)) && (ag == 0)) && (ai == 0)) && (aj == 0))) (r := decide ((⟨(ak : Int), (am : Int)⟩ : Span) = (⟨(812 : Int), (1959 : Int)⟩ : Span))) rfl (fun hb => gd_of (c := (((((((aa == 0) && (ab == 0)) && (ac == 0)) && (ae == 0)) && (ag == 0)) && (ai == 0)) && (aj == 0))) (by first | exact hb | (rw [hb]; rfl) | simp_all) (B (decide ((⟨(ak : Int), (am : Int)⟩ : Span) = (⟨(812 : Int), (1959 : Int)⟩ : Span))))) rfl) ?_
 refine zM (B ((((((((aa == 0) && (ab == 0)) && (ac == 0)) && (ae == 0)) && (ag == 0)) && (ai == 0)) && (aj == 0)) && (decide ((⟨(ak : Int), (am : Int)⟩ : Span) = (⟨(812 : Int), (1959 : Int)⟩ : Span))))) rfl ?_
 refine g_val ((((((((aa == 0) && (ab == 0)) && (ac == 0)) && (ae == 0)) && (ag == 0)) && (ai == 0)) && (aj == 0)) && (decide ((⟨(ak : Int), (am : Int)⟩ : Span) = (⟨(812 : Int), (1959 : Int)⟩ : Span)))) (gy_t rfl) (fun hg => x_mv (v := I ao) rfl) ?_
 refine g_val ((((((((aa == 0) && (ab == 0)) && (ac == 0)) && (ae == 0)) && (ag == 0)) && (ai == 0)) && (aj == 0)) && (decide ((⟨(ak : Int), (am : Int)⟩ : Span) = (⟨(812 : Int), (1959 : Int)⟩ : Span)))) (gy_t rfl) (fun hg => x_cmp (kd := .i64) (a := ao) (b := 1876) (r := ao == 1876) (gd_of (c := ((((((((aa == 0) && (ab == 0)) && (ac == 0)) && (ae == 0)) && (ag == 0)) && (ai == 0)) && (aj == 0)) && (decide ((⟨(ak : Int), (am : Int)⟩ : Span) = (⟨(812 : Int), (1959 : Int)⟩ : Span))))) hg (I ao)) rfl rfl) ?_
 refine s_val (x_pand (b := ((((((((aa == 0) && (ab == 0)) && (ac == 0)) && (ae == 0)) && (ag == 0)) && (ai == 0)) && (aj == 0)) && (decide ((⟨(ak : Int), (am : Int)⟩ : Span) = (⟨(812 : Int), (1959 : Int)⟩ : Span))))) (r := ao == 1876) rfl (fun hb => gd_of (c := ((((((((aa == 0) && (ab == 0)) && (ac == 0)) && (ae == 0)) && (ag == 0)) && (ai == 0)) && (aj == 0)) && (decide ((⟨(ak : Int), (am : Int)⟩ : Span) = (⟨(812 : Int), (1959 : Int)⟩ : Span))))) (by first | exact hb | (rw [hb]; rfl) | simp_all) (B (ao == 1876))) rfl) ?_
 refine zM (B (((((((((aa == 0) && (ab == 0)) && (ac == 0)) && (ae == 0)) && (ag == 0)) && (ai == 0)) && (aj == 0)) && (decide ((⟨(ak : Int), (am : Int)⟩ : Span) = (⟨(812 : Int), (1959 : Int)⟩ : Span)))) && (ao == 1876))) rfl ?_
 refine g_val (((((((((aa == 0) && (ab == 0)) && (ac == 0)) && (ae == 0)) && (ag == 0)) && (ai == 0)) && (aj == 0)) && (decide ((⟨(ak : Int), (am : Int)⟩ : Span) = (⟨(812 : Int), (1959 : Int)⟩ : Span)))) && (ao == 1876)) (gy_t rfl) (fun hg => x_fa (a := Pq aQ) (v := Oq aQ 1) rfl (fa_blk (o := 0) Fd44_1 Sz3)) ?_
 refine g_val (((((((((aa == 0) && (ab == 0)) && (ac == 0)) && (ae == 0)) && (ag == 0)) && (ai == 0)) && (aj == 0)) && (decide ((⟨(ak : Int), (am : Int)⟩ : Span) = (⟨(812 : Int), (1959 : Int)⟩ : Span)))) && (ao == 1876)) (gy_t rfl) (fun hg => x_ld (p := Oq aQ 1) (v := I ap) (gd_of (c := (((((((((aa == 0) && (ab == 0)) && (ac == 0)) && (ae == 0)) && (ag == 0)) && (ai == 0)) && (aj == 0)) && (decide ((⟨(ak : Int), (am : Int)⟩ : Span) = (⟨(812 : Int), (1959 : Int)⟩ : Span)))) && (ao == 1876))) hg (Oq aQ 1)) (ldb_sc Sc3 (H.bl 2) rfl)) ?_
 refine g_val (((((((((aa == 0) && (ab == 0)) && (ac == 0)) && (ae == 0)) && (ag == 0)) && (ai == 0)) && (aj == 0)) && (decide ((⟨(ak : Int), (am : Int)⟩ : Span) = (⟨(812 : Int), (1959 : Int)⟩ : Span)))) && (ao == 1876)) (gy_t rfl) (fun hg => x_cmp (kd := .i64) (a := ap) (b := 1557) (r := ap == 1557) (gd_of (c := (((((((((aa == 0) && (ab == 0)) && (ac == 0)) && (ae == 0)) && (ag == 0)) && (ai == 0)) && (aj == 0)) && (decide ((⟨(ak : Int), (am : Int)⟩ : Span) = (⟨(812 : Int), (1959 : Int)⟩ : Span)))) && (ao == 1876))) hg (I ap)) rfl rfl) ?_
 refine s_val (x_pand (b := (((((((((aa == 0) && (ab == 0)) && (ac == 0)) && (ae == 0)) && (ag == 0)) && (ai == 0)) && (aj == 0)) && (decide ((⟨(ak : Int), (am : Int)⟩ : Span) = (⟨(812 : Int), (1959 : Int)⟩ : Span)))) && (ao == 1876))) (r := ap == 1557) rfl (fun hb => gd_of (c := (((((((((aa == 0) && (ab == 0)) && (ac == 0)) && (ae == 0)) && (ag == 0)) && (ai == 0)) && (aj == 0)) && (decide ((⟨(ak : Int), (am : Int)⟩ : Span) = (⟨(812 : Int), (1959 : Int)⟩ : Span)))) && (ao == 1876))) (by first | exact hb | (rw [hb]; rfl) | simp_all) (B (ap == 1557))) rfl) ?_
 refine zM (B ((((((((((aa == 0) && (ab == 0)) && (ac == 0)) && (ae == 0)) && (ag == 0)) && (ai == 0)) && (aj == 0)) && (decide ((⟨(ak : Int), (am : Int)⟩ : Span) = (⟨(812 : Int), (1959 : Int)⟩ : Span)))) && (ao == 1876)) && (ap == 1557))) rfl ?_
 refine g_val ((((((((((aa == 0) && (ab == 0)) && (ac == 0)) && (ae == 0)) && (ag == 0)) && (ai == 0)) && (aj == 0)) && (decide ((⟨(ak : Int), (am : Int)⟩ : Span) = (⟨(812 : Int), (1959 : Int)⟩ : Span)))) && (ao == 1876)) && (ap == 1557)) (gy_t rfl) (fun hg => x_mv (v := B aq) rfl) ?_
 refine s_val (x_pand (b := ((((((((((aa == 0) && (ab == 0)) && (ac == 0)) && (ae == 0)) && (ag == 0)) && (ai == 0)) && (aj == 0)) && (decide ((⟨(ak : Int), (am : Int)⟩ : Span) = (⟨(812 : Int), (1959 : Int)⟩ : Span)))) && (ao == 1876)) && (ap == 1557))) (r := aq) rfl (fun hb => gd_of (c := ((((((((((aa == 0) && (ab == 0)) && (ac == 0)) && (ae == 0)) && (ag == 0)) && (ai == 0)) && (aj == 0)) && (decide ((⟨(ak : Int), (am : Int)⟩ : Span) = (⟨(812 : Int), (1959 : Int)⟩ : Span)))) && (ao == 1876)) && (ap == 1557))) (by first | exact hb | (rw [hb]; rfl) | simp_all) (B aq)) rfl) ?_
 refine zM (B (((((((((((aa == 0) && (ab == 0)) && (ac == 0)) && (ae == 0)) && (ag == 0)) && (ai == 0)) && (aj == 0)) && (decide ((⟨(ak : Int), (am : Int)⟩ : Span) = (⟨(812 : Int), (1959 : Int)⟩ : Span)))) && (ao == 1876)) && (ap == 1557)) && aq)) rfl ?_
 refine g_val (((((((((((aa == 0) && (ab == 0)) && (ac == 0)) && (ae == 0)) && (ag == 0)) && (ai == 0)) && (aj == 0)) && (decide ((⟨(ak : Int), (am : Int)⟩ : Span) = (⟨(812 : Int), (1959 : Int)⟩ : Span)))) && (ao == 1876)) && (ap == 1557)) && aq) (gy_t rfl) (fun hg => x_mv (v := aH) rfl) ?_
 refine g_val (((((((((((aa == 0) && (ab == 0)) && (ac == 0)) && (ae == 0)) && (ag == 0)) && (ai == 0)) && (aj == 0)) && (decide ((⟨(ak : Int), (am : Int)⟩ : Span) = (⟨(812 : Int), (1959 : Int)⟩ : Span)))) && (ao == 1876)) && (ap == 1557)) && aq) (gy_t rfl) (fun hg => x_lenS T28.und (gd_of (c := (((((((((((aa == 0) && (ab == 0)) && (ac == 0)) && (ae == 0)) && (ag == 0)) && (ai == 0)) && (aj == 0)) && (decide ((⟨(ak : Int), (am : Int)⟩ : Span) = (⟨(812 : Int), (1959 : Int)⟩ : Span)))) && (ao == 1876)) && (ap == 1557)) && aq)) hg (aH)) (H.os 1)) ?_
 refine g_val (((((((((((aa == 0) && (ab == 0)) && (ac == 0)) && (ae == 0)) && (ag == 0)) && (ai == 0)) && (aj == 0)) && (decide ((⟨(ak : Int), (am : Int)⟩ : Span) = (⟨(812 : Int), (1959 : Int)⟩ : Span)))) && (ao == 1876)) && (ap == 1557)) && aq) (gy_t rfl) (fun hg => x_cmp (kd := .i64) (a := (av.length : Int)) (b := 2) (r := (av.length : Int) == 2) (gd_of (c := (((((((((((aa == 0) && (ab == 0)) && (ac == 0)) && (ae == 0)) && (ag == 0)) && (ai == 0)) && (aj == 0)) && (decide ((⟨(ak : Int), (am : Int)⟩ : Span) = (⟨(812 : Int), (1959 : Int)⟩ : Span)))) && (ao == 1876)) && (ap == 1557)) && aq)) hg (I (av.length : Int))) rfl rfl) ?_
 refine s_val (x_pand (b := (((((((((((aa == 0) && (ab == 0)) && (ac == 0)) && (ae == 0)) && (ag == 0)) && (ai == 0)) && (aj == 0)) && (decide ((⟨(ak : Int), (am : Int)⟩ : Span) = (⟨(812 : Int), (1959 : Int)⟩ : Span)))) && (ao == 1876)) && (ap == 1557)) && aq)) (r := (av.length : Int) == 2) rfl (fun hb => gd_of (c := (((((((((((aa == 0) && (ab == 0)) && (ac == 0)) && (ae == 0)) && (ag == 0)) && (ai == 0)) && (aj == 0)) && (decide ((⟨(ak : Int), (am : Int)⟩ : Span) = (⟨(812 : Int), (1959 : Int)⟩ : Span)))) && (ao == 1876)) && (ap == 1557)) && aq)) (by first | exact hb | (rw [hb]; rfl) | simp_all) (B ((av.length : Int) == 2))) rfl) ?_
 refine zM (B ((((((((((((aa == 0) && (ab == 0)) && (ac == 0)) && (ae == 0)) && (ag == 0)) && (ai == 0)) && (aj == 0)) && (decide ((⟨(ak : Int), (am : Int)⟩ : Span) = (⟨(812 : Int), (1959 : Int)⟩ : Span)))) && (ao == 1876)) && (ap == 1557)) && aq) && ((av.length : Int) == 2))) rfl ?_
 refine g_val ((((((((((((aa == 0) && (ab == 0)) && (ac == 0)) && (ae == 0)) && (ag == 0)) && (ai == 0)) && (aj == 0)) && (decide ((⟨(ak : Int), (am : Int)⟩ : Span) = (⟨(812 : Int), (1959 : Int)⟩ : Span)))) && (ao == 1876)) && (ap == 1557)) && aq) && ((av.length : Int) == 2)) (gy_t rfl) (fun hg => x_mv (v := B aw) rfl) ?_
 refine s_val (x_pand (b := ((((((((((((aa == 0) && (ab == 0)) && (ac == 0)) && (ae == 0)) && (ag == 0)) && (ai == 0)) && (aj == 0)) && (decide ((⟨(ak : Int), (am : Int)⟩ : Span) = (⟨(812 : Int), (1959 : Int)⟩ : Span)))) && (ao == 1876)) && (ap == 1557)) && aq) && ((av.length : Int) == 2))) (r := aw) rfl (fun hb => gd_of (c := ((((((((((((aa == 0) && (ab == 0)) && (ac == 0)) && (ae == 0)) && (ag == 0)) && (ai == 0)) && (aj == 0)) && (decide ((⟨(ak : Int), (am : Int)⟩ : Span) = (⟨(812 : Int), (1959 : Int)⟩ : Span)))) && (ao == 1876)) && (ap == 1557)) && aq) && ((av.length : Int) == 2))) (by first | exact hb | (rw [hb]; rfl) | simp_all) (B aw)) rfl) ?_
 refine zM (B (((((((((((((aa == 0) && (ab == 0)) && (ac == 0)) && (ae == 0)) && (ag == 0)) && (ai == 0)) && (aj == 0)) && (decide ((⟨(ak : Int), (am : Int)⟩ : Span) = (⟨(812 : Int), (1959 : Int)⟩ : Span)))) && (ao == 1876)) && (ap == 1557)) && aq) && ((av.length : Int) == 2)) && aw)) rfl ?_
 refine g_val (((((((((((((aa == 0) && (ab == 0)) && (ac == 0)) && (ae == 0)) && (ag == 0)) && (ai == 0)) && (aj == 0)) && (decide ((⟨(ak : Int), (am : Int)⟩ : Span) = (⟨(812 : Int), (1959 : Int)⟩ : Span)))) && (ao == 1876)) && (ap == 1557)) && aq) && ((av.length : Int) == 2)) && aw) (gy_t rfl) (fun hg => x_mv (v := aC) rfl) ?_
 refine g_val (((((((((((((aa == 0) && (ab == 0)) && (ac == 0)) && (ae == 0)) && (ag == 0)) && (ai == 0)) && (aj == 0)) && (decide ((⟨(ak : Int), (am : Int)⟩ : Span) = (⟨(812 : Int), (1959 : Int)⟩ : Span)))) && (ao == 1876)) && (ap == 1557)) && aq) && ((av.length : Int) == 2)) && aw) (gy_t rfl) (fun hg => x_lenS T52.und (gd_of (c := (((((((((((((aa == 0) && (ab == 0)) && (ac == 0)) && (ae == 0)) && (ag == 0)) && (ai == 0)) && (aj == 0)) && (decide ((⟨(ak : Int), (am : Int)⟩ : Span) = (⟨(812 : Int), (1959 : Int)⟩ : Span)))) && (ao == 1876)) && (ap == 1557)) && aq) && ((av.length : Int) == 2)) && aw)) hg (aC)) (H.os 0)) ?_
 refine g_val (((((((((((((aa == 0) && (ab == 0)) && (ac == 0)) && (ae == 0)) && (ag == 0)) && (ai == 0)) && (aj == 0)) && (decide ((⟨(ak : Int), (am : Int)⟩ : Span) = (⟨(812 : Int), (1959 : Int)⟩ : Span)))) && (ao == 1876)) && (ap == 1557)) && aq) && ((av.length : Int) == 2)) && aw) (gy_t rfl) (fun hg => x_cmp (kd := .i64) (a := (ax.length : Int)) (b := 2) (r := (ax.length : Int) == 2) (gd_of (c := (((((((((((((aa == 0) && (ab == 0)) && (ac == 0)) && (ae == 0)) && (ag == 0)) && (ai == 0)) && (aj == 0)) && (decide ((⟨(ak : Int), (am : Int)⟩ : Span) = (⟨(812 : Int), (1959 : Int)⟩ : Span)))) && (ao == 1876)) && (ap == 1557)) && aq) && ((av.length : Int) == 2)) && aw)) hg (I (ax.length : Int))) rfl rfl) ?_
 refine s_val (x_pand (b := (((((((((((((aa == 0) && (ab == 0)) && (ac == 0)) && (ae == 0)) && (ag == 0)) && (ai == 0)) && (aj == 0)) && (decide ((⟨(ak : Int), (am : Int)⟩ : Span) = (⟨(812 : Int), (1959 : Int)⟩ : Span)))) && (ao == 1876)) && (ap == 1557)) && aq) && ((av.length : Int) == 2)) && aw)) (r := (ax.length : Int) == 2) rfl (fun hb => gd_of (c := (((((((((((((aa == 0) && (ab == 0)) && (ac == 0)) && (ae == 0)) && (ag == 0)) && (ai == 0)) && (aj == 0)) && (decide ((⟨(ak : Int), (am : Int)⟩ : Span) = (⟨(812 : Int), (1959 : Int)⟩ : Span)))) && (ao == 1876)) && (ap == 1557)) && aq) && ((av.length : Int) == 2)) && aw)) (by first | exact hb | (rw [hb]; rfl) | simp_all) (B ((ax.length : Int) == 2))) rfl) ?_
 refine zM (B ((((((((((((((aa == 0) && (ab == 0)) && (ac == 0)) && (ae == 0)) && (ag == 0)) && (ai == 0)) && (aj == 0)) && (decide ((⟨(ak : Int), (am : Int)⟩ : Span) = (⟨(812 : Int), (1959 : Int)⟩ : Span)))) && (ao == 1876)) && (ap == 1557)) && aq) && ((av.length : Int) == 2)) && aw) && ((ax.length : Int) == 2))) rfl ?_
 refine g_val ((((((((((((((aa == 0) && (ab == 0)) && (ac == 0)) && (ae == 0)) && (ag == 0)) && (ai == 0)) && (aj == 0)) && (decide ((⟨(ak : Int), (am : Int)⟩ : Span) = (⟨(812 : Int), (1959 : Int)⟩ : Span)))) && (ao == 1876)) && (ap == 1557)) && aq) && ((av.length : Int) == 2)) && aw) && ((ax.length : Int) == 2)) (gy_t rfl) (fun hg => x_mv (v := aC) rfl) ?_
 obtain ⟨aJ, hM⟩ := M.e_grd hM
 replace aJ := M.imp_of aJ
 simp only [Bool.and_eq_true, decide_eq_true_eq] at aJ
 refine g_val ((((((((((((((aa == 0) && (ab == 0)) && (ac == 0)) && (ae == 0)) && (ag == 0)) && (ai == 0)) && (aj == 0)) && (decide ((⟨(ak : Int), (am : Int)⟩ : Span) = (⟨(812 : Int), (1959 : Int)⟩ : Span)))) && (ao == 1876)) && (ap == 1557)) && aq) && ((av.length : Int) == 2)) && aw) && ((ax.length : Int) == 2)) (gy_t rfl) (fun hg => x_ix (a := aC) (b := I 0) (v := vat aC 2 (Int.toNat 0)) (gd_of (c := ((((((((((((((aa == 0) && (ab == 0)) && (ac == 0)) && (ae == 0)) && (ag == 0)) && (ai == 0)) && (aj == 0)) && (decide ((⟨(ak : Int), (am : Int)⟩ : Span) = (⟨(812 : Int), (1959 : Int)⟩ : Span)))) && (ao == 1876)) && (ap == 1557)) && aq) && ((av.length : Int) == 2)) && aw) && ((ax.length : Int) == 2))) hg (aC)) rfl (Sl.ix (α := Span) T52.und T52.size (H.os 0) (by have ay := aJ.resolve_left (by rw [hg]; decide); first | exact ay | exact ay.1 | exact ay.2 | omega | (have aK := hg; simp at aK; omega)) (by have ay := aJ.resolve_left (by rw [hg]; decide); first | exact ay | exact ay.1 | exact ay.2 | omega | (have aK := hg; simp at aK; omega)))) ?_
 refine g_val ((((((((((((((aa == 0) && (ab == 0)) && (ac == 0)) && (ae == 0)) && (ag == 0)) && (ai == 0)) && (aj == 0)) && (decide ((⟨(ak : Int), (am : Int)⟩ : Span) = (⟨(812 : Int), (1959 : Int)⟩ : Span)))) && (ao == 1876)) && (ap == 1557)) && aq) && ((av.length : Int) == 2)) && aw) && ((ax.length : Int) == 2)) (gy_t rfl) (fun hg => x_ld (p := vat aC 2 (Int.toNat 0)) (v := .agg #[I ((ax.getD 0 default).lo), I ((ax.getD 0 default).hi)]) (gd_of (c := ((((((((((((((aa == 0) && (ab == 0)) && (ac == 0)) && (ae == 0)) && (ag == 0)) && (ai == 0)) && (aj == 0)) && (decide ((⟨(ak : Int), (am : Int)⟩ : Span) = (⟨(812 : Int), (1959 : Int)⟩ : Span)))) && (ao == 1876)) && (ap == 1557)) && aq) && ((av.length : Int) == 2)) && aw) && ((ax.length : Int) == 2))) hg (vat aC 2 (Int.toNat 0))) (ld_ag Ag44 Sz44 (At.mono (Span_atA (H.os 0) (i := 0) (by have ay := aJ.resolve_left (by rw [hg]; decide); first | exact ay | exact ay.1 | exact ay.2 | omega | (have aK := hg; simp at aK; omega)) (by have ay := aJ.resolve_left (by rw [hg]; decide); first | exact ay | exact ay.1 | exact ay.2 | omega | (have aK := hg; simp at aK; omega))) (H.ol 0)))) ?_
 refine g_val ((((((((((((((aa == 0) && (ab == 0)) && (ac == 0)) && (ae == 0)) && (ag == 0)) && (ai == 0)) && (aj == 0)) && (decide ((⟨(ak : Int), (am : Int)⟩ : Span) = (⟨(812 : Int), (1959 : Int)⟩ : Span)))) && (ao == 1876)) && (ap == 1557)) && aq) && ((av.length : Int) == 2)) && aw) && ((ax.length : Int) == 2)) (gy_t rfl) (fun hg => x_bld (ps := [(0, I 170), (1, I 2000)]) (zs := [I 0, I 0]) (L' := [I 170, I 2000]) rfl Try.underlying44 Al44 rfl (Bd44 Try.underlying44) (.cons (cs := [I 170]) rfl rfl rfl rfl rfl <| .cons (cs := [I 2000]) rfl rfl rfl rfl rfl <| .nil)) ?_
 refine g_val ((((((((((((((aa == 0) && (ab == 0)) && (ac == 0)) && (ae == 0)) && (ag == 0)) && (ai == 0)) && (aj == 0)) && (decide ((⟨(ak : Int), (am : Int)⟩ : Span) = (⟨(812 : Int), (1959 : Int)⟩ : Span)))) && (ao == 1876)) && (ap == 1557)) && aq) && ((av.length : Int) == 2)) && aw) && ((ax.length : Int) == 2)) (gy_t rfl) (fun hg => x_eqS (eqT44 (ax.getD 0 default) (⟨(170 : Int), (2000 : Int)⟩ : Span) _) gdT44 (gd_of (c := ((((((((((((((aa == 0) && (ab == 0)) && (ac == 0)) && (ae == 0)) && (ag == 0)) && (ai == 0)) && (aj == 0)) && (decide ((⟨(ak : Int), (am : Int)⟩ : Span) = (⟨(812 : Int), (1959 : Int)⟩ : Span)))) && (ao == 1876)) && (ap == 1557)) && aq) && ((av.length : Int) == 2)) && aw) && ((ax.length : Int) == 2))) hg (.agg #[I ((ax.getD 0 default).lo), I ((ax.getD 0 default).hi)])) (gd_of (c := ((((((((((((((aa == 0) && (ab == 0)) && (ac == 0)) && (ae == 0)) && (ag == 0)) && (ai == 0)) && (aj == 0)) && (decide ((⟨(ak : Int), (am : Int)⟩ : Span) = (⟨(812 : Int), (1959 : Int)⟩ : Span)))) && (ao == 1876)) && (ap == 1557)) && aq) && ((av.length : Int) == 2)) && aw) && ((ax.length : Int) == 2))) hg (.agg #[I 170, I 2000]))) ?_
 refine s_val (x_pand (b := ((((((((((((((aa == 0) && (ab == 0)) && (ac == 0)) && (ae == 0)) && (ag == 0)) && (ai == 0)) && (aj == 0)) && (decide ((⟨(ak : Int), (am : Int)⟩ : Span) = (⟨(812 : Int), (1959 : Int)⟩ : Span)))) && (ao == 1876)) && (ap == 1557)) && aq) && ((av.length : Int) == 2)) && aw) && ((ax.length : Int) == 2))) (r := decide ((ax.getD 0 default) = (⟨(170 : Int), (2000 : Int)⟩ : Span))) rfl (fun hb => gd_of (c := ((((((((((((((aa == 0) && (ab == 0)) && (ac == 0)) && (ae == 0)) && (ag == 0)) && (ai == 0)) && (aj == 0)) && (decide ((⟨(ak : Int), (am : Int)⟩ : Span) = (⟨(812 : Int), (1959 : Int)⟩ : Span)))) && (ao == 1876)) && (ap == 1557)) && aq) && ((av.length : Int) == 2)) && aw) && ((ax.length : Int) == 2))) (by first | exact hb | (rw [hb]; rfl) | simp_all) (B (decide ((ax.getD 0 default) = (⟨(170 : Int), (2000 : Int)⟩ : Span))))) rfl) ?_
 refine zA (B (((((((((((((((aa == 0) && (ab == 0)) && (ac == 0)) && (ae == 0)) && (ag == 0)) && (ai == 0)) && (aj == 0)) && (decide ((⟨(ak : Int), (am : Int)⟩ : Span) = (⟨(812 : Int), (1959 : Int)⟩ : Span)))) && (ao == 1876)) && (ap == 1557)) && aq) && ((av.length : Int) == 2)) && aw) && ((ax.length : Int) == 2)) && (decide ((ax.getD 0 default) = (⟨(170 : Int), (2000 : Int)⟩ : Span))))) rfl ?_
 refine s_nil ?_
 replace H := H.pk []
 refine W.ret ?_
 have cb := M.e_pure hM
 exact ⟨_, resE_tmp rfl, ⟨(((((((((((((((aa == 0) && (ab == 0)) && (ac == 0)) && (ae == 0)) && (ag == 0)) && (ai == 0)) && (aj == 0)) && (decide ((⟨(ak : Int), (am : Int)⟩ : Span) = (⟨(812 : Int), (1959 : Int)⟩ : Span)))) && (ao == 1876)) && (ap == 1557)) && aq) && ((av.length : Int) == 2)) && aw) && ((ax.length : Int) == 2)) && (decide ((ax.getD 0 default) = (⟨(170 : Int), (2000 : Int)⟩ : Span)))), cb, rfl, H⟩⟩

end Go.Proofs.Ytlemgioaakecpaa
end
namespace Go.Proofs.Ytlemgioaakecpaa
open Go Go.Nm
set_option maxRecDepth 100000 in
theorem awake_ends : zbz.Ends true := ⟨400, by kernel_rfl⟩
end Go.Proofs.Ytlemgioaakecpaa
section
set_option maxRecDepth 100000
set_option maxHeartbeats 16000000
namespace Go.Proofs.Ytlemgioaakecpaa
open Go Go.Nm
def zca (l : List Mrk) : M (List Mrk) :=
  M.grd (decide ((([] : List Mrk).length + l.length) * 24 <= 140737488355328)) <|
  M.pure l
theorem zcl {R : List Chunk} {ab : Cells} {aa : Value} (l : List Mrk) (ae : Reads R ab) (ag : Sl ab aa l) {r : (List Mrk)} (hM : (zca l).Ends r) (w : World) (H : St w w [] R) : Ret Try.prog 18 #[aa] w fun v w' => ∃ (y0 : List Mrk) (u0 : Value), y0 = r /\ v = u0 /\ St w w' [cOwn (α := Mrk) 46 u0 y0] R := by
 refine ret_of_W Try.func18 rfl rfl rfl ?_
 refine W.seq ?_
 refine W.region rfl ?_
 refine zA (.slice none 0 0) rfl ?_
 refine s_nil ?_
 refine W.seq ?_
 refine W.region rfl ?_
 refine zA (.slice none 0 0) rfl ?_
 refine s_nil ?_
 refine W.seq ?_
 refine W.region rfl ?_
 refine zM (.slice none 0 0) rfl ?_
 refine zM aa rfl ?_
 replace H := H.nilOwn (α := Mrk) 46
 obtain ⟨ai, hM⟩ := M.e_grd hM
 simp only [Bool.and_eq_true, decide_eq_true_eq] at ai
 refine t_app (α := Mrk) (k := 0) (l := []) (l2 := l) (l' := l) (vy := aa) T24 rfl H rfl rfl rfl ag (ae.at H) (List.nil_append _) (by first | omega | (simp only [List.length_nil] at *; omega)) ?_
 intro ac ak H
 replace H := H.nf
 refine zA ac rfl ?_
 refine s_nil ?_
 refine W.ret ?_
 have aj := M.e_pure hM
 exact ⟨_, resE_tmp rfl, ⟨l, ac, aj, rfl, H⟩⟩

def zb5 (l : List Rch) : M (List Rch) :=
  M.grd (decide ((([] : List Rch).length + l.length) * 40 <= 140737488355328)) <|
  M.pure l
theorem zb7 {R : List Chunk} {ab : Cells} {aa : Value} (l : List Rch) (ae : Reads R ab) (ag : Sl ab aa l) {r : (List Rch)} (hM : (zb5 l).Ends r) (w : World) (H : St w w [] R) : Ret Try.prog 19 #[aa] w fun v w' => ∃ (y0 : List Rch) (u0 : Value), y0 = r /\ v = u0 /\ St w w' [cOwn (α := Rch) 56 u0 y0] R := by
 refine ret_of_W Try.func19 rfl rfl rfl ?_
 refine W.seq ?_
 refine W.region rfl ?_
 refine zA (.slice none 0 0) rfl ?_
 refine s_nil ?_
 refine W.seq ?_
 refine W.region rfl ?_
 refine zA (.slice none 0 0) rfl ?_
 refine s_nil ?_
 refine W.seq ?_
 refine W.region rfl ?_
 refine zM (.slice none 0 0) rfl ?_
 refine zM aa rfl ?_
 replace H := H.nilOwn (α := Rch) 56
 obtain ⟨ai, hM⟩ := M.e_grd hM
 simp only [Bool.and_eq_true, decide_eq_true_eq] at ai
 refine t_app (α := Rch) (k := 0) (l := []) (l2 := l) (l' := l) (vy := aa) T25 rfl H rfl rfl rfl ag (ae.at H) (List.nil_append _) (by first | omega | (simp only [List.length_nil] at *; omega)) ?_
 intro ac ak H
 replace H := H.nf
 refine zA ac rfl ?_
 refine s_nil ?_
 refine W.ret ?_
 have aj := M.e_pure hM
 exact ⟨_, resE_tmp rfl, ⟨l, ac, aj, rfl, H⟩⟩

def zbv (l : List FRow) : M (List FRow) :=
  M.grd (decide ((([] : List FRow).length + l.length) * 16 <= 140737488355328)) <|
  M.pure l
theorem zaC {R : List Chunk} {ab : Cells} {aa : Value} (l : List FRow) (ae : Reads R ab) (ag : Sl ab aa l) {r : (List FRow)} (hM : (zbv l).Ends r) (w : World) (H : St w w [] R) : Ret Try.prog 20 #[aa] w fun v w' => ∃ (y0 : List FRow) (u0 : Value), y0 = r /\ v = u0 /\ St w w' [cOwn (α := FRow) 41 u0 y0] R := by
 refine ret_of_W Try.func20 rfl rfl rfl ?_
 refine W.seq ?_
 refine W.region rfl ?_
 refine zA (.slice none 0 0) rfl ?_
 refine s_nil ?_
 refine W.seq ?_
 refine W.region rfl ?_
 refine zA (.slice none 0 0) rfl ?_
 refine s_nil ?_
 refine W.seq ?_
 refine W.region rfl ?_
 refine zM (.slice none 0 0) rfl ?_
 refine zM aa rfl ?_
 replace H := H.nilOwn (α := FRow) 41
 obtain ⟨ai, hM⟩ := M.e_grd hM
 simp only [Bool.and_eq_true, decide_eq_true_eq] at ai
 refine t_app (α := FRow) (k := 0) (l := []) (l2 := l) (l' := l) (vy := aa) T37 rfl H rfl rfl rfl ag (ae.at H) (List.nil_append _) (by first | omega | (simp only [List.length_nil] at *; omega)) ?_
 intro ac ak H
 replace H := H.nf
 refine zA ac rfl ?_
 refine s_nil ?_
 refine W.ret ?_
 have aj := M.e_pure hM
 exact ⟨_, resE_tmp rfl, ⟨l, ac, aj, rfl, H⟩⟩

def zaj (s_Sections : List Sect) : (Nat × (List Sect)) -> M ((Nat × (List Sect)) ⊕ ((List Sect) × (List Sect))) := fun (i, l) =>
  bif decide ((i : Int) < (s_Sections.length : Int)) then (
  M.grd (decide ((i : Int) < (s_Sections.length : Int))) <|
  M.bind (zbv ((s_Sections.getD i default).rows)) fun r4 =>
  M.grd (decide ((l.length + ([(⟨((s_Sections.getD i default).place : Int), r4⟩ : Sect)]).length) * 32 <= 140737488355328)) <|
  M.pure (.inl (i + 1, l ++ [(⟨((s_Sections.getD i default).place : Int), r4⟩ : Sect)])))
  else (
  M.pure (.inr (l, l)))
def zbw (s_Sections : List Sect) (s_Marks : List Mrk) (s_Reaches : List Rch) : M ((List Sect) × (List Mrk) × (List Rch)) :=
  M.bind (zca s_Marks) fun r2 =>
  M.bind (zb5 s_Reaches) fun r3 =>
  M.bind (M.iter (zaj s_Sections) (0, [])) fun (l2, l3) =>
  M.pure (l3, r2, r3)
theorem zdp {R : List Chunk} {bx : Cells} {ag : Value} {bz : Cells} {aq : Value} {bA : Cells} {ap : Value} (s_Sections : List Sect) (s_Marks : List Mrk) (s_Reaches : List Rch) (av : Reads R bx) (ao : Sl bx ag s_Sections) (bB : Reads R bz) (bC : Sl bz aq s_Marks) (bb : Reads R bA) (bc : Sl bA ap s_Reaches) {r : ((List Sect) × (List Mrk) × (List Rch))} (hM : (zbw s_Sections s_Marks s_Reaches).Ends r) (w : World) (H : St w w [] R) : Ret Try.prog 8 #[.agg #[ag, aq, ap]] w fun v w' => ∃ (y0 : List Sect) (y1 : List Mrk) (y2 : List Rch) (u0 : Value) (rr1 : List (Raw 1)) (bU : Base) (u3 : Value) (u4 : Value), (y0, y1, y2) = r /\ v = .agg #[u0, u3, u4] /\ St w w' [cDO 39 41 u0 rr1 y0, cRo bU, cOwn (α := Mrk) 46 u3 y1, cOwn (α := Rch) 56 u4 y2] R /\ rr1.length = y0.length := by
 refine ret_of_W Try.func8 rfl rfl rfl ?_
 refine W.seq ?_
 refine W.region rfl ?_
 refine t_box (v := .agg #[ag, aq, ap]) (cs := [ag, aq, ap]) H rfl rfl ?_
 intro aj dj H
 refine t_alloc (cs := [.slice none 0 0, .slice none 0 0, .slice none 0 0]) H Al27 rfl ?_
 intro au dk H
 refine s_nil ?_
 refine W.seq ?_
 refine W.drawT (fun W => St w W [cBlk au [.slice none 0 0, .slice none 0 0, .slice none 0 0] 27, cBlk aj [ag, aq, ap] 27] R) (.q 0 (.q 1 (.q 3 (.q 4 (.l2 2 (.l2 5 (.q 6 (.l 7 (.l 8 .nil))) 7 (.l 5 (.q 6 (.l 8 .nil)))) 7 (.l 2 (.l 5 (.q 6 (.l 8 .nil))))))))) mixed (by decide +kernel) rfl ?_
 intro dm aw
 replace H := H.ext aw
 clear aw
 refine ⟨(H.pk [0, 1]), ?_⟩
 refine t_q rfl (fun w' H => x_fa (a := Pq aj) (v := Oq aj 1) rfl (fa_blk (o := 0) Fd27_1 Sz24)) ?_
 refine t_q rfl (fun w' H => x_ld (p := Oq aj 1) (v := aq) rfl (ldb_sc Sc24 (H.bl 1) rfl)) ?_
 refine t_q rfl (fun w' H => x_fa (a := Pq aj) (v := Oq aj 2) rfl (fa_blk (o := 0) Fd27_2 Sz25)) ?_
 refine t_q rfl (fun w' H => x_ld (p := Oq aj 2) (v := ap) rfl (ldb_sc Sc25 (H.bl 1) rfl)) ?_
 refine t_l2 rfl rfl ?_ ?_
 ·skip
  obtain ⟨dp, bV, hM⟩ := M.e_bind hM
  refine s_call cf18 [aq] rfl (zcl s_Marks (bB.app _) bC bV _ (H.gt 2)) ?_
  rintro vq dq ⟨r2, ae, bW, hvq, ak⟩
  subst bW
  subst vq
  try dsimp only at hM
  replace H := H.bk ak
  clear ak
  have bD := Sl.cells (H.os 0)
  have dr := Sl.oc (H.os 0)
  refine s_nil ⟨(H.pk [1, 2]), ?_⟩
  refine t_l2 rfl rfl ?_ ?_
  ·skip
   obtain ⟨dt, bX, hM⟩ := M.e_bind hM
   refine s_call cf19 [ap] rfl (zb7 s_Reaches (bb.app _) bc bX _ (H.gt 3)) ?_
   rintro vq dv ⟨r3, ab, bY, hvq, ak⟩
   subst bY
   subst vq
   try dsimp only at hM
   replace H := H.bk ak
   clear ak
   have bZ := Sl.cells (H.os 0)
   have dw := Sl.oc (H.os 0)
   refine s_nil ⟨(H.pk [2, 3]), ?_⟩
   refine t_q rfl (fun w' H => x_bld (ps := [(1, ae), (2, ab)]) (zs := [.slice none 0 0, .slice none 0 0, .slice none 0 0]) (L' := [.slice none 0 0, ae, ab]) rfl Try.underlying27 Al27 rfl (Bd27 Try.underlying27) (.cons (cs := [ae]) bD rfl rfl rfl rfl <| .cons (cs := [ab]) bZ rfl rfl rfl rfl <| .nil)) ?_
   refine t_l rfl ?_
   refine t_alloc (cs := [.slice none 0 0, .slice none 0 0, .slice none 0 0]) H Al27 rfl ?_
   intro ac dx H
   refine s_nil ⟨(H.pk [3, 4]), ?_⟩
   refine t_l rfl ?_
   refine t_sw 0 0 [.slice none 0 0, ae, ab] (.agg #[.slice none 0 0, ae, ab]) H rfl rfl Sz27 rfl rfl rfl (by simp only [List.all_cons, List.all_nil, Bool.true_and, Bool.and_true, Sl.oc (H.os 2), Sl.oc (H.os 1)]; try rfl) ?_
   intro b3 H
   refine s_nil ⟨(H.pk [3, 4]), ?_⟩
   refine t_nil ?_
   refine W.seq ?_
   refine W.seq ?_
   refine W.region rfl ?_
   refine zA (I 0) rfl ?_
   refine s_nil ?_
   refine W.block ?_
   obtain ⟨ax, H⟩ := H.emptyE
   replace H : St w b3 [cDO 39 41 (.slice none 0 0) ([]) ([]), cRo ax, cBlk ac [.slice none 0 0, ae, ab] 27, cOwn (α := Rch) 56 ab r3, cOwn (α := Mrk) 46 ae r2, cBlk au [.slice none 0 0, .slice none 0 0, .slice none 0 0] 27, cBlk aj [ag, aq, ap] 27] R := H.nilDo 39 41
   have b4 : ([] : List (Raw 1)).length = ([] : List Sect).length := rfl
   obtain ⟨b5, bf, b6⟩ := M.e_bind hM
   obtain ⟨bE, bf⟩ := M.e_iter bf
   refine W.loop (fun m σ W => ∃ (i : Nat) (l : List Sect) (ai : Value) (am : List (Raw 1)) (B_l : Base) (ρ : Env), σ = upds ρ [(1, Pq aj), (2, Pq au), (3, Pq ac), (4, I (i : Int))] /\ M.iterN (zaj s_Sections) m (i, l) = some b5 /\ St w W [cDO 39 41 ai am l, cRo B_l, cBlk ac [ai, ae, ab] 27, cOwn (α := Rch) 56 ab r3, cOwn (α := Mrk) 46 ae r2, cBlk au [.slice none 0 0, .slice none 0 0, .slice none 0 0] 27, cBlk aj [ag, aq, ap] 27] R /\ am.length = l.length) ?_ ?_
   ·exact ⟨_, 0, [], (.slice none 0 0), [], ax, _, upds_of _ _ ⟨rfl, rfl, rfl, rfl, trivial⟩, bf, H, b4⟩
   rintro dy σ dz ⟨i, l, ai, am, B_l, ρ, rfl, bF, H, ay⟩
   obtain ⟨aV, aW, dA, hM, az⟩ := M.e_iterN bF
   simp only [zaj] at hM
   clear bF
   refine W.seq ?_
   refine W.seq ?_
   refine W.region rfl ?_
   refine zM (I (i : Int)) rfl ?_
   refine s_val (x_fa (a := Pq aj) (v := Pq aj) rfl (fa_blk (o := 0) Fd27_0 Sz23)) ?_
   refine s_val (x_ld (p := Pq aj) (v := ag) rfl (ldb_sc Sc23 (H.bl 6) rfl)) ?_
   have dB := (ao).len_le
   refine s_val (x_lenS T23.und rfl ao) ?_
   refine zC (i : Int) (s_Sections.length : Int) (decide ((i : Int) < (s_Sections.length : Int))) rfl rfl rfl ?_
   refine s_nil ?_
   refine W.cond (decide ((i : Int) < (s_Sections.length : Int))) rfl (fun aA => ?_) (fun aA => ?_)
   ·replace hM := M.e_t hM aA
    simp only [qy1, qy2, qy3, qy4, qy5, qy6, ne_eq, qy7] at aA
    refine W.skip ?_
    refine W.seq ?_
    refine W.block ?_
    refine W.drawT (fun W => St w W [cRo B_l, cOwn (α := Rch) 56 ab r3, cOwn (α := Mrk) 46 ae r2, cBlk au [.slice none 0 0, .slice none 0 0, .slice none 0 0] 27, cBlk aj [ag, aq, ap] 27] R) (.q 0 (.q 2 (.q 3 (.q 4 (.q 5 (.q 6 (.q 7 (.q 8 (.q 9 (.q 10 (.q 11 (.q 12 (.q 13 (.l2 1 (.l 14 (.l 15 (.l 16 (.l 17 (.q 18 (.l 19 .nil)))))) 14 (.l2 1 (.l 15 (.l 16 (.l 17 (.q 18 (.l 19 .nil))))) 15 (.l2 1 (.l 16 (.l 17 (.q 18 (.l 19 .nil)))) 16 (.l 1 (.l 17 (.q 18 (.l 19 .nil)))))))))))))))))))) mixed (by decide +kernel) rfl ?_
    intro dC aw
    replace H := H.ext aw
    clear aw
    refine ⟨(H.pk [1, 3, 4, 5, 6]), ?_⟩
    refine t_q rfl (fun w' H => x_fa (a := Pq ac) (v := Pq ac) rfl (fa_blk (o := 0) Fd27_0 Sz23)) ?_
    refine t_q rfl (fun w' H => x_fa (a := Pq aj) (v := Pq aj) rfl (fa_blk (o := 0) Fd27_0 Sz23)) ?_
    refine t_q rfl (fun w' H => x_ld (p := Pq aj) (v := ag) rfl (ldb_sc Sc23 (H.bl 4) rfl)) ?_
    refine t_q rfl (fun w' H => x_mv (v := I (i : Int)) rfl) ?_
    obtain ⟨b7, hM⟩ := M.e_grd hM
    simp only [Bool.and_eq_true, decide_eq_true_eq] at b7
    refine t_q rfl (fun w' H => x_ix (a := ag) (b := I (i : Int)) (v := vat ag 2 (Int.toNat (i : Int))) rfl rfl (Sl.ix (α := Sect) T23.und T23.size ao (by omega) (by omega))) ?_
    refine t_q rfl (fun w' H => x_fa (a := vat ag 2 (Int.toNat (i : Int))) (v := fat (vat ag 2 (Int.toNat (i : Int))) 0) rfl (fa_pl Fd39_0 Sz3 (Sl.pl (i := (i : Int)) ao (by omega) (by omega)))) ?_
    refine t_q rfl (fun w' H => x_ld (p := fat (vat ag 2 (Int.toNat (i : Int))) 0) (v := I ((s_Sections.getD i default).place)) rfl (ld_sc Sc3 (At.mono (Sect_at0 ao (i := (i : Int)) (by omega) (by omega)) (av.at H)))) ?_
    refine t_q rfl (fun w' H => x_fa (a := Pq aj) (v := Pq aj) rfl (fa_blk (o := 0) Fd27_0 Sz23)) ?_
    refine t_q rfl (fun w' H => x_ld (p := Pq aj) (v := ag) rfl (ldb_sc Sc23 (H.bl 4) rfl)) ?_
    refine t_q rfl (fun w' H => x_mv (v := I (i : Int)) rfl) ?_
    refine t_q rfl (fun w' H => x_ix (a := ag) (b := I (i : Int)) (v := vat ag 2 (Int.toNat (i : Int))) rfl rfl (Sl.ix (α := Sect) T23.und T23.size ao (by omega) (by omega))) ?_
    refine t_q rfl (fun w' H => x_fa (a := vat ag 2 (Int.toNat (i : Int))) (v := fat (vat ag 2 (Int.toNat (i : Int))) 1) rfl (fa_pl Fd39_1 Sz37 (Sl.pl (i := (i : Int)) ao (by omega) (by omega)))) ?_
    obtain ⟨aX, b8, aB⟩ := Sect_at1 ao (i := (i : Int)) (by omega) (by omega)
    replace aB : Sl _ aX (s_Sections.getD i default).rows := aB
    have dD := aB.len_le
    refine t_q rfl (fun w' H => x_ld (p := fat (vat ag 2 (Int.toNat (i : Int))) 1) (v := aX) rfl (ld_sc Sc37 (At.mono (b8) (av.at H)))) ?_
    refine t_l2 rfl rfl ?_ ?_
    ·skip
     refine s_val (x_ld (p := Pq ac) (v := ai) rfl (ldb_sc Sc23 (H.bl 2) rfl)) ?_
     have dE := Sl.cells (deSl (H.get (k := 0) rfl))
     have dF := Sl.oc (deSl (H.get (k := 0) rfl))
     refine s_nil ⟨(H.pk [1, 3, 4, 5, 6]), ?_⟩
     refine t_l rfl ?_
     obtain ⟨dG, b9, hM⟩ := M.e_bind hM
     refine s_call cf20 [aX] rfl (zaC ((s_Sections.getD i default).rows) (av.app _) aB b9 _ (H.gt 7)) ?_
     rintro vq dH ⟨r4, aa, cb, hvq, ak⟩
     subst cb
     subst vq
     try dsimp only at hM
     replace H := H.bk ak
     clear ak
     have dI := Sl.cells (H.os 0)
     have dJ := Sl.oc (H.os 0)
     refine s_nil ⟨(H.pk [2, 4, 5, 6, 7]), ?_⟩
     refine t_l rfl ?_
     refine s_val (x_bld (ps := [(0, I ((s_Sections.getD i default).place)), (1, aa)]) (zs := [I 0, .slice none 0 0]) (L' := [I ((s_Sections.getD i default).place), aa]) rfl Try.underlying39 Al39 rfl (Bd39 Try.underlying39) (.cons (cs := [I ((s_Sections.getD i default).place)]) rfl rfl rfl rfl rfl <| .cons (cs := [aa]) (Sl.cells (H.os 0)) rfl rfl rfl rfl <| .nil)) ?_
     refine s_nil ⟨(H.pk [2, 4, 5, 6, 7]), ?_⟩
     refine t_l rfl ?_
     obtain ⟨aC, bG⟩ : ∃ r : Raw 1, r.cs = [I ((s_Sections.getD i default).place), aa] := ⟨Raw.of [I ((s_Sections.getD i default).place), aa] rfl (by simp only [List.all_cons, List.all_nil, Bool.true_and, Bool.and_true, Sl.oc (H.os 0)]; try rfl), rfl⟩
     refine t_bs (α := Raw 1) T23 [.agg #[I ((s_Sections.getD i default).place), aa]] [aC] H rfl (.cons (by rw [show (Flat.enc aC : List Value) = aC.cs from rfl, bG]; rfl) (Flat.rep_enc _ _) <| .nil) rfl rfl rfl ?_
     intro dK dL H
     replace H := H.nf
     have dM := Sl.cells (H.os 0)
     have dN := Sl.oc (H.os 0)
     refine s_nil ⟨(H.pk [3, 5, 6, 7, 8]), ?_⟩
     refine t_l rfl ?_
     obtain ⟨cc, hM⟩ := M.e_grd hM
     simp only [Bool.and_eq_true, decide_eq_true_eq] at cc
     replace H := H.pk [2, 1, 0, 3, 4, 5, 6, 7, 8]
     refine t_doapp (dl := l) (o := (⟨((s_Sections.getD i default).place : Int), r4⟩ : Sect)) (sv := aC) (rv := aa) T23 rfl H bG rfl rfl (H.os 2) (H.ol 2) (by (try simp only [List.length_nil, List.length_cons] at *); omega) ?_
     intro bg dO H
     replace H := H.nf
     have cd := doLen (H.get (k := 0) rfl)
     have dP := Sl.cells (deSl (H.get (k := 0) rfl))
     have dQ := Sl.oc (deSl (H.get (k := 0) rfl))
     refine s_nil ⟨(H.pk [2, 4, 5, 6, 7]), ?_⟩
     refine t_q rfl (fun w' H => x_fa (a := Pq ac) (v := Pq ac) rfl (fa_blk (o := 0) Fd27_0 Sz23)) ?_
     refine t_l rfl ?_
     refine t_sw 3 0 [bg] bg H rfl rfl Sz23 (Sl.cells (deSl (H.get (k := 0) rfl))) rfl rfl (by simp only [List.all_cons, List.all_nil, Bool.true_and, Bool.and_true, Sl.oc (deSl (H.get (k := 0) rfl))]; try rfl) ?_
     intro dR H
     refine s_nil ⟨(H.pk [2, 4, 5, 6, 7]), ?_⟩
     refine t_nil ?_
     refine W.region rfl ?_
     refine zM (I (i : Int)) rfl ?_
     refine zR (i : Int) 1 ((i : Int) + 1) rfl rfl rfl (by omega) ?_
     refine zA (I ((i : Int) + 1)) rfl ?_
     refine s_nil ?_
     exact ⟨aV, aW, i + 1, l ++ [(⟨((s_Sections.getD i default).place : Int), r4⟩ : Sect)], bg, am ++ [aC], B_l, _, upds_of _ _ ⟨rfl, rfl, rfl, rfl, trivial⟩, M.e_inl hM az, (H.pk [0, 2, 3, 4, 5, 6, 7]), cd⟩
    skip
    obtain ⟨dS, ce, hM⟩ := M.e_bind hM
    refine s_call cf20 [aX] rfl (zaC ((s_Sections.getD i default).rows) (av.app _) aB ce _ (H.gt 7)) ?_
    rintro vq dT ⟨r4, aa, cf, hvq, ak⟩
    subst cf
    subst vq
    try dsimp only at hM
    replace H := H.bk ak
    clear ak
    have dU := Sl.cells (H.os 0)
    have dV := Sl.oc (H.os 0)
    have dW := Sl.cells (deSl (H.get (k := 1) rfl))
    have dX := Sl.oc (deSl (H.get (k := 1) rfl))
    refine s_nil ⟨(H.pk [2, 4, 5, 6, 7]), ?_⟩
    obtain ⟨cg, hM⟩ := M.e_grd hM
    simp only [Bool.and_eq_true, decide_eq_true_eq] at cg
    refine t_l2 rfl rfl ?_ ?_
    ·skip
     refine s_val (x_ld (p := Pq ac) (v := ai) rfl (ldb_sc Sc23 (H.bl 3) rfl)) ?_
     refine s_nil ⟨(H.pk [2, 4, 5, 6, 7]), ?_⟩
     refine t_l rfl ?_
     refine s_val (x_bld (ps := [(0, I ((s_Sections.getD i default).place)), (1, aa)]) (zs := [I 0, .slice none 0 0]) (L' := [I ((s_Sections.getD i default).place), aa]) rfl Try.underlying39 Al39 rfl (Bd39 Try.underlying39) (.cons (cs := [I ((s_Sections.getD i default).place)]) rfl rfl rfl rfl rfl <| .cons (cs := [aa]) (Sl.cells (H.os 0)) rfl rfl rfl rfl <| .nil)) ?_
     refine s_nil ⟨(H.pk [2, 4, 5, 6, 7]), ?_⟩
     refine t_l rfl ?_
     obtain ⟨aD, bH⟩ : ∃ r : Raw 1, r.cs = [I ((s_Sections.getD i default).place), aa] := ⟨Raw.of [I ((s_Sections.getD i default).place), aa] rfl (by simp only [List.all_cons, List.all_nil, Bool.true_and, Bool.and_true, Sl.oc (H.os 0)]; try rfl), rfl⟩
     refine t_bs (α := Raw 1) T23 [.agg #[I ((s_Sections.getD i default).place), aa]] [aD] H rfl (.cons (by rw [show (Flat.enc aD : List Value) = aD.cs from rfl, bH]; rfl) (Flat.rep_enc _ _) <| .nil) rfl rfl rfl ?_
     intro dY dZ H
     replace H := H.nf
     have d4 := Sl.cells (H.os 0)
     have d5 := Sl.oc (H.os 0)
     refine s_nil ⟨(H.pk [3, 5, 6, 7, 8]), ?_⟩
     refine t_l rfl ?_
     replace H := H.pk [2, 1, 0, 3, 4, 5, 6, 7, 8]
     refine t_doapp (dl := l) (o := (⟨((s_Sections.getD i default).place : Int), r4⟩ : Sect)) (sv := aD) (rv := aa) T23 rfl H bH rfl rfl (H.os 2) (H.ol 2) (by (try simp only [List.length_nil, List.length_cons] at *); omega) ?_
     intro bh d6 H
     replace H := H.nf
     have cj := doLen (H.get (k := 0) rfl)
     have d7 := Sl.cells (deSl (H.get (k := 0) rfl))
     have d8 := Sl.oc (deSl (H.get (k := 0) rfl))
     refine s_nil ⟨(H.pk [2, 4, 5, 6, 7]), ?_⟩
     refine t_q rfl (fun w' H => x_fa (a := Pq ac) (v := Pq ac) rfl (fa_blk (o := 0) Fd27_0 Sz23)) ?_
     refine t_l rfl ?_
     refine t_sw 3 0 [bh] bh H rfl rfl Sz23 (Sl.cells (deSl (H.get (k := 0) rfl))) rfl rfl (by simp only [List.all_cons, List.all_nil, Bool.true_and, Bool.and_true, Sl.oc (deSl (H.get (k := 0) rfl))]; try rfl) ?_
     intro d9 H
     refine s_nil ⟨(H.pk [2, 4, 5, 6, 7]), ?_⟩
     refine t_nil ?_
     refine W.region rfl ?_
     refine zM (I (i : Int)) rfl ?_
     refine zR (i : Int) 1 ((i : Int) + 1) rfl rfl rfl (by omega) ?_
     refine zA (I ((i : Int) + 1)) rfl ?_
     refine s_nil ?_
     exact ⟨aV, aW, i + 1, l ++ [(⟨((s_Sections.getD i default).place : Int), r4⟩ : Sect)], bh, am ++ [aD], B_l, _, upds_of _ _ ⟨rfl, rfl, rfl, rfl, trivial⟩, M.e_inl hM az, (H.pk [0, 2, 3, 4, 5, 6, 7]), cj⟩
    skip
    refine s_val (x_bld (ps := [(0, I ((s_Sections.getD i default).place)), (1, aa)]) (zs := [I 0, .slice none 0 0]) (L' := [I ((s_Sections.getD i default).place), aa]) rfl Try.underlying39 Al39 rfl (Bd39 Try.underlying39) (.cons (cs := [I ((s_Sections.getD i default).place)]) rfl rfl rfl rfl rfl <| .cons (cs := [aa]) (Sl.cells (H.os 0)) rfl rfl rfl rfl <| .nil)) ?_
    refine s_nil ⟨(H.pk [2, 4, 5, 6, 7]), ?_⟩
    refine t_l2 rfl rfl ?_ ?_
    ·skip
     refine s_val (x_ld (p := Pq ac) (v := ai) rfl (ldb_sc Sc23 (H.bl 3) rfl)) ?_
     refine s_nil ⟨(H.pk [2, 4, 5, 6, 7]), ?_⟩
     refine t_l rfl ?_
     obtain ⟨aE, bI⟩ : ∃ r : Raw 1, r.cs = [I ((s_Sections.getD i default).place), aa] := ⟨Raw.of [I ((s_Sections.getD i default).place), aa] rfl (by simp only [List.all_cons, List.all_nil, Bool.true_and, Bool.and_true, Sl.oc (H.os 0)]; try rfl), rfl⟩
     refine t_bs (α := Raw 1) T23 [.agg #[I ((s_Sections.getD i default).place), aa]] [aE] H rfl (.cons (by rw [show (Flat.enc aE : List Value) = aE.cs from rfl, bI]; rfl) (Flat.rep_enc _ _) <| .nil) rfl rfl rfl ?_
     intro ef eg H
     replace H := H.nf
     have ei := Sl.cells (H.os 0)
     have ej := Sl.oc (H.os 0)
     refine s_nil ⟨(H.pk [3, 5, 6, 7, 8]), ?_⟩
     refine t_l rfl ?_
     replace H := H.pk [2, 1, 0, 3, 4, 5, 6, 7, 8]
     refine t_doapp (dl := l) (o := (⟨((s_Sections.getD i default).place : Int), r4⟩ : Sect)) (sv := aE) (rv := aa) T23 rfl H bI rfl rfl (H.os 2) (H.ol 2) (by (try simp only [List.length_nil, List.length_cons] at *); omega) ?_
     intro bi ek H
     replace H := H.nf
     have ck := doLen (H.get (k := 0) rfl)
     have em := Sl.cells (deSl (H.get (k := 0) rfl))
     have eo := Sl.oc (deSl (H.get (k := 0) rfl))
     refine s_nil ⟨(H.pk [2, 4, 5, 6, 7]), ?_⟩
     refine t_q rfl (fun w' H => x_fa (a := Pq ac) (v := Pq ac) rfl (fa_blk (o := 0) Fd27_0 Sz23)) ?_
     refine t_l rfl ?_
     refine t_sw 3 0 [bi] bi H rfl rfl Sz23 (Sl.cells (deSl (H.get (k := 0) rfl))) rfl rfl (by simp only [List.all_cons, List.all_nil, Bool.true_and, Bool.and_true, Sl.oc (deSl (H.get (k := 0) rfl))]; try rfl) ?_
     intro ep H
     refine s_nil ⟨(H.pk [2, 4, 5, 6, 7]), ?_⟩
     refine t_nil ?_
     refine W.region rfl ?_
     refine zM (I (i : Int)) rfl ?_
     refine zR (i : Int) 1 ((i : Int) + 1) rfl rfl rfl (by omega) ?_
     refine zA (I ((i : Int) + 1)) rfl ?_
     refine s_nil ?_
     exact ⟨aV, aW, i + 1, l ++ [(⟨((s_Sections.getD i default).place : Int), r4⟩ : Sect)], bi, am ++ [aE], B_l, _, upds_of _ _ ⟨rfl, rfl, rfl, rfl, trivial⟩, M.e_inl hM az, (H.pk [0, 2, 3, 4, 5, 6, 7]), ck⟩
    skip
    obtain ⟨aF, bJ⟩ : ∃ r : Raw 1, r.cs = [I ((s_Sections.getD i default).place), aa] := ⟨Raw.of [I ((s_Sections.getD i default).place), aa] rfl (by simp only [List.all_cons, List.all_nil, Bool.true_and, Bool.and_true, Sl.oc (H.os 0)]; try rfl), rfl⟩
    refine t_bs (α := Raw 1) T23 [.agg #[I ((s_Sections.getD i default).place), aa]] [aF] H rfl (.cons (by rw [show (Flat.enc aF : List Value) = aF.cs from rfl, bJ]; rfl) (Flat.rep_enc _ _) <| .nil) rfl rfl rfl ?_
    intro eq er H
    replace H := H.nf
    have ew := Sl.cells (H.os 0)
    have ey := Sl.oc (H.os 0)
    refine s_nil ⟨(H.pk [3, 5, 6, 7, 8]), ?_⟩
    refine t_l rfl ?_
    refine s_val (x_ld (p := Pq ac) (v := ai) rfl (ldb_sc Sc23 (H.bl 4) rfl)) ?_
    refine s_nil ⟨(H.pk [3, 5, 6, 7, 8]), ?_⟩
    refine t_l rfl ?_
    replace H := H.pk [2, 1, 0, 3, 4, 5, 6, 7, 8]
    refine t_doapp (dl := l) (o := (⟨((s_Sections.getD i default).place : Int), r4⟩ : Sect)) (sv := aF) (rv := aa) T23 rfl H bJ rfl rfl (H.os 2) (H.ol 2) (by (try simp only [List.length_nil, List.length_cons] at *); omega) ?_
    intro bj ez H
    replace H := H.nf
    have cn := doLen (H.get (k := 0) rfl)
    have eA := Sl.cells (deSl (H.get (k := 0) rfl))
    have eB := Sl.oc (deSl (H.get (k := 0) rfl))
    refine s_nil ⟨(H.pk [2, 4, 5, 6, 7]), ?_⟩
    refine t_q rfl (fun w' H => x_fa (a := Pq ac) (v := Pq ac) rfl (fa_blk (o := 0) Fd27_0 Sz23)) ?_
    refine t_l rfl ?_
    refine t_sw 3 0 [bj] bj H rfl rfl Sz23 (Sl.cells (deSl (H.get (k := 0) rfl))) rfl rfl (by simp only [List.all_cons, List.all_nil, Bool.true_and, Bool.and_true, Sl.oc (deSl (H.get (k := 0) rfl))]; try rfl) ?_
    intro eC H
    refine s_nil ⟨(H.pk [2, 4, 5, 6, 7]), ?_⟩
    refine t_nil ?_
    refine W.region rfl ?_
    refine zM (I (i : Int)) rfl ?_
    refine zR (i : Int) 1 ((i : Int) + 1) rfl rfl rfl (by omega) ?_
    refine zA (I ((i : Int) + 1)) rfl ?_
    refine s_nil ?_
    exact ⟨aV, aW, i + 1, l ++ [(⟨((s_Sections.getD i default).place : Int), r4⟩ : Sect)], bj, am ++ [aF], B_l, _, upds_of _ _ ⟨rfl, rfl, rfl, rfl, trivial⟩, M.e_inl hM az, (H.pk [0, 2, 3, 4, 5, 6, 7]), cn⟩
   replace hM := M.e_f hM aA
   simp only [qy1, qy2, qy3, qy4, qy5, qy6, ne_eq, qy7] at aA
   refine W.exit ?_
   have co := M.e_inr hM az
   subst co
   replace hM := b6
   try dsimp only at hM
   refine W.seq ?_
   refine W.region rfl ?_
   refine s_val (x_ld (p := Pq ac) (v := .agg #[ai, ae, ab]) rfl (ldb_ag (ds := [ai, ae, ab]) Ag27 Sz27 (H.bl 2) rfl rfl)) ?_
   refine t_sw 5 0 [ai, ae, ab] (.agg #[ai, ae, ab]) H rfl rfl Sz27 rfl rfl rfl (by simp only [List.all_cons, List.all_nil, Bool.true_and, Bool.and_true, Sl.oc (deSl (H.get (k := 0) rfl)), Sl.oc (H.os 4), Sl.oc (H.os 3)]; try rfl) ?_
   intro eD H
   refine s_nil ?_
   replace H := H.pk [0, 1, 3, 4, 5]
   refine W.ret ?_
   have cp := (H.bl 4)
   have aG := M.e_pure hM
   exact ⟨_, (resE_of1 (v := .agg #[ai, ae, ab]) rfl (.cell (v := .agg #[ai, ae, ab]) rfl (run_loadVar_ag (ds := [ai, ae, ab]) Ag27 Sz27 cp rfl rfl) <| .nil)), ⟨l, r2, r3, ai, am, B_l, ae, ab, aG, rfl, (H.pk [0, 1, 3, 2]), ay⟩⟩
  skip
  refine t_alloc (cs := [.slice none 0 0, .slice none 0 0, .slice none 0 0]) H Al27 rfl ?_
  intro ac eE H
  refine s_nil ⟨(H.pk [2, 3]), ?_⟩
  refine t_l rfl ?_
  obtain ⟨eF, cq, hM⟩ := M.e_bind hM
  refine s_call cf19 [ap] rfl (zb7 s_Reaches (bb.app _) bc cq _ (H.gt 4)) ?_
  rintro vq eG ⟨r3, ab, cr, hvq, ak⟩
  subst cr
  subst vq
  try dsimp only at hM
  replace H := H.bk ak
  clear ak
  have ct := Sl.cells (H.os 0)
  have eH := Sl.oc (H.os 0)
  refine s_nil ⟨(H.pk [3, 4]), ?_⟩
  refine t_q rfl (fun w' H => x_bld (ps := [(1, ae), (2, ab)]) (zs := [.slice none 0 0, .slice none 0 0, .slice none 0 0]) (L' := [.slice none 0 0, ae, ab]) rfl Try.underlying27 Al27 rfl (Bd27 Try.underlying27) (.cons (cs := [ae]) bD rfl rfl rfl rfl <| .cons (cs := [ab]) ct rfl rfl rfl rfl <| .nil)) ?_
  refine t_l rfl ?_
  refine t_sw 1 0 [.slice none 0 0, ae, ab] (.agg #[.slice none 0 0, ae, ab]) H rfl rfl Sz27 rfl rfl rfl (by simp only [List.all_cons, List.all_nil, Bool.true_and, Bool.and_true, Sl.oc (H.os 2), Sl.oc (H.os 0)]; try rfl) ?_
  intro cu H
  refine s_nil ⟨(H.pk [3, 4]), ?_⟩
  refine t_nil ?_
  refine W.seq ?_
  refine W.seq ?_
  refine W.region rfl ?_
  refine zA (I 0) rfl ?_
  refine s_nil ?_
  refine W.block ?_
  obtain ⟨ax, H⟩ := H.emptyE
  replace H : St w cu [cDO 39 41 (.slice none 0 0) ([]) ([]), cRo ax, cOwn (α := Rch) 56 ab r3, cBlk ac [.slice none 0 0, ae, ab] 27, cOwn (α := Mrk) 46 ae r2, cBlk au [.slice none 0 0, .slice none 0 0, .slice none 0 0] 27, cBlk aj [ag, aq, ap] 27] R := H.nilDo 39 41
  have cv : ([] : List (Raw 1)).length = ([] : List Sect).length := rfl
  obtain ⟨cw, bm, cx⟩ := M.e_bind hM
  obtain ⟨bE, bm⟩ := M.e_iter bm
  refine W.loop (fun m σ W => ∃ (i : Nat) (l : List Sect) (ai : Value) (am : List (Raw 1)) (B_l : Base) (ρ : Env), σ = upds ρ [(1, Pq aj), (2, Pq au), (3, Pq ac), (4, I (i : Int))] /\ M.iterN (zaj s_Sections) m (i, l) = some cw /\ St w W [cDO 39 41 ai am l, cRo B_l, cOwn (α := Rch) 56 ab r3, cBlk ac [ai, ae, ab] 27, cOwn (α := Mrk) 46 ae r2, cBlk au [.slice none 0 0, .slice none 0 0, .slice none 0 0] 27, cBlk aj [ag, aq, ap] 27] R /\ am.length = l.length) ?_ ?_
  ·exact ⟨_, 0, [], (.slice none 0 0), [], ax, _, upds_of _ _ ⟨rfl, rfl, rfl, rfl, trivial⟩, bm, H, cv⟩
  rintro eI σ eJ ⟨i, l, ai, am, B_l, ρ, rfl, bK, H, ay⟩
  obtain ⟨aY, aZ, eK, hM, aH⟩ := M.e_iterN bK
  simp only [zaj] at hM
  clear bK
  refine W.seq ?_
  refine W.seq ?_
  refine W.region rfl ?_
  refine zM (I (i : Int)) rfl ?_
  refine s_val (x_fa (a := Pq aj) (v := Pq aj) rfl (fa_blk (o := 0) Fd27_0 Sz23)) ?_
  refine s_val (x_ld (p := Pq aj) (v := ag) rfl (ldb_sc Sc23 (H.bl 6) rfl)) ?_
  have eL := (ao).len_le
  refine s_val (x_lenS T23.und rfl ao) ?_
  refine zC (i : Int) (s_Sections.length : Int) (decide ((i : Int) < (s_Sections.length : Int))) rfl rfl rfl ?_
  refine s_nil ?_
  refine W.cond (decide ((i : Int) < (s_Sections.length : Int))) rfl (fun aI => ?_) (fun aI => ?_)
  ·replace hM := M.e_t hM aI
   simp only [qy1, qy2, qy3, qy4, qy5, qy6, ne_eq, qy7] at aI
   refine W.skip ?_
   refine W.seq ?_
   refine W.block ?_
   refine W.drawT (fun W => St w W [cRo B_l, cOwn (α := Rch) 56 ab r3, cOwn (α := Mrk) 46 ae r2, cBlk au [.slice none 0 0, .slice none 0 0, .slice none 0 0] 27, cBlk aj [ag, aq, ap] 27] R) (.q 0 (.q 2 (.q 3 (.q 4 (.q 5 (.q 6 (.q 7 (.q 8 (.q 9 (.q 10 (.q 11 (.q 12 (.q 13 (.l2 1 (.l 14 (.l 15 (.l 16 (.l 17 (.q 18 (.l 19 .nil)))))) 14 (.l2 1 (.l 15 (.l 16 (.l 17 (.q 18 (.l 19 .nil))))) 15 (.l2 1 (.l 16 (.l 17 (.q 18 (.l 19 .nil)))) 16 (.l 1 (.l 17 (.q 18 (.l 19 .nil)))))))))))))))))))) mixed (by decide +kernel) rfl ?_
   intro eM aw
   replace H := H.ext aw
   clear aw
   refine ⟨(H.pk [1, 2, 4, 5, 6]), ?_⟩
   refine t_q rfl (fun w' H => x_fa (a := Pq ac) (v := Pq ac) rfl (fa_blk (o := 0) Fd27_0 Sz23)) ?_
   refine t_q rfl (fun w' H => x_fa (a := Pq aj) (v := Pq aj) rfl (fa_blk (o := 0) Fd27_0 Sz23)) ?_
   refine t_q rfl (fun w' H => x_ld (p := Pq aj) (v := ag) rfl (ldb_sc Sc23 (H.bl 4) rfl)) ?_
   refine t_q rfl (fun w' H => x_mv (v := I (i : Int)) rfl) ?_
   obtain ⟨cy, hM⟩ := M.e_grd hM
   simp only [Bool.and_eq_true, decide_eq_true_eq] at cy
   refine t_q rfl (fun w' H => x_ix (a := ag) (b := I (i : Int)) (v := vat ag 2 (Int.toNat (i : Int))) rfl rfl (Sl.ix (α := Sect) T23.und T23.size ao (by omega) (by omega))) ?_
   refine t_q rfl (fun w' H => x_fa (a := vat ag 2 (Int.toNat (i : Int))) (v := fat (vat ag 2 (Int.toNat (i : Int))) 0) rfl (fa_pl Fd39_0 Sz3 (Sl.pl (i := (i : Int)) ao (by omega) (by omega)))) ?_
   refine t_q rfl (fun w' H => x_ld (p := fat (vat ag 2 (Int.toNat (i : Int))) 0) (v := I ((s_Sections.getD i default).place)) rfl (ld_sc Sc3 (At.mono (Sect_at0 ao (i := (i : Int)) (by omega) (by omega)) (av.at H)))) ?_
   refine t_q rfl (fun w' H => x_fa (a := Pq aj) (v := Pq aj) rfl (fa_blk (o := 0) Fd27_0 Sz23)) ?_
   refine t_q rfl (fun w' H => x_ld (p := Pq aj) (v := ag) rfl (ldb_sc Sc23 (H.bl 4) rfl)) ?_
   refine t_q rfl (fun w' H => x_mv (v := I (i : Int)) rfl) ?_
   refine t_q rfl (fun w' H => x_ix (a := ag) (b := I (i : Int)) (v := vat ag 2 (Int.toNat (i : Int))) rfl rfl (Sl.ix (α := Sect) T23.und T23.size ao (by omega) (by omega))) ?_
   refine t_q rfl (fun w' H => x_fa (a := vat ag 2 (Int.toNat (i : Int))) (v := fat (vat ag 2 (Int.toNat (i : Int))) 1) rfl (fa_pl Fd39_1 Sz37 (Sl.pl (i := (i : Int)) ao (by omega) (by omega)))) ?_
   obtain ⟨a6, cz, aJ⟩ := Sect_at1 ao (i := (i : Int)) (by omega) (by omega)
   replace aJ : Sl _ a6 (s_Sections.getD i default).rows := aJ
   have eN := aJ.len_le
   refine t_q rfl (fun w' H => x_ld (p := fat (vat ag 2 (Int.toNat (i : Int))) 1) (v := a6) rfl (ld_sc Sc37 (At.mono (cz) (av.at H)))) ?_
   refine t_l2 rfl rfl ?_ ?_
   ·skip
    refine s_val (x_ld (p := Pq ac) (v := ai) rfl (ldb_sc Sc23 (H.bl 3) rfl)) ?_
    have eO := Sl.cells (deSl (H.get (k := 0) rfl))
    have eP := Sl.oc (deSl (H.get (k := 0) rfl))
    refine s_nil ⟨(H.pk [1, 2, 4, 5, 6]), ?_⟩
    refine t_l rfl ?_
    obtain ⟨eQ, cA, hM⟩ := M.e_bind hM
    refine s_call cf20 [a6] rfl (zaC ((s_Sections.getD i default).rows) (av.app _) aJ cA _ (H.gt 7)) ?_
    rintro vq eR ⟨r4, aa, cB, hvq, ak⟩
    subst cB
    subst vq
    try dsimp only at hM
    replace H := H.bk ak
    clear ak
    have eS := Sl.cells (H.os 0)
    have eT := Sl.oc (H.os 0)
    refine s_nil ⟨(H.pk [2, 3, 5, 6, 7]), ?_⟩
    refine t_l rfl ?_
    refine s_val (x_bld (ps := [(0, I ((s_Sections.getD i default).place)), (1, aa)]) (zs := [I 0, .slice none 0 0]) (L' := [I ((s_Sections.getD i default).place), aa]) rfl Try.underlying39 Al39 rfl (Bd39 Try.underlying39) (.cons (cs := [I ((s_Sections.getD i default).place)]) rfl rfl rfl rfl rfl <| .cons (cs := [aa]) (Sl.cells (H.os 0)) rfl rfl rfl rfl <| .nil)) ?_
    refine s_nil ⟨(H.pk [2, 3, 5, 6, 7]), ?_⟩
    refine t_l rfl ?_
    obtain ⟨aK, bL⟩ : ∃ r : Raw 1, r.cs = [I ((s_Sections.getD i default).place), aa] := ⟨Raw.of [I ((s_Sections.getD i default).place), aa] rfl (by simp only [List.all_cons, List.all_nil, Bool.true_and, Bool.and_true, Sl.oc (H.os 0)]; try rfl), rfl⟩
    refine t_bs (α := Raw 1) T23 [.agg #[I ((s_Sections.getD i default).place), aa]] [aK] H rfl (.cons (by rw [show (Flat.enc aK : List Value) = aK.cs from rfl, bL]; rfl) (Flat.rep_enc _ _) <| .nil) rfl rfl rfl ?_
    intro eU eV H
    replace H := H.nf
    have eW := Sl.cells (H.os 0)
    have eX := Sl.oc (H.os 0)
    refine s_nil ⟨(H.pk [3, 4, 6, 7, 8]), ?_⟩
    refine t_l rfl ?_
    obtain ⟨cC, hM⟩ := M.e_grd hM
    simp only [Bool.and_eq_true, decide_eq_true_eq] at cC
    replace H := H.pk [2, 1, 0, 3, 4, 5, 6, 7, 8]
    refine t_doapp (dl := l) (o := (⟨((s_Sections.getD i default).place : Int), r4⟩ : Sect)) (sv := aK) (rv := aa) T23 rfl H bL rfl rfl (H.os 2) (H.ol 2) (by (try simp only [List.length_nil, List.length_cons] at *); omega) ?_
    intro bn eY H
    replace H := H.nf
    have cD := doLen (H.get (k := 0) rfl)
    have eZ := Sl.cells (deSl (H.get (k := 0) rfl))
    have e9 := Sl.oc (deSl (H.get (k := 0) rfl))
    refine s_nil ⟨(H.pk [2, 3, 5, 6, 7]), ?_⟩
    refine t_q rfl (fun w' H => x_fa (a := Pq ac) (v := Pq ac) rfl (fa_blk (o := 0) Fd27_0 Sz23)) ?_
    refine t_l rfl ?_
    refine t_sw 4 0 [bn] bn H rfl rfl Sz23 (Sl.cells (deSl (H.get (k := 0) rfl))) rfl rfl (by simp only [List.all_cons, List.all_nil, Bool.true_and, Bool.and_true, Sl.oc (deSl (H.get (k := 0) rfl))]; try rfl) ?_
    intro fa H
    refine s_nil ⟨(H.pk [2, 3, 5, 6, 7]), ?_⟩
    refine t_nil ?_
    refine W.region rfl ?_
    refine zM (I (i : Int)) rfl ?_
    refine zR (i : Int) 1 ((i : Int) + 1) rfl rfl rfl (by omega) ?_
    refine zA (I ((i : Int) + 1)) rfl ?_
    refine s_nil ?_
    exact ⟨aY, aZ, i + 1, l ++ [(⟨((s_Sections.getD i default).place : Int), r4⟩ : Sect)], bn, am ++ [aK], B_l, _, upds_of _ _ ⟨rfl, rfl, rfl, rfl, trivial⟩, M.e_inl hM aH, (H.pk [0, 2, 3, 4, 5, 6, 7]), cD⟩
   skip
   obtain ⟨fb, cE, hM⟩ := M.e_bind hM
   refine s_call cf20 [a6] rfl (zaC ((s_Sections.getD i default).rows) (av.app _) aJ cE _ (H.gt 7)) ?_
   rintro vq fd ⟨r4, aa, cF, hvq, ak⟩
   subst cF
   subst vq
   try dsimp only at hM
   replace H := H.bk ak
   clear ak
   have fe := Sl.cells (H.os 0)
   have ff := Sl.oc (H.os 0)
   have fg := Sl.cells (deSl (H.get (k := 1) rfl))
   have fh := Sl.oc (deSl (H.get (k := 1) rfl))
   refine s_nil ⟨(H.pk [2, 3, 5, 6, 7]), ?_⟩
   obtain ⟨cG, hM⟩ := M.e_grd hM
   simp only [Bool.and_eq_true, decide_eq_true_eq] at cG
   refine t_l2 rfl rfl ?_ ?_
   ·skip
    refine s_val (x_ld (p := Pq ac) (v := ai) rfl (ldb_sc Sc23 (H.bl 4) rfl)) ?_
    refine s_nil ⟨(H.pk [2, 3, 5, 6, 7]), ?_⟩
    refine t_l rfl ?_
    refine s_val (x_bld (ps := [(0, I ((s_Sections.getD i default).place)), (1, aa)]) (zs := [I 0, .slice none 0 0]) (L' := [I ((s_Sections.getD i default).place), aa]) rfl Try.underlying39 Al39 rfl (Bd39 Try.underlying39) (.cons (cs := [I ((s_Sections.getD i default).place)]) rfl rfl rfl rfl rfl <| .cons (cs := [aa]) (Sl.cells (H.os 0)) rfl rfl rfl rfl <| .nil)) ?_
    refine s_nil ⟨(H.pk [2, 3, 5, 6, 7]), ?_⟩
    refine t_l rfl ?_
    obtain ⟨aL, bM⟩ : ∃ r : Raw 1, r.cs = [I ((s_Sections.getD i default).place), aa] := ⟨Raw.of [I ((s_Sections.getD i default).place), aa] rfl (by simp only [List.all_cons, List.all_nil, Bool.true_and, Bool.and_true, Sl.oc (H.os 0)]; try rfl), rfl⟩
    refine t_bs (α := Raw 1) T23 [.agg #[I ((s_Sections.getD i default).place), aa]] [aL] H rfl (.cons (by rw [show (Flat.enc aL : List Value) = aL.cs from rfl, bM]; rfl) (Flat.rep_enc _ _) <| .nil) rfl rfl rfl ?_
    intro fj fm H
    replace H := H.nf
    have fo := Sl.cells (H.os 0)
    have fp := Sl.oc (H.os 0)
    refine s_nil ⟨(H.pk [3, 4, 6, 7, 8]), ?_⟩
    refine t_l rfl ?_
    replace H := H.pk [2, 1, 0, 3, 4, 5, 6, 7, 8]
    refine t_doapp (dl := l) (o := (⟨((s_Sections.getD i default).place : Int), r4⟩ : Sect)) (sv := aL) (rv := aa) T23 rfl H bM rfl rfl (H.os 2) (H.ol 2) (by (try simp only [List.length_nil, List.length_cons] at *); omega) ?_
    intro bo fq H
    replace H := H.nf
    have cH := doLen (H.get (k := 0) rfl)
    have fu := Sl.cells (deSl (H.get (k := 0) rfl))
    have fw := Sl.oc (deSl (H.get (k := 0) rfl))
    refine s_nil ⟨(H.pk [2, 3, 5, 6, 7]), ?_⟩
    refine t_q rfl (fun w' H => x_fa (a := Pq ac) (v := Pq ac) rfl (fa_blk (o := 0) Fd27_0 Sz23)) ?_
    refine t_l rfl ?_
    refine t_sw 4 0 [bo] bo H rfl rfl Sz23 (Sl.cells (deSl (H.get (k := 0) rfl))) rfl rfl (by simp only [List.all_cons, List.all_nil, Bool.true_and, Bool.and_true, Sl.oc (deSl (H.get (k := 0) rfl))]; try rfl) ?_
    intro fx H
    refine s_nil ⟨(H.pk [2, 3, 5, 6, 7]), ?_⟩
    refine t_nil ?_
    refine W.region rfl ?_
    refine zM (I (i : Int)) rfl ?_
    refine zR (i : Int) 1 ((i : Int) + 1) rfl rfl rfl (by omega) ?_
    refine zA (I ((i : Int) + 1)) rfl ?_
    refine s_nil ?_
    exact ⟨aY, aZ, i + 1, l ++ [(⟨((s_Sections.getD i default).place : Int), r4⟩ : Sect)], bo, am ++ [aL], B_l, _, upds_of _ _ ⟨rfl, rfl, rfl, rfl, trivial⟩, M.e_inl hM aH, (H.pk [0, 2, 3, 4, 5, 6, 7]), cH⟩
   skip
   refine s_val (x_bld (ps := [(0, I ((s_Sections.getD i default).place)), (1, aa)]) (zs := [I 0, .slice none 0 0]) (L' := [I ((s_Sections.getD i default).place), aa]) rfl Try.underlying39 Al39 rfl (Bd39 Try.underlying39) (.cons (cs := [I ((s_Sections.getD i default).place)]) rfl rfl rfl rfl rfl <| .cons (cs := [aa]) (Sl.cells (H.os 0)) rfl rfl rfl rfl <| .nil)) ?_
   refine s_nil ⟨(H.pk [2, 3, 5, 6, 7]), ?_⟩
   refine t_l2 rfl rfl ?_ ?_
   ·skip
    refine s_val (x_ld (p := Pq ac) (v := ai) rfl (ldb_sc Sc23 (H.bl 4) rfl)) ?_
    refine s_nil ⟨(H.pk [2, 3, 5, 6, 7]), ?_⟩
    refine t_l rfl ?_
    obtain ⟨aM, bN⟩ : ∃ r : Raw 1, r.cs = [I ((s_Sections.getD i default).place), aa] := ⟨Raw.of [I ((s_Sections.getD i default).place), aa] rfl (by simp only [List.all_cons, List.all_nil, Bool.true_and, Bool.and_true, Sl.oc (H.os 0)]; try rfl), rfl⟩
    refine t_bs (α := Raw 1) T23 [.agg #[I ((s_Sections.getD i default).place), aa]] [aM] H rfl (.cons (by rw [show (Flat.enc aM : List Value) = aM.cs from rfl, bN]; rfl) (Flat.rep_enc _ _) <| .nil) rfl rfl rfl ?_
    intro fy fA H
    replace H := H.nf
    have fB := Sl.cells (H.os 0)
    have fC := Sl.oc (H.os 0)
    refine s_nil ⟨(H.pk [3, 4, 6, 7, 8]), ?_⟩
    refine t_l rfl ?_
    replace H := H.pk [2, 1, 0, 3, 4, 5, 6, 7, 8]
    refine t_doapp (dl := l) (o := (⟨((s_Sections.getD i default).place : Int), r4⟩ : Sect)) (sv := aM) (rv := aa) T23 rfl H bN rfl rfl (H.os 2) (H.ol 2) (by (try simp only [List.length_nil, List.length_cons] at *); omega) ?_
    intro bp fD H
    replace H := H.nf
    have cI := doLen (H.get (k := 0) rfl)
    have fE := Sl.cells (deSl (H.get (k := 0) rfl))
    have fF := Sl.oc (deSl (H.get (k := 0) rfl))
    refine s_nil ⟨(H.pk [2, 3, 5, 6, 7]), ?_⟩
    refine t_q rfl (fun w' H => x_fa (a := Pq ac) (v := Pq ac) rfl (fa_blk (o := 0) Fd27_0 Sz23)) ?_
    refine t_l rfl ?_
    refine t_sw 4 0 [bp] bp H rfl rfl Sz23 (Sl.cells (deSl (H.get (k := 0) rfl))) rfl rfl (by simp only [List.all_cons, List.all_nil, Bool.true_and, Bool.and_true, Sl.oc (deSl (H.get (k := 0) rfl))]; try rfl) ?_
    intro fG H
    refine s_nil ⟨(H.pk [2, 3, 5, 6, 7]), ?_⟩
    refine t_nil ?_
    refine W.region rfl ?_
    refine zM (I (i : Int)) rfl ?_
    refine zR (i : Int) 1 ((i : Int) + 1) rfl rfl rfl (by omega) ?_
    refine zA (I ((i : Int) + 1)) rfl ?_
    refine s_nil ?_
    exact ⟨aY, aZ, i + 1, l ++ [(⟨((s_Sections.getD i default).place : Int), r4⟩ : Sect)], bp, am ++ [aM], B_l, _, upds_of _ _ ⟨rfl, rfl, rfl, rfl, trivial⟩, M.e_inl hM aH, (H.pk [0, 2, 3, 4, 5, 6, 7]), cI⟩
   skip
   obtain ⟨aN, bO⟩ : ∃ r : Raw 1, r.cs = [I ((s_Sections.getD i default).place), aa] := ⟨Raw.of [I ((s_Sections.getD i default).place), aa] rfl (by simp only [List.all_cons, List.all_nil, Bool.true_and, Bool.and_true, Sl.oc (H.os 0)]; try rfl), rfl⟩
   refine t_bs (α := Raw 1) T23 [.agg #[I ((s_Sections.getD i default).place), aa]] [aN] H rfl (.cons (by rw [show (Flat.enc aN : List Value) = aN.cs from rfl, bO]; rfl) (Flat.rep_enc _ _) <| .nil) rfl rfl rfl ?_
   intro fH fI H
   replace H := H.nf
   have fJ := Sl.cells (H.os 0)
   have fK := Sl.oc (H.os 0)
   refine s_nil ⟨(H.pk [3, 4, 6, 7, 8]), ?_⟩
   refine t_l rfl ?_
   refine s_val (x_ld (p := Pq ac) (v := ai) rfl (ldb_sc Sc23 (H.bl 5) rfl)) ?_
   refine s_nil ⟨(H.pk [3, 4, 6, 7, 8]), ?_⟩
   refine t_l rfl ?_
   replace H := H.pk [2, 1, 0, 3, 4, 5, 6, 7, 8]
   refine t_doapp (dl := l) (o := (⟨((s_Sections.getD i default).place : Int), r4⟩ : Sect)) (sv := aN) (rv := aa) T23 rfl H bO rfl rfl (H.os 2) (H.ol 2) (by (try simp only [List.length_nil, List.length_cons] at *); omega) ?_
   intro bq fL H
   replace H := H.nf
   have cJ := doLen (H.get (k := 0) rfl)
   have fM := Sl.cells (deSl (H.get (k := 0) rfl))
   have fN := Sl.oc (deSl (H.get (k := 0) rfl))
   refine s_nil ⟨(H.pk [2, 3, 5, 6, 7]), ?_⟩
   refine t_q rfl (fun w' H => x_fa (a := Pq ac) (v := Pq ac) rfl (fa_blk (o := 0) Fd27_0 Sz23)) ?_
   refine t_l rfl ?_
   refine t_sw 4 0 [bq] bq H rfl rfl Sz23 (Sl.cells (deSl (H.get (k := 0) rfl))) rfl rfl (by simp only [List.all_cons, List.all_nil, Bool.true_and, Bool.and_true, Sl.oc (deSl (H.get (k := 0) rfl))]; try rfl) ?_
   intro fO H
   refine s_nil ⟨(H.pk [2, 3, 5, 6, 7]), ?_⟩
   refine t_nil ?_
   refine W.region rfl ?_
   refine zM (I (i : Int)) rfl ?_
   refine zR (i : Int) 1 ((i : Int) + 1) rfl rfl rfl (by omega) ?_
   refine zA (I ((i : Int) + 1)) rfl ?_
   refine s_nil ?_
   exact ⟨aY, aZ, i + 1, l ++ [(⟨((s_Sections.getD i default).place : Int), r4⟩ : Sect)], bq, am ++ [aN], B_l, _, upds_of _ _ ⟨rfl, rfl, rfl, rfl, trivial⟩, M.e_inl hM aH, (H.pk [0, 2, 3, 4, 5, 6, 7]), cJ⟩
  replace hM := M.e_f hM aI
  simp only [qy1, qy2, qy3, qy4, qy5, qy6, ne_eq, qy7] at aI
  refine W.exit ?_
  have cK := M.e_inr hM aH
  subst cK
  replace hM := cx
  try dsimp only at hM
  refine W.seq ?_
  refine W.region rfl ?_
  refine s_val (x_ld (p := Pq ac) (v := .agg #[ai, ae, ab]) rfl (ldb_ag (ds := [ai, ae, ab]) Ag27 Sz27 (H.bl 3) rfl rfl)) ?_
  refine t_sw 5 0 [ai, ae, ab] (.agg #[ai, ae, ab]) H rfl rfl Sz27 rfl rfl rfl (by simp only [List.all_cons, List.all_nil, Bool.true_and, Bool.and_true, Sl.oc (deSl (H.get (k := 0) rfl)), Sl.oc (H.os 4), Sl.oc (H.os 2)]; try rfl) ?_
  intro fP H
  refine s_nil ?_
  replace H := H.pk [0, 1, 2, 4, 5]
  refine W.ret ?_
  have cL := (H.bl 4)
  have aG := M.e_pure hM
  exact ⟨_, (resE_of1 (v := .agg #[ai, ae, ab]) rfl (.cell (v := .agg #[ai, ae, ab]) rfl (run_loadVar_ag (ds := [ai, ae, ab]) Ag27 Sz27 cL rfl rfl) <| .nil)), ⟨l, r2, r3, ai, am, B_l, ae, ab, aG, rfl, (H.pk [0, 1, 3, 2]), ay⟩⟩
 skip
 refine t_alloc (cs := [.slice none 0 0, .slice none 0 0, .slice none 0 0]) H Al27 rfl ?_
 intro ac fQ H
 refine s_nil ⟨(H.pk [1, 2]), ?_⟩
 refine t_l rfl ?_
 obtain ⟨fR, cM, hM⟩ := M.e_bind hM
 refine s_call cf18 [aq] rfl (zcl s_Marks (bB.app _) bC cM _ (H.gt 3)) ?_
 rintro vq fS ⟨r2, ae, cN, hvq, ak⟩
 subst cN
 subst vq
 try dsimp only at hM
 replace H := H.bk ak
 clear ak
 have cO := Sl.cells (H.os 0)
 have fT := Sl.oc (H.os 0)
 refine s_nil ⟨(H.pk [2, 3]), ?_⟩
 refine t_l rfl ?_
 obtain ⟨fU, cP, hM⟩ := M.e_bind hM
 refine s_call cf19 [ap] rfl (zb7 s_Reaches (bb.app _) bc cP _ (H.gt 4)) ?_
 rintro vq fV ⟨r3, ab, cQ, hvq, ak⟩
 subst cQ
 subst vq
 try dsimp only at hM
 replace H := H.bk ak
 clear ak
 have cR := Sl.cells (H.os 0)
 have fW := Sl.oc (H.os 0)
 refine s_nil ⟨(H.pk [3, 4]), ?_⟩
 refine t_q rfl (fun w' H => x_bld (ps := [(1, ae), (2, ab)]) (zs := [.slice none 0 0, .slice none 0 0, .slice none 0 0]) (L' := [.slice none 0 0, ae, ab]) rfl Try.underlying27 Al27 rfl (Bd27 Try.underlying27) (.cons (cs := [ae]) cO rfl rfl rfl rfl <| .cons (cs := [ab]) cR rfl rfl rfl rfl <| .nil)) ?_
 refine t_l rfl ?_
 refine t_sw 2 0 [.slice none 0 0, ae, ab] (.agg #[.slice none 0 0, ae, ab]) H rfl rfl Sz27 rfl rfl rfl (by simp only [List.all_cons, List.all_nil, Bool.true_and, Bool.and_true, Sl.oc (H.os 1), Sl.oc (H.os 0)]; try rfl) ?_
 intro cS H
 refine s_nil ⟨(H.pk [3, 4]), ?_⟩
 refine t_nil ?_
 refine W.seq ?_
 refine W.seq ?_
 refine W.region rfl ?_
 refine zA (I 0) rfl ?_
 refine s_nil ?_
 refine W.block ?_
 obtain ⟨ax, H⟩ := H.emptyE
 replace H : St w cS [cDO 39 41 (.slice none 0 0) ([]) ([]), cRo ax, cOwn (α := Rch) 56 ab r3, cOwn (α := Mrk) 46 ae r2, cBlk ac [.slice none 0 0, ae, ab] 27, cBlk au [.slice none 0 0, .slice none 0 0, .slice none 0 0] 27, cBlk aj [ag, aq, ap] 27] R := H.nilDo 39 41
 have cT : ([] : List (Raw 1)).length = ([] : List Sect).length := rfl
 obtain ⟨cU, br, cV⟩ := M.e_bind hM
 obtain ⟨bE, br⟩ := M.e_iter br
 refine W.loop (fun m σ W => ∃ (i : Nat) (l : List Sect) (ai : Value) (am : List (Raw 1)) (B_l : Base) (ρ : Env), σ = upds ρ [(1, Pq aj), (2, Pq au), (3, Pq ac), (4, I (i : Int))] /\ M.iterN (zaj s_Sections) m (i, l) = some cU /\ St w W [cDO 39 41 ai am l, cRo B_l, cOwn (α := Rch) 56 ab r3, cOwn (α := Mrk) 46 ae r2, cBlk ac [ai, ae, ab] 27, cBlk au [.slice none 0 0, .slice none 0 0, .slice none 0 0] 27, cBlk aj [ag, aq, ap] 27] R /\ am.length = l.length) ?_ ?_
 ·exact ⟨_, 0, [], (.slice none 0 0), [], ax, _, upds_of _ _ ⟨rfl, rfl, rfl, rfl, trivial⟩, br, H, cT⟩
 rintro fX σ fY ⟨i, l, ai, am, B_l, ρ, rfl, bP, H, ay⟩
 obtain ⟨a7, a8, fZ, hM, aO⟩ := M.e_iterN bP
 simp only [zaj] at hM
 clear bP
 refine W.seq ?_
 refine W.seq ?_
 refine W.region rfl ?_
 refine zM (I (i : Int)) rfl ?_
 refine s_val (x_fa (a := Pq aj) (v := Pq aj) rfl (fa_blk (o := 0) Fd27_0 Sz23)) ?_
 refine s_val (x_ld (p := Pq aj) (v := ag) rfl (ldb_sc Sc23 (H.bl 6) rfl)) ?_
 have f0 := (ao).len_le
 refine s_val (x_lenS T23.und rfl ao) ?_
 refine zC (i : Int) (s_Sections.length : Int) (decide ((i : Int) < (s_Sections.length : Int))) rfl rfl rfl ?_
 refine s_nil ?_
 refine W.cond (decide ((i : Int) < (s_Sections.length : Int))) rfl (fun aP => ?_) (fun aP => ?_)
 ·replace hM := M.e_t hM aP
  simp only [qy1, qy2, qy3, qy4, qy5, qy6, ne_eq, qy7] at aP
  refine W.skip ?_
  refine W.seq ?_
  refine W.block ?_
  refine W.drawT (fun W => St w W [cRo B_l, cOwn (α := Rch) 56 ab r3, cOwn (α := Mrk) 46 ae r2, cBlk au [.slice none 0 0, .slice none 0 0, .slice none 0 0] 27, cBlk aj [ag, aq, ap] 27] R) (.q 0 (.q 2 (.q 3 (.q 4 (.q 5 (.q 6 (.q 7 (.q 8 (.q 9 (.q 10 (.q 11 (.q 12 (.q 13 (.l2 1 (.l 14 (.l 15 (.l 16 (.l 17 (.q 18 (.l 19 .nil)))))) 14 (.l2 1 (.l 15 (.l 16 (.l 17 (.q 18 (.l 19 .nil))))) 15 (.l2 1 (.l 16 (.l 17 (.q 18 (.l 19 .nil)))) 16 (.l 1 (.l 17 (.q 18 (.l 19 .nil)))))))))))))))))))) mixed (by decide +kernel) rfl ?_
  intro f4 aw
  replace H := H.ext aw
  clear aw
  refine ⟨(H.pk [1, 2, 3, 5, 6]), ?_⟩
  refine t_q rfl (fun w' H => x_fa (a := Pq ac) (v := Pq ac) rfl (fa_blk (o := 0) Fd27_0 Sz23)) ?_
  refine t_q rfl (fun w' H => x_fa (a := Pq aj) (v := Pq aj) rfl (fa_blk (o := 0) Fd27_0 Sz23)) ?_
  refine t_q rfl (fun w' H => x_ld (p := Pq aj) (v := ag) rfl (ldb_sc Sc23 (H.bl 4) rfl)) ?_
  refine t_q rfl (fun w' H => x_mv (v := I (i : Int)) rfl) ?_
  obtain ⟨cW, hM⟩ := M.e_grd hM
  simp only [Bool.and_eq_true, decide_eq_true_eq] at cW
  refine t_q rfl (fun w' H => x_ix (a := ag) (b := I (i : Int)) (v := vat ag 2 (Int.toNat (i : Int))) rfl rfl (Sl.ix (α := Sect) T23.und T23.size ao (by omega) (by omega))) ?_
  refine t_q rfl (fun w' H => x_fa (a := vat ag 2 (Int.toNat (i : Int))) (v := fat (vat ag 2 (Int.toNat (i : Int))) 0) rfl (fa_pl Fd39_0 Sz3 (Sl.pl (i := (i : Int)) ao (by omega) (by omega)))) ?_
  refine t_q rfl (fun w' H => x_ld (p := fat (vat ag 2 (Int.toNat (i : Int))) 0) (v := I ((s_Sections.getD i default).place)) rfl (ld_sc Sc3 (At.mono (Sect_at0 ao (i := (i : Int)) (by omega) (by omega)) (av.at H)))) ?_
  refine t_q rfl (fun w' H => x_fa (a := Pq aj) (v := Pq aj) rfl (fa_blk (o := 0) Fd27_0 Sz23)) ?_
  refine t_q rfl (fun w' H => x_ld (p := Pq aj) (v := ag) rfl (ldb_sc Sc23 (H.bl 4) rfl)) ?_
  refine t_q rfl (fun w' H => x_mv (v := I (i : Int)) rfl) ?_
  refine t_q rfl (fun w' H => x_ix (a := ag) (b := I (i : Int)) (v := vat ag 2 (Int.toNat (i : Int))) rfl rfl (Sl.ix (α := Sect) T23.und T23.size ao (by omega) (by omega))) ?_
  refine t_q rfl (fun w' H => x_fa (a := vat ag 2 (Int.toNat (i : Int))) (v := fat (vat ag 2 (Int.toNat (i : Int))) 1) rfl (fa_pl Fd39_1 Sz37 (Sl.pl (i := (i : Int)) ao (by omega) (by omega)))) ?_
  obtain ⟨ba, cX, aQ⟩ := Sect_at1 ao (i := (i : Int)) (by omega) (by omega)
  replace aQ : Sl _ ba (s_Sections.getD i default).rows := aQ
  have f6 := aQ.len_le
  refine t_q rfl (fun w' H => x_ld (p := fat (vat ag 2 (Int.toNat (i : Int))) 1) (v := ba) rfl (ld_sc Sc37 (At.mono (cX) (av.at H)))) ?_
  refine t_l2 rfl rfl ?_ ?_
  ·skip
   refine s_val (x_ld (p := Pq ac) (v := ai) rfl (ldb_sc Sc23 (H.bl 4) rfl)) ?_
   have f9 := Sl.cells (deSl (H.get (k := 0) rfl))
   have ga := Sl.oc (deSl (H.get (k := 0) rfl))
   refine s_nil ⟨(H.pk [1, 2, 3, 5, 6]), ?_⟩
   refine t_l rfl ?_
   obtain ⟨gc, cY, hM⟩ := M.e_bind hM
   refine s_call cf20 [ba] rfl (zaC ((s_Sections.getD i default).rows) (av.app _) aQ cY _ (H.gt 7)) ?_
   rintro vq gf ⟨r4, aa, cZ, hvq, ak⟩
   subst cZ
   subst vq
   try dsimp only at hM
   replace H := H.bk ak
   clear ak
   have gg := Sl.cells (H.os 0)
   have gh := Sl.oc (H.os 0)
   refine s_nil ⟨(H.pk [2, 3, 4, 6, 7]), ?_⟩
   refine t_l rfl ?_
   refine s_val (x_bld (ps := [(0, I ((s_Sections.getD i default).place)), (1, aa)]) (zs := [I 0, .slice none 0 0]) (L' := [I ((s_Sections.getD i default).place), aa]) rfl Try.underlying39 Al39 rfl (Bd39 Try.underlying39) (.cons (cs := [I ((s_Sections.getD i default).place)]) rfl rfl rfl rfl rfl <| .cons (cs := [aa]) (Sl.cells (H.os 0)) rfl rfl rfl rfl <| .nil)) ?_
   refine s_nil ⟨(H.pk [2, 3, 4, 6, 7]), ?_⟩
   refine t_l rfl ?_
   obtain ⟨aR, bQ⟩ : ∃ r : Raw 1, r.cs = [I ((s_Sections.getD i default).place), aa] := ⟨Raw.of [I ((s_Sections.getD i default).place), aa] rfl (by simp only [List.all_cons, List.all_nil, Bool.true_and, Bool.and_true, Sl.oc (H.os 0)]; try rfl), rfl⟩
   refine t_bs (α := Raw 1) T23 [.agg #[I ((s_Sections.getD i default).place), aa]] [aR] H rfl (.cons (by rw [show (Flat.enc aR : List Value) = aR.cs from rfl, bQ]; rfl) (Flat.rep_enc _ _) <| .nil) rfl rfl rfl ?_
   intro gi gj H
   replace H := H.nf
   have gk := Sl.cells (H.os 0)
   have gm := Sl.oc (H.os 0)
   refine s_nil ⟨(H.pk [3, 4, 5, 7, 8]), ?_⟩
   refine t_l rfl ?_
   obtain ⟨c8, hM⟩ := M.e_grd hM
   simp only [Bool.and_eq_true, decide_eq_true_eq] at c8
   replace H := H.pk [2, 1, 0, 3, 4, 5, 6, 7, 8]
   refine t_doapp (dl := l) (o := (⟨((s_Sections.getD i default).place : Int), r4⟩ : Sect)) (sv := aR) (rv := aa) T23 rfl H bQ rfl rfl (H.os 2) (H.ol 2) (by (try simp only [List.length_nil, List.length_cons] at *); omega) ?_
   intro bt gp H
   replace H := H.nf
   have c9 := doLen (H.get (k := 0) rfl)
   have gq := Sl.cells (deSl (H.get (k := 0) rfl))
   have gr := Sl.oc (deSl (H.get (k := 0) rfl))
   refine s_nil ⟨(H.pk [2, 3, 4, 6, 7]), ?_⟩
   refine t_q rfl (fun w' H => x_fa (a := Pq ac) (v := Pq ac) rfl (fa_blk (o := 0) Fd27_0 Sz23)) ?_
   refine t_l rfl ?_
   refine t_sw 5 0 [bt] bt H rfl rfl Sz23 (Sl.cells (deSl (H.get (k := 0) rfl))) rfl rfl (by simp only [List.all_cons, List.all_nil, Bool.true_and, Bool.and_true, Sl.oc (deSl (H.get (k := 0) rfl))]; try rfl) ?_
   intro gu H
   refine s_nil ⟨(H.pk [2, 3, 4, 6, 7]), ?_⟩
   refine t_nil ?_
   refine W.region rfl ?_
   refine zM (I (i : Int)) rfl ?_
   refine zR (i : Int) 1 ((i : Int) + 1) rfl rfl rfl (by omega) ?_
   refine zA (I ((i : Int) + 1)) rfl ?_
   refine s_nil ?_
   exact ⟨a7, a8, i + 1, l ++ [(⟨((s_Sections.getD i default).place : Int), r4⟩ : Sect)], bt, am ++ [aR], B_l, _, upds_of _ _ ⟨rfl, rfl, rfl, rfl, trivial⟩, M.e_inl hM aO, (H.pk [0, 2, 3, 4, 5, 6, 7]), c9⟩
  skip
  obtain ⟨gv, da, hM⟩ := M.e_bind hM
  refine s_call cf20 [ba] rfl (zaC ((s_Sections.getD i default).rows) (av.app _) aQ da _ (H.gt 7)) ?_
  rintro vq gw ⟨r4, aa, db, hvq, ak⟩
  subst db
  subst vq
  try dsimp only at hM
  replace H := H.bk ak
  clear ak
  have gx := Sl.cells (H.os 0)
  have gy := Sl.oc (H.os 0)
  have gz := Sl.cells (deSl (H.get (k := 1) rfl))
  have gA := Sl.oc (deSl (H.get (k := 1) rfl))
  refine s_nil ⟨(H.pk [2, 3, 4, 6, 7]), ?_⟩
  obtain ⟨dc, hM⟩ := M.e_grd hM
  simp only [Bool.and_eq_true, decide_eq_true_eq] at dc
  refine t_l2 rfl rfl ?_ ?_
  ·skip
   refine s_val (x_ld (p := Pq ac) (v := ai) rfl (ldb_sc Sc23 (H.bl 5) rfl)) ?_
   refine s_nil ⟨(H.pk [2, 3, 4, 6, 7]), ?_⟩
   refine t_l rfl ?_
   refine s_val (x_bld (ps := [(0, I ((s_Sections.getD i default).place)), (1, aa)]) (zs := [I 0, .slice none 0 0]) (L' := [I ((s_Sections.getD i default).place), aa]) rfl Try.underlying39 Al39 rfl (Bd39 Try.underlying39) (.cons (cs := [I ((s_Sections.getD i default).place)]) rfl rfl rfl rfl rfl <| .cons (cs := [aa]) (Sl.cells (H.os 0)) rfl rfl rfl rfl <| .nil)) ?_
   refine s_nil ⟨(H.pk [2, 3, 4, 6, 7]), ?_⟩
   refine t_l rfl ?_
   obtain ⟨aS, bR⟩ : ∃ r : Raw 1, r.cs = [I ((s_Sections.getD i default).place), aa] := ⟨Raw.of [I ((s_Sections.getD i default).place), aa] rfl (by simp only [List.all_cons, List.all_nil, Bool.true_and, Bool.and_true, Sl.oc (H.os 0)]; try rfl), rfl⟩
   refine t_bs (α := Raw 1) T23 [.agg #[I ((s_Sections.getD i default).place), aa]] [aS] H rfl (.cons (by rw [show (Flat.enc aS : List Value) = aS.cs from rfl, bR]; rfl) (Flat.rep_enc _ _) <| .nil) rfl rfl rfl ?_
   intro gB gC H
   replace H := H.nf
   have gD := Sl.cells (H.os 0)
   have gE := Sl.oc (H.os 0)
   refine s_nil ⟨(H.pk [3, 4, 5, 7, 8]), ?_⟩
   refine t_l rfl ?_
   replace H := H.pk [2, 1, 0, 3, 4, 5, 6, 7, 8]
   refine t_doapp (dl := l) (o := (⟨((s_Sections.getD i default).place : Int), r4⟩ : Sect)) (sv := aS) (rv := aa) T23 rfl H bR rfl rfl (H.os 2) (H.ol 2) (by (try simp only [List.length_nil, List.length_cons] at *); omega) ?_
   intro bu gF H
   replace H := H.nf
   have dd := doLen (H.get (k := 0) rfl)
   have gG := Sl.cells (deSl (H.get (k := 0) rfl))
   have gH := Sl.oc (deSl (H.get (k := 0) rfl))
   refine s_nil ⟨(H.pk [2, 3, 4, 6, 7]), ?_⟩
   refine t_q rfl (fun w' H => x_fa (a := Pq ac) (v := Pq ac) rfl (fa_blk (o := 0) Fd27_0 Sz23)) ?_
   refine t_l rfl ?_
   refine t_sw 5 0 [bu] bu H rfl rfl Sz23 (Sl.cells (deSl (H.get (k := 0) rfl))) rfl rfl (by simp only [List.all_cons, List.all_nil, Bool.true_and, Bool.and_true, Sl.oc (deSl (H.get (k := 0) rfl))]; try rfl) ?_
   intro gI H
   refine s_nil ⟨(H.pk [2, 3, 4, 6, 7]), ?_⟩
   refine t_nil ?_
   refine W.region rfl ?_
   refine zM (I (i : Int)) rfl ?_
   refine zR (i : Int) 1 ((i : Int) + 1) rfl rfl rfl (by omega) ?_
   refine zA (I ((i : Int) + 1)) rfl ?_
   refine s_nil ?_
   exact ⟨a7, a8, i + 1, l ++ [(⟨((s_Sections.getD i default).place : Int), r4⟩ : Sect)], bu, am ++ [aS], B_l, _, upds_of _ _ ⟨rfl, rfl, rfl, rfl, trivial⟩, M.e_inl hM aO, (H.pk [0, 2, 3, 4, 5, 6, 7]), dd⟩
  skip
  refine s_val (x_bld (ps := [(0, I ((s_Sections.getD i default).place)), (1, aa)]) (zs := [I 0, .slice none 0 0]) (L' := [I ((s_Sections.getD i default).place), aa]) rfl Try.underlying39 Al39 rfl (Bd39 Try.underlying39) (.cons (cs := [I ((s_Sections.getD i default).place)]) rfl rfl rfl rfl rfl <| .cons (cs := [aa]) (Sl.cells (H.os 0)) rfl rfl rfl rfl <| .nil)) ?_
  refine s_nil ⟨(H.pk [2, 3, 4, 6, 7]), ?_⟩
  refine t_l2 rfl rfl ?_ ?_
  ·skip
   refine s_val (x_ld (p := Pq ac) (v := ai) rfl (ldb_sc Sc23 (H.bl 5) rfl)) ?_
   refine s_nil ⟨(H.pk [2, 3, 4, 6, 7]), ?_⟩
   refine t_l rfl ?_
   obtain ⟨aT, bS⟩ : ∃ r : Raw 1, r.cs = [I ((s_Sections.getD i default).place), aa] := ⟨Raw.of [I ((s_Sections.getD i default).place), aa] rfl (by simp only [List.all_cons, List.all_nil, Bool.true_and, Bool.and_true, Sl.oc (H.os 0)]; try rfl), rfl⟩
   refine t_bs (α := Raw 1) T23 [.agg #[I ((s_Sections.getD i default).place), aa]] [aT] H rfl (.cons (by rw [show (Flat.enc aT : List Value) = aT.cs from rfl, bS]; rfl) (Flat.rep_enc _ _) <| .nil) rfl rfl rfl ?_
   intro gJ gK H
   replace H := H.nf
   have gL := Sl.cells (H.os 0)
   have gM := Sl.oc (H.os 0)
   refine s_nil ⟨(H.pk [3, 4, 5, 7, 8]), ?_⟩
   refine t_l rfl ?_
   replace H := H.pk [2, 1, 0, 3, 4, 5, 6, 7, 8]
   refine t_doapp (dl := l) (o := (⟨((s_Sections.getD i default).place : Int), r4⟩ : Sect)) (sv := aT) (rv := aa) T23 rfl H bS rfl rfl (H.os 2) (H.ol 2) (by (try simp only [List.length_nil, List.length_cons] at *); omega) ?_
   intro bv gN H
   replace H := H.nf
   have de := doLen (H.get (k := 0) rfl)
   have gO := Sl.cells (deSl (H.get (k := 0) rfl))
   have gP := Sl.oc (deSl (H.get (k := 0) rfl))
   refine s_nil ⟨(H.pk [2, 3, 4, 6, 7]), ?_⟩
   refine t_q rfl (fun w' H => x_fa (a := Pq ac) (v := Pq ac) rfl (fa_blk (o := 0) Fd27_0 Sz23)) ?_
   refine t_l rfl ?_
   refine t_sw 5 0 [bv] bv H rfl rfl Sz23 (Sl.cells (deSl (H.get (k := 0) rfl))) rfl rfl (by simp only [List.all_cons, List.all_nil, Bool.true_and, Bool.and_true, Sl.oc (deSl (H.get (k := 0) rfl))]; try rfl) ?_
   intro gQ H
   refine s_nil ⟨(H.pk [2, 3, 4, 6, 7]), ?_⟩
   refine t_nil ?_
   refine W.region rfl ?_
   refine zM (I (i : Int)) rfl ?_
   refine zR (i : Int) 1 ((i : Int) + 1) rfl rfl rfl (by omega) ?_
   refine zA (I ((i : Int) + 1)) rfl ?_
   refine s_nil ?_
   exact ⟨a7, a8, i + 1, l ++ [(⟨((s_Sections.getD i default).place : Int), r4⟩ : Sect)], bv, am ++ [aT], B_l, _, upds_of _ _ ⟨rfl, rfl, rfl, rfl, trivial⟩, M.e_inl hM aO, (H.pk [0, 2, 3, 4, 5, 6, 7]), de⟩
  skip
  obtain ⟨aU, bT⟩ : ∃ r : Raw 1, r.cs = [I ((s_Sections.getD i default).place), aa] := ⟨Raw.of [I ((s_Sections.getD i default).place), aa] rfl (by simp only [List.all_cons, List.all_nil, Bool.true_and, Bool.and_true, Sl.oc (H.os 0)]; try rfl), rfl⟩
  refine t_bs (α := Raw 1) T23 [.agg #[I ((s_Sections.getD i default).place), aa]] [aU] H rfl (.cons (by rw [show (Flat.enc aU : List Value) = aU.cs from rfl, bT]; rfl) (Flat.rep_enc _ _) <| .nil) rfl rfl rfl ?_
  intro gR gS H
  replace H := H.nf
  have gT := Sl.cells (H.os 0)
  have gU := Sl.oc (H.os 0)
  refine s_nil ⟨(H.pk [3, 4, 5, 7, 8]), ?_⟩
  refine t_l rfl ?_
  refine s_val (x_ld (p := Pq ac) (v := ai) rfl (ldb_sc Sc23 (H.bl 6) rfl)) ?_
  refine s_nil ⟨(H.pk [3, 4, 5, 7, 8]), ?_⟩
  refine t_l rfl ?_
  replace H := H.pk [2, 1, 0, 3, 4, 5, 6, 7, 8]
  refine t_doapp (dl := l) (o := (⟨((s_Sections.getD i default).place : Int), r4⟩ : Sect)) (sv := aU) (rv := aa) T23 rfl H bT rfl rfl (H.os 2) (H.ol 2) (by (try simp only [List.length_nil, List.length_cons] at *); omega) ?_
  intro bw gV H
  replace H := H.nf
  have dg := doLen (H.get (k := 0) rfl)
  have gW := Sl.cells (deSl (H.get (k := 0) rfl))
  have gX := Sl.oc (deSl (H.get (k := 0) rfl))
  refine s_nil ⟨(H.pk [2, 3, 4, 6, 7]), ?_⟩
  refine t_q rfl (fun w' H => x_fa (a := Pq ac) (v := Pq ac) rfl (fa_blk (o := 0) Fd27_0 Sz23)) ?_
  refine t_l rfl ?_
  refine t_sw 5 0 [bw] bw H rfl rfl Sz23 (Sl.cells (deSl (H.get (k := 0) rfl))) rfl rfl (by simp only [List.all_cons, List.all_nil, Bool.true_and, Bool.and_true, Sl.oc (deSl (H.get (k := 0) rfl))]; try rfl) ?_
  intro gY H
  refine s_nil ⟨(H.pk [2, 3, 4, 6, 7]), ?_⟩
  refine t_nil ?_
  refine W.region rfl ?_
  refine zM (I (i : Int)) rfl ?_
  refine zR (i : Int) 1 ((i : Int) + 1) rfl rfl rfl (by omega) ?_
  refine zA (I ((i : Int) + 1)) rfl ?_
  refine s_nil ?_
  exact ⟨a7, a8, i + 1, l ++ [(⟨((s_Sections.getD i default).place : Int), r4⟩ : Sect)], bw, am ++ [aU], B_l, _, upds_of _ _ ⟨rfl, rfl, rfl, rfl, trivial⟩, M.e_inl hM aO, (H.pk [0, 2, 3, 4, 5, 6, 7]), dg⟩
 replace hM := M.e_f hM aP
 simp only [qy1, qy2, qy3, qy4, qy5, qy6, ne_eq, qy7] at aP
 refine W.exit ?_
 have dh := M.e_inr hM aO
 subst dh
 replace hM := cV
 try dsimp only at hM
 refine W.seq ?_
 refine W.region rfl ?_
 refine s_val (x_ld (p := Pq ac) (v := .agg #[ai, ae, ab]) rfl (ldb_ag (ds := [ai, ae, ab]) Ag27 Sz27 (H.bl 4) rfl rfl)) ?_
 refine t_sw 5 0 [ai, ae, ab] (.agg #[ai, ae, ab]) H rfl rfl Sz27 rfl rfl rfl (by simp only [List.all_cons, List.all_nil, Bool.true_and, Bool.and_true, Sl.oc (deSl (H.get (k := 0) rfl)), Sl.oc (H.os 3), Sl.oc (H.os 2)]; try rfl) ?_
 intro gZ H
 refine s_nil ?_
 replace H := H.pk [0, 1, 2, 3, 5]
 refine W.ret ?_
 have di := (H.bl 4)
 have aG := M.e_pure hM
 exact ⟨_, (resE_of1 (v := .agg #[ai, ae, ab]) rfl (.cell (v := .agg #[ai, ae, ab]) rfl (run_loadVar_ag (ds := [ai, ae, ab]) Ag27 Sz27 di rfl rfl) <| .nil)), ⟨l, r2, r3, ai, am, B_l, ae, ab, aG, rfl, (H.pk [0, 1, 3, 2]), ay⟩⟩

end Go.Proofs.Ytlemgioaakecpaa
end
