/- Part 3 of the texts on which the proof rests. Conditions: none. -/
import Derived.Test.YtlemgioaakecpaaGreatZI2
set_option linter.unusedVariables false
set_option linter.unusedSimpArgs false
set_option linter.unusedSectionVars false
section
set_option maxRecDepth 100000
set_option maxHeartbeats 16000000
namespace Go.Proofs.YtlemgioaakecpaaGreat
open Go Go.Nm
def zas (aa : List Sect) (ab : List Mrk) (ac : List Rch) (r_ : Rch) (r0 : Int) (r2 : Bool) : (Int × Int × Int × Int × Int) -> Int -> M ((Int × Int × Int × Int × Int) ⊕ Unit) := fun (s, s2, s3, s4, s5) x =>
  bif r2 then (
  M.fail)
  else (
  M.bind (zax aa ab ac r_ (⟨(max r0 x : Int), (x : Int), (r_.hi : Int), (r_.hi : Int)⟩ : Cas)) fun r4 =>
  M.bind (M.opt (!(decide ((⟨(s2 : Int), (s3 : Int), (s4 : Int), (s5 : Int)⟩ : Cas) = (⟨(0 : Int), (0 : Int), (0 : Int), (0 : Int)⟩ : Cas)))) (za4 r4 s) false) fun r5 =>
  bif ((decide ((⟨(s2 : Int), (s3 : Int), (s4 : Int), (s5 : Int)⟩ : Cas) = (⟨(0 : Int), (0 : Int), (0 : Int), (0 : Int)⟩ : Cas))) || r5) then (
  M.pure (.inl (r4, max r0 x, x, r_.hi, r_.hi)))
  else (
  M.pure (.inl (s, s2, s3, s4, s5))))
def zaL (aa : List Sect) (ab : List Mrk) (ac : List Rch) (marks : List Int) (r_ : Rch) : M (Int × Int × Int × Int × Int) :=
  M.bind (zan aa ab ac marks r_.up) fun (r0, r1) =>
  M.bind (zan aa ab ac marks r_.down) fun (ae, ag) =>
  M.bind (za4 1 0) fun r2 =>
  bif !r2 then (
  M.bind (zau ag ([(r1 : Int)])) fun r3 =>
  M.bind (zaM (⟨(ae : Int), (r3 : Int)⟩ : Span)) fun (ah, ai) =>
  M.bind (zap (M.yl (zas aa ab ac r_ r0 r2)) (.inl (0, 0, 0, 0, 0)) ah ai) fun x_ => match x_ with
  | .inl (s, s2, s3, s4, s5) => (
  M.pure (s2, s3, s4, s5, s))
  | .inr _ => M.fail)
  else (
  M.fail)
theorem zbX {R : List Chunk} {ag : Nat} {aX : Cells} {aY : Value} {aZ : Cells} {a6 : Value} {a7 : Cells} {a8 : Value} {ah : Nat} {ba : Cells} {az : Value} (ab : List Sect) (ac : List Mrk) (ae : List Rch) (marks : List Int) (r_ : Rch) (aD : Reads R aX) (aJ : Sl aX aY ab) (aE : Reads R aZ) (aK : Sl aZ a6 ac) (aF : Reads R a7) (aL : Sl a7 a8 ae) (aG : Has R (cBlk ag [aY, a6, a8, .map (some ah)] 177)) (aM : Reads R ba) (aQ : Sl ba az marks) {r : (Int × Int × Int × Int × Int)} (hM : (zaL ab ac ae marks r_).Ends r) (w : World) (H : St w w [cMemI encSpt ah (zaa ab ac ae)] R) : Ret Tryz.prog 69 #[Pq ag, az, .agg #[I r_.up, I r_.down, I r_.lo, I r_.hi, B r_.narrow], .agg #[.func (.func 106) #[] #[]]] w fun v w' => ∃ (y0 : Int) (y1 : Int) (y2 : Int) (y3 : Int) (y4 : Int), (y0, y1, y2, y3, y4) = r /\ v = .tuple #[.agg #[I y0, I y1, I y2, I y3], I y4] /\ St w w' [cMemI encSpt ah (zaa ab ac ae)] R := by
 refine ret_of_WD Tryz.func69 rfl rfl rfl ?_
 replace H : St w w [cMk ([]), cMemI encSpt ah (zaa ab ac ae)] R := H.mk0
 have bN := aJ.len_le
 have bO := aK.len_le
 have bP := aL.len_le
 have bQ := aQ.len_le
 unfold zaL at hM
 refine WD.seq ?_
 refine WD.of ?_
 refine W.region rfl ?_
 refine t_box (v := Pq ag) (cs := [Pq ag]) H rfl rfl ?_
 intro ak bR H
 refine t_box (v := .agg #[I r_.up, I r_.down, I r_.lo, I r_.hi, B r_.narrow]) (cs := [I r_.up, I r_.down, I r_.lo, I r_.hi, B r_.narrow]) H rfl rfl ?_
 intro aa bS H
 refine t_box (v := .agg #[.func (.func 106) #[] #[]]) (cs := [.func (.func 106) #[] #[]]) H rfl rfl ?_
 intro ai bT H
 refine t_alloc (cs := [I 0, I 0, I 0, I 0]) H Al61 rfl ?_
 intro al bU H
 refine zA (I 0) rfl ?_
 refine s_nil ?_
 refine WD.seq ?_
 refine WD.of ?_
 refine W.drawA (fun W => St w W [cBlk al [I 0, I 0, I 0, I 0] 61, cBlk ai [.func (.func 106) #[] #[]] 138, cBlk aa [I r_.up, I r_.down, I r_.lo, I r_.hi, B r_.narrow] 58, cBlk ak [Pq ag] 112, cMk ([]), cMemI encSpt ah (zaa ab ac ae)] R) [(0, true), (1, true), (2, true), (3, true), (5, true), (6, true), (7, true), (8, true), (4, false), (9, false)] [(10, 10, 54, [I 0, I 0]), (11, 11, 54, [I 0, I 0])] (.l 12 (.l 13 .nil)) 2 mixed (by decide +kernel) rfl (by intro x hx; simp only [List.mem_cons, List.not_mem_nil, or_false] at hx; rcases hx with rfl | rfl <;> first | exact ⟨_, _, _, rfl, _, Al54, rfl⟩) (by decide) (by decide) H ?_
 refine sa_q (fun aj w_ H => (St.pick H [0, 1, 2, 3, 4, 5] (by decide) rfl)) rfl rfl (fun g_ w' H => x_ld (p := Pq ak) (v := Pq ag) rfl (ldb_sc Sc112 (H.bl 3) rfl)) ?_
 refine sa_q (fun aj w_ H => (St.pick H [0, 1, 2, 3, 4, 5] (by decide) rfl)) rfl rfl (fun g_ w' H => x_mv (v := az) rfl) ?_
 refine sa_q (fun aj w_ H => (St.pick H [0, 1, 2, 3, 4, 5] (by decide) rfl)) rfl rfl (fun g_ w' H => x_fa (a := Pq aa) (v := Pq aa) rfl (fa_blk (o := 0) Fd58_0 Sz3)) ?_
 refine sa_q (fun aj w_ H => (St.pick H [0, 1, 2, 3, 4, 5] (by decide) rfl)) rfl rfl (fun g_ w' H => x_ld (p := Pq aa) (v := I r_.up) rfl (ldb_sc Sc3 (H.bl 2) rfl)) ?_
 refine sa_q (fun aj w_ H => (St.pick H [0, 1, 2, 3, 4, 5] (by decide) rfl)) rfl rfl (fun g_ w' H => x_ld (p := Pq ak) (v := Pq ag) rfl (ldb_sc Sc112 (H.bl 3) rfl)) ?_
 refine sa_q (fun aj w_ H => (St.pick H [0, 1, 2, 3, 4, 5] (by decide) rfl)) rfl rfl (fun g_ w' H => x_mv (v := az) rfl) ?_
 refine sa_q (fun aj w_ H => (St.pick H [0, 1, 2, 3, 4, 5] (by decide) rfl)) rfl rfl (fun g_ w' H => x_fa (a := Pq aa) (v := Oq aa 1) rfl (fa_blk (o := 0) Fd58_1 Sz3)) ?_
 refine sa_q (fun aj w_ H => (St.pick H [0, 1, 2, 3, 4, 5] (by decide) rfl)) rfl rfl (fun g_ w' H => x_ld (p := Oq aa 1) (v := I r_.down) rfl (ldb_sc Sc3 (H.bl 2) rfl)) ?_
 refine sa_l (fun aj w_ H => (St.pick H [0, 1, 2, 3, 4, 5] (by decide) rfl)) rfl ?_
 intro g_ aj bf H
 replace H : St w bf (cBlk al [I 0, I 0, I 0, I 0] 61 :: cBlk ai [.func (.func 106) #[] #[]] 138 :: cBlk aa [I r_.up, I r_.down, I r_.lo, I r_.hi, B r_.narrow] 58 :: cBlk ak [Pq ag] 112 :: cMk ([]) :: cMemI encSpt ah (zaa ab ac ae) :: aj) R := H
 obtain ⟨bV, bg, hM⟩ := M.e_bind hM
 refine s_call cf59 [Pq ag, az, I r_.up] rfl (za6 ab ac ae marks r_.up (aD.app _) aJ (aE.app _) aK (aF.app _) aL (aG.app _) (aM.app _) aQ bg _ (St.give (T := (cBlk al [I 0, I 0, I 0, I 0] 61 :: cBlk ai [.func (.func 106) #[] #[]] 138 :: cBlk aa [I r_.up, I r_.down, I r_.lo, I r_.hi, B r_.narrow] 58 :: cBlk ak [Pq ag] 112 :: cMk ([]) :: cMemI encSpt ah (zaa ab ac ae) :: aj)) H rfl)) ?_
 rintro vq bh ⟨r0, r1, bi, hvq, am⟩
 subst bi
 subst vq
 try dsimp only at hM
 replace H : St w bh (cBlk al [I 0, I 0, I 0, I 0] 61 :: cBlk ai [.func (.func 106) #[] #[]] 138 :: cBlk aa [I r_.up, I r_.down, I r_.lo, I r_.hi, B r_.narrow] 58 :: cBlk ak [Pq ag] 112 :: cMk ([]) :: cMemI encSpt ah (zaa ab ac ae) :: aj) R := H.back am rfl
 clear am
 refine s_nil ⟨(St.pick H [0, 1, 2, 3, 4, 5] (by decide) rfl), _, [cBlk al [I 0, I 0, I 0, I 0] 61, cBlk ai [.func (.func 106) #[] #[]] 138, cBlk aa [I r_.up, I r_.down, I r_.lo, I r_.hi, B r_.narrow] 58, cBlk ak [Pq ag] 112, cMk ([]), cMemI encSpt ah (zaa ab ac ae)], mix_upd rfl, H, ?_⟩
 refine sa_l (fun aj w_ H => (St.pick H [0, 1, 2, 3, 4, 5] (by decide) rfl)) rfl ?_
 intro g_ aj bj H
 replace H : St w bj (cBlk al [I 0, I 0, I 0, I 0] 61 :: cBlk ai [.func (.func 106) #[] #[]] 138 :: cBlk aa [I r_.up, I r_.down, I r_.lo, I r_.hi, B r_.narrow] 58 :: cBlk ak [Pq ag] 112 :: cMk ([]) :: cMemI encSpt ah (zaa ab ac ae) :: aj) R := H
 obtain ⟨bW, bm, hM⟩ := M.e_bind hM
 refine s_call cf59 [Pq ag, az, I r_.down] rfl (za6 ab ac ae marks r_.down (aD.app _) aJ (aE.app _) aK (aF.app _) aL (aG.app _) (aM.app _) aQ bm _ (St.give (T := (cBlk al [I 0, I 0, I 0, I 0] 61 :: cBlk ai [.func (.func 106) #[] #[]] 138 :: cBlk aa [I r_.up, I r_.down, I r_.lo, I r_.hi, B r_.narrow] 58 :: cBlk ak [Pq ag] 112 :: cMk ([]) :: cMemI encSpt ah (zaa ab ac ae) :: aj)) H rfl)) ?_
 rintro vq bn ⟨ap, au, bo, hvq, am⟩
 subst bo
 subst vq
 try dsimp only at hM
 replace H : St w bn (cBlk al [I 0, I 0, I 0, I 0] 61 :: cBlk ai [.func (.func 106) #[] #[]] 138 :: cBlk aa [I r_.up, I r_.down, I r_.lo, I r_.hi, B r_.narrow] 58 :: cBlk ak [Pq ag] 112 :: cMk ([]) :: cMemI encSpt ah (zaa ab ac ae) :: aj) R := H.back am rfl
 clear am
 refine s_nil ⟨(St.pick H [0, 1, 2, 3, 4, 5] (by decide) rfl), _, [cBlk al [I 0, I 0, I 0, I 0] 61, cBlk ai [.func (.func 106) #[] #[]] 138, cBlk aa [I r_.up, I r_.down, I r_.lo, I r_.hi, B r_.narrow] 58, cBlk ak [Pq ag] 112, cMk ([]), cMemI encSpt ah (zaa ab ac ae)], mix_upd rfl, H, ?_⟩
 refine sa_nil (fun aj w_ H => (St.pick H [0, 1, 2, 3, 4, 5] (by decide) rfl)) ?_
 intro ao aq bp H
 replace H : St w bp [cBlk al [I 0, I 0, I 0, I 0] 61, cBlk ai [.func (.func 106) #[] #[]] 138, cBlk aa [I r_.up, I r_.down, I r_.lo, I r_.hi, B r_.narrow] 58, cBlk ak [Pq ag] 112, cMk ([]), cMemI encSpt ah (zaa ab ac ae), cBlk ao [I 0, I 0] 54, cBlk aq [I 0, I 0] 54] R := (H)
 refine t_l rfl ?_
 refine t_sw 6 0 [I r0, I r1] (.agg #[I r0, I r1]) H rfl rfl Sz54 rfl rfl rfl rfl ?_
 intro bX H
 refine s_nil ⟨(St.pick H [0, 1, 2, 3, 4, 5] (by decide) rfl), ?_⟩
 refine t_l rfl ?_
 refine t_sw 7 0 [I ap, I au] (.agg #[I ap, I au]) H rfl rfl Sz54 rfl rfl rfl rfl ?_
 intro bY H
 refine s_nil ⟨(St.pick H [0, 1, 2, 3, 4, 5] (by decide) rfl), ?_⟩
 refine t_nil ?_
 refine WD.seq ?_
 refine WD.of ?_
 refine W.drawA (fun W => St w W [cBlk al [I 0, I 0, I 0, I 0] 61, cBlk ai [.func (.func 106) #[] #[]] 138, cBlk aa [I r_.up, I r_.down, I r_.lo, I r_.hi, B r_.narrow] 58, cBlk ak [Pq ag] 112, cMk ([]), cMemI encSpt ah (zaa ab ac ae), cBlk ao [I r0, I r1] 54, cBlk aq [I ap, I au] 54] R) [(0, true), (1, true), (2, true), (3, true), (4, true), (5, false)] [(6, 12, 3, [I 0]), (7, 13, 4, [B false])] (.l 8 (.l 9 .nil)) 2 mixed (by decide +kernel) rfl (by intro x hx; simp only [List.mem_cons, List.not_mem_nil, or_false] at hx; rcases hx with rfl | rfl <;> first | exact ⟨_, _, _, rfl, _, Al3, rfl⟩ | exact ⟨_, _, _, rfl, _, Al4, rfl⟩) (by decide) (by decide) H ?_
 refine sa_q (fun aj w_ H => (St.pick H [0, 1, 2, 3, 4, 5, 6, 7] (by decide) rfl)) rfl rfl (fun g_ w' H => x_fa (a := Pq aa) (v := Oq aa 2) rfl (fa_blk (o := 0) Fd58_2 Sz54)) ?_
 refine sa_q (fun aj w_ H => (St.pick H [0, 1, 2, 3, 4, 5, 6, 7] (by decide) rfl)) rfl rfl (fun g_ w' H => x_fa (a := Oq aa 2) (v := Oq aa 2) rfl (fa_blk (o := 2) Fd54_0 Sz3)) ?_
 refine sa_q (fun aj w_ H => (St.pick H [0, 1, 2, 3, 4, 5, 6, 7] (by decide) rfl)) rfl rfl (fun g_ w' H => x_ld (p := Oq aa 2) (v := I r_.lo) rfl (ldb_sc Sc3 (H.bl 2) rfl)) ?_
 refine sa_q (fun aj w_ H => (St.pick H [0, 1, 2, 3, 4, 5, 6, 7] (by decide) rfl)) rfl rfl (fun g_ w' H => x_fa (a := Pq ai) (v := Pq ai) rfl (fa_blk (o := 0) Fd138_0 Sz116)) ?_
 refine sa_q (fun aj w_ H => (St.pick H [0, 1, 2, 3, 4, 5, 6, 7] (by decide) rfl)) rfl rfl (fun g_ w' H => x_ld (p := Pq ai) (v := .func (.func 106) #[] #[]) rfl (ldb_sc Sc116 (H.bl 1) rfl)) ?_
 refine sa_l (fun aj w_ H => (St.pick H [0, 1, 2, 3, 4, 5, 6, 7] (by decide) rfl)) rfl ?_
 intro g_ aj bq H
 replace H : St w bq (cBlk al [I 0, I 0, I 0, I 0] 61 :: cBlk ai [.func (.func 106) #[] #[]] 138 :: cBlk aa [I r_.up, I r_.down, I r_.lo, I r_.hi, B r_.narrow] 58 :: cBlk ak [Pq ag] 112 :: cMk ([]) :: cMemI encSpt ah (zaa ab ac ae) :: cBlk ao [I r0, I r1] 54 :: cBlk aq [I ap, I au] 54 :: aj) R := H
 obtain ⟨bZ, br, hM⟩ := M.e_bind hM
 refine s_callv (f := 106) rfl cf106 [I 1, I 0] rfl (zch 1 0 br _ (St.give (T := (cBlk al [I 0, I 0, I 0, I 0] 61 :: cBlk ai [.func (.func 106) #[] #[]] 138 :: cBlk aa [I r_.up, I r_.down, I r_.lo, I r_.hi, B r_.narrow] 58 :: cBlk ak [Pq ag] 112 :: cMk ([]) :: cMemI encSpt ah (zaa ab ac ae) :: cBlk ao [I r0, I r1] 54 :: cBlk aq [I ap, I au] 54 :: aj)) H rfl)) ?_
 rintro vq bt ⟨r2, bu, hvq, am⟩
 subst bu
 subst vq
 try dsimp only at hM
 replace H : St w bt (cBlk al [I 0, I 0, I 0, I 0] 61 :: cBlk ai [.func (.func 106) #[] #[]] 138 :: cBlk aa [I r_.up, I r_.down, I r_.lo, I r_.hi, B r_.narrow] 58 :: cBlk ak [Pq ag] 112 :: cMk ([]) :: cMemI encSpt ah (zaa ab ac ae) :: cBlk ao [I r0, I r1] 54 :: cBlk aq [I ap, I au] 54 :: aj) R := H.back am rfl
 clear am
 refine s_nil ⟨(St.pick H [0, 1, 2, 3, 4, 5, 6, 7] (by decide) rfl), _, [cBlk al [I 0, I 0, I 0, I 0] 61, cBlk ai [.func (.func 106) #[] #[]] 138, cBlk aa [I r_.up, I r_.down, I r_.lo, I r_.hi, B r_.narrow] 58, cBlk ak [Pq ag] 112, cMk ([]), cMemI encSpt ah (zaa ab ac ae), cBlk ao [I r0, I r1] 54, cBlk aq [I ap, I au] 54], mix_upd rfl, H, ?_⟩
 refine sa_nil (fun aj w_ H => (St.pick H [0, 1, 2, 3, 4, 5, 6, 7] (by decide) rfl)) ?_
 intro ax ay bv H
 replace H : St w bv [cBlk al [I 0, I 0, I 0, I 0] 61, cBlk ai [.func (.func 106) #[] #[]] 138, cBlk aa [I r_.up, I r_.down, I r_.lo, I r_.hi, B r_.narrow] 58, cBlk ak [Pq ag] 112, cMk ([]), cMemI encSpt ah (zaa ab ac ae), cBlk ao [I r0, I r1] 54, cBlk aq [I ap, I au] 54, cBlk ax [I 0] 3, cBlk ay [B false] 4] R := (H)
 refine t_l rfl ?_
 refine t_sw 8 0 [I r_.lo] (I r_.lo) H rfl rfl Sz3 rfl rfl rfl rfl ?_
 intro b3 H
 refine s_nil ⟨(St.pick H [0, 1, 2, 3, 4, 5, 6, 7] (by decide) rfl), ?_⟩
 refine t_l rfl ?_
 refine t_sw 9 0 [B r2] (B r2) H rfl rfl Sz4 rfl rfl rfl rfl ?_
 intro b4 H
 refine s_nil ⟨(St.pick H [0, 1, 2, 3, 4, 5, 6, 7] (by decide) rfl), ?_⟩
 refine t_nil ?_
 refine WD.seq ?_
 refine WD.seq ?_
 refine WD.of ?_
 refine W.region rfl ?_
 refine s_val (x_ld (p := Pq ay) (v := B r2) rfl (ldb_sc Sc4 (H.bl 9) rfl)) ?_
 refine s_val (x_not (b := r2) rfl) ?_
 refine s_nil ?_
 refine WD.cond (!r2) rfl (fun aR => ?_) (fun aR => ?_)
 ·replace hM := M.e_t hM aR
  refine WD.of ?_
  refine W.region rfl ?_
  refine s_val (x_fa (a := Pq aa) (v := Oq aa 2) rfl (fa_blk (o := 0) Fd58_2 Sz54)) ?_
  refine s_val (x_fa (a := Oq aa 2) (v := Oq aa 3) rfl (fa_blk (o := 2) Fd54_1 Sz3)) ?_
  refine s_val (x_ld (p := Oq aa 3) (v := I r_.hi) rfl (ldb_sc Sc3 (H.bl 2) rfl)) ?_
  refine t_sw 8 0 [I r_.hi] (I r_.hi) H rfl rfl Sz3 rfl rfl rfl rfl ?_
  intro b5 H
  refine s_nil ?_
  refine WD.seq ?_
  refine WD.of ?_
  refine W.region rfl ?_
  refine t_alloc (cs := [I 0, I 0, I 0, I 0]) H Al61 rfl ?_
  intro av b6 H
  refine s_nil ?_
  refine WD.seq ?_
  refine WD.of ?_
  refine W.region rfl ?_
  refine t_alloc (cs := [I 0]) H Al3 rfl ?_
  intro aw b7 H
  refine t_sw 0 0 [I 0] (I 0) H rfl rfl Sz3 rfl rfl rfl rfl ?_
  intro b8 H
  refine s_nil ?_
  refine WD.seq ?_
  refine WD.seq ?_
  refine WD.of ?_
  refine W.draw (fun W => St w W [cBlk aw [I 0] 3, cBlk av [I 0, I 0, I 0, I 0] 61, cBlk al [I 0, I 0, I 0, I 0] 61, cBlk ai [.func (.func 106) #[] #[]] 138, cBlk aa [I r_.up, I r_.down, I r_.lo, I r_.hi, B r_.narrow] 58, cBlk ak [Pq ag] 112, cMk ([]), cMemI encSpt ah (zaa ab ac ae), cBlk ao [I r0, I r1] 54, cBlk aq [I ap, I au] 54, cBlk ax [I r_.hi] 3, cBlk ay [B r2] 4] R) [(0, true), (1, true), (2, true), (3, true), (4, true), (5, true), (6, false), (7, false), (8, true), (9, false)] mixed (by decide +kernel) rfl ?_
  intro b9 aH
  replace H := H.ext aH
  clear aH
  refine ⟨(H.pk [0, 1, 2, 3, 4, 5, 6, 7, 8, 9, 10, 11]), ?_⟩
  refine d_q rfl (fun w' H => x_fa (a := Pq aq) (v := Pq aq) rfl (fa_blk (o := 0) Fd54_0 Sz3)) ?_
  refine d_q rfl (fun w' H => x_ld (p := Pq aq) (v := I ap) rfl (ldb_sc Sc3 (H.bl 9) rfl)) ?_
  refine d_q rfl (fun w' H => x_fa (a := Pq aq) (v := Oq aq 1) rfl (fa_blk (o := 0) Fd54_1 Sz3)) ?_
  refine d_q rfl (fun w' H => x_ld (p := Oq aq 1) (v := I au) rfl (ldb_sc Sc3 (H.bl 9) rfl)) ?_
  refine d_q rfl (fun w' H => x_fa (a := Pq ao) (v := Oq ao 1) rfl (fa_blk (o := 0) Fd54_1 Sz3)) ?_
  refine d_q rfl (fun w' H => x_ld (p := Oq ao 1) (v := I r1) rfl (ldb_sc Sc3 (H.bl 8) rfl)) ?_
  refine d_l rfl ?_
  refine t_bs (α := Int) T28 [I r1] [(r1 : Int)] H rfl (.cons rfl (Flat.rep_enc _ (r1 : Int)) <| .nil) rfl rfl rfl ?_
  intro bw cc H
  have cd := Sl.cells (H.os 0)
  have ce := Sl.oc (H.os 0)
  refine s_nil ⟨(H.pk [1, 2, 3, 4, 5, 6, 7, 8, 9, 10, 11, 12]), ?_⟩
  refine d_l rfl ?_
  obtain ⟨cf, bx, hM⟩ := M.e_bind hM
  refine s_call cf73 [I au, bw] rfl (zag au ([(r1 : Int)]) (rdo 0) (H.os 0) bx _ (H.gt 13)) ?_
  rintro vq cg ⟨r3, bz, hvq, am⟩
  subst bz
  subst vq
  try dsimp only at hM
  replace H := H.bk am
  clear am
  refine s_nil ⟨(H.pk [1, 2, 3, 4, 5, 6, 7, 8, 9, 10, 11, 12]), ?_⟩
  refine d_q rfl (fun w' H => x_bld (ps := [(0, I ap), (1, I r3)]) (zs := [I 0, I 0]) (L' := [I ap, I r3]) rfl Tryz.underlying54 Al54 rfl (Bd54 Tryz.underlying54) (.cons (cs := [I ap]) rfl rfl rfl rfl rfl <| .cons (cs := [I r3]) rfl rfl rfl rfl rfl <| .nil)) ?_
  refine d_l rfl ?_
  obtain ⟨ch, bA, hM⟩ := M.e_bind hM
  refine s_call cf95 [.agg #[I ap, I r3]] rfl (zcm (⟨(ap : Int), (r3 : Int)⟩ : Span) bA _ (H.gt 13)) ?_
  rintro vq ci ⟨aA, aB, aC, bB, hvq, am⟩
  subst bB
  subst vq
  try dsimp only at hM
  replace H := H.bk am
  clear am
  refine s_nil ⟨(H.pk [2, 3, 4, 5, 6, 7, 8, 9, 10, 11, 12, 13]), ?_⟩
  refine d_nil ?_
  replace H := H.pk [0, 2, 3, 4, 5, 6, 7, 8, 9, 10, 12, 13]
  refine WD.block ?_
  obtain ⟨cj, bC, hM⟩ := M.e_bind hM
  refine WD.range (L := [cBlk aw [I 0] 3, cBlk av [I 0, I 0, I 0, I 0] 61, cMemI encSpt ah (zaa ab ac ae), cBlk aC [I aA, I aB] 54, cBlk al [I 0, I 0, I 0, I 0] 61, cBlk ai [.func (.func 106) #[] #[]] 138, cBlk aa [I r_.up, I r_.down, I r_.lo, I r_.hi, B r_.narrow] 58, cBlk ak [Pq ag] 112, cBlk ao [I r0, I r1] 54, cBlk ax [I r_.hi] 3, cBlk ay [B r2] 4]) [Pq aC] (H.pk [7, 1, 2, 8, 0, 3, 4, 5, 6, 9, 10, 11]) rfl cf119 ?_
  intro aN aO aS bD aT H
  have hYC : YieldC Tryz.prog ([cMk (aO :: ([])), cBlk aC [I aA, I aB] 54, cBlk al [I 0, I 0, I 0, I 0] 61, cBlk ai [.func (.func 106) #[] #[]] 138, cBlk aa [I r_.up, I r_.down, I r_.lo, I r_.hi, B r_.narrow] 58, cBlk ak [Pq ag] 112, cBlk ao [I r0, I r1] 54, cBlk ax [I r_.hi] 3, cBlk ay [B r2] 4] ++ R) arI (yJ aN aS (fun (s, s2, s3, s4, s5) aP => aP = [cBlk aw [I s] 3, cBlk av [I s2, I s3, I s4, I s5] 61, cMemI encSpt ah (zaa ab ac ae)]) (fun (_ : Unit) _ => False) (fun _ => .ret)) (.func (.yield aN) #[] #[]) (M.yl (zas ab ac ae r_ r0 r2)) := by
   refine YieldC.mk aT (fun (s, s2, s3, s4, s5) aP => aP = [cBlk aw [I s] 3, cBlk av [I s2, I s3, I s4, I s5] 61, cMemI encSpt ah (zaa ab ac ae)]) (fun (_ : Unit) _ => False) (fun _ => .ret) (zas ab ac ae r_ r0 r2) (by rintro ⟨s, s2, s3, s4, s5⟩ _ h_; obtain ⟨rfl⟩ := h_; rfl) (fun _ _ h_ => h_.elim) rfl (arI_len rfl) ?_
   intro C_ ck x W_ bE
   obtain rfl := bE
   refine W.region rfl ?_
   refine zA (I x) rfl ?_
   refine s_nil ?_
   refine ⟨rfl, rfl, ?_⟩
   intro w R aI aP s_ r bF hM H
   obtain ⟨s, s2, s3, s4, s5⟩ := s_
   obtain ⟨rfl⟩ := bF
   replace aD := aD.sub aI
   replace aE := aE.sub aI
   replace aF := aF.sub aI
   replace aG := aG.sub aI
   replace aM := aM.sub aI
   replace hM : (zas ab ac ae r_ r0 r2 (s, s2, s3, s4, s5) x).Ends r := hM
   simp only [zas] at hM
   replace H := H.pk [0, 1, 2, 4, 5, 6, 7, 8, 9, 10, 11, 3]
   refine W.block ?_
   refine W.seq ?_
   refine W.region rfl ?_
   refine s_val (x_fa (a := Pq ao) (v := Pq ao) rfl (fa_blk (o := 0) Fd54_0 Sz3)) ?_
   refine s_val (x_ld (p := Pq ao) (v := I r0) rfl (ldb_sc Sc3 (H.bl 8) rfl)) ?_
   refine zM (I x) rfl ?_
   refine s_val (x_max (kd := .i64) (a := r0) (b := x) rfl rfl) ?_
   refine zM (I x) rfl ?_
   refine s_val (x_ld (p := Pq ax) (v := I r_.hi) rfl (ldb_sc Sc3 (H.bl 9) rfl)) ?_
   refine s_val (x_ld (p := Pq ax) (v := I r_.hi) rfl (ldb_sc Sc3 (H.bl 9) rfl)) ?_
   refine s_val (x_bld (ps := [(0, I (max r0 x)), (1, I x), (2, I r_.hi), (3, I r_.hi)]) (zs := [I 0, I 0, I 0, I 0]) (L' := [I (max r0 x), I x, I r_.hi, I r_.hi]) rfl Tryz.underlying61 Al61 rfl (Bd61 Tryz.underlying61) (.cons (cs := [I (max r0 x)]) rfl rfl rfl rfl rfl <| .cons (cs := [I x]) rfl rfl rfl rfl rfl <| .cons (cs := [I r_.hi]) rfl rfl rfl rfl rfl <| .cons (cs := [I r_.hi]) rfl rfl rfl rfl rfl <| .nil)) ?_
   refine t_alloc (cs := [I 0, I 0, I 0, I 0]) H Al61 rfl ?_
   intro bb cn H
   refine t_sw 0 0 [I (max r0 x), I x, I r_.hi, I r_.hi] (.agg #[I (max r0 x), I x, I r_.hi, I r_.hi]) H rfl rfl Sz61 rfl rfl rfl rfl ?_
   intro co H
   refine s_nil ?_
   refine W.seq ?_
   refine W.seq ?_
   refine W.region rfl ?_
   refine s_val (x_ld (p := Pq ay) (v := B r2) rfl (ldb_sc Sc4 (H.bl 11) rfl)) ?_
   refine s_nil ?_
   refine W.cond r2 rfl (fun aU => ?_) (fun aU => ?_)
   ·replace hM := M.e_t hM aU
    exact (M.e_fail hM).elim
   replace hM := M.e_f hM aU
   refine W.skip ?_
   refine W.seq ?_
   refine W.region rfl ?_
   refine s_val (x_ld (p := Pq ak) (v := Pq ag) rfl (ldb_sc Sc112 (H.bl 8) rfl)) ?_
   refine s_val (x_ld (p := Pq aa) (v := .agg #[I r_.up, I r_.down, I r_.lo, I r_.hi, B r_.narrow]) rfl (ldb_ag (ds := [I r_.up, I r_.down, I r_.lo, I r_.hi, B r_.narrow]) Ag58 Sz58 (H.bl 7) rfl rfl)) ?_
   refine s_val (x_ld (p := Pq bb) (v := .agg #[I (max r0 x), I x, I r_.hi, I r_.hi]) rfl (ldb_ag (ds := [I (max r0 x), I x, I r_.hi, I r_.hi]) Ag61 Sz61 (H.bl 0) rfl rfl)) ?_
   obtain ⟨cp, bG, hM⟩ := M.e_bind hM
   refine s_call cf72 [Pq ag, .agg #[I r_.up, I r_.down, I r_.lo, I r_.hi, B r_.narrow], .agg #[I (max r0 x), I x, I r_.hi, I r_.hi]] rfl (zcf ab ac ae r_ (⟨(max r0 x : Int), (x : Int), (r_.hi : Int), (r_.hi : Int)⟩ : Cas) (aD.app _) aJ (aE.app _) aK (aF.app _) aL (aG.app _) bG _ ((H.pk [3, 0, 1, 2, 4, 5, 6, 7, 8, 9, 10, 11, 12]).gt 12)) ?_
   rintro vq cq ⟨r4, bH, hvq, am⟩
   subst bH
   subst vq
   try dsimp only at hM
   replace H := H.pk [3, 0, 1, 2, 4, 5, 6, 7, 8, 9, 10, 11, 12] |>.bk am
   clear am
   refine zA (I r4) rfl ?_
   refine s_nil ?_
   refine W.seq ?_
   refine W.region rfl ?_
   refine s_val (x_ld (p := Pq av) (v := .agg #[I s2, I s3, I s4, I s5]) rfl (ldb_ag (ds := [I s2, I s3, I s4, I s5]) Ag61 Sz61 (H.bl 3) rfl rfl)) ?_
   refine s_val (x_bld (ps := []) (zs := [I 0, I 0, I 0, I 0]) (L' := [I 0, I 0, I 0, I 0]) rfl Tryz.underlying61 Al61 rfl (Bd61 Tryz.underlying61) (.nil)) ?_
   refine s_val (x_eqS (eqT61 (⟨(s2 : Int), (s3 : Int), (s4 : Int), (s5 : Int)⟩ : Cas) (⟨(0 : Int), (0 : Int), (0 : Int), (0 : Int)⟩ : Cas) _) gdT61 rfl rfl) ?_
   refine zM (B (decide ((⟨(s2 : Int), (s3 : Int), (s4 : Int), (s5 : Int)⟩ : Cas) = (⟨(0 : Int), (0 : Int), (0 : Int), (0 : Int)⟩ : Cas)))) rfl ?_
   refine g_val (!(decide ((⟨(s2 : Int), (s3 : Int), (s4 : Int), (s5 : Int)⟩ : Cas) = (⟨(0 : Int), (0 : Int), (0 : Int), (0 : Int)⟩ : Cas)))) (gy_f rfl) (fun hg => x_fa (a := Pq ai) (v := Pq ai) rfl (fa_blk (o := 0) Fd138_0 Sz116)) ?_
   refine g_val (!(decide ((⟨(s2 : Int), (s3 : Int), (s4 : Int), (s5 : Int)⟩ : Cas) = (⟨(0 : Int), (0 : Int), (0 : Int), (0 : Int)⟩ : Cas)))) (gy_f rfl) (fun hg => x_ld (p := Pq ai) (v := .func (.func 106) #[] #[]) (gd_of (c := !(decide ((⟨(s2 : Int), (s3 : Int), (s4 : Int), (s5 : Int)⟩ : Cas) = (⟨(0 : Int), (0 : Int), (0 : Int), (0 : Int)⟩ : Cas)))) hg (Pq ai)) (ldb_sc Sc116 (H.bl 6) rfl)) ?_
   refine g_val (!(decide ((⟨(s2 : Int), (s3 : Int), (s4 : Int), (s5 : Int)⟩ : Cas) = (⟨(0 : Int), (0 : Int), (0 : Int), (0 : Int)⟩ : Cas)))) (gy_f rfl) (fun hg => x_mv (v := I r4) rfl) ?_
   refine g_val (!(decide ((⟨(s2 : Int), (s3 : Int), (s4 : Int), (s5 : Int)⟩ : Cas) = (⟨(0 : Int), (0 : Int), (0 : Int), (0 : Int)⟩ : Cas)))) (gy_f rfl) (fun hg => x_ld (p := Pq aw) (v := I s) rfl (ldb_sc Sc3 (H.bl 2) rfl)) ?_
   obtain ⟨r5, bI, hM⟩ := M.e_bind hM
   refine t_gcallv (cap := []) (!(decide ((⟨(s2 : Int), (s3 : Int), (s4 : Int), (s5 : Int)⟩ : Cas) = (⟨(0 : Int), (0 : Int), (0 : Int), (0 : Int)⟩ : Cas)))) (gy_f rfl) cf106 (fun hg => (gd_of (c := !(decide ((⟨(s2 : Int), (s3 : Int), (s4 : Int), (s5 : Int)⟩ : Cas) = (⟨(0 : Int), (0 : Int), (0 : Int), (0 : Int)⟩ : Cas)))) hg (.func (.func 106) #[] #[]))) (B r5) (fun _ => [I r4, I s]) (fun hg => lst2 (gd_of (c := !(decide ((⟨(s2 : Int), (s3 : Int), (s4 : Int), (s5 : Int)⟩ : Cas) = (⟨(0 : Int), (0 : Int), (0 : Int), (0 : Int)⟩ : Cas)))) hg (I r4)) (gd_of (c := !(decide ((⟨(s2 : Int), (s3 : Int), (s4 : Int), (s5 : Int)⟩ : Cas) = (⟨(0 : Int), (0 : Int), (0 : Int), (0 : Int)⟩ : Cas)))) hg (I s))) H (fun hg => (zch r4 s (M.e_opt bI hg) _ (H.give (A := []) rfl)).mono fun v_ w_ ⟨y_, aV, bJ, H_⟩ => by subst aV; exact ⟨bJ, H.via H_⟩) ?_
   intro cr H
   refine s_val (x_por (b := decide ((⟨(s2 : Int), (s3 : Int), (s4 : Int), (s5 : Int)⟩ : Cas) = (⟨(0 : Int), (0 : Int), (0 : Int), (0 : Int)⟩ : Cas))) (r := r5) rfl rfl (fun hb => gd_of (c := !(decide ((⟨(s2 : Int), (s3 : Int), (s4 : Int), (s5 : Int)⟩ : Cas) = (⟨(0 : Int), (0 : Int), (0 : Int), (0 : Int)⟩ : Cas)))) (by first | exact hb | (rw [hb]; rfl) | simp_all) (B r5))) ?_
   refine s_nil ?_
   refine W.cond ((decide ((⟨(s2 : Int), (s3 : Int), (s4 : Int), (s5 : Int)⟩ : Cas) = (⟨(0 : Int), (0 : Int), (0 : Int), (0 : Int)⟩ : Cas))) || r5) rfl (fun aW => ?_) (fun aW => ?_)
   ·replace hM := M.e_t hM aW
    refine W.region rfl ?_
    refine s_val (x_ld (p := Pq bb) (v := .agg #[I (max r0 x), I x, I r_.hi, I r_.hi]) rfl (ldb_ag (ds := [I (max r0 x), I x, I r_.hi, I r_.hi]) Ag61 Sz61 (H.bl 1) rfl rfl)) ?_
    refine zM (I r4) rfl ?_
    refine t_sw 3 0 [I (max r0 x), I x, I r_.hi, I r_.hi] (.agg #[I (max r0 x), I x, I r_.hi, I r_.hi]) H rfl rfl Sz61 rfl rfl rfl rfl ?_
    intro ct H
    refine t_sw 2 0 [I r4] (I r4) H rfl rfl Sz3 rfl rfl rfl rfl ?_
    intro cu H
    refine s_nil ?_
    exact ⟨(r4, max r0 x, x, r_.hi, r_.hi), [cBlk aw [I r4] 3, cBlk av [I (max r0 x), I x, I r_.hi, I r_.hi] 61, cMemI encSpt ah (zaa ab ac ae)], (M.e_pure hM).symm, rfl, H.pick [2, 3, 0, 12, 4, 5, 6, 7, 8, 9, 10, 11] (by decide) rfl⟩
   replace hM := M.e_f hM aW
   refine W.skip ?_
   exact ⟨(s, s2, s3, s4, s5), [cBlk aw [I s] 3, cBlk av [I s2, I s3, I s4, I s5] 61, cMemI encSpt ah (zaa ab ac ae)], (M.e_pure hM).symm, rfl, H.pick [2, 3, 0, 12, 4, 5, 6, 7, 8, 9, 10, 11] (by decide) rfl⟩
  replace H : St w bD (cAll (cObj aN (.loop aS) :: [cBlk aw [I 0] 3, cBlk av [I 0, I 0, I 0, I 0] 61, cMemI encSpt ah (zaa ab ac ae)]) :: [cMk (aO :: ([])), cBlk aC [I aA, I aB] 54, cBlk al [I 0, I 0, I 0, I 0] 61, cBlk ai [.func (.func 106) #[] #[]] 138, cBlk aa [I r_.up, I r_.down, I r_.lo, I r_.hi, B r_.narrow] 58, cBlk ak [Pq ag] 112, cBlk ao [I r0, I r1] 54, cBlk ax [I r_.hi] 3, cBlk ay [B r2] 4]) R := St.bundleB (A := cObj aN (.loop aS) :: [cBlk aw [I 0] 3, cBlk av [I 0, I 0, I 0, I 0] 61, cMemI encSpt ah (zaa ab ac ae)]) (T := [cMk (aO :: ([])), cBlk aC [I aA, I aB] 54, cBlk al [I 0, I 0, I 0, I 0] 61, cBlk ai [.func (.func 106) #[] #[]] 138, cBlk aa [I r_.up, I r_.down, I r_.lo, I r_.hi, B r_.narrow] 58, cBlk ak [Pq ag] 112, cBlk ao [I r0, I r1] 54, cBlk ax [I r_.hi] 3, cBlk ay [B r2] 4]) rfl (H.pk [0, 2, 3, 4, 1, 5, 6, 7, 8, 9, 10, 11, 12])
  refine (zcA (M.yl (zas ab ac ae r_ r0 r2)) (.inl (0, 0, 0, 0, 0)) aA aB hYC ⟨_, rfl, rfl⟩ (Has.here (k := 1) rfl) bC _ (H.gt 9)).mono ?_
  rintro vq cv ⟨bK, cw, bL, hvq, am, bc⟩
  subst bL
  replace H := H.back am rfl
  clear am hYC
  rcases bK with ⟨s, s2, s3, s4, s5⟩ | _
  ·try dsimp only at hM
   obtain ⟨_, rfl, rfl⟩ := bc
   refine ⟨_, [cBlk aw [I s] 3, cBlk av [I s2, I s3, I s4, I s5] 61, cMemI encSpt ah (zaa ab ac ae), cBlk aC [I aA, I aB] 54, cBlk al [I 0, I 0, I 0, I 0] 61, cBlk ai [.func (.func 106) #[] #[]] 138, cBlk aa [I r_.up, I r_.down, I r_.lo, I r_.hi, B r_.narrow] 58, cBlk ak [Pq ag] 112, cBlk ao [I r0, I r1] 54, cBlk ax [I r_.hi] 3, cBlk ay [B r2] 4], H.unbundle.pick [0, 4, 1, 2, 3, 5, 6, 7, 8, 9, 10, 11, 12] (by decide) rfl, aT.nb, ?_⟩
   intro cx H
   rw [aT.pd]
   replace H := H.nf
   try simp only []
   replace H := H.pk [0, 1, 2, 3, 5]
   refine WD.seq ?_
   refine WD.of ?_
   refine W.draw (fun W => St w W [cMk (aO :: ([])), cBlk aw [I s] 3, cBlk av [I s2, I s3, I s4, I s5] 61, cMemI encSpt ah (zaa ab ac ae)] R) [(0, true), (1, true), (2, false), (3, true)] mixed (by decide +kernel) rfl ?_
   intro cy aH
   replace H := H.ext aH
   clear aH
   refine ⟨(H.pk [0, 1, 2, 3]), ?_⟩
   refine d_q rfl (fun w' H => x_ld (p := Pq av) (v := .agg #[I s2, I s3, I s4, I s5]) rfl (ldb_ag (ds := [I s2, I s3, I s4, I s5]) Ag61 Sz61 (H.bl 2) rfl rfl)) ?_
   refine d_q rfl (fun w' H => x_ld (p := Pq aw) (v := I s) rfl (ldb_sc Sc3 (H.bl 1) rfl)) ?_
   refine d_l rfl ?_
   refine t_sw 4 0 [I s2, I s3, I s4, I s5] (.agg #[I s2, I s3, I s4, I s5]) H rfl rfl Sz61 rfl rfl rfl rfl ?_
   intro cz H
   refine s_nil ⟨(H.pk [0, 1, 2, 3]), ?_⟩
   refine d_q rfl (fun w' H => x_as (v := I s) rfl) ?_
   refine d_nil ?_
   replace H := H.pk [0, 3, 4]
   refine WD.of ?_
   refine W.ret ?_
   refine bodyD_r (H.pk [0, 1, 2]) ?_
   intro cA H
   replace H := H.nf
   have bM := (H.bl 1)
   have aV := M.e_pure hM
   exact ⟨_, (resE_ofn (vs := [.agg #[I s2, I s3, I s4, I s5], I s]) rfl rfl (.cell (v := .agg #[I s2, I s3, I s4, I s5]) rfl (run_loadVar_ag (ds := [I s2, I s3, I s4, I s5]) Ag61 Sz61 bM rfl rfl) <| .tmp (v := I s) rfl <| .nil)), ⟨s2, s3, s4, s5, s, aV, rfl, (H.pk [0])⟩⟩
  obtain ⟨_, _, h_⟩ := bc; exact h_.elim
 replace hM := M.e_f hM aR
 exact (M.e_fail hM).elim

def zcc : M Unit :=
  M.pure ()
theorem zaz {R : List Chunk}    {r : Unit} (hM : (zcc).Ends r) (w : World) (H : St w w [] R) : Ret Tryz.prog 68 #[] w fun v w' => () = r /\ v = .agg #[.func (.func 107) #[] #[]] /\ St w w' [] R := by
 refine ret_of_W Tryz.func68 rfl rfl rfl ?_
 refine W.seq ?_
 refine W.region rfl ?_
 refine t_alloc (cs := [.nilFunc]) H Al138 rfl ?_
 intro ac ae H
 refine s_nil ?_
 refine W.seq ?_
 refine W.region rfl ?_
 refine s_val (x_bld (ps := [(0, .func (.func 107) #[] #[])]) (zs := [.nilFunc]) (L' := [.func (.func 107) #[] #[]]) rfl Tryz.underlying138 Al138 rfl (Bd138 Tryz.underlying138) (.cons (cs := [.func (.func 107) #[] #[]]) rfl rfl rfl rfl rfl <| .nil)) ?_
 refine t_sw 0 0 [.func (.func 107) #[] #[]] (.agg #[.func (.func 107) #[] #[]]) H rfl rfl Sz138 rfl rfl rfl rfl ?_
 intro ag H
 refine s_nil ?_
 refine W.ret ?_
 have aa := (H.bl 0)
 have ab := M.e_pure hM
 exact ⟨_, (resE_of1 (v := .agg #[.func (.func 107) #[] #[]]) rfl (.cell (v := .agg #[.func (.func 107) #[] #[]]) rfl (run_loadVar_ag (ds := [.func (.func 107) #[] #[]]) Ag138 Sz138 aa rfl rfl) <| .nil)), ⟨ab, rfl, (H.pk [])⟩⟩

def zaG (a : Int) (b : Int) : M Bool :=
  M.pure (decide (b < a))
theorem zco {R : List Chunk}  (a : Int) (b : Int)  {r : Bool} (hM : (zaG a b).Ends r) (w : World) (H : St w w [] R) : Ret Tryz.prog 107 #[I a, I b] w fun v w' => ∃ (y0 : Bool), y0 = r /\ v = B y0 /\ St w w' [] R := by
 refine ret_of_W Tryz.func107 rfl rfl rfl ?_
 refine W.seq ?_
 refine W.region rfl ?_
 refine zA (B false) rfl ?_
 refine s_nil ?_
 refine W.seq ?_
 refine W.region rfl ?_
 refine zM (I a) rfl ?_
 refine zM (I b) rfl ?_
 refine zC a b (decide (b < a)) rfl rfl rfl ?_
 refine zA (B (decide (b < a))) rfl ?_
 refine s_nil ?_
 refine W.ret ?_
 have aa := M.e_pure hM
 exact ⟨_, resE_tmp rfl, ⟨(decide (b < a)), aa, rfl, H⟩⟩

def zat (aa : List Sect) (ab : List Mrk) (ac : List Rch) (r_ : Rch) (r1 : Int) (r2 : Bool) : (Int × Int × Int × Int × Int) -> Int -> M ((Int × Int × Int × Int × Int) ⊕ Unit) := fun (s, s2, s3, s4, s5) x =>
  bif r2 then (
  M.bind (zax aa ab ac r_ (⟨(r1 : Int), (x : Int), (r_.lo : Int), (r_.lo : Int)⟩ : Cas)) fun r4 =>
  M.bind (M.opt (!(decide ((⟨(s2 : Int), (s3 : Int), (s4 : Int), (s5 : Int)⟩ : Cas) = (⟨(0 : Int), (0 : Int), (0 : Int), (0 : Int)⟩ : Cas)))) (zaG r4 s) false) fun r5 =>
  bif ((decide ((⟨(s2 : Int), (s3 : Int), (s4 : Int), (s5 : Int)⟩ : Cas) = (⟨(0 : Int), (0 : Int), (0 : Int), (0 : Int)⟩ : Cas))) || r5) then (
  M.pure (.inl (r4, r1, x, r_.lo, r_.lo)))
  else (
  M.pure (.inl (s, s2, s3, s4, s5))))
  else (
  M.fail)
def za2 (aa : List Sect) (ab : List Mrk) (ac : List Rch) (marks : List Int) (r_ : Rch) : M (Int × Int × Int × Int × Int) :=
  M.bind (zan aa ab ac marks r_.up) fun (r0, r1) =>
  M.bind (zan aa ab ac marks r_.down) fun (ae, ag) =>
  M.bind (zaG 1 0) fun r2 =>
  bif !r2 then (
  M.fail)
  else (
  M.bind (zau ag ([(r1 : Int)])) fun r3 =>
  M.bind (zaM (⟨(ae : Int), (r3 : Int)⟩ : Span)) fun (ah, ai) =>
  M.bind (zap (M.yl (zat aa ab ac r_ r1 r2)) (.inl (0, 0, 0, 0, 0)) ah ai) fun x_ => match x_ with
  | .inl (s, s2, s3, s4, s5) => (
  M.pure (s2, s3, s4, s5, s))
  | .inr _ => M.fail)
theorem zam {R : List Chunk} {ag : Nat} {aY : Cells} {aZ : Value} {a6 : Cells} {a7 : Value} {a8 : Cells} {ba : Value} {ah : Nat} {bb : Cells} {az : Value} (aa : List Sect) (ab : List Mrk) (ac : List Rch) (marks : List Int) (r_ : Rch) (aD : Reads R aY) (aJ : Sl aY aZ aa) (aE : Reads R a6) (aK : Sl a6 a7 ab) (aF : Reads R a8) (aL : Sl a8 ba ac) (aG : Has R (cBlk ag [aZ, a7, ba, .map (some ah)] 177)) (aM : Reads R bb) (aR : Sl bb az marks) {r : (Int × Int × Int × Int × Int)} (hM : (za2 aa ab ac marks r_).Ends r) (w : World) (H : St w w [cMemI encSpt ah (zaa aa ab ac)] R) : Ret Tryz.prog 69 #[Pq ag, az, .agg #[I r_.up, I r_.down, I r_.lo, I r_.hi, B r_.narrow], .agg #[.func (.func 107) #[] #[]]] w fun v w' => ∃ (y0 : Int) (y1 : Int) (y2 : Int) (y3 : Int) (y4 : Int), (y0, y1, y2, y3, y4) = r /\ v = .tuple #[.agg #[I y0, I y1, I y2, I y3], I y4] /\ St w w' [cMemI encSpt ah (zaa aa ab ac)] R := by
 refine ret_of_WD Tryz.func69 rfl rfl rfl ?_
 replace H : St w w [cMk ([]), cMemI encSpt ah (zaa aa ab ac)] R := H.mk0
 have bN := aJ.len_le
 have bO := aK.len_le
 have bP := aL.len_le
 have bQ := aR.len_le
 unfold za2 at hM
 refine WD.seq ?_
 refine WD.of ?_
 refine W.region rfl ?_
 refine t_box (v := Pq ag) (cs := [Pq ag]) H rfl rfl ?_
 intro ak bR H
 refine t_box (v := .agg #[I r_.up, I r_.down, I r_.lo, I r_.hi, B r_.narrow]) (cs := [I r_.up, I r_.down, I r_.lo, I r_.hi, B r_.narrow]) H rfl rfl ?_
 intro ae bS H
 refine t_box (v := .agg #[.func (.func 107) #[] #[]]) (cs := [.func (.func 107) #[] #[]]) H rfl rfl ?_
 intro ai bT H
 refine t_alloc (cs := [I 0, I 0, I 0, I 0]) H Al61 rfl ?_
 intro al bU H
 refine zA (I 0) rfl ?_
 refine s_nil ?_
 refine WD.seq ?_
 refine WD.of ?_
 refine W.drawA (fun W => St w W [cBlk al [I 0, I 0, I 0, I 0] 61, cBlk ai [.func (.func 107) #[] #[]] 138, cBlk ae [I r_.up, I r_.down, I r_.lo, I r_.hi, B r_.narrow] 58, cBlk ak [Pq ag] 112, cMk ([]), cMemI encSpt ah (zaa aa ab ac)] R) [(0, true), (1, true), (2, true), (3, true), (5, true), (6, true), (7, true), (8, true), (4, false), (9, false)] [(10, 10, 54, [I 0, I 0]), (11, 11, 54, [I 0, I 0])] (.l 12 (.l 13 .nil)) 2 mixed (by decide +kernel) rfl (by intro x hx; simp only [List.mem_cons, List.not_mem_nil, or_false] at hx; rcases hx with rfl | rfl <;> first | exact ⟨_, _, _, rfl, _, Al54, rfl⟩) (by decide) (by decide) H ?_
 refine sa_q (fun aj w_ H => (St.pick H [0, 1, 2, 3, 4, 5] (by decide) rfl)) rfl rfl (fun g_ w' H => x_ld (p := Pq ak) (v := Pq ag) rfl (ldb_sc Sc112 (H.bl 3) rfl)) ?_
 refine sa_q (fun aj w_ H => (St.pick H [0, 1, 2, 3, 4, 5] (by decide) rfl)) rfl rfl (fun g_ w' H => x_mv (v := az) rfl) ?_
 refine sa_q (fun aj w_ H => (St.pick H [0, 1, 2, 3, 4, 5] (by decide) rfl)) rfl rfl (fun g_ w' H => x_fa (a := Pq ae) (v := Pq ae) rfl (fa_blk (o := 0) Fd58_0 Sz3)) ?_
 refine sa_q (fun aj w_ H => (St.pick H [0, 1, 2, 3, 4, 5] (by decide) rfl)) rfl rfl (fun g_ w' H => x_ld (p := Pq ae) (v := I r_.up) rfl (ldb_sc Sc3 (H.bl 2) rfl)) ?_
 refine sa_q (fun aj w_ H => (St.pick H [0, 1, 2, 3, 4, 5] (by decide) rfl)) rfl rfl (fun g_ w' H => x_ld (p := Pq ak) (v := Pq ag) rfl (ldb_sc Sc112 (H.bl 3) rfl)) ?_
 refine sa_q (fun aj w_ H => (St.pick H [0, 1, 2, 3, 4, 5] (by decide) rfl)) rfl rfl (fun g_ w' H => x_mv (v := az) rfl) ?_
 refine sa_q (fun aj w_ H => (St.pick H [0, 1, 2, 3, 4, 5] (by decide) rfl)) rfl rfl (fun g_ w' H => x_fa (a := Pq ae) (v := Oq ae 1) rfl (fa_blk (o := 0) Fd58_1 Sz3)) ?_
 refine sa_q (fun aj w_ H => (St.pick H [0, 1, 2, 3, 4, 5] (by decide) rfl)) rfl rfl (fun g_ w' H => x_ld (p := Oq ae 1) (v := I r_.down) rfl (ldb_sc Sc3 (H.bl 2) rfl)) ?_
 refine sa_l (fun aj w_ H => (St.pick H [0, 1, 2, 3, 4, 5] (by decide) rfl)) rfl ?_
 intro g_ aj bf H
 replace H : St w bf (cBlk al [I 0, I 0, I 0, I 0] 61 :: cBlk ai [.func (.func 107) #[] #[]] 138 :: cBlk ae [I r_.up, I r_.down, I r_.lo, I r_.hi, B r_.narrow] 58 :: cBlk ak [Pq ag] 112 :: cMk ([]) :: cMemI encSpt ah (zaa aa ab ac) :: aj) R := H
 obtain ⟨bV, bg, hM⟩ := M.e_bind hM
 refine s_call cf59 [Pq ag, az, I r_.up] rfl (za6 aa ab ac marks r_.up (aD.app _) aJ (aE.app _) aK (aF.app _) aL (aG.app _) (aM.app _) aR bg _ (St.give (T := (cBlk al [I 0, I 0, I 0, I 0] 61 :: cBlk ai [.func (.func 107) #[] #[]] 138 :: cBlk ae [I r_.up, I r_.down, I r_.lo, I r_.hi, B r_.narrow] 58 :: cBlk ak [Pq ag] 112 :: cMk ([]) :: cMemI encSpt ah (zaa aa ab ac) :: aj)) H rfl)) ?_
 rintro vq bh ⟨r0, r1, bi, hvq, ao⟩
 subst bi
 subst vq
 try dsimp only at hM
 replace H : St w bh (cBlk al [I 0, I 0, I 0, I 0] 61 :: cBlk ai [.func (.func 107) #[] #[]] 138 :: cBlk ae [I r_.up, I r_.down, I r_.lo, I r_.hi, B r_.narrow] 58 :: cBlk ak [Pq ag] 112 :: cMk ([]) :: cMemI encSpt ah (zaa aa ab ac) :: aj) R := H.back ao rfl
 clear ao
 refine s_nil ⟨(St.pick H [0, 1, 2, 3, 4, 5] (by decide) rfl), _, [cBlk al [I 0, I 0, I 0, I 0] 61, cBlk ai [.func (.func 107) #[] #[]] 138, cBlk ae [I r_.up, I r_.down, I r_.lo, I r_.hi, B r_.narrow] 58, cBlk ak [Pq ag] 112, cMk ([]), cMemI encSpt ah (zaa aa ab ac)], mix_upd rfl, H, ?_⟩
 refine sa_l (fun aj w_ H => (St.pick H [0, 1, 2, 3, 4, 5] (by decide) rfl)) rfl ?_
 intro g_ aj bj H
 replace H : St w bj (cBlk al [I 0, I 0, I 0, I 0] 61 :: cBlk ai [.func (.func 107) #[] #[]] 138 :: cBlk ae [I r_.up, I r_.down, I r_.lo, I r_.hi, B r_.narrow] 58 :: cBlk ak [Pq ag] 112 :: cMk ([]) :: cMemI encSpt ah (zaa aa ab ac) :: aj) R := H
 obtain ⟨bW, bm, hM⟩ := M.e_bind hM
 refine s_call cf59 [Pq ag, az, I r_.down] rfl (za6 aa ab ac marks r_.down (aD.app _) aJ (aE.app _) aK (aF.app _) aL (aG.app _) (aM.app _) aR bm _ (St.give (T := (cBlk al [I 0, I 0, I 0, I 0] 61 :: cBlk ai [.func (.func 107) #[] #[]] 138 :: cBlk ae [I r_.up, I r_.down, I r_.lo, I r_.hi, B r_.narrow] 58 :: cBlk ak [Pq ag] 112 :: cMk ([]) :: cMemI encSpt ah (zaa aa ab ac) :: aj)) H rfl)) ?_
 rintro vq bn ⟨ap, au, bo, hvq, ao⟩
 subst bo
 subst vq
 try dsimp only at hM
 replace H : St w bn (cBlk al [I 0, I 0, I 0, I 0] 61 :: cBlk ai [.func (.func 107) #[] #[]] 138 :: cBlk ae [I r_.up, I r_.down, I r_.lo, I r_.hi, B r_.narrow] 58 :: cBlk ak [Pq ag] 112 :: cMk ([]) :: cMemI encSpt ah (zaa aa ab ac) :: aj) R := H.back ao rfl
 clear ao
 refine s_nil ⟨(St.pick H [0, 1, 2, 3, 4, 5] (by decide) rfl), _, [cBlk al [I 0, I 0, I 0, I 0] 61, cBlk ai [.func (.func 107) #[] #[]] 138, cBlk ae [I r_.up, I r_.down, I r_.lo, I r_.hi, B r_.narrow] 58, cBlk ak [Pq ag] 112, cMk ([]), cMemI encSpt ah (zaa aa ab ac)], mix_upd rfl, H, ?_⟩
 refine sa_nil (fun aj w_ H => (St.pick H [0, 1, 2, 3, 4, 5] (by decide) rfl)) ?_
 intro am aq bp H
 replace H : St w bp [cBlk al [I 0, I 0, I 0, I 0] 61, cBlk ai [.func (.func 107) #[] #[]] 138, cBlk ae [I r_.up, I r_.down, I r_.lo, I r_.hi, B r_.narrow] 58, cBlk ak [Pq ag] 112, cMk ([]), cMemI encSpt ah (zaa aa ab ac), cBlk am [I 0, I 0] 54, cBlk aq [I 0, I 0] 54] R := (H)
 refine t_l rfl ?_
 refine t_sw 6 0 [I r0, I r1] (.agg #[I r0, I r1]) H rfl rfl Sz54 rfl rfl rfl rfl ?_
 intro bX H
 refine s_nil ⟨(St.pick H [0, 1, 2, 3, 4, 5] (by decide) rfl), ?_⟩
 refine t_l rfl ?_
 refine t_sw 7 0 [I ap, I au] (.agg #[I ap, I au]) H rfl rfl Sz54 rfl rfl rfl rfl ?_
 intro bY H
 refine s_nil ⟨(St.pick H [0, 1, 2, 3, 4, 5] (by decide) rfl), ?_⟩
 refine t_nil ?_
 refine WD.seq ?_
 refine WD.of ?_
 refine W.drawA (fun W => St w W [cBlk al [I 0, I 0, I 0, I 0] 61, cBlk ai [.func (.func 107) #[] #[]] 138, cBlk ae [I r_.up, I r_.down, I r_.lo, I r_.hi, B r_.narrow] 58, cBlk ak [Pq ag] 112, cMk ([]), cMemI encSpt ah (zaa aa ab ac), cBlk am [I r0, I r1] 54, cBlk aq [I ap, I au] 54] R) [(0, true), (1, true), (2, true), (3, true), (4, true), (5, false)] [(6, 12, 3, [I 0]), (7, 13, 4, [B false])] (.l 8 (.l 9 .nil)) 2 mixed (by decide +kernel) rfl (by intro x hx; simp only [List.mem_cons, List.not_mem_nil, or_false] at hx; rcases hx with rfl | rfl <;> first | exact ⟨_, _, _, rfl, _, Al3, rfl⟩ | exact ⟨_, _, _, rfl, _, Al4, rfl⟩) (by decide) (by decide) H ?_
 refine sa_q (fun aj w_ H => (St.pick H [0, 1, 2, 3, 4, 5, 6, 7] (by decide) rfl)) rfl rfl (fun g_ w' H => x_fa (a := Pq ae) (v := Oq ae 2) rfl (fa_blk (o := 0) Fd58_2 Sz54)) ?_
 refine sa_q (fun aj w_ H => (St.pick H [0, 1, 2, 3, 4, 5, 6, 7] (by decide) rfl)) rfl rfl (fun g_ w' H => x_fa (a := Oq ae 2) (v := Oq ae 2) rfl (fa_blk (o := 2) Fd54_0 Sz3)) ?_
 refine sa_q (fun aj w_ H => (St.pick H [0, 1, 2, 3, 4, 5, 6, 7] (by decide) rfl)) rfl rfl (fun g_ w' H => x_ld (p := Oq ae 2) (v := I r_.lo) rfl (ldb_sc Sc3 (H.bl 2) rfl)) ?_
 refine sa_q (fun aj w_ H => (St.pick H [0, 1, 2, 3, 4, 5, 6, 7] (by decide) rfl)) rfl rfl (fun g_ w' H => x_fa (a := Pq ai) (v := Pq ai) rfl (fa_blk (o := 0) Fd138_0 Sz116)) ?_
 refine sa_q (fun aj w_ H => (St.pick H [0, 1, 2, 3, 4, 5, 6, 7] (by decide) rfl)) rfl rfl (fun g_ w' H => x_ld (p := Pq ai) (v := .func (.func 107) #[] #[]) rfl (ldb_sc Sc116 (H.bl 1) rfl)) ?_
 refine sa_l (fun aj w_ H => (St.pick H [0, 1, 2, 3, 4, 5, 6, 7] (by decide) rfl)) rfl ?_
 intro g_ aj bq H
 replace H : St w bq (cBlk al [I 0, I 0, I 0, I 0] 61 :: cBlk ai [.func (.func 107) #[] #[]] 138 :: cBlk ae [I r_.up, I r_.down, I r_.lo, I r_.hi, B r_.narrow] 58 :: cBlk ak [Pq ag] 112 :: cMk ([]) :: cMemI encSpt ah (zaa aa ab ac) :: cBlk am [I r0, I r1] 54 :: cBlk aq [I ap, I au] 54 :: aj) R := H
 obtain ⟨bZ, br, hM⟩ := M.e_bind hM
 refine s_callv (f := 107) rfl cf107 [I 1, I 0] rfl (zco 1 0 br _ (St.give (T := (cBlk al [I 0, I 0, I 0, I 0] 61 :: cBlk ai [.func (.func 107) #[] #[]] 138 :: cBlk ae [I r_.up, I r_.down, I r_.lo, I r_.hi, B r_.narrow] 58 :: cBlk ak [Pq ag] 112 :: cMk ([]) :: cMemI encSpt ah (zaa aa ab ac) :: cBlk am [I r0, I r1] 54 :: cBlk aq [I ap, I au] 54 :: aj)) H rfl)) ?_
 rintro vq bt ⟨r2, bu, hvq, ao⟩
 subst bu
 subst vq
 try dsimp only at hM
 replace H : St w bt (cBlk al [I 0, I 0, I 0, I 0] 61 :: cBlk ai [.func (.func 107) #[] #[]] 138 :: cBlk ae [I r_.up, I r_.down, I r_.lo, I r_.hi, B r_.narrow] 58 :: cBlk ak [Pq ag] 112 :: cMk ([]) :: cMemI encSpt ah (zaa aa ab ac) :: cBlk am [I r0, I r1] 54 :: cBlk aq [I ap, I au] 54 :: aj) R := H.back ao rfl
 clear ao
 refine s_nil ⟨(St.pick H [0, 1, 2, 3, 4, 5, 6, 7] (by decide) rfl), _, [cBlk al [I 0, I 0, I 0, I 0] 61, cBlk ai [.func (.func 107) #[] #[]] 138, cBlk ae [I r_.up, I r_.down, I r_.lo, I r_.hi, B r_.narrow] 58, cBlk ak [Pq ag] 112, cMk ([]), cMemI encSpt ah (zaa aa ab ac), cBlk am [I r0, I r1] 54, cBlk aq [I ap, I au] 54], mix_upd rfl, H, ?_⟩
 refine sa_nil (fun aj w_ H => (St.pick H [0, 1, 2, 3, 4, 5, 6, 7] (by decide) rfl)) ?_
 intro ax ay bv H
 replace H : St w bv [cBlk al [I 0, I 0, I 0, I 0] 61, cBlk ai [.func (.func 107) #[] #[]] 138, cBlk ae [I r_.up, I r_.down, I r_.lo, I r_.hi, B r_.narrow] 58, cBlk ak [Pq ag] 112, cMk ([]), cMemI encSpt ah (zaa aa ab ac), cBlk am [I r0, I r1] 54, cBlk aq [I ap, I au] 54, cBlk ax [I 0] 3, cBlk ay [B false] 4] R := (H)
 refine t_l rfl ?_
 refine t_sw 8 0 [I r_.lo] (I r_.lo) H rfl rfl Sz3 rfl rfl rfl rfl ?_
 intro b3 H
 refine s_nil ⟨(St.pick H [0, 1, 2, 3, 4, 5, 6, 7] (by decide) rfl), ?_⟩
 refine t_l rfl ?_
 refine t_sw 9 0 [B r2] (B r2) H rfl rfl Sz4 rfl rfl rfl rfl ?_
 intro b4 H
 refine s_nil ⟨(St.pick H [0, 1, 2, 3, 4, 5, 6, 7] (by decide) rfl), ?_⟩
 refine t_nil ?_
 refine WD.seq ?_
 refine WD.seq ?_
 refine WD.of ?_
 refine W.region rfl ?_
 refine s_val (x_ld (p := Pq ay) (v := B r2) rfl (ldb_sc Sc4 (H.bl 9) rfl)) ?_
 refine s_val (x_not (b := r2) rfl) ?_
 refine s_nil ?_
 refine WD.cond (!r2) rfl (fun aS => ?_) (fun aS => ?_)
 ·replace hM := M.e_t hM aS
  exact (M.e_fail hM).elim
 replace hM := M.e_f hM aS
 refine WD.of ?_
 refine W.skip ?_
 refine WD.seq ?_
 refine WD.of ?_
 refine W.region rfl ?_
 refine t_alloc (cs := [I 0, I 0, I 0, I 0]) H Al61 rfl ?_
 intro av b5 H
 refine s_nil ?_
 refine WD.seq ?_
 refine WD.of ?_
 refine W.region rfl ?_
 refine t_alloc (cs := [I 0]) H Al3 rfl ?_
 intro aw b6 H
 refine t_sw 0 0 [I 0] (I 0) H rfl rfl Sz3 rfl rfl rfl rfl ?_
 intro b7 H
 refine s_nil ?_
 refine WD.seq ?_
 refine WD.seq ?_
 refine WD.of ?_
 refine W.draw (fun W => St w W [cBlk aw [I 0] 3, cBlk av [I 0, I 0, I 0, I 0] 61, cBlk al [I 0, I 0, I 0, I 0] 61, cBlk ai [.func (.func 107) #[] #[]] 138, cBlk ae [I r_.up, I r_.down, I r_.lo, I r_.hi, B r_.narrow] 58, cBlk ak [Pq ag] 112, cMk ([]), cMemI encSpt ah (zaa aa ab ac), cBlk am [I r0, I r1] 54, cBlk aq [I ap, I au] 54, cBlk ax [I r_.lo] 3, cBlk ay [B r2] 4] R) [(0, true), (1, true), (2, true), (3, true), (4, true), (5, true), (6, false), (7, false), (8, true), (9, false)] mixed (by decide +kernel) rfl ?_
 intro b8 aH
 replace H := H.ext aH
 clear aH
 refine ⟨(H.pk [0, 1, 2, 3, 4, 5, 6, 7, 8, 9, 10, 11]), ?_⟩
 refine d_q rfl (fun w' H => x_fa (a := Pq aq) (v := Pq aq) rfl (fa_blk (o := 0) Fd54_0 Sz3)) ?_
 refine d_q rfl (fun w' H => x_ld (p := Pq aq) (v := I ap) rfl (ldb_sc Sc3 (H.bl 9) rfl)) ?_
 refine d_q rfl (fun w' H => x_fa (a := Pq aq) (v := Oq aq 1) rfl (fa_blk (o := 0) Fd54_1 Sz3)) ?_
 refine d_q rfl (fun w' H => x_ld (p := Oq aq 1) (v := I au) rfl (ldb_sc Sc3 (H.bl 9) rfl)) ?_
 refine d_q rfl (fun w' H => x_fa (a := Pq am) (v := Oq am 1) rfl (fa_blk (o := 0) Fd54_1 Sz3)) ?_
 refine d_q rfl (fun w' H => x_ld (p := Oq am 1) (v := I r1) rfl (ldb_sc Sc3 (H.bl 8) rfl)) ?_
 refine d_l rfl ?_
 refine t_bs (α := Int) T28 [I r1] [(r1 : Int)] H rfl (.cons rfl (Flat.rep_enc _ (r1 : Int)) <| .nil) rfl rfl rfl ?_
 intro bw b9 H
 have cc := Sl.cells (H.os 0)
 have cd := Sl.oc (H.os 0)
 refine s_nil ⟨(H.pk [1, 2, 3, 4, 5, 6, 7, 8, 9, 10, 11, 12]), ?_⟩
 refine d_l rfl ?_
 obtain ⟨ce, bx, hM⟩ := M.e_bind hM
 refine s_call cf73 [I au, bw] rfl (zag au ([(r1 : Int)]) (rdo 0) (H.os 0) bx _ (H.gt 13)) ?_
 rintro vq cf ⟨r3, bz, hvq, ao⟩
 subst bz
 subst vq
 try dsimp only at hM
 replace H := H.bk ao
 clear ao
 refine s_nil ⟨(H.pk [1, 2, 3, 4, 5, 6, 7, 8, 9, 10, 11, 12]), ?_⟩
 refine d_q rfl (fun w' H => x_bld (ps := [(0, I ap), (1, I r3)]) (zs := [I 0, I 0]) (L' := [I ap, I r3]) rfl Tryz.underlying54 Al54 rfl (Bd54 Tryz.underlying54) (.cons (cs := [I ap]) rfl rfl rfl rfl rfl <| .cons (cs := [I r3]) rfl rfl rfl rfl rfl <| .nil)) ?_
 refine d_l rfl ?_
 obtain ⟨cg, bA, hM⟩ := M.e_bind hM
 refine s_call cf95 [.agg #[I ap, I r3]] rfl (zcm (⟨(ap : Int), (r3 : Int)⟩ : Span) bA _ (H.gt 13)) ?_
 rintro vq ch ⟨aA, aB, aC, bB, hvq, ao⟩
 subst bB
 subst vq
 try dsimp only at hM
 replace H := H.bk ao
 clear ao
 refine s_nil ⟨(H.pk [2, 3, 4, 5, 6, 7, 8, 9, 10, 11, 12, 13]), ?_⟩
 refine d_nil ?_
 replace H := H.pk [0, 2, 3, 4, 5, 6, 7, 8, 9, 10, 12, 13]
 refine WD.block ?_
 obtain ⟨ci, bC, hM⟩ := M.e_bind hM
 refine WD.range (L := [cBlk aw [I 0] 3, cBlk av [I 0, I 0, I 0, I 0] 61, cMemI encSpt ah (zaa aa ab ac), cBlk aC [I aA, I aB] 54, cBlk al [I 0, I 0, I 0, I 0] 61, cBlk ai [.func (.func 107) #[] #[]] 138, cBlk ae [I r_.up, I r_.down, I r_.lo, I r_.hi, B r_.narrow] 58, cBlk ak [Pq ag] 112, cBlk am [I r0, I r1] 54, cBlk ax [I r_.lo] 3, cBlk ay [B r2] 4]) [Pq aC] (H.pk [7, 1, 2, 8, 0, 3, 4, 5, 6, 9, 10, 11]) rfl cf119 ?_
 intro aN aO aT bD aU H
 have hYC : YieldC Tryz.prog ([cMk (aO :: ([])), cBlk aC [I aA, I aB] 54, cBlk al [I 0, I 0, I 0, I 0] 61, cBlk ai [.func (.func 107) #[] #[]] 138, cBlk ae [I r_.up, I r_.down, I r_.lo, I r_.hi, B r_.narrow] 58, cBlk ak [Pq ag] 112, cBlk am [I r0, I r1] 54, cBlk ax [I r_.lo] 3, cBlk ay [B r2] 4] ++ R) arI (yJ aN aT (fun (s, s2, s3, s4, s5) aP => aP = [cBlk aw [I s] 3, cBlk av [I s2, I s3, I s4, I s5] 61, cMemI encSpt ah (zaa aa ab ac)]) (fun (_ : Unit) _ => False) (fun _ => .ret)) (.func (.yield aN) #[] #[]) (M.yl (zat aa ab ac r_ r1 r2)) := by
  refine YieldC.mk aU (fun (s, s2, s3, s4, s5) aP => aP = [cBlk aw [I s] 3, cBlk av [I s2, I s3, I s4, I s5] 61, cMemI encSpt ah (zaa aa ab ac)]) (fun (_ : Unit) _ => False) (fun _ => .ret) (zat aa ab ac r_ r1 r2) (by rintro ⟨s, s2, s3, s4, s5⟩ _ h_; obtain ⟨rfl⟩ := h_; rfl) (fun _ _ h_ => h_.elim) rfl (arI_len rfl) ?_
  intro C_ cj x W_ bE
  obtain rfl := bE
  refine W.region rfl ?_
  refine zA (I x) rfl ?_
  refine s_nil ?_
  refine ⟨rfl, rfl, ?_⟩
  intro w R aI aP s_ r bF hM H
  obtain ⟨s, s2, s3, s4, s5⟩ := s_
  obtain ⟨rfl⟩ := bF
  replace aD := aD.sub aI
  replace aE := aE.sub aI
  replace aF := aF.sub aI
  replace aG := aG.sub aI
  replace aM := aM.sub aI
  replace hM : (zat aa ab ac r_ r1 r2 (s, s2, s3, s4, s5) x).Ends r := hM
  simp only [zat] at hM
  replace H := H.pk [0, 1, 2, 4, 5, 6, 7, 8, 9, 10, 11, 3]
  refine W.block ?_
  refine W.seq ?_
  refine W.region rfl ?_
  refine s_val (x_fa (a := Pq am) (v := Pq am) rfl (fa_blk (o := 0) Fd54_0 Sz3)) ?_
  refine s_val (x_ld (p := Pq am) (v := I r0) rfl (ldb_sc Sc3 (H.bl 8) rfl)) ?_
  refine zM (I x) rfl ?_
  refine s_val (x_max (kd := .i64) (a := r0) (b := x) rfl rfl) ?_
  refine zM (I x) rfl ?_
  refine s_val (x_ld (p := Pq ax) (v := I r_.lo) rfl (ldb_sc Sc3 (H.bl 9) rfl)) ?_
  refine s_val (x_ld (p := Pq ax) (v := I r_.lo) rfl (ldb_sc Sc3 (H.bl 9) rfl)) ?_
  refine s_val (x_bld (ps := [(0, I (max r0 x)), (1, I x), (2, I r_.lo), (3, I r_.lo)]) (zs := [I 0, I 0, I 0, I 0]) (L' := [I (max r0 x), I x, I r_.lo, I r_.lo]) rfl Tryz.underlying61 Al61 rfl (Bd61 Tryz.underlying61) (.cons (cs := [I (max r0 x)]) rfl rfl rfl rfl rfl <| .cons (cs := [I x]) rfl rfl rfl rfl rfl <| .cons (cs := [I r_.lo]) rfl rfl rfl rfl rfl <| .cons (cs := [I r_.lo]) rfl rfl rfl rfl rfl <| .nil)) ?_
  refine t_alloc (cs := [I 0, I 0, I 0, I 0]) H Al61 rfl ?_
  intro aQ ck H
  refine t_sw 0 0 [I (max r0 x), I x, I r_.lo, I r_.lo] (.agg #[I (max r0 x), I x, I r_.lo, I r_.lo]) H rfl rfl Sz61 rfl rfl rfl rfl ?_
  intro cn H
  refine s_nil ?_
  refine W.seq ?_
  refine W.seq ?_
  refine W.region rfl ?_
  refine s_val (x_ld (p := Pq ay) (v := B r2) rfl (ldb_sc Sc4 (H.bl 11) rfl)) ?_
  refine s_nil ?_
  refine W.cond r2 rfl (fun aV => ?_) (fun aV => ?_)
  ·replace hM := M.e_t hM aV
   refine W.region rfl ?_
   refine s_val (x_fa (a := Pq am) (v := Oq am 1) rfl (fa_blk (o := 0) Fd54_1 Sz3)) ?_
   refine s_val (x_ld (p := Oq am 1) (v := I r1) rfl (ldb_sc Sc3 (H.bl 9) rfl)) ?_
   refine s_val (x_fa (a := Pq aQ) (v := Pq aQ) rfl (fa_blk (o := 0) Fd61_0 Sz3)) ?_
   refine t_sw 0 0 [I r1] (I r1) H rfl rfl Sz3 rfl rfl rfl rfl ?_
   intro co H
   refine s_nil ?_
   refine W.seq ?_
   refine W.region rfl ?_
   refine s_val (x_ld (p := Pq ak) (v := Pq ag) rfl (ldb_sc Sc112 (H.bl 8) rfl)) ?_
   refine s_val (x_ld (p := Pq ae) (v := .agg #[I r_.up, I r_.down, I r_.lo, I r_.hi, B r_.narrow]) rfl (ldb_ag (ds := [I r_.up, I r_.down, I r_.lo, I r_.hi, B r_.narrow]) Ag58 Sz58 (H.bl 7) rfl rfl)) ?_
   refine s_val (x_ld (p := Pq aQ) (v := .agg #[I r1, I x, I r_.lo, I r_.lo]) rfl (ldb_ag (ds := [I r1, I x, I r_.lo, I r_.lo]) Ag61 Sz61 (H.bl 0) rfl rfl)) ?_
   obtain ⟨cp, bG, hM⟩ := M.e_bind hM
   refine s_call cf72 [Pq ag, .agg #[I r_.up, I r_.down, I r_.lo, I r_.hi, B r_.narrow], .agg #[I r1, I x, I r_.lo, I r_.lo]] rfl (zcf aa ab ac r_ (⟨(r1 : Int), (x : Int), (r_.lo : Int), (r_.lo : Int)⟩ : Cas) (aD.app _) aJ (aE.app _) aK (aF.app _) aL (aG.app _) bG _ ((H.pk [3, 0, 1, 2, 4, 5, 6, 7, 8, 9, 10, 11, 12]).gt 12)) ?_
   rintro vq cq ⟨r4, bH, hvq, ao⟩
   subst bH
   subst vq
   try dsimp only at hM
   replace H := H.pk [3, 0, 1, 2, 4, 5, 6, 7, 8, 9, 10, 11, 12] |>.bk ao
   clear ao
   refine zA (I r4) rfl ?_
   refine s_nil ?_
   refine W.seq ?_
   refine W.region rfl ?_
   refine s_val (x_ld (p := Pq av) (v := .agg #[I s2, I s3, I s4, I s5]) rfl (ldb_ag (ds := [I s2, I s3, I s4, I s5]) Ag61 Sz61 (H.bl 3) rfl rfl)) ?_
   refine s_val (x_bld (ps := []) (zs := [I 0, I 0, I 0, I 0]) (L' := [I 0, I 0, I 0, I 0]) rfl Tryz.underlying61 Al61 rfl (Bd61 Tryz.underlying61) (.nil)) ?_
   refine s_val (x_eqS (eqT61 (⟨(s2 : Int), (s3 : Int), (s4 : Int), (s5 : Int)⟩ : Cas) (⟨(0 : Int), (0 : Int), (0 : Int), (0 : Int)⟩ : Cas) _) gdT61 rfl rfl) ?_
   refine zM (B (decide ((⟨(s2 : Int), (s3 : Int), (s4 : Int), (s5 : Int)⟩ : Cas) = (⟨(0 : Int), (0 : Int), (0 : Int), (0 : Int)⟩ : Cas)))) rfl ?_
   refine g_val (!(decide ((⟨(s2 : Int), (s3 : Int), (s4 : Int), (s5 : Int)⟩ : Cas) = (⟨(0 : Int), (0 : Int), (0 : Int), (0 : Int)⟩ : Cas)))) (gy_f rfl) (fun hg => x_fa (a := Pq ai) (v := Pq ai) rfl (fa_blk (o := 0) Fd138_0 Sz116)) ?_
   refine g_val (!(decide ((⟨(s2 : Int), (s3 : Int), (s4 : Int), (s5 : Int)⟩ : Cas) = (⟨(0 : Int), (0 : Int), (0 : Int), (0 : Int)⟩ : Cas)))) (gy_f rfl) (fun hg => x_ld (p := Pq ai) (v := .func (.func 107) #[] #[]) (gd_of (c := !(decide ((⟨(s2 : Int), (s3 : Int), (s4 : Int), (s5 : Int)⟩ : Cas) = (⟨(0 : Int), (0 : Int), (0 : Int), (0 : Int)⟩ : Cas)))) hg (Pq ai)) (ldb_sc Sc116 (H.bl 6) rfl)) ?_
   refine g_val (!(decide ((⟨(s2 : Int), (s3 : Int), (s4 : Int), (s5 : Int)⟩ : Cas) = (⟨(0 : Int), (0 : Int), (0 : Int), (0 : Int)⟩ : Cas)))) (gy_f rfl) (fun hg => x_mv (v := I r4) rfl) ?_
   refine g_val (!(decide ((⟨(s2 : Int), (s3 : Int), (s4 : Int), (s5 : Int)⟩ : Cas) = (⟨(0 : Int), (0 : Int), (0 : Int), (0 : Int)⟩ : Cas)))) (gy_f rfl) (fun hg => x_ld (p := Pq aw) (v := I s) rfl (ldb_sc Sc3 (H.bl 2) rfl)) ?_
   obtain ⟨r5, bI, hM⟩ := M.e_bind hM
   refine t_gcallv (cap := []) (!(decide ((⟨(s2 : Int), (s3 : Int), (s4 : Int), (s5 : Int)⟩ : Cas) = (⟨(0 : Int), (0 : Int), (0 : Int), (0 : Int)⟩ : Cas)))) (gy_f rfl) cf107 (fun hg => (gd_of (c := !(decide ((⟨(s2 : Int), (s3 : Int), (s4 : Int), (s5 : Int)⟩ : Cas) = (⟨(0 : Int), (0 : Int), (0 : Int), (0 : Int)⟩ : Cas)))) hg (.func (.func 107) #[] #[]))) (B r5) (fun _ => [I r4, I s]) (fun hg => lst2 (gd_of (c := !(decide ((⟨(s2 : Int), (s3 : Int), (s4 : Int), (s5 : Int)⟩ : Cas) = (⟨(0 : Int), (0 : Int), (0 : Int), (0 : Int)⟩ : Cas)))) hg (I r4)) (gd_of (c := !(decide ((⟨(s2 : Int), (s3 : Int), (s4 : Int), (s5 : Int)⟩ : Cas) = (⟨(0 : Int), (0 : Int), (0 : Int), (0 : Int)⟩ : Cas)))) hg (I s))) H (fun hg => (zco r4 s (M.e_opt bI hg) _ (H.give (A := []) rfl)).mono fun v_ w_ ⟨y_, aW, bJ, H_⟩ => by subst aW; exact ⟨bJ, H.via H_⟩) ?_
   intro cr H
   refine s_val (x_por (b := decide ((⟨(s2 : Int), (s3 : Int), (s4 : Int), (s5 : Int)⟩ : Cas) = (⟨(0 : Int), (0 : Int), (0 : Int), (0 : Int)⟩ : Cas))) (r := r5) rfl rfl (fun hb => gd_of (c := !(decide ((⟨(s2 : Int), (s3 : Int), (s4 : Int), (s5 : Int)⟩ : Cas) = (⟨(0 : Int), (0 : Int), (0 : Int), (0 : Int)⟩ : Cas)))) (by first | exact hb | (rw [hb]; rfl) | simp_all) (B r5))) ?_
   refine s_nil ?_
   refine W.cond ((decide ((⟨(s2 : Int), (s3 : Int), (s4 : Int), (s5 : Int)⟩ : Cas) = (⟨(0 : Int), (0 : Int), (0 : Int), (0 : Int)⟩ : Cas))) || r5) rfl (fun aX => ?_) (fun aX => ?_)
   ·replace hM := M.e_t hM aX
    refine W.region rfl ?_
    refine s_val (x_ld (p := Pq aQ) (v := .agg #[I r1, I x, I r_.lo, I r_.lo]) rfl (ldb_ag (ds := [I r1, I x, I r_.lo, I r_.lo]) Ag61 Sz61 (H.bl 1) rfl rfl)) ?_
    refine zM (I r4) rfl ?_
    refine t_sw 3 0 [I r1, I x, I r_.lo, I r_.lo] (.agg #[I r1, I x, I r_.lo, I r_.lo]) H rfl rfl Sz61 rfl rfl rfl rfl ?_
    intro ct H
    refine t_sw 2 0 [I r4] (I r4) H rfl rfl Sz3 rfl rfl rfl rfl ?_
    intro cu H
    refine s_nil ?_
    exact ⟨(r4, r1, x, r_.lo, r_.lo), [cBlk aw [I r4] 3, cBlk av [I r1, I x, I r_.lo, I r_.lo] 61, cMemI encSpt ah (zaa aa ab ac)], (M.e_pure hM).symm, rfl, H.pick [2, 3, 0, 12, 4, 5, 6, 7, 8, 9, 10, 11] (by decide) rfl⟩
   replace hM := M.e_f hM aX
   refine W.skip ?_
   exact ⟨(s, s2, s3, s4, s5), [cBlk aw [I s] 3, cBlk av [I s2, I s3, I s4, I s5] 61, cMemI encSpt ah (zaa aa ab ac)], (M.e_pure hM).symm, rfl, H.pick [2, 3, 0, 12, 4, 5, 6, 7, 8, 9, 10, 11] (by decide) rfl⟩
  replace hM := M.e_f hM aV
  exact (M.e_fail hM).elim
 replace H : St w bD (cAll (cObj aN (.loop aT) :: [cBlk aw [I 0] 3, cBlk av [I 0, I 0, I 0, I 0] 61, cMemI encSpt ah (zaa aa ab ac)]) :: [cMk (aO :: ([])), cBlk aC [I aA, I aB] 54, cBlk al [I 0, I 0, I 0, I 0] 61, cBlk ai [.func (.func 107) #[] #[]] 138, cBlk ae [I r_.up, I r_.down, I r_.lo, I r_.hi, B r_.narrow] 58, cBlk ak [Pq ag] 112, cBlk am [I r0, I r1] 54, cBlk ax [I r_.lo] 3, cBlk ay [B r2] 4]) R := St.bundleB (A := cObj aN (.loop aT) :: [cBlk aw [I 0] 3, cBlk av [I 0, I 0, I 0, I 0] 61, cMemI encSpt ah (zaa aa ab ac)]) (T := [cMk (aO :: ([])), cBlk aC [I aA, I aB] 54, cBlk al [I 0, I 0, I 0, I 0] 61, cBlk ai [.func (.func 107) #[] #[]] 138, cBlk ae [I r_.up, I r_.down, I r_.lo, I r_.hi, B r_.narrow] 58, cBlk ak [Pq ag] 112, cBlk am [I r0, I r1] 54, cBlk ax [I r_.lo] 3, cBlk ay [B r2] 4]) rfl (H.pk [0, 2, 3, 4, 1, 5, 6, 7, 8, 9, 10, 11, 12])
 refine (zcA (M.yl (zat aa ab ac r_ r1 r2)) (.inl (0, 0, 0, 0, 0)) aA aB hYC ⟨_, rfl, rfl⟩ (Has.here (k := 1) rfl) bC _ (H.gt 9)).mono ?_
 rintro vq cv ⟨bK, cw, bL, hvq, ao, bc⟩
 subst bL
 replace H := H.back ao rfl
 clear ao hYC
 rcases bK with ⟨s, s2, s3, s4, s5⟩ | _
 ·try dsimp only at hM
  obtain ⟨_, rfl, rfl⟩ := bc
  refine ⟨_, [cBlk aw [I s] 3, cBlk av [I s2, I s3, I s4, I s5] 61, cMemI encSpt ah (zaa aa ab ac), cBlk aC [I aA, I aB] 54, cBlk al [I 0, I 0, I 0, I 0] 61, cBlk ai [.func (.func 107) #[] #[]] 138, cBlk ae [I r_.up, I r_.down, I r_.lo, I r_.hi, B r_.narrow] 58, cBlk ak [Pq ag] 112, cBlk am [I r0, I r1] 54, cBlk ax [I r_.lo] 3, cBlk ay [B r2] 4], H.unbundle.pick [0, 4, 1, 2, 3, 5, 6, 7, 8, 9, 10, 11, 12] (by decide) rfl, aU.nb, ?_⟩
  intro cx H
  rw [aU.pd]
  replace H := H.nf
  try simp only []
  replace H := H.pk [0, 1, 2, 3, 5]
  refine WD.seq ?_
  refine WD.of ?_
  refine W.draw (fun W => St w W [cMk (aO :: ([])), cBlk aw [I s] 3, cBlk av [I s2, I s3, I s4, I s5] 61, cMemI encSpt ah (zaa aa ab ac)] R) [(0, true), (1, true), (2, false), (3, true)] mixed (by decide +kernel) rfl ?_
  intro cy aH
  replace H := H.ext aH
  clear aH
  refine ⟨(H.pk [0, 1, 2, 3]), ?_⟩
  refine d_q rfl (fun w' H => x_ld (p := Pq av) (v := .agg #[I s2, I s3, I s4, I s5]) rfl (ldb_ag (ds := [I s2, I s3, I s4, I s5]) Ag61 Sz61 (H.bl 2) rfl rfl)) ?_
  refine d_q rfl (fun w' H => x_ld (p := Pq aw) (v := I s) rfl (ldb_sc Sc3 (H.bl 1) rfl)) ?_
  refine d_l rfl ?_
  refine t_sw 4 0 [I s2, I s3, I s4, I s5] (.agg #[I s2, I s3, I s4, I s5]) H rfl rfl Sz61 rfl rfl rfl rfl ?_
  intro cz H
  refine s_nil ⟨(H.pk [0, 1, 2, 3]), ?_⟩
  refine d_q rfl (fun w' H => x_as (v := I s) rfl) ?_
  refine d_nil ?_
  replace H := H.pk [0, 3, 4]
  refine WD.of ?_
  refine W.ret ?_
  refine bodyD_r (H.pk [0, 1, 2]) ?_
  intro cA H
  replace H := H.nf
  have bM := (H.bl 1)
  have aW := M.e_pure hM
  exact ⟨_, (resE_ofn (vs := [.agg #[I s2, I s3, I s4, I s5], I s]) rfl rfl (.cell (v := .agg #[I s2, I s3, I s4, I s5]) rfl (run_loadVar_ag (ds := [I s2, I s3, I s4, I s5]) Ag61 Sz61 bM rfl rfl) <| .tmp (v := I s) rfl <| .nil)), ⟨s2, s3, s4, s5, s, aW, rfl, (H.pk [0])⟩⟩
 obtain ⟨_, _, h_⟩ := bc; exact h_.elim

def zaA (aa : List Sect) (ab : List Mrk) (ac : List Rch) (marks : List Int) (r_ : Rch) : M (Int × Int) :=
  M.bind (zb1) fun (_ : Unit) =>
  M.bind (zaL aa ab ac marks r_) fun (ag, ah, ai, aj, r1) =>
  M.bind (zcc) fun (_ : Unit) =>
  M.bind (za2 aa ab ac marks r_) fun (ak, al, am, ao, ae) =>
  M.pure (r1, ae)
theorem zbQ {R : List Chunk} {am : Nat} {aL : Cells} {aM : Value} {aN : Cells} {aO : Value} {aP : Cells} {aQ : Value} {aK : Nat} {aR : Cells} {ao : Value} (aq : List Sect) (au : List Mrk) (av : List Rch) (marks : List Int) (r_ : Rch) (aw : Reads R aL) (ax : Sl aL aM aq) (ay : Reads R aN) (az : Sl aN aO au) (aA : Reads R aP) (aB : Sl aP aQ av) (aC : Has R (cBlk am [aM, aO, aQ, .map (some aK)] 177)) (aD : Reads R aR) (aE : Sl aR ao marks) {r : (Int × Int)} (hM : (zaA aq au av marks r_).Ends r) (w : World) (H : St w w [cMemI encSpt aK (zaa aq au av)] R) : Ret Tryz.prog 66 #[Pq am, ao, .agg #[I r_.up, I r_.down, I r_.lo, I r_.hi, B r_.narrow]] w fun v w' => ∃ (y0 : Int) (y1 : Int), (y0, y1) = r /\ v = .agg #[I y0, I y1] /\ St w w' [cMemI encSpt aK (zaa aq au av)] R := by
 refine ret_of_W Tryz.func66 rfl rfl rfl ?_
 refine W.seq ?_
 refine W.region rfl ?_
 refine t_box (v := .agg #[I r_.up, I r_.down, I r_.lo, I r_.hi, B r_.narrow]) (cs := [I r_.up, I r_.down, I r_.lo, I r_.hi, B r_.narrow]) H rfl rfl ?_
 intro aG bS H
 refine t_alloc (cs := [I 0, I 0]) H Al54 rfl ?_
 intro aJ bT H
 refine s_nil ?_
 refine W.seq ?_
 refine W.drawT (fun W => St w W [cBlk aJ [I 0, I 0] 54, cBlk aG [I r_.up, I r_.down, I r_.lo, I r_.hi, B r_.narrow] 58] R) (.q 0 (.q 1 (.q 2 (.l2 3 (.l2 4 (.q 5 (.q 6 (.q 7 (.l 8 (.l 9 (.q 10 .nil)))))) 8 (.l 4 (.q 5 (.q 6 (.q 7 (.l 9 (.q 10 .nil))))))) 8 (.l 3 (.l 4 (.q 5 (.q 6 (.q 7 (.l 9 (.q 10 .nil))))))))))) mixed (by decide +kernel) rfl ?_
 intro bU aF
 replace H := H.ext aF
 clear aF
 refine ⟨(H.pk [0, 1]), ?_⟩
 refine t_q rfl (fun w' H => x_mv (v := Pq am) rfl) ?_
 refine t_q rfl (fun w' H => x_mv (v := ao) rfl) ?_
 refine t_q rfl (fun w' H => x_ld (p := Pq aG) (v := .agg #[I r_.up, I r_.down, I r_.lo, I r_.hi, B r_.narrow]) rfl (ldb_ag (ds := [I r_.up, I r_.down, I r_.lo, I r_.hi, B r_.narrow]) Ag58 Sz58 (H.bl 1) rfl rfl)) ?_
 refine t_l2 rfl rfl ?_ ?_
 ·skip
  obtain ⟨bV, aS, hM⟩ := M.e_bind hM
  refine s_call cf67 [] rfl (zcw aS _ (H.gt 3)) ?_
  rintro vq bW ⟨aT, hvq, ah⟩
  subst aT
  subst vq
  try dsimp only at hM
  replace H := H.bk ah
  clear ah
  refine s_nil ⟨(H.pk [0, 1]), ?_⟩
  refine t_l2 rfl rfl ?_ ?_
  ·skip
   obtain ⟨bX, aU, hM⟩ := M.e_bind hM
   refine s_call cf69 [Pq am, ao, .agg #[I r_.up, I r_.down, I r_.lo, I r_.hi, B r_.narrow], .agg #[.func (.func 106) #[] #[]]] rfl (zbX aq au av marks r_ (aw.app _) ax (ay.app _) az (aA.app _) aB (aC.app _) (aD.app _) aE aU _ ((H.pk [2, 0, 1]).gt 2)) ?_
   rintro vq bY ⟨ai, aj, ak, al, r1, aV, hvq, ah⟩
   subst aV
   subst vq
   try dsimp only at hM
   replace H := H.pk [2, 0, 1] |>.bk ah
   clear ah
   refine s_nil ⟨(H.pk [1, 2]), ?_⟩
   refine t_q rfl (fun w' H => x_mv (v := .tuple #[.agg #[I ai, I aj, I ak, I al], I r1]) rfl) ?_
   refine t_q rfl (fun w' H => x_ext (vs := [.agg #[I ai, I aj, I ak, I al], I r1]) (v := .agg #[I ai, I aj, I ak, I al]) rfl rfl) ?_
   refine t_q rfl (fun w' H => x_ext (vs := [.agg #[I ai, I aj, I ak, I al], I r1]) (v := I r1) rfl rfl) ?_
   refine t_l rfl ?_
   refine t_alloc (cs := [I 0, I 0, I 0, I 0]) H Al61 rfl ?_
   intro aI bZ H
   refine s_nil ⟨(H.pk [2, 3]), ?_⟩
   refine t_l rfl ?_
   refine t_sw 0 0 [I ai, I aj, I ak, I al] (.agg #[I ai, I aj, I ak, I al]) H rfl rfl Sz61 rfl rfl rfl rfl ?_
   intro b3 H
   refine s_nil ⟨(H.pk [2, 3]), ?_⟩
   refine t_q rfl (fun w' H => x_as (v := I r1) rfl) ?_
   refine t_nil ?_
   refine W.seq ?_
   refine W.drawT (fun W => St w W [cBlk aI [I ai, I aj, I ak, I al] 61, cBlk aJ [I 0, I 0] 54, cBlk aG [I r_.up, I r_.down, I r_.lo, I r_.hi, B r_.narrow] 58] R) (.q 0 (.q 1 (.q 2 (.l2 3 (.l2 4 (.q 5 (.q 6 (.q 7 (.l 8 (.l 9 (.q 10 .nil)))))) 8 (.l 4 (.q 5 (.q 6 (.q 7 (.l 9 (.q 10 .nil))))))) 8 (.l 3 (.l 4 (.q 5 (.q 6 (.q 7 (.l 9 (.q 10 .nil))))))))))) mixed (by decide +kernel) rfl ?_
   intro b4 aF
   replace H := H.ext aF
   clear aF
   refine ⟨(H.pk [0, 2, 3]), ?_⟩
   refine t_q rfl (fun w' H => x_mv (v := Pq am) rfl) ?_
   refine t_q rfl (fun w' H => x_mv (v := ao) rfl) ?_
   refine t_q rfl (fun w' H => x_ld (p := Pq aG) (v := .agg #[I r_.up, I r_.down, I r_.lo, I r_.hi, B r_.narrow]) rfl (ldb_ag (ds := [I r_.up, I r_.down, I r_.lo, I r_.hi, B r_.narrow]) Ag58 Sz58 (H.bl 2) rfl rfl)) ?_
   refine t_l2 rfl rfl ?_ ?_
   ·skip
    obtain ⟨b5, aW, hM⟩ := M.e_bind hM
    refine s_call cf68 [] rfl (zaz aW _ (H.gt 4)) ?_
    rintro vq b6 ⟨aX, hvq, ah⟩
    subst aX
    subst vq
    try dsimp only at hM
    replace H := H.bk ah
    clear ah
    refine s_nil ⟨(H.pk [0, 2, 3]), ?_⟩
    refine t_l2 rfl rfl ?_ ?_
    ·skip
     obtain ⟨b7, aY, hM⟩ := M.e_bind hM
     refine s_call cf69 [Pq am, ao, .agg #[I r_.up, I r_.down, I r_.lo, I r_.hi, B r_.narrow], .agg #[.func (.func 107) #[] #[]]] rfl (zam aq au av marks r_ (aw.app _) ax (ay.app _) az (aA.app _) aB (aC.app _) (aD.app _) aE aY _ ((H.pk [1, 0, 2, 3]).gt 3)) ?_
     rintro vq b8 ⟨ab, ac, ae, ag, aa, aZ, hvq, ah⟩
     subst aZ
     subst vq
     try dsimp only at hM
     replace H := H.pk [1, 0, 2, 3] |>.bk ah
     clear ah
     refine s_nil ⟨(H.pk [1, 2, 3]), ?_⟩
     refine t_q rfl (fun w' H => x_mv (v := .tuple #[.agg #[I ab, I ac, I ae, I ag], I aa]) rfl) ?_
     refine t_q rfl (fun w' H => x_ext (vs := [.agg #[I ab, I ac, I ae, I ag], I aa]) (v := .agg #[I ab, I ac, I ae, I ag]) rfl rfl) ?_
     refine t_q rfl (fun w' H => x_ext (vs := [.agg #[I ab, I ac, I ae, I ag], I aa]) (v := I aa) rfl rfl) ?_
     refine t_l rfl ?_
     refine t_alloc (cs := [I 0, I 0, I 0, I 0]) H Al61 rfl ?_
     intro aH b9 H
     refine s_nil ⟨(H.pk [2, 3, 4]), ?_⟩
     refine t_l rfl ?_
     refine t_sw 0 0 [I ab, I ac, I ae, I ag] (.agg #[I ab, I ac, I ae, I ag]) H rfl rfl Sz61 rfl rfl rfl rfl ?_
     intro cc H
     refine s_nil ⟨(H.pk [2, 3, 4]), ?_⟩
     refine t_q rfl (fun w' H => x_as (v := I aa) rfl) ?_
     refine t_nil ?_
     replace H := H.pk [1, 3]
     refine W.seq ?_
     refine W.region rfl ?_
     refine zM (I r1) rfl ?_
     refine zM (I aa) rfl ?_
     refine s_val (x_bld (ps := [(0, I r1), (1, I aa)]) (zs := [I 0, I 0]) (L' := [I r1, I aa]) rfl Tryz.underlying54 Al54 rfl (Bd54 Tryz.underlying54) (.cons (cs := [I r1]) rfl rfl rfl rfl rfl <| .cons (cs := [I aa]) rfl rfl rfl rfl rfl <| .nil)) ?_
     refine t_sw 1 0 [I r1, I aa] (.agg #[I r1, I aa]) H rfl rfl Sz54 rfl rfl rfl rfl ?_
     intro cd H
     refine s_nil ?_
     refine W.ret ?_
     have a6 := (H.bl 1)
     have ap := M.e_pure hM
     exact ⟨_, (resE_of1 (v := .agg #[I r1, I aa]) rfl (.cell (v := .agg #[I r1, I aa]) rfl (run_loadVar_ag (ds := [I r1, I aa]) Ag54 Sz54 a6 rfl rfl) <| .nil)), ⟨r1, aa, ap, rfl, (H.pk [0])⟩⟩
    skip
    refine t_alloc (cs := [I 0, I 0, I 0, I 0]) H Al61 rfl ?_
    intro aH ce H
    refine s_nil ⟨(H.pk [1, 3, 4]), ?_⟩
    refine t_l rfl ?_
    obtain ⟨cf, a7, hM⟩ := M.e_bind hM
    refine s_call cf69 [Pq am, ao, .agg #[I r_.up, I r_.down, I r_.lo, I r_.hi, B r_.narrow], .agg #[.func (.func 107) #[] #[]]] rfl (zam aq au av marks r_ (aw.app _) ax (ay.app _) az (aA.app _) aB (aC.app _) (aD.app _) aE a7 _ ((H.pk [2, 0, 1, 3, 4]).gt 4)) ?_
    rintro vq cg ⟨ab, ac, ae, ag, aa, a8, hvq, ah⟩
    subst a8
    subst vq
    try dsimp only at hM
    replace H := H.pk [2, 0, 1, 3, 4] |>.bk ah
    clear ah
    refine s_nil ⟨(H.pk [2, 3, 4]), ?_⟩
    refine t_q rfl (fun w' H => x_mv (v := .tuple #[.agg #[I ab, I ac, I ae, I ag], I aa]) rfl) ?_
    refine t_q rfl (fun w' H => x_ext (vs := [.agg #[I ab, I ac, I ae, I ag], I aa]) (v := .agg #[I ab, I ac, I ae, I ag]) rfl rfl) ?_
    refine t_q rfl (fun w' H => x_ext (vs := [.agg #[I ab, I ac, I ae, I ag], I aa]) (v := I aa) rfl rfl) ?_
    refine t_l rfl ?_
    refine t_sw 1 0 [I ab, I ac, I ae, I ag] (.agg #[I ab, I ac, I ae, I ag]) H rfl rfl Sz61 rfl rfl rfl rfl ?_
    intro ch H
    refine s_nil ⟨(H.pk [2, 3, 4]), ?_⟩
    refine t_q rfl (fun w' H => x_as (v := I aa) rfl) ?_
    refine t_nil ?_
    replace H := H.pk [0, 3]
    refine W.seq ?_
    refine W.region rfl ?_
    refine zM (I r1) rfl ?_
    refine zM (I aa) rfl ?_
    refine s_val (x_bld (ps := [(0, I r1), (1, I aa)]) (zs := [I 0, I 0]) (L' := [I r1, I aa]) rfl Tryz.underlying54 Al54 rfl (Bd54 Tryz.underlying54) (.cons (cs := [I r1]) rfl rfl rfl rfl rfl <| .cons (cs := [I aa]) rfl rfl rfl rfl rfl <| .nil)) ?_
    refine t_sw 1 0 [I r1, I aa] (.agg #[I r1, I aa]) H rfl rfl Sz54 rfl rfl rfl rfl ?_
    intro ci H
    refine s_nil ?_
    refine W.ret ?_
    have ba := (H.bl 1)
    have ap := M.e_pure hM
    exact ⟨_, (resE_of1 (v := .agg #[I r1, I aa]) rfl (.cell (v := .agg #[I r1, I aa]) rfl (run_loadVar_ag (ds := [I r1, I aa]) Ag54 Sz54 ba rfl rfl) <| .nil)), ⟨r1, aa, ap, rfl, (H.pk [0])⟩⟩
   skip
   refine t_alloc (cs := [I 0, I 0, I 0, I 0]) H Al61 rfl ?_
   intro aH cj H
   refine s_nil ⟨(H.pk [1, 3, 4]), ?_⟩
   refine t_l rfl ?_
   obtain ⟨ck, bb, hM⟩ := M.e_bind hM
   refine s_call cf68 [] rfl (zaz bb _ (H.gt 5)) ?_
   rintro vq cn ⟨bc, hvq, ah⟩
   subst bc
   subst vq
   try dsimp only at hM
   replace H := H.bk ah
   clear ah
   refine s_nil ⟨(H.pk [1, 3, 4]), ?_⟩
   refine t_l rfl ?_
   obtain ⟨co, bf, hM⟩ := M.e_bind hM
   refine s_call cf69 [Pq am, ao, .agg #[I r_.up, I r_.down, I r_.lo, I r_.hi, B r_.narrow], .agg #[.func (.func 107) #[] #[]]] rfl (zam aq au av marks r_ (aw.app _) ax (ay.app _) az (aA.app _) aB (aC.app _) (aD.app _) aE bf _ ((H.pk [2, 0, 1, 3, 4]).gt 4)) ?_
   rintro vq cp ⟨ab, ac, ae, ag, aa, bg, hvq, ah⟩
   subst bg
   subst vq
   try dsimp only at hM
   replace H := H.pk [2, 0, 1, 3, 4] |>.bk ah
   clear ah
   refine s_nil ⟨(H.pk [2, 3, 4]), ?_⟩
   refine t_q rfl (fun w' H => x_mv (v := .tuple #[.agg #[I ab, I ac, I ae, I ag], I aa]) rfl) ?_
   refine t_q rfl (fun w' H => x_ext (vs := [.agg #[I ab, I ac, I ae, I ag], I aa]) (v := .agg #[I ab, I ac, I ae, I ag]) rfl rfl) ?_
   refine t_q rfl (fun w' H => x_ext (vs := [.agg #[I ab, I ac, I ae, I ag], I aa]) (v := I aa) rfl rfl) ?_
   refine t_l rfl ?_
   refine t_sw 1 0 [I ab, I ac, I ae, I ag] (.agg #[I ab, I ac, I ae, I ag]) H rfl rfl Sz61 rfl rfl rfl rfl ?_
   intro cq H
   refine s_nil ⟨(H.pk [2, 3, 4]), ?_⟩
   refine t_q rfl (fun w' H => x_as (v := I aa) rfl) ?_
   refine t_nil ?_
   replace H := H.pk [0, 3]
   refine W.seq ?_
   refine W.region rfl ?_
   refine zM (I r1) rfl ?_
   refine zM (I aa) rfl ?_
   refine s_val (x_bld (ps := [(0, I r1), (1, I aa)]) (zs := [I 0, I 0]) (L' := [I r1, I aa]) rfl Tryz.underlying54 Al54 rfl (Bd54 Tryz.underlying54) (.cons (cs := [I r1]) rfl rfl rfl rfl rfl <| .cons (cs := [I aa]) rfl rfl rfl rfl rfl <| .nil)) ?_
   refine t_sw 1 0 [I r1, I aa] (.agg #[I r1, I aa]) H rfl rfl Sz54 rfl rfl rfl rfl ?_
   intro cr H
   refine s_nil ?_
   refine W.ret ?_
   have bh := (H.bl 1)
   have ap := M.e_pure hM
   exact ⟨_, (resE_of1 (v := .agg #[I r1, I aa]) rfl (.cell (v := .agg #[I r1, I aa]) rfl (run_loadVar_ag (ds := [I r1, I aa]) Ag54 Sz54 bh rfl rfl) <| .nil)), ⟨r1, aa, ap, rfl, (H.pk [0])⟩⟩
  skip
  refine t_alloc (cs := [I 0, I 0, I 0, I 0]) H Al61 rfl ?_
  intro aI ct H
  refine s_nil ⟨(H.pk [1, 2]), ?_⟩
  refine t_l rfl ?_
  obtain ⟨cu, bi, hM⟩ := M.e_bind hM
  refine s_call cf69 [Pq am, ao, .agg #[I r_.up, I r_.down, I r_.lo, I r_.hi, B r_.narrow], .agg #[.func (.func 106) #[] #[]]] rfl (zbX aq au av marks r_ (aw.app _) ax (ay.app _) az (aA.app _) aB (aC.app _) (aD.app _) aE bi _ ((H.pk [3, 0, 1, 2]).gt 3)) ?_
  rintro vq cv ⟨ai, aj, ak, al, r1, bj, hvq, ah⟩
  subst bj
  subst vq
  try dsimp only at hM
  replace H := H.pk [3, 0, 1, 2] |>.bk ah
  clear ah
  refine s_nil ⟨(H.pk [2, 3]), ?_⟩
  refine t_q rfl (fun w' H => x_mv (v := .tuple #[.agg #[I ai, I aj, I ak, I al], I r1]) rfl) ?_
  refine t_q rfl (fun w' H => x_ext (vs := [.agg #[I ai, I aj, I ak, I al], I r1]) (v := .agg #[I ai, I aj, I ak, I al]) rfl rfl) ?_
  refine t_q rfl (fun w' H => x_ext (vs := [.agg #[I ai, I aj, I ak, I al], I r1]) (v := I r1) rfl rfl) ?_
  refine t_l rfl ?_
  refine t_sw 1 0 [I ai, I aj, I ak, I al] (.agg #[I ai, I aj, I ak, I al]) H rfl rfl Sz61 rfl rfl rfl rfl ?_
  intro cw H
  refine s_nil ⟨(H.pk [2, 3]), ?_⟩
  refine t_q rfl (fun w' H => x_as (v := I r1) rfl) ?_
  refine t_nil ?_
  refine W.seq ?_
  refine W.drawT (fun W => St w W [cBlk aI [I ai, I aj, I ak, I al] 61, cBlk aJ [I 0, I 0] 54, cBlk aG [I r_.up, I r_.down, I r_.lo, I r_.hi, B r_.narrow] 58] R) (.q 0 (.q 1 (.q 2 (.l2 3 (.l2 4 (.q 5 (.q 6 (.q 7 (.l 8 (.l 9 (.q 10 .nil)))))) 8 (.l 4 (.q 5 (.q 6 (.q 7 (.l 9 (.q 10 .nil))))))) 8 (.l 3 (.l 4 (.q 5 (.q 6 (.q 7 (.l 9 (.q 10 .nil))))))))))) mixed (by decide +kernel) rfl ?_
  intro cx aF
  replace H := H.ext aF
  clear aF
  refine ⟨(H.pk [1, 2, 3]), ?_⟩
  refine t_q rfl (fun w' H => x_mv (v := Pq am) rfl) ?_
  refine t_q rfl (fun w' H => x_mv (v := ao) rfl) ?_
  refine t_q rfl (fun w' H => x_ld (p := Pq aG) (v := .agg #[I r_.up, I r_.down, I r_.lo, I r_.hi, B r_.narrow]) rfl (ldb_ag (ds := [I r_.up, I r_.down, I r_.lo, I r_.hi, B r_.narrow]) Ag58 Sz58 (H.bl 2) rfl rfl)) ?_
  refine t_l2 rfl rfl ?_ ?_
  ·skip
   obtain ⟨cy, bm, hM⟩ := M.e_bind hM
   refine s_call cf68 [] rfl (zaz bm _ (H.gt 4)) ?_
   rintro vq cz ⟨bn, hvq, ah⟩
   subst bn
   subst vq
   try dsimp only at hM
   replace H := H.bk ah
   clear ah
   refine s_nil ⟨(H.pk [1, 2, 3]), ?_⟩
   refine t_l2 rfl rfl ?_ ?_
   ·skip
    obtain ⟨cA, bo, hM⟩ := M.e_bind hM
    refine s_call cf69 [Pq am, ao, .agg #[I r_.up, I r_.down, I r_.lo, I r_.hi, B r_.narrow], .agg #[.func (.func 107) #[] #[]]] rfl (zam aq au av marks r_ (aw.app _) ax (ay.app _) az (aA.app _) aB (aC.app _) (aD.app _) aE bo _ (H.gt 3)) ?_
    rintro vq cB ⟨ab, ac, ae, ag, aa, bp, hvq, ah⟩
    subst bp
    subst vq
    try dsimp only at hM
    replace H := H.bk ah
    clear ah
    refine s_nil ⟨(H.pk [1, 2, 3]), ?_⟩
    refine t_q rfl (fun w' H => x_mv (v := .tuple #[.agg #[I ab, I ac, I ae, I ag], I aa]) rfl) ?_
    refine t_q rfl (fun w' H => x_ext (vs := [.agg #[I ab, I ac, I ae, I ag], I aa]) (v := .agg #[I ab, I ac, I ae, I ag]) rfl rfl) ?_
    refine t_q rfl (fun w' H => x_ext (vs := [.agg #[I ab, I ac, I ae, I ag], I aa]) (v := I aa) rfl rfl) ?_
    refine t_l rfl ?_
    refine t_alloc (cs := [I 0, I 0, I 0, I 0]) H Al61 rfl ?_
    intro aH cC H
    refine s_nil ⟨(H.pk [2, 3, 4]), ?_⟩
    refine t_l rfl ?_
    refine t_sw 0 0 [I ab, I ac, I ae, I ag] (.agg #[I ab, I ac, I ae, I ag]) H rfl rfl Sz61 rfl rfl rfl rfl ?_
    intro cD H
    refine s_nil ⟨(H.pk [2, 3, 4]), ?_⟩
    refine t_q rfl (fun w' H => x_as (v := I aa) rfl) ?_
    refine t_nil ?_
    replace H := H.pk [1, 3]
    refine W.seq ?_
    refine W.region rfl ?_
    refine zM (I r1) rfl ?_
    refine zM (I aa) rfl ?_
    refine s_val (x_bld (ps := [(0, I r1), (1, I aa)]) (zs := [I 0, I 0]) (L' := [I r1, I aa]) rfl Tryz.underlying54 Al54 rfl (Bd54 Tryz.underlying54) (.cons (cs := [I r1]) rfl rfl rfl rfl rfl <| .cons (cs := [I aa]) rfl rfl rfl rfl rfl <| .nil)) ?_
    refine t_sw 1 0 [I r1, I aa] (.agg #[I r1, I aa]) H rfl rfl Sz54 rfl rfl rfl rfl ?_
    intro cE H
    refine s_nil ?_
    refine W.ret ?_
    have bq := (H.bl 1)
    have ap := M.e_pure hM
    exact ⟨_, (resE_of1 (v := .agg #[I r1, I aa]) rfl (.cell (v := .agg #[I r1, I aa]) rfl (run_loadVar_ag (ds := [I r1, I aa]) Ag54 Sz54 bq rfl rfl) <| .nil)), ⟨r1, aa, ap, rfl, (H.pk [0])⟩⟩
   skip
   refine t_alloc (cs := [I 0, I 0, I 0, I 0]) H Al61 rfl ?_
   intro aH cF H
   refine s_nil ⟨(H.pk [2, 3, 4]), ?_⟩
   refine t_l rfl ?_
   obtain ⟨cG, br, hM⟩ := M.e_bind hM
   refine s_call cf69 [Pq am, ao, .agg #[I r_.up, I r_.down, I r_.lo, I r_.hi, B r_.narrow], .agg #[.func (.func 107) #[] #[]]] rfl (zam aq au av marks r_ (aw.app _) ax (ay.app _) az (aA.app _) aB (aC.app _) (aD.app _) aE br _ ((H.pk [1, 0, 2, 3, 4]).gt 4)) ?_
   rintro vq cH ⟨ab, ac, ae, ag, aa, bt, hvq, ah⟩
   subst bt
   subst vq
   try dsimp only at hM
   replace H := H.pk [1, 0, 2, 3, 4] |>.bk ah
   clear ah
   refine s_nil ⟨(H.pk [2, 3, 4]), ?_⟩
   refine t_q rfl (fun w' H => x_mv (v := .tuple #[.agg #[I ab, I ac, I ae, I ag], I aa]) rfl) ?_
   refine t_q rfl (fun w' H => x_ext (vs := [.agg #[I ab, I ac, I ae, I ag], I aa]) (v := .agg #[I ab, I ac, I ae, I ag]) rfl rfl) ?_
   refine t_q rfl (fun w' H => x_ext (vs := [.agg #[I ab, I ac, I ae, I ag], I aa]) (v := I aa) rfl rfl) ?_
   refine t_l rfl ?_
   refine t_sw 1 0 [I ab, I ac, I ae, I ag] (.agg #[I ab, I ac, I ae, I ag]) H rfl rfl Sz61 rfl rfl rfl rfl ?_
   intro cI H
   refine s_nil ⟨(H.pk [2, 3, 4]), ?_⟩
   refine t_q rfl (fun w' H => x_as (v := I aa) rfl) ?_
   refine t_nil ?_
   replace H := H.pk [0, 3]
   refine W.seq ?_
   refine W.region rfl ?_
   refine zM (I r1) rfl ?_
   refine zM (I aa) rfl ?_
   refine s_val (x_bld (ps := [(0, I r1), (1, I aa)]) (zs := [I 0, I 0]) (L' := [I r1, I aa]) rfl Tryz.underlying54 Al54 rfl (Bd54 Tryz.underlying54) (.cons (cs := [I r1]) rfl rfl rfl rfl rfl <| .cons (cs := [I aa]) rfl rfl rfl rfl rfl <| .nil)) ?_
   refine t_sw 1 0 [I r1, I aa] (.agg #[I r1, I aa]) H rfl rfl Sz54 rfl rfl rfl rfl ?_
   intro cJ H
   refine s_nil ?_
   refine W.ret ?_
   have bu := (H.bl 1)
   have ap := M.e_pure hM
   exact ⟨_, (resE_of1 (v := .agg #[I r1, I aa]) rfl (.cell (v := .agg #[I r1, I aa]) rfl (run_loadVar_ag (ds := [I r1, I aa]) Ag54 Sz54 bu rfl rfl) <| .nil)), ⟨r1, aa, ap, rfl, (H.pk [0])⟩⟩
  skip
  refine t_alloc (cs := [I 0, I 0, I 0, I 0]) H Al61 rfl ?_
  intro aH cK H
  refine s_nil ⟨(H.pk [2, 3, 4]), ?_⟩
  refine t_l rfl ?_
  obtain ⟨cL, bv, hM⟩ := M.e_bind hM
  refine s_call cf68 [] rfl (zaz bv _ (H.gt 5)) ?_
  rintro vq cM ⟨bw, hvq, ah⟩
  subst bw
  subst vq
  try dsimp only at hM
  replace H := H.bk ah
  clear ah
  refine s_nil ⟨(H.pk [2, 3, 4]), ?_⟩
  refine t_l rfl ?_
  obtain ⟨cN, bx, hM⟩ := M.e_bind hM
  refine s_call cf69 [Pq am, ao, .agg #[I r_.up, I r_.down, I r_.lo, I r_.hi, B r_.narrow], .agg #[.func (.func 107) #[] #[]]] rfl (zam aq au av marks r_ (aw.app _) ax (ay.app _) az (aA.app _) aB (aC.app _) (aD.app _) aE bx _ ((H.pk [1, 0, 2, 3, 4]).gt 4)) ?_
  rintro vq cO ⟨ab, ac, ae, ag, aa, bz, hvq, ah⟩
  subst bz
  subst vq
  try dsimp only at hM
  replace H := H.pk [1, 0, 2, 3, 4] |>.bk ah
  clear ah
  refine s_nil ⟨(H.pk [2, 3, 4]), ?_⟩
  refine t_q rfl (fun w' H => x_mv (v := .tuple #[.agg #[I ab, I ac, I ae, I ag], I aa]) rfl) ?_
  refine t_q rfl (fun w' H => x_ext (vs := [.agg #[I ab, I ac, I ae, I ag], I aa]) (v := .agg #[I ab, I ac, I ae, I ag]) rfl rfl) ?_
  refine t_q rfl (fun w' H => x_ext (vs := [.agg #[I ab, I ac, I ae, I ag], I aa]) (v := I aa) rfl rfl) ?_
  refine t_l rfl ?_
  refine t_sw 1 0 [I ab, I ac, I ae, I ag] (.agg #[I ab, I ac, I ae, I ag]) H rfl rfl Sz61 rfl rfl rfl rfl ?_
  intro cP H
  refine s_nil ⟨(H.pk [2, 3, 4]), ?_⟩
  refine t_q rfl (fun w' H => x_as (v := I aa) rfl) ?_
  refine t_nil ?_
  replace H := H.pk [0, 3]
  refine W.seq ?_
  refine W.region rfl ?_
  refine zM (I r1) rfl ?_
  refine zM (I aa) rfl ?_
  refine s_val (x_bld (ps := [(0, I r1), (1, I aa)]) (zs := [I 0, I 0]) (L' := [I r1, I aa]) rfl Tryz.underlying54 Al54 rfl (Bd54 Tryz.underlying54) (.cons (cs := [I r1]) rfl rfl rfl rfl rfl <| .cons (cs := [I aa]) rfl rfl rfl rfl rfl <| .nil)) ?_
  refine t_sw 1 0 [I r1, I aa] (.agg #[I r1, I aa]) H rfl rfl Sz54 rfl rfl rfl rfl ?_
  intro cQ H
  refine s_nil ?_
  refine W.ret ?_
  have bA := (H.bl 1)
  have ap := M.e_pure hM
  exact ⟨_, (resE_of1 (v := .agg #[I r1, I aa]) rfl (.cell (v := .agg #[I r1, I aa]) rfl (run_loadVar_ag (ds := [I r1, I aa]) Ag54 Sz54 bA rfl rfl) <| .nil)), ⟨r1, aa, ap, rfl, (H.pk [0])⟩⟩
 skip
 refine t_alloc (cs := [I 0, I 0, I 0, I 0]) H Al61 rfl ?_
 intro aI cR H
 refine s_nil ⟨(H.pk [1, 2]), ?_⟩
 refine t_l rfl ?_
 obtain ⟨cS, bB, hM⟩ := M.e_bind hM
 refine s_call cf67 [] rfl (zcw bB _ (H.gt 4)) ?_
 rintro vq cT ⟨bC, hvq, ah⟩
 subst bC
 subst vq
 try dsimp only at hM
 replace H := H.bk ah
 clear ah
 refine s_nil ⟨(H.pk [1, 2]), ?_⟩
 refine t_l rfl ?_
 obtain ⟨cU, bD, hM⟩ := M.e_bind hM
 refine s_call cf69 [Pq am, ao, .agg #[I r_.up, I r_.down, I r_.lo, I r_.hi, B r_.narrow], .agg #[.func (.func 106) #[] #[]]] rfl (zbX aq au av marks r_ (aw.app _) ax (ay.app _) az (aA.app _) aB (aC.app _) (aD.app _) aE bD _ ((H.pk [3, 0, 1, 2]).gt 3)) ?_
 rintro vq cV ⟨ai, aj, ak, al, r1, bE, hvq, ah⟩
 subst bE
 subst vq
 try dsimp only at hM
 replace H := H.pk [3, 0, 1, 2] |>.bk ah
 clear ah
 refine s_nil ⟨(H.pk [2, 3]), ?_⟩
 refine t_q rfl (fun w' H => x_mv (v := .tuple #[.agg #[I ai, I aj, I ak, I al], I r1]) rfl) ?_
 refine t_q rfl (fun w' H => x_ext (vs := [.agg #[I ai, I aj, I ak, I al], I r1]) (v := .agg #[I ai, I aj, I ak, I al]) rfl rfl) ?_
 refine t_q rfl (fun w' H => x_ext (vs := [.agg #[I ai, I aj, I ak, I al], I r1]) (v := I r1) rfl rfl) ?_
 refine t_l rfl ?_
 refine t_sw 1 0 [I ai, I aj, I ak, I al] (.agg #[I ai, I aj, I ak, I al]) H rfl rfl Sz61 rfl rfl rfl rfl ?_
 intro cW H
 refine s_nil ⟨(H.pk [2, 3]), ?_⟩
 refine t_q rfl (fun w' H => x_as (v := I r1) rfl) ?_
 refine t_nil ?_
 refine W.seq ?_
 refine W.drawT (fun W => St w W [cBlk aI [I ai, I aj, I ak, I al] 61, cBlk aJ [I 0, I 0] 54, cBlk aG [I r_.up, I r_.down, I r_.lo, I r_.hi, B r_.narrow] 58] R) (.q 0 (.q 1 (.q 2 (.l2 3 (.l2 4 (.q 5 (.q 6 (.q 7 (.l 8 (.l 9 (.q 10 .nil)))))) 8 (.l 4 (.q 5 (.q 6 (.q 7 (.l 9 (.q 10 .nil))))))) 8 (.l 3 (.l 4 (.q 5 (.q 6 (.q 7 (.l 9 (.q 10 .nil))))))))))) mixed (by decide +kernel) rfl ?_
 intro cX aF
 replace H := H.ext aF
 clear aF
 refine ⟨(H.pk [1, 2, 3]), ?_⟩
 refine t_q rfl (fun w' H => x_mv (v := Pq am) rfl) ?_
 refine t_q rfl (fun w' H => x_mv (v := ao) rfl) ?_
 refine t_q rfl (fun w' H => x_ld (p := Pq aG) (v := .agg #[I r_.up, I r_.down, I r_.lo, I r_.hi, B r_.narrow]) rfl (ldb_ag (ds := [I r_.up, I r_.down, I r_.lo, I r_.hi, B r_.narrow]) Ag58 Sz58 (H.bl 2) rfl rfl)) ?_
 refine t_l2 rfl rfl ?_ ?_
 ·skip
  obtain ⟨cY, bF, hM⟩ := M.e_bind hM
  refine s_call cf68 [] rfl (zaz bF _ (H.gt 4)) ?_
  rintro vq cZ ⟨bG, hvq, ah⟩
  subst bG
  subst vq
  try dsimp only at hM
  replace H := H.bk ah
  clear ah
  refine s_nil ⟨(H.pk [1, 2, 3]), ?_⟩
  refine t_l2 rfl rfl ?_ ?_
  ·skip
   obtain ⟨c9, bH, hM⟩ := M.e_bind hM
   refine s_call cf69 [Pq am, ao, .agg #[I r_.up, I r_.down, I r_.lo, I r_.hi, B r_.narrow], .agg #[.func (.func 107) #[] #[]]] rfl (zam aq au av marks r_ (aw.app _) ax (ay.app _) az (aA.app _) aB (aC.app _) (aD.app _) aE bH _ (H.gt 3)) ?_
   rintro vq da ⟨ab, ac, ae, ag, aa, bI, hvq, ah⟩
   subst bI
   subst vq
   try dsimp only at hM
   replace H := H.bk ah
   clear ah
   refine s_nil ⟨(H.pk [1, 2, 3]), ?_⟩
   refine t_q rfl (fun w' H => x_mv (v := .tuple #[.agg #[I ab, I ac, I ae, I ag], I aa]) rfl) ?_
   refine t_q rfl (fun w' H => x_ext (vs := [.agg #[I ab, I ac, I ae, I ag], I aa]) (v := .agg #[I ab, I ac, I ae, I ag]) rfl rfl) ?_
   refine t_q rfl (fun w' H => x_ext (vs := [.agg #[I ab, I ac, I ae, I ag], I aa]) (v := I aa) rfl rfl) ?_
   refine t_l rfl ?_
   refine t_alloc (cs := [I 0, I 0, I 0, I 0]) H Al61 rfl ?_
   intro aH db H
   refine s_nil ⟨(H.pk [2, 3, 4]), ?_⟩
   refine t_l rfl ?_
   refine t_sw 0 0 [I ab, I ac, I ae, I ag] (.agg #[I ab, I ac, I ae, I ag]) H rfl rfl Sz61 rfl rfl rfl rfl ?_
   intro dc H
   refine s_nil ⟨(H.pk [2, 3, 4]), ?_⟩
   refine t_q rfl (fun w' H => x_as (v := I aa) rfl) ?_
   refine t_nil ?_
   replace H := H.pk [1, 3]
   refine W.seq ?_
   refine W.region rfl ?_
   refine zM (I r1) rfl ?_
   refine zM (I aa) rfl ?_
   refine s_val (x_bld (ps := [(0, I r1), (1, I aa)]) (zs := [I 0, I 0]) (L' := [I r1, I aa]) rfl Tryz.underlying54 Al54 rfl (Bd54 Tryz.underlying54) (.cons (cs := [I r1]) rfl rfl rfl rfl rfl <| .cons (cs := [I aa]) rfl rfl rfl rfl rfl <| .nil)) ?_
   refine t_sw 1 0 [I r1, I aa] (.agg #[I r1, I aa]) H rfl rfl Sz54 rfl rfl rfl rfl ?_
   intro dd H
   refine s_nil ?_
   refine W.ret ?_
   have bJ := (H.bl 1)
   have ap := M.e_pure hM
   exact ⟨_, (resE_of1 (v := .agg #[I r1, I aa]) rfl (.cell (v := .agg #[I r1, I aa]) rfl (run_loadVar_ag (ds := [I r1, I aa]) Ag54 Sz54 bJ rfl rfl) <| .nil)), ⟨r1, aa, ap, rfl, (H.pk [0])⟩⟩
  skip
  refine t_alloc (cs := [I 0, I 0, I 0, I 0]) H Al61 rfl ?_
  intro aH de H
  refine s_nil ⟨(H.pk [2, 3, 4]), ?_⟩
  refine t_l rfl ?_
  obtain ⟨dg, bK, hM⟩ := M.e_bind hM
  refine s_call cf69 [Pq am, ao, .agg #[I r_.up, I r_.down, I r_.lo, I r_.hi, B r_.narrow], .agg #[.func (.func 107) #[] #[]]] rfl (zam aq au av marks r_ (aw.app _) ax (ay.app _) az (aA.app _) aB (aC.app _) (aD.app _) aE bK _ ((H.pk [1, 0, 2, 3, 4]).gt 4)) ?_
  rintro vq dh ⟨ab, ac, ae, ag, aa, bL, hvq, ah⟩
  subst bL
  subst vq
  try dsimp only at hM
  replace H := H.pk [1, 0, 2, 3, 4] |>.bk ah
  clear ah
  refine s_nil ⟨(H.pk [2, 3, 4]), ?_⟩
  refine t_q rfl (fun w' H => x_mv (v := .tuple #[.agg #[I ab, I ac, I ae, I ag], I aa]) rfl) ?_
  refine t_q rfl (fun w' H => x_ext (vs := [.agg #[I ab, I ac, I ae, I ag], I aa]) (v := .agg #[I ab, I ac, I ae, I ag]) rfl rfl) ?_
  refine t_q rfl (fun w' H => x_ext (vs := [.agg #[I ab, I ac, I ae, I ag], I aa]) (v := I aa) rfl rfl) ?_
  refine t_l rfl ?_
  refine t_sw 1 0 [I ab, I ac, I ae, I ag] (.agg #[I ab, I ac, I ae, I ag]) H rfl rfl Sz61 rfl rfl rfl rfl ?_
  intro di H
  refine s_nil ⟨(H.pk [2, 3, 4]), ?_⟩
  refine t_q rfl (fun w' H => x_as (v := I aa) rfl) ?_
  refine t_nil ?_
  replace H := H.pk [0, 3]
  refine W.seq ?_
  refine W.region rfl ?_
  refine zM (I r1) rfl ?_
  refine zM (I aa) rfl ?_
  refine s_val (x_bld (ps := [(0, I r1), (1, I aa)]) (zs := [I 0, I 0]) (L' := [I r1, I aa]) rfl Tryz.underlying54 Al54 rfl (Bd54 Tryz.underlying54) (.cons (cs := [I r1]) rfl rfl rfl rfl rfl <| .cons (cs := [I aa]) rfl rfl rfl rfl rfl <| .nil)) ?_
  refine t_sw 1 0 [I r1, I aa] (.agg #[I r1, I aa]) H rfl rfl Sz54 rfl rfl rfl rfl ?_
  intro dj H
  refine s_nil ?_
  refine W.ret ?_
  have bM := (H.bl 1)
  have ap := M.e_pure hM
  exact ⟨_, (resE_of1 (v := .agg #[I r1, I aa]) rfl (.cell (v := .agg #[I r1, I aa]) rfl (run_loadVar_ag (ds := [I r1, I aa]) Ag54 Sz54 bM rfl rfl) <| .nil)), ⟨r1, aa, ap, rfl, (H.pk [0])⟩⟩
 skip
 refine t_alloc (cs := [I 0, I 0, I 0, I 0]) H Al61 rfl ?_
 intro aH dk H
 refine s_nil ⟨(H.pk [2, 3, 4]), ?_⟩
 refine t_l rfl ?_
 obtain ⟨dm, bN, hM⟩ := M.e_bind hM
 refine s_call cf68 [] rfl (zaz bN _ (H.gt 5)) ?_
 rintro vq dp ⟨bO, hvq, ah⟩
 subst bO
 subst vq
 try dsimp only at hM
 replace H := H.bk ah
 clear ah
 refine s_nil ⟨(H.pk [2, 3, 4]), ?_⟩
 refine t_l rfl ?_
 obtain ⟨dq, bP, hM⟩ := M.e_bind hM
 refine s_call cf69 [Pq am, ao, .agg #[I r_.up, I r_.down, I r_.lo, I r_.hi, B r_.narrow], .agg #[.func (.func 107) #[] #[]]] rfl (zam aq au av marks r_ (aw.app _) ax (ay.app _) az (aA.app _) aB (aC.app _) (aD.app _) aE bP _ ((H.pk [1, 0, 2, 3, 4]).gt 4)) ?_
 rintro vq dr ⟨ab, ac, ae, ag, aa, bQ, hvq, ah⟩
 subst bQ
 subst vq
 try dsimp only at hM
 replace H := H.pk [1, 0, 2, 3, 4] |>.bk ah
 clear ah
 refine s_nil ⟨(H.pk [2, 3, 4]), ?_⟩
 refine t_q rfl (fun w' H => x_mv (v := .tuple #[.agg #[I ab, I ac, I ae, I ag], I aa]) rfl) ?_
 refine t_q rfl (fun w' H => x_ext (vs := [.agg #[I ab, I ac, I ae, I ag], I aa]) (v := .agg #[I ab, I ac, I ae, I ag]) rfl rfl) ?_
 refine t_q rfl (fun w' H => x_ext (vs := [.agg #[I ab, I ac, I ae, I ag], I aa]) (v := I aa) rfl rfl) ?_
 refine t_l rfl ?_
 refine t_sw 1 0 [I ab, I ac, I ae, I ag] (.agg #[I ab, I ac, I ae, I ag]) H rfl rfl Sz61 rfl rfl rfl rfl ?_
 intro dt H
 refine s_nil ⟨(H.pk [2, 3, 4]), ?_⟩
 refine t_q rfl (fun w' H => x_as (v := I aa) rfl) ?_
 refine t_nil ?_
 replace H := H.pk [0, 3]
 refine W.seq ?_
 refine W.region rfl ?_
 refine zM (I r1) rfl ?_
 refine zM (I aa) rfl ?_
 refine s_val (x_bld (ps := [(0, I r1), (1, I aa)]) (zs := [I 0, I 0]) (L' := [I r1, I aa]) rfl Tryz.underlying54 Al54 rfl (Bd54 Tryz.underlying54) (.cons (cs := [I r1]) rfl rfl rfl rfl rfl <| .cons (cs := [I aa]) rfl rfl rfl rfl rfl <| .nil)) ?_
 refine t_sw 1 0 [I r1, I aa] (.agg #[I r1, I aa]) H rfl rfl Sz54 rfl rfl rfl rfl ?_
 intro dv H
 refine s_nil ?_
 refine W.ret ?_
 have bR := (H.bl 1)
 have ap := M.e_pure hM
 exact ⟨_, (resE_of1 (v := .agg #[I r1, I aa]) rfl (.cell (v := .agg #[I r1, I aa]) rfl (run_loadVar_ag (ds := [I r1, I aa]) Ag54 Sz54 bR rfl rfl) <| .nil)), ⟨r1, aa, ap, rfl, (H.pk [0])⟩⟩

def zac (n : Int) (aa : Int) (greatest : Int) : M Bool :=
  M.pure ((decide (aa <= n)) && (decide (n <= greatest)))
theorem zae {R : List Chunk}  (n : Int) (aa : Int) (greatest : Int)  {r : Bool} (hM : (zac n aa greatest).Ends r) (w : World) (H : St w w [] R) : Ret Tryz.prog 70 #[I n, I aa, I greatest] w fun v w' => ∃ (y0 : Bool), y0 = r /\ v = B y0 /\ St w w' [] R := by
 refine ret_of_W Tryz.func70 rfl rfl rfl ?_
 refine W.seq ?_
 refine W.region rfl ?_
 refine zA (B false) rfl ?_
 refine s_nil ?_
 refine W.seq ?_
 refine W.region rfl ?_
 refine zM (I n) rfl ?_
 refine zM (I aa) rfl ?_
 refine zC n aa (decide (aa <= n)) rfl rfl rfl ?_
 refine zM (B (decide (aa <= n))) rfl ?_
 refine g_val (decide (aa <= n)) (gy_t rfl) (fun hg => x_mv (v := I n) rfl) ?_
 refine g_val (decide (aa <= n)) (gy_t rfl) (fun hg => x_mv (v := I greatest) rfl) ?_
 refine g_val (decide (aa <= n)) (gy_t rfl) (fun hg => x_cmp (kd := .i64) (a := n) (b := greatest) (r := decide (n <= greatest)) (gd_of (c := decide (aa <= n)) hg (I n)) (gd_of (c := decide (aa <= n)) hg (I greatest)) rfl) ?_
 refine s_val (x_pand (b := decide (aa <= n)) (r := decide (n <= greatest)) rfl (fun hb => gd_of (c := decide (aa <= n)) (by first | exact hb | (rw [hb]; rfl) | simp_all) (B (decide (n <= greatest)))) rfl) ?_
 refine zA (B ((decide (aa <= n)) && (decide (n <= greatest)))) rfl ?_
 refine s_nil ?_
 refine W.ret ?_
 have ab := M.e_pure hM
 exact ⟨_, resE_tmp rfl, ⟨((decide (aa <= n)) && (decide (n <= greatest))), ab, rfl, H⟩⟩

def za7 (s : List Sect) (f : Sect -> M Bool) : Nat -> M (Nat ⊕ (Int ⊕ Unit)) := fun s2 =>
  bif decide ((s2 : Int) < (s.length : Int)) then (
  M.grd (decide ((s2 : Int) < (s.length : Int))) <|
  M.bind (f (s.getD s2 default)) fun r2 =>
  bif r2 then (
  M.pure (.inr (.inl (s2 : Int))))
  else (
  M.pure (.inl (s2 + 1))))
  else (
  M.pure (.inr (.inr ())))
def zb2 (s : List Sect) (f : Sect -> M Bool) : M Int :=
  M.bind (M.iter (za7 s f) 0) fun x_ => match x_ with
  | (.inl s3) => (
  M.pure s3)
  | (.inr (_ : Unit)) => (
  M.pure (-1))
theorem zcP {R : List Chunk} {al : Cells} {aa : Value} {ac : Value} (s : List Sect) (f : Sect -> M Bool) (am : Reads R al) (ae : Sl al aa s) (au : FnM Tryz.prog R ac f) {r : Int} (hM : (zb2 s f).Ends r) (w : World) (H : St w w [] R) : Ret Tryz.prog 135 #[aa, ac] w fun v w' => ∃ (y0 : Int), y0 = r /\ v = I y0 /\ St w w' [] R := by
 refine ret_of_W Tryz.func135 rfl rfl rfl ?_
 refine W.seq ?_
 refine W.region rfl ?_
 refine zA (I 0) rfl ?_
 refine s_nil ?_
 refine W.seq ?_
 refine W.seq ?_
 refine W.region rfl ?_
 refine zM aa rfl ?_
 have aD := (ae).len_le
 refine s_val (x_lenS T23.und rfl ae) ?_
 refine zM (I 0) rfl ?_
 refine s_nil ?_
 refine W.block ?_
 obtain ⟨av, ah, ao⟩ := M.e_bind hM
 obtain ⟨aE, ah⟩ := M.e_iter ah
 refine W.loop (fun m σ W => ∃ (s2 : Nat) (ρ : Env), σ = upds ρ [(0, aa), (1, ac), (7, I (s.length : Int)), (8, I (s2 : Int))] /\ M.iterN (za7 s f) m s2 = some av /\ St w W [] R) ?_ ?_
 ·exact ⟨_, 0, _, upds_of _ _ ⟨rfl, rfl, rfl, rfl, trivial⟩, ah, H⟩
 rintro aF σ aG ⟨s2, ρ, rfl, ap, H⟩
 obtain ⟨aw, ax, aH, hM, ai⟩ := M.e_iterN ap
 simp only [za7] at hM
 clear ap
 refine W.seq ?_
 refine W.region rfl ?_
 refine zC (s2 : Int) (s.length : Int) (decide ((s2 : Int) < (s.length : Int))) rfl rfl rfl ?_
 refine s_nil ?_
 refine W.seq ?_
 refine W.cond (decide ((s2 : Int) < (s.length : Int))) rfl (fun ab => ?_) (fun ab => ?_)
 ·replace hM := M.e_t hM ab
  simp only [qy1, qy2, qy3, qy4, qy5, qy6, ne_eq, qy7] at ab
  refine W.skip ?_
  refine W.seq ?_
  refine W.block ?_
  refine W.seq ?_
  refine W.region rfl ?_
  refine zM (I (s2 : Int)) rfl ?_
  refine zA (I (s2 : Int)) rfl ?_
  refine s_nil ?_
  refine W.seq ?_
  refine W.region rfl ?_
  refine zM ac rfl ?_
  refine zM aa rfl ?_
  refine zM (I (s2 : Int)) rfl ?_
  obtain ⟨ay, hM⟩ := M.e_grd hM
  simp only [Bool.and_eq_true, decide_eq_true_eq] at ay
  refine s_val (x_ix (a := aa) (b := I (s2 : Int)) (v := vat aa 2 (Int.toNat (s2 : Int))) rfl rfl (Sl.ix (α := Sect) T23.und T23.size ae (by omega) (by omega))) ?_
  obtain ⟨aq, az, ag⟩ := Sect_atA ae (i := (s2 : Int)) (by omega) (by omega)
  replace ag : Sl _ aq (s.getD s2 default).rows := ag
  have aI := ag.len_le
  refine s_val (x_ld (p := vat aa 2 (Int.toNat (s2 : Int))) (v := .agg #[I ((s.getD s2 default).place), aq]) rfl (ld_ag Ag68 Sz68 (At.mono az (am.at H)))) ?_
  obtain ⟨r2, aA, hM⟩ := M.e_bind hM
  refine t_callM H au rfl rfl (s.getD s2 default) (am.app _) ⟨_, Sect_mk ag, rfl⟩ aA ?_
  intro aJ H
  refine s_nil ?_
  refine W.cond r2 rfl (fun aj => ?_) (fun aj => ?_)
  ·replace hM := M.e_t hM aj
   refine W.seq ?_
   refine W.region rfl ?_
   refine zM (I (s2 : Int)) rfl ?_
   refine zA (I (s2 : Int)) rfl ?_
   refine s_nil ?_
   refine W.ret ?_
   have aB := M.e_inr hM ai
   subst aB
   replace hM := ao
   try dsimp only at hM
   have ak := M.e_pure hM
   exact ⟨_, resE_tmp rfl, ⟨(s2 : Int), ak, rfl, H⟩⟩
  replace hM := M.e_f hM aj
  refine W.skip ?_
  refine W.region rfl ?_
  refine zR (s2 : Int) 1 ((s2 : Int) + 1) rfl rfl rfl (by omega) ?_
  refine zM (I ((s2 : Int) + 1)) rfl ?_
  refine s_nil ?_
  exact ⟨aw, ax, s2 + 1, _, upds_of _ _ ⟨rfl, rfl, rfl, rfl, trivial⟩, M.e_inl hM ai, H⟩
 replace hM := M.e_f hM ab
 simp only [qy1, qy2, qy3, qy4, qy5, qy6, ne_eq, qy7] at ab
 refine W.exit ?_
 have aC := M.e_inr hM ai
 subst aC
 replace hM := ao
 try dsimp only at hM
 refine W.seq ?_
 refine W.region rfl ?_
 refine zA (I (-1)) rfl ?_
 refine s_nil ?_
 refine W.ret ?_
 have ak := M.e_pure hM
 exact ⟨_, resE_tmp rfl, ⟨(-1), ak, rfl, H⟩⟩

def zbZ (s : List Sect) (f : Sect -> M Bool) : M Bool :=
  M.bind (zb2 s f) fun r2 =>
  M.pure (decide (0 <= r2))
theorem zds {R : List Chunk} {ac : Cells} {aa : Value} {ab : Value} (s : List Sect) (f : Sect -> M Bool) (ag : Reads R ac) (ah : Sl ac aa s) (ai : FnM Tryz.prog R ab f) {r : Bool} (hM : (zbZ s f).Ends r) (w : World) (H : St w w [] R) : Ret Tryz.prog 109 #[aa, ab] w fun v w' => ∃ (y0 : Bool), y0 = r /\ v = B y0 /\ St w w' [] R := by
 refine ret_of_W Tryz.func109 rfl rfl rfl ?_
 refine W.seq ?_
 refine W.region rfl ?_
 refine zA (B false) rfl ?_
 refine s_nil ?_
 refine W.seq ?_
 refine W.region rfl ?_
 refine zM aa rfl ?_
 refine zM ab rfl ?_
 obtain ⟨am, aj, hM⟩ := M.e_bind hM
 refine s_call cf135 [aa, ab] rfl (zcP s f (ag.app _) ah (ai.app _) aj _ (H.gt 0)) ?_
 rintro vq ao ⟨r2, ak, hvq, ae⟩
 subst ak
 subst vq
 try dsimp only at hM
 replace H := H.bk ae
 clear ae
 refine zC r2 0 (decide (0 <= r2)) rfl rfl rfl ?_
 refine zA (B (decide (0 <= r2))) rfl ?_
 refine s_nil ?_
 refine W.ret ?_
 have al := M.e_pure hM
 exact ⟨_, resE_tmp rfl, ⟨(decide (0 <= r2)), al, rfl, H⟩⟩

def zbx (x : Sect) (aa : Sect -> M Bool) : M Bool :=
  M.bind (aa x) fun r2 =>
  M.pure (!r2)
theorem zcG {R : List Chunk} {ae : Cells} {aa : Value} {ab : Nat} {ac : Value} (x : Sect) (ag : Sect -> M Bool) (ah : Reads R ae) (ai : Sl ae aa x.rows) (aj : FnM Tryz.prog R ac ag) (ak : Has R (cBlk ab [ac] 152)) {r : Bool} (hM : (zbx x ag).Ends r) (w : World) (H : St w w [] R) : Ret Tryz.prog 110 #[.agg #[I x.place, aa], Pq ab] w fun v w' => ∃ (y0 : Bool), y0 = r /\ v = B y0 /\ St w w' [] R := by
 refine ret_of_W Tryz.func110 rfl rfl rfl ?_
 refine W.seq ?_
 refine W.region rfl ?_
 refine t_box (v := .agg #[I x.place, aa]) (cs := [I x.place, aa]) H rfl rfl ?_
 intro al ap H
 refine zA (B false) rfl ?_
 refine s_nil ?_
 refine W.seq ?_
 refine W.region rfl ?_
 refine s_val (x_ld (p := Pq ab) (v := ac) rfl (ldb_sc Sc152 (ak.blk H) rfl)) ?_
 refine s_val (x_ld (p := Pq al) (v := .agg #[I x.place, aa]) rfl (ldb_ag (ds := [I x.place, aa]) Ag68 Sz68 (H.bl 0) rfl rfl)) ?_
 obtain ⟨r2, am, hM⟩ := M.e_bind hM
 refine t_callM H aj rfl rfl x (ah.app _) ⟨_, Sect_mk ai, rfl⟩ am ?_
 intro aq H
 refine s_val (x_not (b := r2) rfl) ?_
 refine zA (B (!r2)) rfl ?_
 refine s_nil ?_
 refine W.ret ?_
 have ao := M.e_pure hM
 exact ⟨_, resE_tmp rfl, ⟨(!r2), ao, rfl, (H.pk [])⟩⟩

def zbb (l : List Sect) (so : Sect -> M Bool) : M Bool :=
  M.bind (zbZ l (fun aa => zbx aa so)) fun r2 =>
  M.pure (!r2)
theorem zc2 {R : List Chunk} {ag : Cells} {aa : Value} {ab : Value} (l : List Sect) (so : Sect -> M Bool) (ak : Reads R ag) (al : Sl ag aa l) (ah : FnM Tryz.prog R ab so) {r : Bool} (hM : (zbb l so).Ends r) (w : World) (H : St w w [] R) : Ret Tryz.prog 75 #[aa, ab] w fun v w' => ∃ (y0 : Bool), y0 = r /\ v = B y0 /\ St w w' [] R := by
 refine ret_of_W Tryz.func75 rfl rfl rfl ?_
 refine W.seq ?_
 refine W.region rfl ?_
 refine t_box (v := ab) (cs := [ab]) H rfl (FnM.cells ah) ?_
 intro ac aC H
 refine zA (B false) rfl ?_
 refine s_nil ?_
 refine W.seq ?_
 refine W.region rfl ?_
 refine zM aa rfl ?_
 refine s_val (x_mf (fs := []) (cs := [Pq ac]) rfl rfl) ?_
 obtain ⟨aD, am, hM⟩ := M.e_bind hM
 refine s_call cf109 [aa, .func (.func 110) #[] #[Pq ac]] rfl (zds l (fun ae => zbx ae so) (ak.app _) al ⟨110, [Pq ac], rfl, cf110, fun ai aE aF ao ae aG ap aq au av => by obtain ⟨aH, rfl, aw⟩ := Sect_arg au; exact (zcG ae so aq aw (FnM.app (ah.app _) _) (Has.app (Has.here (k := 0) rfl) _) av ai (St.refl ap)).mono fun ao ai ⟨aI, ax, ay, az⟩ => by subst ax; exact ⟨ay, az⟩⟩ am _ (H.gt 1)) ?_
 rintro vq aJ ⟨r2, aA, hvq, aj⟩
 subst aA
 subst vq
 try dsimp only at hM
 replace H := H.bk aj
 clear aj
 refine s_val (x_not (b := r2) rfl) ?_
 refine zA (B (!r2)) rfl ?_
 refine s_nil ?_
 refine W.ret ?_
 have aB := M.e_pure hM
 exact ⟨_, resE_tmp rfl, ⟨(!r2), aB, rfl, (H.pk [])⟩⟩

def zbh (x : Sect) : M Bool :=
  M.bind (zac (x.rows.length : Int) 2 8) fun r2 =>
  M.pure r2
theorem zcX {R : List Chunk} {ac : Cells} {aa : Value} (x : Sect) (ak : Reads R ac) (ae : Sl ac aa x.rows) {r : Bool} (hM : (zbh x).Ends r) (w : World) (H : St w w [] R) : Ret Tryz.prog 74 #[.agg #[I x.place, aa]] w fun v w' => ∃ (y0 : Bool), y0 = r /\ v = B y0 /\ St w w' [] R := by
 refine ret_of_W Tryz.func74 rfl rfl rfl ?_
 refine W.seq ?_
 refine W.region rfl ?_
 refine t_box (v := .agg #[I x.place, aa]) (cs := [I x.place, aa]) H rfl rfl ?_
 intro ab al H
 refine zA (B false) rfl ?_
 refine s_nil ?_
 refine W.seq ?_
 refine W.region rfl ?_
 refine s_val (x_fa (a := Pq ab) (v := Oq ab 1) rfl (fa_blk (o := 0) Fd68_1 Sz66)) ?_
 refine s_val (x_ld (p := Oq ab 1) (v := aa) rfl (ldb_sc Sc66 (H.bl 0) rfl)) ?_
 have am := (ae).len_le
 refine s_val (x_lenS T66.und rfl ae) ?_
 obtain ⟨ao, ah, hM⟩ := M.e_bind hM
 refine s_call cf70 [I (x.rows.length : Int), I 2, I 8] rfl (zae (x.rows.length : Int) 2 8 ah _ (H.gt 1)) ?_
 rintro vq ap ⟨r2, ai, hvq, ag⟩
 subst ai
 subst vq
 try dsimp only at hM
 replace H := H.bk ag
 clear ag
 refine zA (B r2) rfl ?_
 refine s_nil ?_
 refine W.ret ?_
 have aj := M.e_pure hM
 exact ⟨_, resE_tmp rfl, ⟨r2, aj, rfl, (H.pk [])⟩⟩

def zaW (x : Sect) : (Int × Int × Nat) -> M ((Int × Int × Nat) ⊕ ((Int × Int) ⊕ (Int × Int))) := fun (s, s2, s3) =>
  bif decide ((s3 : Int) < (x.rows.length : Int)) then (
  M.grd (decide ((s3 : Int) < (x.rows.length : Int))) <|
  M.grd (decide ((-9223372036854775808 : Int) <= (s + 1)) && decide ((s + 1) <= (9223372036854775807 : Int))) <|
  M.bind (zac ((x.rows.getD s3 default).stage) (s + 1) 2000) fun r2 =>
  M.bind (M.opt (!(!r2)) (zac ((x.rows.getD s3 default).carry) s2 100000) false) fun r3 =>
  bif ((!r2) || (!r3)) then (
  M.pure (.inr (.inl (s, s2))))
  else (
  M.pure (.inl ((x.rows.getD s3 default).stage, (x.rows.getD s3 default).carry, s3 + 1))))
  else (
  M.pure (.inr (.inr (s, s2))))
def zbt (x : Sect) : M Bool :=
  M.bind (M.iter (zaW x) (-1, 0, 0)) fun x_ => match x_ with
  | (.inl (s4, s5)) => (
  M.pure false)
  | (.inr (s6, s7)) => (
  M.bind (zac x.place 0 10000) fun r4 =>
  M.pure r4)
theorem zcU {R : List Chunk} {ao : Cells} {aa : Value} (x : Sect) (au : Reads R ao) (aj : Sl ao aa x.rows) {r : Bool} (hM : (zbt x).Ends r) (w : World) (H : St w w [] R) : Ret Tryz.prog 76 #[.agg #[I x.place, aa]] w fun v w' => ∃ (y0 : Bool), y0 = r /\ v = B y0 /\ St w w' [] R := by
 refine ret_of_W Tryz.func76 rfl rfl rfl ?_
 refine W.seq ?_
 refine W.region rfl ?_
 refine t_box (v := .agg #[I x.place, aa]) (cs := [I x.place, aa]) H rfl rfl ?_
 intro ac aI H
 refine zA (B false) rfl ?_
 refine s_nil ?_
 refine W.seq ?_
 refine W.region rfl ?_
 refine s_val (x_bld (ps := [(0, I (-1))]) (zs := [I 0, I 0]) (L' := [I (-1), I 0]) rfl Tryz.underlying109 Al109 rfl (Bd109 Tryz.underlying109) (.cons (cs := [I (-1)]) rfl rfl rfl rfl rfl <| .nil)) ?_
 refine t_alloc (cs := [I 0, I 0]) H Al109 rfl ?_
 intro ab aJ H
 refine t_sw 0 0 [I (-1), I 0] (.agg #[I (-1), I 0]) H rfl rfl Sz109 rfl rfl rfl rfl ?_
 intro aK H
 refine s_nil ?_
 refine W.seq ?_
 refine W.seq ?_
 refine W.region rfl ?_
 refine s_val (x_fa (a := Pq ac) (v := Oq ac 1) rfl (fa_blk (o := 0) Fd68_1 Sz66)) ?_
 refine s_val (x_ld (p := Oq ac 1) (v := aa) rfl (ldb_sc Sc66 (H.bl 1) rfl)) ?_
 have aL := (aj).len_le
 refine s_val (x_lenS T66.und rfl aj) ?_
 refine zM (I 0) rfl ?_
 refine s_nil ?_
 refine W.block ?_
 obtain ⟨av, ak, ap⟩ := M.e_bind hM
 obtain ⟨aM, ak⟩ := M.e_iter ak
 refine W.loop (fun m σ W => ∃ (s : Int) (s2 : Int) (s3 : Nat) (ρ : Env), σ = upds ρ [(1, Pq ac), (3, Pq ab), (8, aa), (9, I (x.rows.length : Int)), (10, I (s3 : Int))] /\ M.iterN (zaW x) m (s, s2, s3) = some av /\ St w W [cBlk ab [I s, I s2] 109, cBlk ac [I x.place, aa] 68] R) ?_ ?_
 ·exact ⟨_, -1, 0, 0, _, upds_of _ _ ⟨rfl, rfl, rfl, rfl, rfl, trivial⟩, ak, H⟩
 rintro aN σ aO ⟨s, s2, s3, ρ, rfl, aq, H⟩
 obtain ⟨aw, ax, aP, hM, al⟩ := M.e_iterN aq
 simp only [zaW] at hM
 clear aq
 refine W.seq ?_
 refine W.region rfl ?_
 refine zC (s3 : Int) (x.rows.length : Int) (decide ((s3 : Int) < (x.rows.length : Int))) rfl rfl rfl ?_
 refine s_nil ?_
 refine W.seq ?_
 refine W.cond (decide ((s3 : Int) < (x.rows.length : Int))) rfl (fun ag => ?_) (fun ag => ?_)
 ·replace hM := M.e_t hM ag
  simp only [qy1, qy2, qy3, qy4, qy5, qy6, ne_eq, qy7] at ag
  refine W.skip ?_
  refine W.seq ?_
  refine W.block ?_
  refine W.seq ?_
  refine W.region rfl ?_
  obtain ⟨ay, hM⟩ := M.e_grd hM
  simp only [Bool.and_eq_true, decide_eq_true_eq] at ay
  refine s_val (x_ix (a := aa) (b := I (s3 : Int)) (v := vat aa 2 (Int.toNat (s3 : Int))) rfl rfl (Sl.ix (α := FRow) T66.und T66.size aj (by omega) (by omega))) ?_
  refine s_val (x_ld (p := vat aa 2 (Int.toNat (s3 : Int))) (v := .agg #[I ((x.rows.getD s3 default).stage), I ((x.rows.getD s3 default).carry)]) rfl (ld_ag Ag109 Sz109 (At.mono (FRow_atA aj (i := (s3 : Int)) (by omega) (by omega)) (au.at H)))) ?_
  refine t_alloc (cs := [I 0, I 0]) H Al109 rfl ?_
  intro ae aQ H
  refine t_sw 0 0 [I ((x.rows.getD s3 default).stage), I ((x.rows.getD s3 default).carry)] (.agg #[I ((x.rows.getD s3 default).stage), I ((x.rows.getD s3 default).carry)]) H rfl rfl Sz109 rfl rfl rfl rfl ?_
  intro aR H
  refine s_nil ?_
  refine W.seq ?_
  refine W.seq ?_
  refine W.region rfl ?_
  refine s_val (x_fa (a := Pq ae) (v := Pq ae) rfl (fa_blk (o := 0) Fd109_0 Sz3)) ?_
  refine s_val (x_ld (p := Pq ae) (v := I ((x.rows.getD s3 default).stage)) rfl (ldb_sc Sc3 (H.bl 0) rfl)) ?_
  refine s_val (x_fa (a := Pq ab) (v := Pq ab) rfl (fa_blk (o := 0) Fd109_0 Sz3)) ?_
  refine s_val (x_ld (p := Pq ab) (v := I s) rfl (ldb_sc Sc3 (H.bl 1) rfl)) ?_
  obtain ⟨az, hM⟩ := M.e_grd hM
  simp only [Bool.and_eq_true, decide_eq_true_eq] at az
  refine zR s 1 (s + 1) rfl rfl rfl (by omega) ?_
  obtain ⟨aS, aA, hM⟩ := M.e_bind hM
  refine s_call cf70 [I ((x.rows.getD s3 default).stage), I (s + 1), I 2000] rfl (zae ((x.rows.getD s3 default).stage) (s + 1) 2000 aA _ (H.gt 3)) ?_
  rintro vq aT ⟨r2, aB, hvq, ah⟩
  subst aB
  subst vq
  try dsimp only at hM
  replace H := H.bk ah
  clear ah
  refine s_val (x_not (b := r2) rfl) ?_
  refine zM (B (!r2)) rfl ?_
  refine g_val (!(!r2)) (gy_f rfl) (fun hg => x_fa (a := Pq ae) (v := Oq ae 1) rfl (fa_blk (o := 0) Fd109_1 Sz3)) ?_
  refine g_val (!(!r2)) (gy_f rfl) (fun hg => x_ld (p := Oq ae 1) (v := I ((x.rows.getD s3 default).carry)) (gd_of (c := !(!r2)) hg (Oq ae 1)) (ldb_sc Sc3 (H.bl 0) rfl)) ?_
  refine g_val (!(!r2)) (gy_f rfl) (fun hg => x_fa (a := Pq ab) (v := Oq ab 1) rfl (fa_blk (o := 0) Fd109_1 Sz3)) ?_
  refine g_val (!(!r2)) (gy_f rfl) (fun hg => x_ld (p := Oq ab 1) (v := I s2) (gd_of (c := !(!r2)) hg (Oq ab 1)) (ldb_sc Sc3 (H.bl 1) rfl)) ?_
  obtain ⟨r3, aC, hM⟩ := M.e_bind hM
  refine t_gcall (!(!r2)) (gy_f rfl) cf70 (B r3) (fun _ => [I ((x.rows.getD s3 default).carry), I s2, I 100000]) (fun hg => lst3 (gd_of (c := !(!r2)) hg (I ((x.rows.getD s3 default).carry))) (gd_of (c := !(!r2)) hg (I s2)) rfl) H (fun hg => (zae ((x.rows.getD s3 default).carry) s2 100000 (M.e_opt aC hg) _ (H.give (A := []) rfl)).mono fun v_ w_ ⟨y_, ai, aD, H_⟩ => by subst ai; exact ⟨aD, H.via H_⟩) ?_
  intro aU H
  refine g_val (!(!r2)) (gy_f rfl) (fun hg => x_not (b := r3) (gd_of (c := !(!r2)) hg (B r3))) ?_
  refine s_val (x_por (b := !r2) (r := !r3) rfl rfl (fun hb => gd_of (c := !(!r2)) (by first | exact hb | (rw [hb]; rfl) | simp_all) (B (!r3)))) ?_
  refine s_nil ?_
  refine W.cond ((!r2) || (!r3)) rfl (fun am => ?_) (fun am => ?_)
  ·replace hM := M.e_t hM am
   refine W.seq ?_
   refine W.region rfl ?_
   refine zA (B false) rfl ?_
   refine s_nil ?_
   refine W.ret ?_
   have aE := M.e_inr hM al
   subst aE
   replace hM := ap
   try dsimp only at hM
   have ai := M.e_pure hM
   exact ⟨_, resE_tmp rfl, ⟨false, ai, rfl, (H.pk [])⟩⟩
  replace hM := M.e_f hM am
  refine W.skip ?_
  refine W.region rfl ?_
  refine s_val (x_ld (p := Pq ae) (v := .agg #[I ((x.rows.getD s3 default).stage), I ((x.rows.getD s3 default).carry)]) rfl (ldb_ag (ds := [I ((x.rows.getD s3 default).stage), I ((x.rows.getD s3 default).carry)]) Ag109 Sz109 (H.bl 0) rfl rfl)) ?_
  refine t_sw 1 0 [I ((x.rows.getD s3 default).stage), I ((x.rows.getD s3 default).carry)] (.agg #[I ((x.rows.getD s3 default).stage), I ((x.rows.getD s3 default).carry)]) H rfl rfl Sz109 rfl rfl rfl rfl ?_
  intro aV H
  refine s_nil ?_
  refine W.region rfl ?_
  refine zR (s3 : Int) 1 ((s3 : Int) + 1) rfl rfl rfl (by omega) ?_
  refine zM (I ((s3 : Int) + 1)) rfl ?_
  refine s_nil ?_
  exact ⟨aw, ax, (x.rows.getD s3 default).stage, (x.rows.getD s3 default).carry, s3 + 1, _, upds_of _ _ ⟨rfl, rfl, rfl, rfl, rfl, trivial⟩, M.e_inl hM al, (H.pk [1, 2])⟩
 replace hM := M.e_f hM ag
 simp only [qy1, qy2, qy3, qy4, qy5, qy6, ne_eq, qy7] at ag
 refine W.exit ?_
 have aF := M.e_inr hM al
 subst aF
 replace hM := ap
 try dsimp only at hM
 refine W.seq ?_
 refine W.region rfl ?_
 refine s_val (x_fa (a := Pq ac) (v := Pq ac) rfl (fa_blk (o := 0) Fd68_0 Sz3)) ?_
 refine s_val (x_ld (p := Pq ac) (v := I x.place) rfl (ldb_sc Sc3 (H.bl 1) rfl)) ?_
 obtain ⟨aW, aG, hM⟩ := M.e_bind hM
 refine s_call cf70 [I x.place, I 0, I 10000] rfl (zae x.place 0 10000 aG _ (H.gt 2)) ?_
 rintro vq aX ⟨r4, aH, hvq, ah⟩
 subst aH
 subst vq
 try dsimp only at hM
 replace H := H.bk ah
 clear ah
 refine zA (B r4) rfl ?_
 refine s_nil ?_
 replace H := H.pk []
 refine W.ret ?_
 have ai := M.e_pure hM
 exact ⟨_, resE_tmp rfl, ⟨r4, ai, rfl, H⟩⟩

def zaR (s : List Mrk) (f : Mrk -> M Bool) : Nat -> M (Nat ⊕ (Int ⊕ Unit)) := fun s2 =>
  bif decide ((s2 : Int) < (s.length : Int)) then (
  M.grd (decide ((s2 : Int) < (s.length : Int))) <|
  M.bind (f (s.getD s2 default)) fun r2 =>
  bif r2 then (
  M.pure (.inr (.inl (s2 : Int))))
  else (
  M.pure (.inl (s2 + 1))))
  else (
  M.pure (.inr (.inr ())))
def zbN (s : List Mrk) (f : Mrk -> M Bool) : M Int :=
  M.bind (M.iter (zaR s f) 0) fun x_ => match x_ with
  | (.inl s3) => (
  M.pure s3)
  | (.inr (_ : Unit)) => (
  M.pure (-1))
theorem zcE {R : List Chunk} {ak : Cells} {aa : Value} {ac : Value} (s : List Mrk) (f : Mrk -> M Bool) (ao : Reads R ak) (ae : Sl ak aa s) (ap : FnM Tryz.prog R ac f) {r : Int} (hM : (zbN s f).Ends r) (w : World) (H : St w w [] R) : Ret Tryz.prog 136 #[aa, ac] w fun v w' => ∃ (y0 : Int), y0 = r /\ v = I y0 /\ St w w' [] R := by
 refine ret_of_W Tryz.func136 rfl rfl rfl ?_
 refine W.seq ?_
 refine W.region rfl ?_
 refine zA (I 0) rfl ?_
 refine s_nil ?_
 refine W.seq ?_
 refine W.seq ?_
 refine W.region rfl ?_
 refine zM aa rfl ?_
 have aA := (ae).len_le
 refine s_val (x_lenS T24.und rfl ae) ?_
 refine zM (I 0) rfl ?_
 refine s_nil ?_
 refine W.block ?_
 obtain ⟨aq, ag, al⟩ := M.e_bind hM
 obtain ⟨aB, ag⟩ := M.e_iter ag
 refine W.loop (fun m σ W => ∃ (s2 : Nat) (ρ : Env), σ = upds ρ [(0, aa), (1, ac), (7, I (s.length : Int)), (8, I (s2 : Int))] /\ M.iterN (zaR s f) m s2 = some aq /\ St w W [] R) ?_ ?_
 ·exact ⟨_, 0, _, upds_of _ _ ⟨rfl, rfl, rfl, rfl, trivial⟩, ag, H⟩
 rintro aC σ aD ⟨s2, ρ, rfl, am, H⟩
 obtain ⟨au, av, aE, hM, ah⟩ := M.e_iterN am
 simp only [zaR] at hM
 clear am
 refine W.seq ?_
 refine W.region rfl ?_
 refine zC (s2 : Int) (s.length : Int) (decide ((s2 : Int) < (s.length : Int))) rfl rfl rfl ?_
 refine s_nil ?_
 refine W.seq ?_
 refine W.cond (decide ((s2 : Int) < (s.length : Int))) rfl (fun ab => ?_) (fun ab => ?_)
 ·replace hM := M.e_t hM ab
  simp only [qy1, qy2, qy3, qy4, qy5, qy6, ne_eq, qy7] at ab
  refine W.skip ?_
  refine W.seq ?_
  refine W.block ?_
  refine W.seq ?_
  refine W.region rfl ?_
  refine zM (I (s2 : Int)) rfl ?_
  refine zA (I (s2 : Int)) rfl ?_
  refine s_nil ?_
  refine W.seq ?_
  refine W.region rfl ?_
  refine zM ac rfl ?_
  refine zM aa rfl ?_
  refine zM (I (s2 : Int)) rfl ?_
  obtain ⟨aw, hM⟩ := M.e_grd hM
  simp only [Bool.and_eq_true, decide_eq_true_eq] at aw
  refine s_val (x_ix (a := aa) (b := I (s2 : Int)) (v := vat aa 3 (Int.toNat (s2 : Int))) rfl rfl (Sl.ix (α := Mrk) T24.und T24.size ae (by omega) (by omega))) ?_
  refine s_val (x_ld (p := vat aa 3 (Int.toNat (s2 : Int))) (v := .agg #[I ((s.getD s2 default).place), I ((s.getD s2 default).lo), I ((s.getD s2 default).hi)]) rfl (ld_ag Ag70 Sz70 (At.mono (Mrk_atA ae (i := (s2 : Int)) (by omega) (by omega)) (ao.at H)))) ?_
  obtain ⟨r2, ax, hM⟩ := M.e_bind hM
  refine t_callM H ap rfl rfl (s.getD s2 default) Reads.none ⟨_, rfl, rfl⟩ ax ?_
  intro aF H
  refine s_nil ?_
  refine W.cond r2 rfl (fun ai => ?_) (fun ai => ?_)
  ·replace hM := M.e_t hM ai
   refine W.seq ?_
   refine W.region rfl ?_
   refine zM (I (s2 : Int)) rfl ?_
   refine zA (I (s2 : Int)) rfl ?_
   refine s_nil ?_
   refine W.ret ?_
   have ay := M.e_inr hM ah
   subst ay
   replace hM := al
   try dsimp only at hM
   have aj := M.e_pure hM
   exact ⟨_, resE_tmp rfl, ⟨(s2 : Int), aj, rfl, H⟩⟩
  replace hM := M.e_f hM ai
  refine W.skip ?_
  refine W.region rfl ?_
  refine zR (s2 : Int) 1 ((s2 : Int) + 1) rfl rfl rfl (by omega) ?_
  refine zM (I ((s2 : Int) + 1)) rfl ?_
  refine s_nil ?_
  exact ⟨au, av, s2 + 1, _, upds_of _ _ ⟨rfl, rfl, rfl, rfl, trivial⟩, M.e_inl hM ah, H⟩
 replace hM := M.e_f hM ab
 simp only [qy1, qy2, qy3, qy4, qy5, qy6, ne_eq, qy7] at ab
 refine W.exit ?_
 have az := M.e_inr hM ah
 subst az
 replace hM := al
 try dsimp only at hM
 refine W.seq ?_
 refine W.region rfl ?_
 refine zA (I (-1)) rfl ?_
 refine s_nil ?_
 refine W.ret ?_
 have aj := M.e_pure hM
 exact ⟨_, resE_tmp rfl, ⟨(-1), aj, rfl, H⟩⟩

def zb4 (s : List Mrk) (f : Mrk -> M Bool) : M Bool :=
  M.bind (zbN s f) fun r2 =>
  M.pure (decide (0 <= r2))
theorem zc6 {R : List Chunk} {ac : Cells} {aa : Value} {ab : Value} (s : List Mrk) (f : Mrk -> M Bool) (ag : Reads R ac) (ah : Sl ac aa s) (ai : FnM Tryz.prog R ab f) {r : Bool} (hM : (zb4 s f).Ends r) (w : World) (H : St w w [] R) : Ret Tryz.prog 111 #[aa, ab] w fun v w' => ∃ (y0 : Bool), y0 = r /\ v = B y0 /\ St w w' [] R := by
 refine ret_of_W Tryz.func111 rfl rfl rfl ?_
 refine W.seq ?_
 refine W.region rfl ?_
 refine zA (B false) rfl ?_
 refine s_nil ?_
 refine W.seq ?_
 refine W.region rfl ?_
 refine zM aa rfl ?_
 refine zM ab rfl ?_
 obtain ⟨am, aj, hM⟩ := M.e_bind hM
 refine s_call cf136 [aa, ab] rfl (zcE s f (ag.app _) ah (ai.app _) aj _ (H.gt 0)) ?_
 rintro vq ao ⟨r2, ak, hvq, ae⟩
 subst ak
 subst vq
 try dsimp only at hM
 replace H := H.bk ae
 clear ae
 refine zC r2 0 (decide (0 <= r2)) rfl rfl rfl ?_
 refine zA (B (decide (0 <= r2))) rfl ?_
 refine s_nil ?_
 refine W.ret ?_
 have al := M.e_pure hM
 exact ⟨_, resE_tmp rfl, ⟨(decide (0 <= r2)), al, rfl, H⟩⟩

end Go.Proofs.YtlemgioaakecpaaGreat
end
namespace Go.Nm
namespace Fl
theorem Rows.pw : ∀ {l : List FRow}, Rows l -> l.Pairwise (fun a b => a.stage < b.stage)
  | [], _ => List.Pairwise.nil
  | [a], _ => List.pairwise_singleton _ _
  | a :: b :: r, h => by
    obtain ⟨h1, h2, h3, h4, h5⟩ := h
    have ih := h5.pw
    refine List.Pairwise.cons (fun x hx => ?_) ih
    rcases List.mem_cons.1 hx with rfl | hx
    · exact h2
    · have := (List.pairwise_cons.1 ih).1 x hx
      omega
theorem Rows.lt {l : List FRow} (h : Rows l) {i j : Nat} (hij : i < j) (hj : j < l.length) : (l.getD i default).stage < (l.getD j default).stage := by
  rw [getD_el l (by omega), getD_el l hj]
  exact (List.pairwise_iff_getElem.1 h.pw) i j (by omega) hj hij
theorem Rows.el : ∀ {l : List FRow}, Rows l -> ∀ j, j < l.length -> 0 <= (l.getD j default).stage /\ (l.getD j default).stage <= 2000 /\ 0 <= (l.getD j default).carry /\ (l.getD j default).carry <= 100000
  | [], _, j, hj => by simp at hj
  | a :: r, h, 0, _ => h.head
  | [a], _, j + 1, hj => by simp at hj
  | a :: b :: r, h, j + 1, hj => h.2.2.2.2.el j (by simp at hj ⊢; omega)
theorem Rows.cm : ∀ {l : List FRow}, Rows l -> ∀ j, j + 1 < l.length -> (l.getD j default).carry <= (l.getD (j + 1) default).carry
  | [], _, j, hj => by simp at hj
  | [a], _, j, hj => by simp at hj
  | a :: b :: r, h, 0, _ => h.2.2.2.1
  | a :: b :: r, h, j + 1, hj => h.2.2.2.2.cm j (by simp at hj ⊢; omega)
theorem go_btw : ∀ (r : List FRow) (a : FRow), Rows (a :: r) -> ∀ (k : Nat) (s : Int), k + 1 < (a :: r).length -> ((a :: r).getD k default).stage <= s -> s < ((a :: r).getD (k + 1) default).stage →
    go a r s = ip ((a :: r).getD k default) ((a :: r).getD (k + 1) default) s
  | [], _, _, k, _, hk, _, _ => by simp at hk
  | b :: r, a, h, 0, s, _, h1, h2 => by
    exact if_pos (show s < b.stage from h2)
  | b :: r, a, h, k + 1, s, hk, h1, h2 => by
    have hb : b.stage <= s := by
      cases k with
      | zero => exact h1
      | succ k =>
        have := Rows.lt h (i := 1) (j := k + 2) (by omega) (by simp at hk ⊢; omega)
        have e : ((a :: b :: r).getD 1 default).stage = b.stage := rfl
        have e2 : ((a :: b :: r).getD (k + 2) default).stage <= s := h1
        omega
    show (if s < b.stage then ip a b s else go b r s) = _
    rw [if_neg (by omega)]
    exact go_btw r b h.2.2.2.2 k s (by simp at hk ⊢; omega) h1 h2
theorem go_last : ∀ (r : List FRow) (a : FRow), Rows (a :: r) -> ∀ (s : Int), ((a :: r).getD r.length default).stage <= s -> go a r s = ((a :: r).getD r.length default).carry
  | [], _, _, _, _ => rfl
  | b :: r, a, h, s, h1 => by
    have hb : b.stage <= s := by
      cases r with
      | nil => exact h1
      | cons c r =>
        have := Rows.lt h (i := 1) (j := r.length + 2) (by omega) (by simp)
        have e : ((a :: b :: c :: r).getD 1 default).stage = b.stage := rfl
        have e2 : ((a :: b :: c :: r).getD (r.length + 2) default).stage <= s := h1
        omega
    show (if s < b.stage then ip a b s else go b r s) = _
    rw [if_neg (by omega)]
    exact go_last r b h.2.2.2.2 s h1
theorem car_zero {l : List FRow} {s : Int} (h : l ≠ []) (h1 : s < (l.getD 0 default).stage) : car l s = 0 := by
  cases l with
  | nil => exact absurd rfl h
  | cons a r => exact if_pos h1
theorem car_btw {l : List FRow} (h : Rows l) {k : Nat} {s : Int} (hk : k + 1 < l.length) (h1 : (l.getD k default).stage <= s) (h2 : s < (l.getD (k + 1) default).stage) : car l s = ip (l.getD k default) (l.getD (k + 1) default) s := by
  cases l with
  | nil => simp at hk
  | cons a r =>
    have h0 : a.stage <= s := by
      cases k with
      | zero => exact h1
      | succ k =>
        have := Rows.lt h (i := 0) (j := k + 1) (by omega) (by omega)
        have e : ((a :: r).getD 0 default).stage = a.stage := rfl
        omega
    exact (if_neg (by omega)).trans (go_btw r a h k s hk h1 h2)
theorem car_last {l : List FRow} (h : Rows l) {k : Nat} {s : Int} (hk : k + 1 = l.length) (h1 : (l.getD k default).stage <= s) : car l s = (l.getD k default).carry := by
  cases l with
  | nil => simp at hk
  | cons a r =>
    have hk' : k = r.length := by simp at hk; omega
    subst hk'
    have h0 : a.stage <= s := by
      rcases Nat.eq_zero_or_pos r.length with e | e
      · rw [e] at h1; exact h1
      · have := Rows.lt h (i := 0) (j := r.length) e (by simp)
        have e : ((a :: r).getD 0 default).stage = a.stage := rfl
        omega
    exact (if_neg (by omega)).trans (go_last r a h s h1)
theorem car_met {l : List FRow} (h : Rows l) {k : Nat} {s : Int} (hk : k < l.length) (h1 : (l.getD k default).stage = s) : car l s = (l.getD k default).carry := by
  by_cases e : k + 1 < l.length
  · have := Rows.lt h (i := k) (j := k + 1) (by omega) e
    rw [car_btw h e (by omega) (by omega)]
    unfold ip
    rw [h1, Int.sub_self, Int.mul_zero, Int.zero_ediv, Int.add_zero]
  · exact car_last h (by omega) (by omega)
end Fl
end Go.Nm
namespace Go.Proofs.YtlemgioaakecpaaGreat
open Go Go.Nm
theorem root_ends {n : Int} (h0 : 0 <= n) (h1 : n < 4611686018427387904) : (zbm n).Ends (Fl.rt n) := by
  unfold zbm
  refine M.i_bind (M.Out.ends ?_) M.i_pure
  refine M.o_iter (fun m (s : Int × Int) => 0 <= s.1 /\ s.1 <= s.2 /\ s.2 <= 2147483648 /\ m = (s.2 - s.1).toNat /\ s.1 * s.1 <= n /\ n < (s.2 + 1) * (s.2 + 1)) ?_ _ (0, 2147483648) ⟨by decide, by decide, by decide, rfl, by simpa using h0, Int.lt_trans h1 (by decide)⟩
  rintro m ⟨l, h⟩ ⟨a, b, c, rfl, e, f⟩
  dsimp only at a b c e f ⊢
  simp only [zbc]
  refine M.o_if (fun hb => ?_) (fun hb => ?_)
  · have hb := of_decide_eq_true hb
    have q1 : l < l + (h - l + 1) / 2 := by omega
    have q2 : l + (h - l + 1) / 2 <= h := by omega
    refine M.o_grd (gA2 (by omega) (by omega)) (M.o_grd (gA2 (by omega) (by omega)) (M.o_grd (gA3 (by omega) (by omega) (by decide)) ?_))
    generalize l + (h - l + 1) / 2 = q at q1 q2 ⊢
    have s1 : 0 <= q * q := Int.mul_nonneg (by omega) (by omega)
    have s2 : q * q <= 2147483648 * 2147483648 := Fl.sq_mono (by omega) (by omega)
    refine M.o_grd (gA2 (by omega) (by omega)) (M.o_grd (gA2 (by omega) (by omega)) (M.o_if (fun hc => ?_) (fun hc => ?_)))
    · have hc := of_decide_eq_true hc
      exact M.o_pure ⟨(h - q).toNat, by omega, by dsimp only; omega, by dsimp only; omega, by dsimp only; omega, rfl, hc, f⟩
    · have hc := of_decide_eq_false hc
      refine M.o_grd (gA2 (by omega) (by omega)) (M.o_pure ⟨(q - 1 - l).toNat, by omega, by dsimp only; omega, by dsimp only; omega, by dsimp only; omega, rfl, e, ?_⟩)
      dsimp only
      rw [show q - 1 + 1 = q by omega]
      omega
  · have hb := of_decide_eq_false hb
    obtain rfl : l = h := by omega
    exact M.o_pure (Fl.rt_uniq a e f).symm
theorem cmp_ends (x y : Int) : (m_cmp_Compare_int x y).Ends (if x < y then -1 else if y < x then 1 else 0) := by
  unfold m_cmp_Compare_int m_cmp_isNaN_int
  refine M.i_bind (a := false) (by rw [show false = (x != x) by simp]; exact M.i_pure) (M.i_bind (a := false) (by rw [show false = (y != y) by simp]; exact M.i_pure) (M.i_f rfl (M.i_f rfl ?_)))
  by_cases h : x < y
  · rw [if_pos h]
    exact M.i_t (decide_eq_true h) M.i_pure
  · rw [if_neg h]
    refine M.i_f (decide_eq_false h) ?_
    by_cases h' : y < x
    · rw [if_pos h']
      exact M.i_t (decide_eq_true h') M.i_pure
    · rw [if_neg h']
      exact M.i_f (decide_eq_false h') M.i_pure
theorem cmp1_ends (r : FRow) (s : Int) : (zaJ r s).Ends (if r.stage < s then -1 else if s < r.stage then 1 else 0) := by
  unfold zaJ
  exact M.i_bind (cmp_ends _ _) M.i_pure
theorem bs_out {rows : List FRow} (hr : Fl.Rows rows) (hl : rows.length <= 1000) (s : Int) : (zbk rows s).Out (fun x => ∃ k : Nat, x.1 = k /\ k <= rows.length ∧
    (∀ j, j < k -> (rows.getD j default).stage < s) /\ (∀ j, k <= j -> j < rows.length -> s <= (rows.getD j default).stage) /\ (x.2 = true -> k < rows.length /\ (rows.getD k default).stage = s) /\ (x.2 = false -> k < rows.length -> s < (rows.getD k default).stage)) := by
  unfold zbk
  refine M.o_bind (P := fun (i : Int) => ∃ k : Nat, i = (k : Int) /\ k <= rows.length /\ (∀ j, j < k -> (rows.getD j default).stage < s) /\ (∀ j, k <= j -> j < rows.length -> s <= (rows.getD j default).stage)) ?_ ?_
  · refine M.o_iter (fun m (x : Int × Int) => ∃ i j : Nat, x = ((i : Int), (j : Int)) /\ i <= j /\ j <= rows.length /\ m = j - i /\ (∀ q, q < i -> (rows.getD q default).stage < s) /\ (∀ q, j <= q -> q < rows.length -> s <= (rows.getD q default).stage)) ?_ _ (0, (rows.length : Int)) ⟨0, rows.length, rfl, Nat.zero_le _, Nat.le_refl _, rfl, fun q hq => by omega, fun q h1 h2 => by omega⟩
    rintro m _ ⟨i, j, rfl, hij, hj, rfl, lo, hi⟩
    simp only [zbi]
    refine M.o_if (fun hb => ?_) (fun hb => ?_)
    · have hb := of_decide_eq_true hb
      have e : ((i : Int) + (j : Int)) / 2 = (((i + j) / 2 : Nat) : Int) := by omega
      have k1 : i <= (i + j) / 2 := by omega
      have k2 : (i + j) / 2 < j := by omega
      rw [e]
      generalize (i + j) / 2 = k at k1 k2 ⊢
      refine M.o_grd (gA2 (by omega) (by omega)) (M.o_grd (gA2 (by omega) (by omega)) (M.o_grd (gA2 (by omega) (by omega)) (M.o_grd (gA2 (by omega) (by omega)) (M.o_bindE (cmp1_ends _ s) ?_))))
      rw [Int.toNat_natCast]
      by_cases hs : (rows.getD k default).stage < s
      · rw [if_pos hs]
        refine M.o_t rfl (M.o_pure ⟨j - (k + 1), by omega, k + 1, j, rfl, by omega, hj, rfl, fun q hq => ?_, hi⟩)
        rcases Nat.lt_or_eq_of_le (Nat.le_of_lt_succ hq) with e | rfl
        · have := hr.lt e (by omega)
          omega
        · exact hs
      · rw [if_neg hs]
        refine M.o_f (by split <;> decide) (M.o_pure ⟨k - i, by omega, i, k, rfl, k1, by omega, rfl, lo, fun q h1 h2 => ?_⟩)
        rcases Nat.lt_or_eq_of_le h1 with e | rfl
        · have := hr.lt e h2
          omega
        · omega
    · have hb := of_decide_eq_false hb
      exact M.o_pure ⟨i, rfl, by omega, lo, fun q h1 h2 => hi q (by omega) h2⟩
  · rintro _ ⟨k, rfl, hk, lo, hi⟩
    by_cases hl' : k < rows.length
    · have hd : decide ((k : Int) < (rows.length : Int)) = true := decide_eq_true (by omega)
      refine M.o_grd (gOr2 (by omega) (by omega)) (M.o_bindE (M.i_opt (fun _ => cmp1_ends _ s) (fun h => by rw [hd] at h; cases h)) (M.o_pure ⟨k, rfl, hk, lo, hi, fun h => ?_, fun h _ => ?_⟩))
      · dsimp only at h
        rw [hd, Bool.true_and, Int.toNat_natCast, beq_iff_eq] at h
        have := hi k (Nat.le_refl _) hl'
        refine ⟨hl', ?_⟩
        split at h
        · cases h
        · split at h
          · cases h
          · omega
      · dsimp only at h
        rw [hd, Bool.true_and, Int.toNat_natCast, beq_eq_false_iff_ne] at h
        have := hi k (Nat.le_refl _) hl'
        split at h
        · omega
        · split at h
          · assumption
          · exact absurd rfl h
    · have hd : decide ((k : Int) < (rows.length : Int)) = false := decide_eq_false (by omega)
      refine M.o_grd (by rw [hd]; rfl) (M.o_bindE (M.i_opt (fun h => by rw [hd] at h; cases h) (fun _ => rfl)) (M.o_pure ⟨k, rfl, hk, lo, hi, fun h => ?_, fun _ h => absurd h hl'⟩))
      dsimp only at h
      rw [hd] at h
      cases h
theorem carry_ends {S : List Sect} {M' : List Mrk} {R' : List Rch} {i s : Int} (h0 : 0 <= i) (h1 : i < S.length) (hr : Fl.Rows (S.getD (Int.toNat i) default).rows) (hn : (S.getD (Int.toNat i) default).rows ≠ []) (hl : (S.getD (Int.toNat i) default).rows.length <= 1000) (hs : -2000000 <= s /\ s <= 2000000) :
    (zaa S M' R' ⟨i, s⟩).Ends (Fl.car (S.getD (Int.toNat i) default).rows s) := by
  refine M.Out.ends ?_
  unfold zaa
  dsimp only
  generalize hrr : (S.getD (Int.toNat i) default).rows = rows at hr hn hl ⊢
  refine M.o_grd (gA2 h0 h1) (M.o_bind (bs_out hr hl s) ?_)
  rintro ⟨_, met⟩ ⟨k, rfl, hk, lo, hi, m1, m2⟩
  dsimp only at m1 m2 ⊢
  have hpos : 0 < rows.length := List.length_pos_iff.2 hn
  refine M.o_if (fun hm => ?_) (fun hm => ?_)
  · obtain ⟨k1, k2⟩ := m1 hm
    refine M.o_grd (gA2 (by omega) (by omega)) (M.o_pure ?_)
    rw [Int.toNat_natCast, Fl.car_met hr k1 k2]
  refine M.o_if (fun he => ?_) (fun he => ?_)
  · rw [beq_iff_eq] at he
    have hk' : k = rows.length := by omega
    have e : Int.toNat ((k : Int) - 1) = k - 1 := by omega
    refine M.o_grd (gA2 (by omega) (by omega)) (M.o_grd (gA2 (by omega) (by omega)) (M.o_pure ?_))
    rw [e]
    exact (Fl.car_last hr (k := k - 1) (by omega) (by have := lo (k - 1) (by omega); omega)).symm
  · rw [beq_eq_false_iff_ne] at he
    have hk' : k < rows.length := by omega
    have hgt := m2 hm hk'
    refine M.o_if (fun hp => ?_) (fun hp => ?_)
    · have hp := of_decide_eq_true hp
      obtain ⟨q, rfl⟩ : ∃ q, k = q + 1 := ⟨k - 1, by omega⟩
      have e : Int.toNat (((q + 1 : Nat) : Int) - 1) = q := by omega
      have hlo := lo q (by omega)
      rw [e, Int.toNat_natCast, Fl.car_btw hr hk' (by omega) hgt]
      have ea := hr.el q (by omega)
      have eb := hr.el (q + 1) hk'
      have ec := hr.cm q hk'
      have es := hr.lt (i := q) (j := q + 1) (by omega) hk'
      generalize rows.getD q default = a at ea ec es hlo ⊢
      generalize rows.getD (q + 1) default = b at eb ec es hgt ⊢
      have n1 : 0 <= (b.carry - a.carry) * (s - a.stage) := Int.mul_nonneg (by omega) (by omega)
      have n2 : (b.carry - a.carry) * (s - a.stage) <= 100000 * 2000 := Int.mul_le_mul (by omega) (by omega) (by omega) (by omega)
      have k1 := Fl.ip_mono (a := a) (b := b) (s := s) (t := s) (by omega) (Int.le_refl _) (by omega) es ec
      unfold Fl.ip at k1 ⊢
      exact M.o_grd (gA2 (by omega) (by omega)) (M.o_grd (gA2 (by omega) (by omega)) (M.o_grd (gA2 (by omega) (by omega)) (M.o_grd (gA2 (by omega) (by omega)) (M.o_grd (gA2 (by omega) (by omega)) (M.o_grd (gA2 (by omega) (by omega)) (M.o_grd (gA2 (by omega) (by omega)) (M.o_grd (gA3 (by omega) (by omega) (by omega)) (M.o_grd (gA2 (by omega) (by omega)) (M.o_pure rfl)))))))))
    · have hp := of_decide_eq_false hp
      obtain rfl : k = 0 := by omega
      exact M.o_pure (Fl.car_zero hn hgt).symm
end Go.Proofs.YtlemgioaakecpaaGreat
section
set_option maxRecDepth 100000
set_option maxHeartbeats 16000000
namespace Go.Proofs.YtlemgioaakecpaaGreat
open Go Go.Nm
def za8 (x : Mrk) (aa : Mrk -> M Bool) : M Bool :=
  M.bind (aa x) fun r2 =>
  M.pure (!r2)
theorem zc8 {R : List Chunk} {aa : Nat} {ab : Value} (x : Mrk) (ac : Mrk -> M Bool) (ae : FnM Tryz.prog R ab ac) (ag : Has R (cBlk aa [ab] 155)) {r : Bool} (hM : (za8 x ac).Ends r) (w : World) (H : St w w [] R) : Ret Tryz.prog 112 #[.agg #[I x.place, I x.lo, I x.hi], Pq aa] w fun v w' => ∃ (y0 : Bool), y0 = r /\ v = B y0 /\ St w w' [] R := by
 refine ret_of_W Tryz.func112 rfl rfl rfl ?_
 refine W.seq ?_
 refine W.region rfl ?_
 refine t_box (v := .agg #[I x.place, I x.lo, I x.hi]) (cs := [I x.place, I x.lo, I x.hi]) H rfl rfl ?_
 intro ah ak H
 refine zA (B false) rfl ?_
 refine s_nil ?_
 refine W.seq ?_
 refine W.region rfl ?_
 refine s_val (x_ld (p := Pq aa) (v := ab) rfl (ldb_sc Sc155 (ag.blk H) rfl)) ?_
 refine s_val (x_ld (p := Pq ah) (v := .agg #[I x.place, I x.lo, I x.hi]) rfl (ldb_ag (ds := [I x.place, I x.lo, I x.hi]) Ag70 Sz70 (H.bl 0) rfl rfl)) ?_
 obtain ⟨r2, ai, hM⟩ := M.e_bind hM
 refine t_callM H ae rfl rfl x Reads.none ⟨_, rfl, rfl⟩ ai ?_
 intro al H
 refine s_val (x_not (b := r2) rfl) ?_
 refine zA (B (!r2)) rfl ?_
 refine s_nil ?_
 refine W.ret ?_
 have aj := M.e_pure hM
 exact ⟨_, resE_tmp rfl, ⟨(!r2), aj, rfl, (H.pk [])⟩⟩

def zbq (l : List Mrk) (so : Mrk -> M Bool) : M Bool :=
  M.bind (zb4 l (fun aa => za8 aa so)) fun r2 =>
  M.pure (!r2)
theorem zdq {R : List Chunk} {ag : Cells} {aa : Value} {ab : Value} (l : List Mrk) (so : Mrk -> M Bool) (ak : Reads R ag) (al : Sl ag aa l) (ah : FnM Tryz.prog R ab so) {r : Bool} (hM : (zbq l so).Ends r) (w : World) (H : St w w [] R) : Ret Tryz.prog 77 #[aa, ab] w fun v w' => ∃ (y0 : Bool), y0 = r /\ v = B y0 /\ St w w' [] R := by
 refine ret_of_W Tryz.func77 rfl rfl rfl ?_
 refine W.seq ?_
 refine W.region rfl ?_
 refine t_box (v := ab) (cs := [ab]) H rfl (FnM.cells ah) ?_
 intro ac aA H
 refine zA (B false) rfl ?_
 refine s_nil ?_
 refine W.seq ?_
 refine W.region rfl ?_
 refine zM aa rfl ?_
 refine s_val (x_mf (fs := []) (cs := [Pq ac]) rfl rfl) ?_
 obtain ⟨aB, am, hM⟩ := M.e_bind hM
 refine s_call cf111 [aa, .func (.func 112) #[] #[Pq ac]] rfl (zc6 l (fun ae => za8 ae so) (ak.app _) al ⟨112, [Pq ac], rfl, cf112, fun ai aC aD ao ae aE ap aF aq au => by obtain rfl := Mrk_arg aq; exact (zc8 ae so (FnM.app (ah.app _) _) (Has.app (Has.here (k := 0) rfl) _) au ai (St.refl ap)).mono fun ao ai ⟨aG, av, aw, ax⟩ => by subst av; exact ⟨aw, ax⟩⟩ am _ (H.gt 1)) ?_
 rintro vq aH ⟨r2, ay, hvq, aj⟩
 subst ay
 subst vq
 try dsimp only at hM
 replace H := H.bk aj
 clear aj
 refine s_val (x_not (b := r2) rfl) ?_
 refine zA (B (!r2)) rfl ?_
 refine s_nil ?_
 refine W.ret ?_
 have az := M.e_pure hM
 exact ⟨_, resE_tmp rfl, ⟨(!r2), az, rfl, (H.pk [])⟩⟩

def za0 (s : Span) (aa : Int) (greatest : Int) : M Bool :=
  M.bind (zac s.lo aa greatest) fun r2 =>
  M.bind (M.opt r2 (zac s.hi s.lo greatest) false) fun r3 =>
  M.pure (r2 && r3)
theorem zct {R : List Chunk}  (s : Span) (ab : Int) (greatest : Int)  {r : Bool} (hM : (za0 s ab greatest).Ends r) (w : World) (H : St w w [] R) : Ret Tryz.prog 113 #[.agg #[I s.lo, I s.hi], I ab, I greatest] w fun v w' => ∃ (y0 : Bool), y0 = r /\ v = B y0 /\ St w w' [] R := by
 refine ret_of_W Tryz.func113 rfl rfl rfl ?_
 refine W.seq ?_
 refine W.region rfl ?_
 refine t_box (v := .agg #[I s.lo, I s.hi]) (cs := [I s.lo, I s.hi]) H rfl rfl ?_
 intro aa ak H
 refine zA (B false) rfl ?_
 refine s_nil ?_
 refine W.seq ?_
 refine W.region rfl ?_
 refine s_val (x_fa (a := Pq aa) (v := Pq aa) rfl (fa_blk (o := 0) Fd54_0 Sz3)) ?_
 refine s_val (x_ld (p := Pq aa) (v := I s.lo) rfl (ldb_sc Sc3 (H.bl 0) rfl)) ?_
 refine zM (I ab) rfl ?_
 refine zM (I greatest) rfl ?_
 obtain ⟨al, ag, hM⟩ := M.e_bind hM
 refine s_call cf70 [I s.lo, I ab, I greatest] rfl (zae s.lo ab greatest ag _ (H.gt 1)) ?_
 rintro vq am ⟨r2, ah, hvq, ae⟩
 subst ah
 subst vq
 try dsimp only at hM
 replace H := H.bk ae
 clear ae
 refine zM (B r2) rfl ?_
 refine g_val r2 (gy_t rfl) (fun hg => x_fa (a := Pq aa) (v := Oq aa 1) rfl (fa_blk (o := 0) Fd54_1 Sz3)) ?_
 refine g_val r2 (gy_t rfl) (fun hg => x_ld (p := Oq aa 1) (v := I s.hi) (gd_of (c := r2) hg (Oq aa 1)) (ldb_sc Sc3 (H.bl 0) rfl)) ?_
 refine g_val r2 (gy_t rfl) (fun hg => x_fa (a := Pq aa) (v := Pq aa) rfl (fa_blk (o := 0) Fd54_0 Sz3)) ?_
 refine g_val r2 (gy_t rfl) (fun hg => x_ld (p := Pq aa) (v := I s.lo) (gd_of (c := r2) hg (Pq aa)) (ldb_sc Sc3 (H.bl 0) rfl)) ?_
 refine g_val r2 (gy_t rfl) (fun hg => x_mv (v := I greatest) rfl) ?_
 obtain ⟨r3, ai, hM⟩ := M.e_bind hM
 refine t_gcall r2 (gy_t rfl) cf70 (B r3) (fun _ => [I s.hi, I s.lo, I greatest]) (fun hg => lst3 (gd_of (c := r2) hg (I s.hi)) (gd_of (c := r2) hg (I s.lo)) (gd_of (c := r2) hg (I greatest))) H (fun hg => (zae s.hi s.lo greatest (M.e_opt ai hg) _ (H.give (A := []) rfl)).mono fun v_ w_ ⟨y_, ac, aj, H_⟩ => by subst ac; exact ⟨aj, H.via H_⟩) ?_
 intro ao H
 refine s_val (x_pand (b := r2) (r := r3) rfl (fun hb => gd_of (c := r2) (by first | exact hb | (rw [hb]; rfl) | simp_all) (B r3)) rfl) ?_
 refine zA (B (r2 && r3)) rfl ?_
 refine s_nil ?_
 refine W.ret ?_
 have ac := M.e_pure hM
 exact ⟨_, resE_tmp rfl, ⟨(r2 && r3), ac, rfl, (H.pk [])⟩⟩

def zaQ (m_ : Mrk) : M Bool :=
  M.bind (zac m_.place 0 10000) fun r2 =>
  M.bind (M.opt r2 (za0 (⟨(m_.lo : Int), (m_.hi : Int)⟩ : Span) 0 2000) false) fun r3 =>
  M.pure (r2 && r3)
theorem zcW {R : List Chunk}  (m_ : Mrk)  {r : Bool} (hM : (zaQ m_).Ends r) (w : World) (H : St w w [] R) : Ret Tryz.prog 78 #[.agg #[I m_.place, I m_.lo, I m_.hi]] w fun v w' => ∃ (y0 : Bool), y0 = r /\ v = B y0 /\ St w w' [] R := by
 refine ret_of_W Tryz.func78 rfl rfl rfl ?_
 refine W.seq ?_
 refine W.region rfl ?_
 refine t_box (v := .agg #[I m_.place, I m_.lo, I m_.hi]) (cs := [I m_.place, I m_.lo, I m_.hi]) H rfl rfl ?_
 intro aa aj H
 refine zA (B false) rfl ?_
 refine s_nil ?_
 refine W.seq ?_
 refine W.region rfl ?_
 refine s_val (x_fa (a := Pq aa) (v := Pq aa) rfl (fa_blk (o := 0) Fd70_0 Sz3)) ?_
 refine s_val (x_ld (p := Pq aa) (v := I m_.place) rfl (ldb_sc Sc3 (H.bl 0) rfl)) ?_
 obtain ⟨ak, ae, hM⟩ := M.e_bind hM
 refine s_call cf70 [I m_.place, I 0, I 10000] rfl (zae m_.place 0 10000 ae _ (H.gt 1)) ?_
 rintro vq al ⟨r2, ag, hvq, ac⟩
 subst ag
 subst vq
 try dsimp only at hM
 replace H := H.bk ac
 clear ac
 refine zM (B r2) rfl ?_
 refine g_val r2 (gy_t rfl) (fun hg => x_fa (a := Pq aa) (v := Oq aa 1) rfl (fa_blk (o := 0) Fd70_1 Sz54)) ?_
 refine g_val r2 (gy_t rfl) (fun hg => x_ld (p := Oq aa 1) (v := .agg #[I m_.lo, I m_.hi]) (gd_of (c := r2) hg (Oq aa 1)) (ldb_ag (ds := [I m_.lo, I m_.hi]) Ag54 Sz54 (H.bl 0) rfl rfl)) ?_
 obtain ⟨r3, ah, hM⟩ := M.e_bind hM
 refine t_gcall r2 (gy_t rfl) cf113 (B r3) (fun _ => [.agg #[I m_.lo, I m_.hi], I 0, I 2000]) (fun hg => lst3 (gd_of (c := r2) hg (.agg #[I m_.lo, I m_.hi])) rfl rfl) H (fun hg => (zct (⟨(m_.lo : Int), (m_.hi : Int)⟩ : Span) 0 2000 (M.e_opt ah hg) _ (H.give (A := []) rfl)).mono fun v_ w_ ⟨y_, ab, ai, H_⟩ => by subst ab; exact ⟨ai, H.via H_⟩) ?_
 intro am H
 refine s_val (x_pand (b := r2) (r := r3) rfl (fun hb => gd_of (c := r2) (by first | exact hb | (rw [hb]; rfl) | simp_all) (B r3)) rfl) ?_
 refine zA (B (r2 && r3)) rfl ?_
 refine s_nil ?_
 refine W.ret ?_
 have ab := M.e_pure hM
 exact ⟨_, resE_tmp rfl, ⟨(r2 && r3), ab, rfl, (H.pk [])⟩⟩

def zaZ (s : List Rch) (f : Rch -> M Bool) : Nat -> M (Nat ⊕ (Int ⊕ Unit)) := fun s2 =>
  bif decide ((s2 : Int) < (s.length : Int)) then (
  M.grd (decide ((s2 : Int) < (s.length : Int))) <|
  M.bind (f (s.getD s2 default)) fun r2 =>
  bif r2 then (
  M.pure (.inr (.inl (s2 : Int))))
  else (
  M.pure (.inl (s2 + 1))))
  else (
  M.pure (.inr (.inr ())))
def zbE (s : List Rch) (f : Rch -> M Bool) : M Int :=
  M.bind (M.iter (zaZ s f) 0) fun x_ => match x_ with
  | (.inl s3) => (
  M.pure s3)
  | (.inr (_ : Unit)) => (
  M.pure (-1))
theorem zdf {R : List Chunk} {ak : Cells} {aa : Value} {ac : Value} (s : List Rch) (f : Rch -> M Bool) (ao : Reads R ak) (ae : Sl ak aa s) (ap : FnM Tryz.prog R ac f) {r : Int} (hM : (zbE s f).Ends r) (w : World) (H : St w w [] R) : Ret Tryz.prog 137 #[aa, ac] w fun v w' => ∃ (y0 : Int), y0 = r /\ v = I y0 /\ St w w' [] R := by
 refine ret_of_W Tryz.func137 rfl rfl rfl ?_
 refine W.seq ?_
 refine W.region rfl ?_
 refine zA (I 0) rfl ?_
 refine s_nil ?_
 refine W.seq ?_
 refine W.seq ?_
 refine W.region rfl ?_
 refine zM aa rfl ?_
 have aA := (ae).len_le
 refine s_val (x_lenS T25.und rfl ae) ?_
 refine zM (I 0) rfl ?_
 refine s_nil ?_
 refine W.block ?_
 obtain ⟨aq, ag, al⟩ := M.e_bind hM
 obtain ⟨aB, ag⟩ := M.e_iter ag
 refine W.loop (fun m σ W => ∃ (s2 : Nat) (ρ : Env), σ = upds ρ [(0, aa), (1, ac), (7, I (s.length : Int)), (8, I (s2 : Int))] /\ M.iterN (zaZ s f) m s2 = some aq /\ St w W [] R) ?_ ?_
 ·exact ⟨_, 0, _, upds_of _ _ ⟨rfl, rfl, rfl, rfl, trivial⟩, ag, H⟩
 rintro aC σ aD ⟨s2, ρ, rfl, am, H⟩
 obtain ⟨au, av, aE, hM, ah⟩ := M.e_iterN am
 simp only [zaZ] at hM
 clear am
 refine W.seq ?_
 refine W.region rfl ?_
 refine zC (s2 : Int) (s.length : Int) (decide ((s2 : Int) < (s.length : Int))) rfl rfl rfl ?_
 refine s_nil ?_
 refine W.seq ?_
 refine W.cond (decide ((s2 : Int) < (s.length : Int))) rfl (fun ab => ?_) (fun ab => ?_)
 ·replace hM := M.e_t hM ab
  simp only [qy1, qy2, qy3, qy4, qy5, qy6, ne_eq, qy7] at ab
  refine W.skip ?_
  refine W.seq ?_
  refine W.block ?_
  refine W.seq ?_
  refine W.region rfl ?_
  refine zM (I (s2 : Int)) rfl ?_
  refine zA (I (s2 : Int)) rfl ?_
  refine s_nil ?_
  refine W.seq ?_
  refine W.region rfl ?_
  refine zM ac rfl ?_
  refine zM aa rfl ?_
  refine zM (I (s2 : Int)) rfl ?_
  obtain ⟨aw, hM⟩ := M.e_grd hM
  simp only [Bool.and_eq_true, decide_eq_true_eq] at aw
  refine s_val (x_ix (a := aa) (b := I (s2 : Int)) (v := vat aa 5 (Int.toNat (s2 : Int))) rfl rfl (Sl.ix (α := Rch) T25.und T25.size ae (by omega) (by omega))) ?_
  refine s_val (x_ld (p := vat aa 5 (Int.toNat (s2 : Int))) (v := .agg #[I ((s.getD s2 default).up), I ((s.getD s2 default).down), I ((s.getD s2 default).lo), I ((s.getD s2 default).hi), B ((s.getD s2 default).narrow)]) rfl (ld_ag Ag58 Sz58 (At.mono (Rch_atA ae (i := (s2 : Int)) (by omega) (by omega)) (ao.at H)))) ?_
  obtain ⟨r2, ax, hM⟩ := M.e_bind hM
  refine t_callM H ap rfl rfl (s.getD s2 default) Reads.none ⟨_, rfl, rfl⟩ ax ?_
  intro aF H
  refine s_nil ?_
  refine W.cond r2 rfl (fun ai => ?_) (fun ai => ?_)
  ·replace hM := M.e_t hM ai
   refine W.seq ?_
   refine W.region rfl ?_
   refine zM (I (s2 : Int)) rfl ?_
   refine zA (I (s2 : Int)) rfl ?_
   refine s_nil ?_
   refine W.ret ?_
   have ay := M.e_inr hM ah
   subst ay
   replace hM := al
   try dsimp only at hM
   have aj := M.e_pure hM
   exact ⟨_, resE_tmp rfl, ⟨(s2 : Int), aj, rfl, H⟩⟩
  replace hM := M.e_f hM ai
  refine W.skip ?_
  refine W.region rfl ?_
  refine zR (s2 : Int) 1 ((s2 : Int) + 1) rfl rfl rfl (by omega) ?_
  refine zM (I ((s2 : Int) + 1)) rfl ?_
  refine s_nil ?_
  exact ⟨au, av, s2 + 1, _, upds_of _ _ ⟨rfl, rfl, rfl, rfl, trivial⟩, M.e_inl hM ah, H⟩
 replace hM := M.e_f hM ab
 simp only [qy1, qy2, qy3, qy4, qy5, qy6, ne_eq, qy7] at ab
 refine W.exit ?_
 have az := M.e_inr hM ah
 subst az
 replace hM := al
 try dsimp only at hM
 refine W.seq ?_
 refine W.region rfl ?_
 refine zA (I (-1)) rfl ?_
 refine s_nil ?_
 refine W.ret ?_
 have aj := M.e_pure hM
 exact ⟨_, resE_tmp rfl, ⟨(-1), aj, rfl, H⟩⟩

def zbV (s : List Rch) (f : Rch -> M Bool) : M Bool :=
  M.bind (zbE s f) fun r2 =>
  M.pure (decide (0 <= r2))
theorem zdi {R : List Chunk} {ac : Cells} {aa : Value} {ab : Value} (s : List Rch) (f : Rch -> M Bool) (ag : Reads R ac) (ah : Sl ac aa s) (ai : FnM Tryz.prog R ab f) {r : Bool} (hM : (zbV s f).Ends r) (w : World) (H : St w w [] R) : Ret Tryz.prog 114 #[aa, ab] w fun v w' => ∃ (y0 : Bool), y0 = r /\ v = B y0 /\ St w w' [] R := by
 refine ret_of_W Tryz.func114 rfl rfl rfl ?_
 refine W.seq ?_
 refine W.region rfl ?_
 refine zA (B false) rfl ?_
 refine s_nil ?_
 refine W.seq ?_
 refine W.region rfl ?_
 refine zM aa rfl ?_
 refine zM ab rfl ?_
 obtain ⟨am, aj, hM⟩ := M.e_bind hM
 refine s_call cf137 [aa, ab] rfl (zdf s f (ag.app _) ah (ai.app _) aj _ (H.gt 0)) ?_
 rintro vq ao ⟨r2, ak, hvq, ae⟩
 subst ak
 subst vq
 try dsimp only at hM
 replace H := H.bk ae
 clear ae
 refine zC r2 0 (decide (0 <= r2)) rfl rfl rfl ?_
 refine zA (B (decide (0 <= r2))) rfl ?_
 refine s_nil ?_
 refine W.ret ?_
 have al := M.e_pure hM
 exact ⟨_, resE_tmp rfl, ⟨(decide (0 <= r2)), al, rfl, H⟩⟩

def zbv (x : Rch) (aa : Rch -> M Bool) : M Bool :=
  M.bind (aa x) fun r2 =>
  M.pure (!r2)
theorem zdl {R : List Chunk} {aa : Nat} {ab : Value} (x : Rch) (ac : Rch -> M Bool) (ae : FnM Tryz.prog R ab ac) (ag : Has R (cBlk aa [ab] 143)) {r : Bool} (hM : (zbv x ac).Ends r) (w : World) (H : St w w [] R) : Ret Tryz.prog 115 #[.agg #[I x.up, I x.down, I x.lo, I x.hi, B x.narrow], Pq aa] w fun v w' => ∃ (y0 : Bool), y0 = r /\ v = B y0 /\ St w w' [] R := by
 refine ret_of_W Tryz.func115 rfl rfl rfl ?_
 refine W.seq ?_
 refine W.region rfl ?_
 refine t_box (v := .agg #[I x.up, I x.down, I x.lo, I x.hi, B x.narrow]) (cs := [I x.up, I x.down, I x.lo, I x.hi, B x.narrow]) H rfl rfl ?_
 intro ah ak H
 refine zA (B false) rfl ?_
 refine s_nil ?_
 refine W.seq ?_
 refine W.region rfl ?_
 refine s_val (x_ld (p := Pq aa) (v := ab) rfl (ldb_sc Sc143 (ag.blk H) rfl)) ?_
 refine s_val (x_ld (p := Pq ah) (v := .agg #[I x.up, I x.down, I x.lo, I x.hi, B x.narrow]) rfl (ldb_ag (ds := [I x.up, I x.down, I x.lo, I x.hi, B x.narrow]) Ag58 Sz58 (H.bl 0) rfl rfl)) ?_
 obtain ⟨r2, ai, hM⟩ := M.e_bind hM
 refine t_callM H ae rfl rfl x Reads.none ⟨_, rfl, rfl⟩ ai ?_
 intro al H
 refine s_val (x_not (b := r2) rfl) ?_
 refine zA (B (!r2)) rfl ?_
 refine s_nil ?_
 refine W.ret ?_
 have aj := M.e_pure hM
 exact ⟨_, resE_tmp rfl, ⟨(!r2), aj, rfl, (H.pk [])⟩⟩

def zbz (l : List Rch) (so : Rch -> M Bool) : M Bool :=
  M.bind (zbV l (fun aa => zbv aa so)) fun r2 =>
  M.pure (!r2)
theorem zdb {R : List Chunk} {ag : Cells} {aa : Value} {ab : Value} (l : List Rch) (so : Rch -> M Bool) (ak : Reads R ag) (al : Sl ag aa l) (ah : FnM Tryz.prog R ab so) {r : Bool} (hM : (zbz l so).Ends r) (w : World) (H : St w w [] R) : Ret Tryz.prog 79 #[aa, ab] w fun v w' => ∃ (y0 : Bool), y0 = r /\ v = B y0 /\ St w w' [] R := by
 refine ret_of_W Tryz.func79 rfl rfl rfl ?_
 refine W.seq ?_
 refine W.region rfl ?_
 refine t_box (v := ab) (cs := [ab]) H rfl (FnM.cells ah) ?_
 intro ac aA H
 refine zA (B false) rfl ?_
 refine s_nil ?_
 refine W.seq ?_
 refine W.region rfl ?_
 refine zM aa rfl ?_
 refine s_val (x_mf (fs := []) (cs := [Pq ac]) rfl rfl) ?_
 obtain ⟨aB, am, hM⟩ := M.e_bind hM
 refine s_call cf114 [aa, .func (.func 115) #[] #[Pq ac]] rfl (zdi l (fun ae => zbv ae so) (ak.app _) al ⟨115, [Pq ac], rfl, cf115, fun ai aC aD ao ae aE ap aF aq au => by obtain rfl := Rch_arg aq; exact (zdl ae so (FnM.app (ah.app _) _) (Has.app (Has.here (k := 0) rfl) _) au ai (St.refl ap)).mono fun ao ai ⟨aG, av, aw, ax⟩ => by subst av; exact ⟨aw, ax⟩⟩ am _ (H.gt 1)) ?_
 rintro vq aH ⟨r2, ay, hvq, aj⟩
 subst ay
 subst vq
 try dsimp only at hM
 replace H := H.bk aj
 clear aj
 refine s_val (x_not (b := r2) rfl) ?_
 refine zA (B (!r2)) rfl ?_
 refine s_nil ?_
 refine W.ret ?_
 have az := M.e_pure hM
 exact ⟨_, resE_tmp rfl, ⟨(!r2), az, rfl, (H.pk [])⟩⟩

def za9 (r_ : Rch) (sections : Int) : M Bool :=
  M.grd (decide ((-9223372036854775808 : Int) <= (sections - 1)) && decide ((sections - 1) <= (9223372036854775807 : Int))) <|
  M.bind (zac r_.up 0 (sections - 1)) fun r2 =>
  M.grd ((!r2 || (decide ((-9223372036854775808 : Int) <= (r_.up + 1)) && decide ((r_.up + 1) <= (9223372036854775807 : Int))))) <|
  M.bind (M.opt r2 (zac r_.down (r_.up + 1) (sections - 1)) false) fun r3 =>
  M.bind (M.opt (r2 && r3) (za0 (⟨(r_.lo : Int), (r_.hi : Int)⟩ : Span) 1 400) false) fun r4 =>
  M.pure ((r2 && r3) && r4)
theorem zc9 {R : List Chunk}  (r_ : Rch) (sections : Int)  {r : Bool} (hM : (za9 r_ sections).Ends r) (w : World) (H : St w w [] R) : Ret Tryz.prog 81 #[.agg #[I r_.up, I r_.down, I r_.lo, I r_.hi, B r_.narrow], I sections] w fun v w' => ∃ (y0 : Bool), y0 = r /\ v = B y0 /\ St w w' [] R := by
 refine ret_of_W Tryz.func81 rfl rfl rfl ?_
 refine W.seq ?_
 refine W.region rfl ?_
 refine t_box (v := .agg #[I r_.up, I r_.down, I r_.lo, I r_.hi, B r_.narrow]) (cs := [I r_.up, I r_.down, I r_.lo, I r_.hi, B r_.narrow]) H rfl rfl ?_
 intro aa ap H
 refine zA (B false) rfl ?_
 refine s_nil ?_
 refine W.seq ?_
 refine W.region rfl ?_
 refine s_val (x_fa (a := Pq aa) (v := Pq aa) rfl (fa_blk (o := 0) Fd58_0 Sz3)) ?_
 refine s_val (x_ld (p := Pq aa) (v := I r_.up) rfl (ldb_sc Sc3 (H.bl 0) rfl)) ?_
 refine zM (I sections) rfl ?_
 obtain ⟨aj, hM⟩ := M.e_grd hM
 simp only [Bool.and_eq_true, decide_eq_true_eq] at aj
 refine zR sections 1 (sections - 1) rfl rfl rfl (by omega) ?_
 obtain ⟨aq, ak, hM⟩ := M.e_bind hM
 refine s_call cf70 [I r_.up, I 0, I (sections - 1)] rfl (zae r_.up 0 (sections - 1) ak _ (H.gt 1)) ?_
 rintro vq au ⟨r2, al, hvq, ai⟩
 subst al
 subst vq
 try dsimp only at hM
 replace H := H.bk ai
 clear ai
 refine zM (B r2) rfl ?_
 refine g_val r2 (gy_t rfl) (fun hg => x_fa (a := Pq aa) (v := Oq aa 1) rfl (fa_blk (o := 0) Fd58_1 Sz3)) ?_
 refine g_val r2 (gy_t rfl) (fun hg => x_ld (p := Oq aa 1) (v := I r_.down) (gd_of (c := r2) hg (Oq aa 1)) (ldb_sc Sc3 (H.bl 0) rfl)) ?_
 refine g_val r2 (gy_t rfl) (fun hg => x_fa (a := Pq aa) (v := Pq aa) rfl (fa_blk (o := 0) Fd58_0 Sz3)) ?_
 refine g_val r2 (gy_t rfl) (fun hg => x_ld (p := Pq aa) (v := I r_.up) (gd_of (c := r2) hg (Pq aa)) (ldb_sc Sc3 (H.bl 0) rfl)) ?_
 obtain ⟨ac, hM⟩ := M.e_grd hM
 replace ac := M.imp_of ac
 simp only [Bool.and_eq_true, decide_eq_true_eq] at ac
 refine g_val r2 (gy_t rfl) (fun hg => x_ari (a := r_.up) (b := 1) (r := r_.up + 1) (gd_of (c := r2) hg (I r_.up)) rfl rfl (by have ab := ac.resolve_left (by rw [hg]; decide); first | exact ab | exact ab.1 | exact ab.2 | omega | (have ag := hg; simp at ag; omega))) ?_
 refine g_val r2 (gy_t rfl) (fun hg => x_mv (v := I sections) rfl) ?_
 refine g_val r2 (gy_t rfl) (fun hg => x_ari (a := sections) (b := 1) (r := sections - 1) (gd_of (c := r2) hg (I sections)) rfl rfl (by have ab := ac.resolve_left (by rw [hg]; decide); first | exact ab | exact ab.1 | exact ab.2 | omega | (have ag := hg; simp at ag; omega))) ?_
 obtain ⟨r3, am, hM⟩ := M.e_bind hM
 refine t_gcall r2 (gy_t rfl) cf70 (B r3) (fun _ => [I r_.down, I (r_.up + 1), I (sections - 1)]) (fun hg => lst3 (gd_of (c := r2) hg (I r_.down)) (gd_of (c := r2) hg (I (r_.up + 1))) (gd_of (c := r2) hg (I (sections - 1)))) H (fun hg => (zae r_.down (r_.up + 1) (sections - 1) (M.e_opt am hg) _ (H.give (A := []) rfl)).mono fun v_ w_ ⟨y_, ae, ah, H_⟩ => by subst ae; exact ⟨ah, H.via H_⟩) ?_
 intro av H
 refine s_val (x_pand (b := r2) (r := r3) rfl (fun hb => gd_of (c := r2) (by first | exact hb | (rw [hb]; rfl) | simp_all) (B r3)) rfl) ?_
 refine zM (B (r2 && r3)) rfl ?_
 refine g_val (r2 && r3) (gy_t rfl) (fun hg => x_fa (a := Pq aa) (v := Oq aa 2) rfl (fa_blk (o := 0) Fd58_2 Sz54)) ?_
 refine g_val (r2 && r3) (gy_t rfl) (fun hg => x_ld (p := Oq aa 2) (v := .agg #[I r_.lo, I r_.hi]) (gd_of (c := (r2 && r3)) hg (Oq aa 2)) (ldb_ag (ds := [I r_.lo, I r_.hi]) Ag54 Sz54 (H.bl 0) rfl rfl)) ?_
 obtain ⟨r4, ao, hM⟩ := M.e_bind hM
 refine t_gcall (r2 && r3) (gy_t rfl) cf113 (B r4) (fun _ => [.agg #[I r_.lo, I r_.hi], I 1, I 400]) (fun hg => lst3 (gd_of (c := (r2 && r3)) hg (.agg #[I r_.lo, I r_.hi])) rfl rfl) H (fun hg => (zct (⟨(r_.lo : Int), (r_.hi : Int)⟩ : Span) 1 400 (M.e_opt ao hg) _ (H.give (A := []) rfl)).mono fun v_ w_ ⟨y_, ae, ah, H_⟩ => by subst ae; exact ⟨ah, H.via H_⟩) ?_
 intro aw H
 refine s_val (x_pand (b := (r2 && r3)) (r := r4) rfl (fun hb => gd_of (c := (r2 && r3)) (by first | exact hb | (rw [hb]; rfl) | simp_all) (B r4)) rfl) ?_
 refine zA (B ((r2 && r3) && r4)) rfl ?_
 refine s_nil ?_
 refine W.ret ?_
 have ae := M.e_pure hM
 exact ⟨_, resE_tmp rfl, ⟨((r2 && r3) && r4), ae, rfl, (H.pk [])⟩⟩

def zbn (r_ : Rch) (aa : List Sect) (ab : List Mrk) (ac : List Rch) : M Bool :=
  M.bind (za9 r_ (aa.length : Int)) fun r2 =>
  M.pure r2
theorem zde {R : List Chunk} {aa : Nat} {ae : Cells} {ac : Value} {ag : Cells} {ah : Value} {ai : Cells} {aj : Value} (r_ : Rch) (ab : List Sect) (ak : List Mrk) (al : List Rch) (ax : Reads R ae) (am : Sl ae ac ab) (ay : Reads R ag) (az : Sl ag ah ak) (aA : Reads R ai) (aB : Sl ai aj al) (ap : Has R (cBlk aa [ac, ah, aj] 27)) {r : Bool} (hM : (zbn r_ ab ak al).Ends r) (w : World) (H : St w w [] R) : Ret Tryz.prog 80 #[.agg #[I r_.up, I r_.down, I r_.lo, I r_.hi, B r_.narrow], Pq aa] w fun v w' => ∃ (y0 : Bool), y0 = r /\ v = B y0 /\ St w w' [] R := by
 refine ret_of_W Tryz.func80 rfl rfl rfl ?_
 refine W.seq ?_
 refine W.region rfl ?_
 refine t_box (v := .agg #[I r_.up, I r_.down, I r_.lo, I r_.hi, B r_.narrow]) (cs := [I r_.up, I r_.down, I r_.lo, I r_.hi, B r_.narrow]) H rfl rfl ?_
 intro aq aC H
 refine zA (B false) rfl ?_
 refine s_nil ?_
 refine W.seq ?_
 refine W.region rfl ?_
 refine s_val (x_ld (p := Pq aq) (v := .agg #[I r_.up, I r_.down, I r_.lo, I r_.hi, B r_.narrow]) rfl (ldb_ag (ds := [I r_.up, I r_.down, I r_.lo, I r_.hi, B r_.narrow]) Ag58 Sz58 (H.bl 0) rfl rfl)) ?_
 refine s_val (x_fa (a := Pq aa) (v := Pq aa) rfl (fa_blk (o := 0) Fd27_0 Sz23)) ?_
 refine s_val (x_ld (p := Pq aa) (v := ac) rfl (ldb_sc Sc23 (ap.blk H) rfl)) ?_
 have aD := (am).len_le
 refine s_val (x_lenS T23.und rfl am) ?_
 obtain ⟨aE, au, hM⟩ := M.e_bind hM
 refine s_call cf81 [.agg #[I r_.up, I r_.down, I r_.lo, I r_.hi, B r_.narrow], I (ab.length : Int)] rfl (zc9 r_ (ab.length : Int) au _ (H.gt 1)) ?_
 rintro vq aF ⟨r2, av, hvq, ao⟩
 subst av
 subst vq
 try dsimp only at hM
 replace H := H.bk ao
 clear ao
 refine zA (B r2) rfl ?_
 refine s_nil ?_
 refine W.ret ?_
 have aw := M.e_pure hM
 exact ⟨_, resE_tmp rfl, ⟨r2, aw, rfl, (H.pk [])⟩⟩

def zaN (s_Sections : List Sect) : (Int × Nat) -> M ((Int × Nat) ⊕ (Unit ⊕ Unit)) := fun (last, s2) =>
  bif decide ((s2 : Int) < (s_Sections.length : Int)) then (
  M.grd (decide ((s2 : Int) < (s_Sections.length : Int))) <|
  M.bind (zbt (s_Sections.getD s2 default)) fun r6 =>
  bif ((!r6) || (decide (((s_Sections.getD s2 default).place) <= last))) then (
  M.pure (.inr (.inl ())))
  else (
  M.pure (.inl ((s_Sections.getD s2 default).place, s2 + 1))))
  else (
  M.pure (.inr (.inr ())))
def zbf (s_Sections : List Sect) (s_Marks : List Mrk) (s_Reaches : List Rch) : M Int :=
  M.bind (zac (s_Sections.length : Int) 2 6) fun r2 =>
  M.bind (M.opt (!(!r2)) (zac (s_Marks.length : Int) 1 16) false) fun r3 =>
  M.bind (M.opt (!((!r2) || (!r3))) (zac (s_Reaches.length : Int) 1 6) false) fun r4 =>
  M.bind (M.opt (!(((!r2) || (!r3)) || (!r4))) (zbb s_Sections (fun aa => zbh aa)) false) fun r5 =>
  bif ((((!r2) || (!r3)) || (!r4)) || (!r5)) then (
  M.pure 3)
  else (
  M.bind (M.iter (zaN s_Sections) (-1, 0)) fun x_ => match x_ with
  | (.inl (_ : Unit)) => (
  M.pure 70)
  | (.inr (_ : Unit)) => (
  M.bind (zbq s_Marks (fun aa => zaQ aa)) fun r7 =>
  M.bind (M.opt (!(!r7)) (zbz s_Reaches (fun aa => zbn aa s_Sections s_Marks s_Reaches)) false) fun r8 =>
  bif ((!r7) || (!r8)) then (
  M.pure 70)
  else (
  M.pure 0)))
theorem zc3 {R : List Chunk} {aK : Cells} {ac : Value} {aL : Cells} {ah : Value} {aM : Cells} {ag : Value} (s_Sections : List Sect) (s_Marks : List Mrk) (s_Reaches : List Rch) (aB : Reads R aK) (ai : Sl aK ac s_Sections) (aN : Reads R aL) (aC : Sl aL ah s_Marks) (aO : Reads R aM) (aD : Sl aM ag s_Reaches) {r : Int} (hM : (zbf s_Sections s_Marks s_Reaches).Ends r) (w : World) (H : St w w [] R) : Ret Tryz.prog 26 #[.agg #[ac, ah, ag]] w fun v w' => ∃ (y0 : Int), y0 = r /\ v = I y0 /\ St w w' [] R := by
 refine ret_of_W Tryz.func26 rfl rfl rfl ?_
 refine W.seq ?_
 refine W.region rfl ?_
 refine t_box (v := .agg #[ac, ah, ag]) (cs := [ac, ah, ag]) H rfl rfl ?_
 intro aa bo H
 refine zA (I 0) rfl ?_
 refine s_nil ?_
 refine W.seq ?_
 refine W.region rfl ?_
 refine zA (.func (.func 74) #[] #[]) rfl ?_
 refine s_nil ?_
 refine W.seq ?_
 refine W.seq ?_
 refine W.region rfl ?_
 refine s_val (x_fa (a := Pq aa) (v := Pq aa) rfl (fa_blk (o := 0) Fd27_0 Sz23)) ?_
 refine s_val (x_ld (p := Pq aa) (v := ac) rfl (ldb_sc Sc23 (H.bl 0) rfl)) ?_
 have bp := (ai).len_le
 refine s_val (x_lenS T23.und rfl ai) ?_
 obtain ⟨bq, aV, hM⟩ := M.e_bind hM
 refine s_call cf70 [I (s_Sections.length : Int), I 2, I 6] rfl (zae (s_Sections.length : Int) 2 6 aV _ (H.gt 1)) ?_
 rintro vq br ⟨r2, aW, hvq, aj⟩
 subst aW
 subst vq
 try dsimp only at hM
 replace H := H.bk aj
 clear aj
 refine s_val (x_not (b := r2) rfl) ?_
 refine zM (B (!r2)) rfl ?_
 refine g_val (!(!r2)) (gy_f rfl) (fun hg => x_fa (a := Pq aa) (v := Oq aa 1) rfl (fa_blk (o := 0) Fd27_1 Sz24)) ?_
 refine g_val (!(!r2)) (gy_f rfl) (fun hg => x_ld (p := Oq aa 1) (v := ah) (gd_of (c := !(!r2)) hg (Oq aa 1)) (ldb_sc Sc24 (H.bl 0) rfl)) ?_
 have bt := (aC).len_le
 refine g_val (!(!r2)) (gy_f rfl) (fun hg => x_lenS T24.und (gd_of (c := !(!r2)) hg (ah)) aC) ?_
 obtain ⟨r3, aX, hM⟩ := M.e_bind hM
 refine t_gcall (!(!r2)) (gy_f rfl) cf70 (B r3) (fun _ => [I (s_Marks.length : Int), I 1, I 16]) (fun hg => lst3 (gd_of (c := !(!r2)) hg (I (s_Marks.length : Int))) rfl rfl) H (fun hg => (zae (s_Marks.length : Int) 1 16 (M.e_opt aX hg) _ (H.give (A := []) rfl)).mono fun v_ w_ ⟨y_, ab, am, H_⟩ => by subst ab; exact ⟨am, H.via H_⟩) ?_
 intro bu H
 refine g_val (!(!r2)) (gy_f rfl) (fun hg => x_not (b := r3) (gd_of (c := !(!r2)) hg (B r3))) ?_
 refine s_val (x_por (b := !r2) (r := !r3) rfl rfl (fun hb => gd_of (c := !(!r2)) (by first | exact hb | (rw [hb]; rfl) | simp_all) (B (!r3)))) ?_
 refine zM (B ((!r2) || (!r3))) rfl ?_
 refine g_val (!((!r2) || (!r3))) (gy_f rfl) (fun hg => x_fa (a := Pq aa) (v := Oq aa 2) rfl (fa_blk (o := 0) Fd27_2 Sz25)) ?_
 refine g_val (!((!r2) || (!r3))) (gy_f rfl) (fun hg => x_ld (p := Oq aa 2) (v := ag) (gd_of (c := !((!r2) || (!r3))) hg (Oq aa 2)) (ldb_sc Sc25 (H.bl 0) rfl)) ?_
 have bv := (aD).len_le
 refine g_val (!((!r2) || (!r3))) (gy_f rfl) (fun hg => x_lenS T25.und (gd_of (c := !((!r2) || (!r3))) hg (ag)) aD) ?_
 obtain ⟨r4, aY, hM⟩ := M.e_bind hM
 refine t_gcall (!((!r2) || (!r3))) (gy_f rfl) cf70 (B r4) (fun _ => [I (s_Reaches.length : Int), I 1, I 6]) (fun hg => lst3 (gd_of (c := !((!r2) || (!r3))) hg (I (s_Reaches.length : Int))) rfl rfl) H (fun hg => (zae (s_Reaches.length : Int) 1 6 (M.e_opt aY hg) _ (H.give (A := []) rfl)).mono fun v_ w_ ⟨y_, ab, am, H_⟩ => by subst ab; exact ⟨am, H.via H_⟩) ?_
 intro bw H
 refine g_val (!((!r2) || (!r3))) (gy_f rfl) (fun hg => x_not (b := r4) (gd_of (c := !((!r2) || (!r3))) hg (B r4))) ?_
 refine s_val (x_por (b := ((!r2) || (!r3))) (r := !r4) rfl rfl (fun hb => gd_of (c := !((!r2) || (!r3))) (by first | exact hb | (rw [hb]; rfl) | simp_all) (B (!r4)))) ?_
 refine zM (B (((!r2) || (!r3)) || (!r4))) rfl ?_
 refine g_val (!(((!r2) || (!r3)) || (!r4))) (gy_f rfl) (fun hg => x_fa (a := Pq aa) (v := Pq aa) rfl (fa_blk (o := 0) Fd27_0 Sz23)) ?_
 refine g_val (!(((!r2) || (!r3)) || (!r4))) (gy_f rfl) (fun hg => x_ld (p := Pq aa) (v := ac) (gd_of (c := !(((!r2) || (!r3)) || (!r4))) hg (Pq aa)) (ldb_sc Sc23 (H.bl 0) rfl)) ?_
 refine g_val (!(((!r2) || (!r3)) || (!r4))) (gy_f rfl) (fun hg => x_mv (v := .func (.func 74) #[] #[]) rfl) ?_
 obtain ⟨r5, aZ, hM⟩ := M.e_bind hM
 refine t_gcall (!(((!r2) || (!r3)) || (!r4))) (gy_f rfl) cf75 (B r5) (fun _ => [ac, .func (.func 74) #[] #[]]) (fun hg => lst2 (gd_of (c := !(((!r2) || (!r3)) || (!r4))) hg (ac)) (gd_of (c := !(((!r2) || (!r3)) || (!r4))) hg (.func (.func 74) #[] #[]))) H (fun hg => (zc2 s_Sections (fun ae => zbh ae) (aB.app _) ai ⟨74, [], rfl, cf74, fun ak aP aQ ap ae aR aq aE au av => by obtain ⟨bx, rfl, a6⟩ := Sect_arg au; exact (zcX ae aE a6 av ak (St.refl aq)).mono fun ap ak ⟨aS, aw, ax, ay⟩ => by subst aw; exact ⟨ax, ay⟩⟩ (M.e_opt aZ hg) _ (H.give (A := []) rfl)).mono fun v_ w_ ⟨y_, ab, am, H_⟩ => by subst ab; exact ⟨am, H.via H_⟩) ?_
 intro bz H
 refine g_val (!(((!r2) || (!r3)) || (!r4))) (gy_f rfl) (fun hg => x_not (b := r5) (gd_of (c := !(((!r2) || (!r3)) || (!r4))) hg (B r5))) ?_
 refine s_val (x_por (b := (((!r2) || (!r3)) || (!r4))) (r := !r5) rfl rfl (fun hb => gd_of (c := !(((!r2) || (!r3)) || (!r4))) (by first | exact hb | (rw [hb]; rfl) | simp_all) (B (!r5)))) ?_
 refine s_nil ?_
 refine W.cond ((((!r2) || (!r3)) || (!r4)) || (!r5)) rfl (fun aF => ?_) (fun aF => ?_)
 ·replace hM := M.e_t hM aF
  refine W.seq ?_
  refine W.region rfl ?_
  refine zA (I 3) rfl ?_
  refine s_nil ?_
  refine W.ret ?_
  have ab := M.e_pure hM
  exact ⟨_, resE_tmp rfl, ⟨3, ab, rfl, (H.pk [])⟩⟩
 replace hM := M.e_f hM aF
 refine W.skip ?_
 refine W.seq ?_
 refine W.region rfl ?_
 refine zA (I (-1)) rfl ?_
 refine s_nil ?_
 refine W.seq ?_
 refine W.seq ?_
 refine W.region rfl ?_
 refine s_val (x_fa (a := Pq aa) (v := Pq aa) rfl (fa_blk (o := 0) Fd27_0 Sz23)) ?_
 refine s_val (x_ld (p := Pq aa) (v := ac) rfl (ldb_sc Sc23 (H.bl 0) rfl)) ?_
 have bA := (ai).len_le
 refine s_val (x_lenS T23.und rfl ai) ?_
 refine zM (I 0) rfl ?_
 refine s_nil ?_
 refine W.block ?_
 obtain ⟨a7, aG, aT⟩ := M.e_bind hM
 obtain ⟨bB, aG⟩ := M.e_iter aG
 refine W.loop (fun m σ W => ∃ (last : Int) (s2 : Nat) (ρ : Env), σ = upds ρ [(1, Pq aa), (4, I last), (34, ac), (35, I (s_Sections.length : Int)), (36, I (s2 : Int))] /\ M.iterN (zaN s_Sections) m (last, s2) = some a7 /\ St w W [cBlk aa [ac, ah, ag] 27] R) ?_ ?_
 ·exact ⟨_, -1, 0, _, upds_of _ _ ⟨rfl, rfl, rfl, rfl, rfl, trivial⟩, aG, H⟩
 rintro bC σ bD ⟨last, s2, ρ, rfl, aU, H⟩
 obtain ⟨a8, ba, bE, hM, aH⟩ := M.e_iterN aU
 simp only [zaN] at hM
 clear aU
 refine W.seq ?_
 refine W.region rfl ?_
 refine zC (s2 : Int) (s_Sections.length : Int) (decide ((s2 : Int) < (s_Sections.length : Int))) rfl rfl rfl ?_
 refine s_nil ?_
 refine W.seq ?_
 refine W.cond (decide ((s2 : Int) < (s_Sections.length : Int))) rfl (fun az => ?_) (fun az => ?_)
 ·replace hM := M.e_t hM az
  simp only [qy1, qy2, qy3, qy4, qy5, qy6, ne_eq, qy7] at az
  refine W.skip ?_
  refine W.seq ?_
  refine W.block ?_
  refine W.seq ?_
  refine W.region rfl ?_
  obtain ⟨bb, hM⟩ := M.e_grd hM
  simp only [Bool.and_eq_true, decide_eq_true_eq] at bb
  refine s_val (x_ix (a := ac) (b := I (s2 : Int)) (v := vat ac 2 (Int.toNat (s2 : Int))) rfl rfl (Sl.ix (α := Sect) T23.und T23.size ai (by omega) (by omega))) ?_
  obtain ⟨ao, bc, aA⟩ := Sect_atA ai (i := (s2 : Int)) (by omega) (by omega)
  replace aA : Sl _ ao (s_Sections.getD s2 default).rows := aA
  have bF := aA.len_le
  refine s_val (x_ld (p := vat ac 2 (Int.toNat (s2 : Int))) (v := .agg #[I ((s_Sections.getD s2 default).place), ao]) rfl (ld_ag Ag68 Sz68 (At.mono bc (aB.at H)))) ?_
  refine t_alloc (cs := [I 0, .slice none 0 0]) H Al68 rfl ?_
  intro al bG H
  refine t_sw 0 0 [I ((s_Sections.getD s2 default).place), ao] (.agg #[I ((s_Sections.getD s2 default).place), ao]) H rfl rfl Sz68 rfl rfl rfl (by simp only [List.all_cons, List.all_nil, Bool.true_and, Bool.and_true, Sl.oc aA]; try rfl) ?_
  intro bH H
  refine s_nil ?_
  refine W.seq ?_
  refine W.seq ?_
  refine W.region rfl ?_
  refine s_val (x_ld (p := Pq al) (v := .agg #[I ((s_Sections.getD s2 default).place), ao]) rfl (ldb_ag (ds := [I ((s_Sections.getD s2 default).place), ao]) Ag68 Sz68 (H.bl 0) rfl rfl)) ?_
  obtain ⟨bI, bf, hM⟩ := M.e_bind hM
  refine s_call cf76 [.agg #[I ((s_Sections.getD s2 default).place), ao]] rfl (zcU (s_Sections.getD s2 default) (aB.app _) aA bf _ (H.gt 2)) ?_
  rintro vq bJ ⟨r6, bg, hvq, aj⟩
  subst bg
  subst vq
  try dsimp only at hM
  replace H := H.bk aj
  clear aj
  refine s_val (x_not (b := r6) rfl) ?_
  refine zM (B (!r6)) rfl ?_
  refine g_val (!(!r6)) (gy_f rfl) (fun hg => x_fa (a := Pq al) (v := Pq al) rfl (fa_blk (o := 0) Fd68_0 Sz3)) ?_
  refine g_val (!(!r6)) (gy_f rfl) (fun hg => x_ld (p := Pq al) (v := I ((s_Sections.getD s2 default).place)) (gd_of (c := !(!r6)) hg (Pq al)) (ldb_sc Sc3 (H.bl 0) rfl)) ?_
  refine g_val (!(!r6)) (gy_f rfl) (fun hg => x_mv (v := I last) rfl) ?_
  refine g_val (!(!r6)) (gy_f rfl) (fun hg => x_cmp (kd := .i64) (a := (s_Sections.getD s2 default).place) (b := last) (r := decide (((s_Sections.getD s2 default).place) <= last)) (gd_of (c := !(!r6)) hg (I ((s_Sections.getD s2 default).place))) (gd_of (c := !(!r6)) hg (I last)) rfl) ?_
  refine s_val (x_por (b := !r6) (r := decide (((s_Sections.getD s2 default).place) <= last)) rfl rfl (fun hb => gd_of (c := !(!r6)) (by first | exact hb | (rw [hb]; rfl) | simp_all) (B (decide (((s_Sections.getD s2 default).place) <= last))))) ?_
  refine s_nil ?_
  refine W.cond ((!r6) || (decide (((s_Sections.getD s2 default).place) <= last))) rfl (fun aI => ?_) (fun aI => ?_)
  ·replace hM := M.e_t hM aI
   refine W.seq ?_
   refine W.region rfl ?_
   refine zA (I 70) rfl ?_
   refine s_nil ?_
   refine W.ret ?_
   have bh := M.e_inr hM aH
   subst bh
   replace hM := aT
   try dsimp only at hM
   have ab := M.e_pure hM
   exact ⟨_, resE_tmp rfl, ⟨70, ab, rfl, (H.pk [])⟩⟩
  replace hM := M.e_f hM aI
  refine W.skip ?_
  refine W.region rfl ?_
  refine s_val (x_fa (a := Pq al) (v := Pq al) rfl (fa_blk (o := 0) Fd68_0 Sz3)) ?_
  refine s_val (x_ld (p := Pq al) (v := I ((s_Sections.getD s2 default).place)) rfl (ldb_sc Sc3 (H.bl 0) rfl)) ?_
  refine zA (I ((s_Sections.getD s2 default).place)) rfl ?_
  refine s_nil ?_
  refine W.region rfl ?_
  refine zR (s2 : Int) 1 ((s2 : Int) + 1) rfl rfl rfl (by omega) ?_
  refine zM (I ((s2 : Int) + 1)) rfl ?_
  refine s_nil ?_
  exact ⟨a8, ba, (s_Sections.getD s2 default).place, s2 + 1, _, upds_of _ _ ⟨rfl, rfl, rfl, rfl, rfl, trivial⟩, M.e_inl hM aH, (H.pk [1])⟩
 replace hM := M.e_f hM az
 simp only [qy1, qy2, qy3, qy4, qy5, qy6, ne_eq, qy7] at az
 refine W.exit ?_
 have bi := M.e_inr hM aH
 subst bi
 replace hM := aT
 try dsimp only at hM
 refine W.seq ?_
 refine W.seq ?_
 refine W.region rfl ?_
 refine s_val (x_fa (a := Pq aa) (v := Oq aa 1) rfl (fa_blk (o := 0) Fd27_1 Sz24)) ?_
 refine s_val (x_ld (p := Oq aa 1) (v := ah) rfl (ldb_sc Sc24 (H.bl 0) rfl)) ?_
 obtain ⟨bK, bj, hM⟩ := M.e_bind hM
 refine s_call cf77 [ah, .func (.func 78) #[] #[]] rfl (zdq s_Marks (fun ae => zaQ ae) (aN.app _) aC ⟨78, [], rfl, cf78, fun ak aP aQ ap ae aR aq aE au av => by obtain rfl := Mrk_arg au; exact (zcW ae av ak (St.refl aq)).mono fun ap ak ⟨aS, aw, ax, ay⟩ => by subst aw; exact ⟨ax, ay⟩⟩ bj _ (H.gt 1)) ?_
 rintro vq bL ⟨r7, bm, hvq, aj⟩
 subst bm
 subst vq
 try dsimp only at hM
 replace H := H.bk aj
 clear aj
 refine s_val (x_not (b := r7) rfl) ?_
 refine zM (B (!r7)) rfl ?_
 refine g_val (!(!r7)) (gy_f rfl) (fun hg => x_fa (a := Pq aa) (v := Oq aa 2) rfl (fa_blk (o := 0) Fd27_2 Sz25)) ?_
 refine g_val (!(!r7)) (gy_f rfl) (fun hg => x_ld (p := Oq aa 2) (v := ag) (gd_of (c := !(!r7)) hg (Oq aa 2)) (ldb_sc Sc25 (H.bl 0) rfl)) ?_
 refine g_val (!(!r7)) (gy_f rfl) (fun hg => x_mf (fs := []) (cs := [Pq aa]) rfl rfl) ?_
 obtain ⟨r8, bn, hM⟩ := M.e_bind hM
 refine t_gcall (!(!r7)) (gy_f rfl) cf79 (B r8) (fun _ => [ag, .func (.func 80) #[] #[Pq aa]]) (fun hg => lst2 (gd_of (c := !(!r7)) hg (ag)) (gd_of (c := !(!r7)) hg (.func (.func 80) #[] #[Pq aa]))) H (fun hg => (zdb s_Reaches (fun ae => zbn ae s_Sections s_Marks s_Reaches) (aO.app _) aD ⟨80, [Pq aa], rfl, cf80, fun ak aP aQ ap ae aR aq aE au av => by obtain rfl := Rch_arg au; exact (zde ae s_Sections s_Marks s_Reaches (Reads.app (aB.app _) _) ai (Reads.app (aN.app _) _) aC (Reads.app (aO.app _) _) aD (Has.app (Has.here (k := 0) rfl) _) av ak (St.refl aq)).mono fun ap ak ⟨aS, aw, ax, ay⟩ => by subst aw; exact ⟨ax, ay⟩⟩ (M.e_opt bn hg) _ (H.give (A := []) rfl)).mono fun v_ w_ ⟨y_, ab, am, H_⟩ => by subst ab; exact ⟨am, H.via H_⟩) ?_
 intro bM H
 refine g_val (!(!r7)) (gy_f rfl) (fun hg => x_not (b := r8) (gd_of (c := !(!r7)) hg (B r8))) ?_
 refine s_val (x_por (b := !r7) (r := !r8) rfl rfl (fun hb => gd_of (c := !(!r7)) (by first | exact hb | (rw [hb]; rfl) | simp_all) (B (!r8)))) ?_
 refine s_nil ?_
 refine W.cond ((!r7) || (!r8)) rfl (fun aJ => ?_) (fun aJ => ?_)
 ·replace hM := M.e_t hM aJ
  refine W.seq ?_
  refine W.region rfl ?_
  refine zA (I 70) rfl ?_
  refine s_nil ?_
  refine W.ret ?_
  have ab := M.e_pure hM
  exact ⟨_, resE_tmp rfl, ⟨70, ab, rfl, (H.pk [])⟩⟩
 replace hM := M.e_f hM aJ
 refine W.skip ?_
 refine W.seq ?_
 refine W.region rfl ?_
 refine zA (I 0) rfl ?_
 refine s_nil ?_
 refine W.ret ?_
 have ab := M.e_pure hM
 exact ⟨_, resE_tmp rfl, ⟨0, ab, rfl, (H.pk [])⟩⟩

def zao (s_Sections : List Sect) (s_Marks : List Mrk) (s_Reaches : List Rch) : M (Int ⊕ Int) :=
  M.bind (zbf s_Sections s_Marks s_Reaches) fun r2 =>
  bif r2 != 0 then (
  M.pure (.inl r2))
  else (
  M.pure (.inr 0))
theorem zaK {R : List Chunk} {ai : Cells} {aa : Value} {aj : Cells} {ab : Value} {ak : Cells} {ac : Value} (s_Sections : List Sect) (s_Marks : List Mrk) (s_Reaches : List Rch) (au : Reads R ai) (av : Sl ai aa s_Sections) (aw : Reads R aj) (ax : Sl aj ab s_Marks) (ay : Reads R ak) (az : Sl ak ac s_Reaches) {r : (Int ⊕ Int)} (hM : (zao s_Sections s_Marks s_Reaches).Ends r) (w : World) (H : St w w [] R) : Ret Tryz.prog 49 #[.agg #[aa, ab, ac]] w fun v w' => (∃ (y0 : Int), (.inl y0) = r /\ v = .tuple #[.pointer none, I y0] /\ St w w' [] R) ∨ (∃ (y0 : Int) (al : Nat) (am : Nat), (.inr y0) = r /\ v = .tuple #[Pq al, I y0] /\ St w w' [cBlk al [aa, ab, ac, .map (some am)] 177, cMemI encSpt am (zaa s_Sections s_Marks s_Reaches)] R) := by
 refine ret_of_W Tryz.func49 rfl rfl rfl ?_
 refine W.seq ?_
 refine W.region rfl ?_
 refine t_box (v := .agg #[aa, ab, ac]) (cs := [aa, ab, ac]) H rfl rfl ?_
 intro ao aC H
 refine zA (.pointer none) rfl ?_
 refine zA (I 0) rfl ?_
 refine s_nil ?_
 refine W.seq ?_
 refine W.seq ?_
 refine W.region rfl ?_
 refine s_val (x_ld (p := Pq ao) (v := .agg #[aa, ab, ac]) rfl (ldb_ag (ds := [aa, ab, ac]) Ag27 Sz27 (H.bl 0) rfl rfl)) ?_
 obtain ⟨aD, aA, hM⟩ := M.e_bind hM
 refine s_call cf26 [.agg #[aa, ab, ac]] rfl (zc3 s_Sections s_Marks s_Reaches (au.app _) av (aw.app _) ax (ay.app _) az aA _ (H.gt 1)) ?_
 rintro vq aE ⟨r2, aB, hvq, ap⟩
 subst aB
 subst vq
 try dsimp only at hM
 replace H := H.bk ap
 clear ap
 refine zA (I r2) rfl ?_
 refine s_nil ?_
 refine W.seq ?_
 refine W.region rfl ?_
 refine zM (I r2) rfl ?_
 refine zC r2 0 (r2 != 0) rfl rfl rfl ?_
 refine s_nil ?_
 refine W.cond (r2 != 0) rfl (fun ag => ?_) (fun ag => ?_)
 ·replace hM := M.e_t hM ag
  simp only [qy1, qy2, qy3, qy4, qy5, qy6, ne_eq, qy7] at ag
  refine W.seq ?_
  refine W.region rfl ?_
  refine zM (I r2) rfl ?_
  refine zA (.pointer none) rfl ?_
  refine zA (I r2) rfl ?_
  refine s_nil ?_
  refine W.ret ?_
  have ah := M.e_pure hM
  exact ⟨_, resE_tmp2 rfl, .inl (⟨r2, ah, rfl, (H.pk [])⟩)⟩
 replace hM := M.e_f hM ag
 simp only [qy1, qy2, qy3, qy4, qy5, qy6, ne_eq, qy7] at ag
 refine W.skip ?_
 refine W.seq ?_
 refine W.region rfl ?_
 refine s_val (x_ld (p := Pq ao) (v := .agg #[aa, ab, ac]) rfl (ldb_ag (ds := [aa, ab, ac]) Ag27 Sz27 (H.bl 0) rfl rfl)) ?_
 refine t_mkmemI encSpt (zaa s_Sections s_Marks s_Reaches) H ?_
 intro ae aF H
 refine s_val (x_bld (ps := [(0, .agg #[aa, ab, ac]), (1, .map (some ae))]) (zs := [.slice none 0 0, .slice none 0 0, .slice none 0 0, .map none]) (L' := [aa, ab, ac, .map (some ae)]) rfl Tryz.underlying177 Al177 rfl (Bd177 Tryz.underlying177) (.cons (cs := [aa, ab, ac]) rfl rfl rfl rfl rfl <| .cons (cs := [.map (some ae)]) rfl rfl rfl rfl rfl <| .nil)) ?_
 refine t_box (v := .agg #[aa, ab, ac, .map (some ae)]) (cs := [aa, ab, ac, .map (some ae)]) H rfl rfl ?_
 intro aq aG H
 refine zA (Pq aq) rfl ?_
 refine zA (I 0) rfl ?_
 refine s_nil ?_
 refine W.ret ?_
 have ah := M.e_pure hM
 exact ⟨_, resE_tmp2 rfl, .inr (⟨0, aq, ae, ah, rfl, (H.pk [0, 1])⟩)⟩

def zbW (s_Marks : List Mrk) (marks : List Int) : (Int × Int × Nat) -> M ((Int × Int × Nat) ⊕ Int) := fun (e2, last, s2) =>
  bif decide ((s2 : Int) < (marks.length : Int)) then (
  M.grd (decide ((s2 : Int) < (marks.length : Int))) <|
  M.grd ((!(e2 == 0) || (decide ((-9223372036854775808 : Int) <= (last + 1)) && decide ((last + 1) <= (9223372036854775807 : Int))))) <|
  M.bind (M.opt (e2 == 0) (zac (marks.getD s2 0) (last + 1) ((s_Marks.length : Int) - 1)) false) fun r2 =>
  bif ((e2 == 0) && (!r2)) then (
  M.pure (.inl (2, marks.getD s2 0, s2 + 1)))
  else (
  M.pure (.inl (e2, marks.getD s2 0, s2 + 1))))
  else (
  M.pure (.inr e2))
def zaV (s_Marks : List Mrk) (marks : List Int) : (Int × Int × Nat) -> M ((Int × Int × Nat) ⊕ Int) := fun (e2, last, s2) =>
  bif decide ((s2 : Int) < (marks.length : Int)) then (
  M.grd (decide ((s2 : Int) < (marks.length : Int))) <|
  M.grd ((!(e2 == 0) || (decide ((-9223372036854775808 : Int) <= (last + 1)) && decide ((last + 1) <= (9223372036854775807 : Int))))) <|
  M.bind (M.opt (e2 == 0) (zac (marks.getD s2 0) (last + 1) ((s_Marks.length : Int) - 1)) false) fun r2 =>
  bif ((e2 == 0) && (!r2)) then (
  M.pure (.inl (2, marks.getD s2 0, s2 + 1)))
  else (
  M.pure (.inl (e2, marks.getD s2 0, s2 + 1))))
  else (
  M.pure (.inr e2))
def zaw (s_Sections : List Sect) (s_Marks : List Mrk) (s_Reaches : List Rch) (marks : List Int) : M (Int ⊕ Int) :=
  M.bind (zao s_Sections s_Marks s_Reaches) fun x_ => match x_ with
  | (.inl r1) => (
  M.bind (M.iter (zbW s_Marks marks) (r1, -1, 0)) fun e3 =>
  M.pure (.inl e3))
  | (.inr aa) => (
  M.bind (M.iter (zaV s_Marks marks) (aa, -1, 0)) fun e3 =>
  M.pure (.inr e3))
theorem zbF {R : List Chunk} {aF : Cells} {ag : Value} {aG : Cells} {aa : Value} {aH : Cells} {ah : Value} {aI : Cells} {ae : Value} (s_Sections : List Sect) (s_Marks : List Mrk) (s_Reaches : List Rch) (marks : List Int) (aS : Reads R aF) (aT : Sl aF ag s_Sections) (aU : Reads R aG) (ao : Sl aG aa s_Marks) (aV : Reads R aH) (aW : Sl aH ah s_Reaches) (aJ : Reads R aI) (aj : Sl aI ae marks) {r : (Int ⊕ Int)} (hM : (zaw s_Sections s_Marks s_Reaches marks).Ends r) (w : World) (H : St w w [] R) : Ret Tryz.prog 57 #[.agg #[ag, aa, ah], ae] w fun v w' => (∃ (y0 : Int), (.inl y0) = r /\ v = .tuple #[.pointer none, I y0] /\ St w w' [] R) ∨ (∃ (y0 : Int) (aK : Nat) (aL : Nat), (.inr y0) = r /\ v = .tuple #[Pq aK, I y0] /\ St w w' [cBlk aK [ag, aa, ah, .map (some aL)] 177, cMemI encSpt aL (zaa s_Sections s_Marks s_Reaches)] R) := by
 refine ret_of_W Tryz.func57 rfl rfl rfl ?_
 refine W.seq ?_
 refine W.region rfl ?_
 refine t_box (v := .agg #[ag, aa, ah]) (cs := [ag, aa, ah]) H rfl rfl ?_
 intro ac bm H
 refine zA (.pointer none) rfl ?_
 refine zA (I 0) rfl ?_
 refine s_nil ?_
 refine W.seq ?_
 refine W.region rfl ?_
 refine s_val (x_ld (p := Pq ac) (v := .agg #[ag, aa, ah]) rfl (ldb_ag (ds := [ag, aa, ah]) Ag27 Sz27 (H.bl 0) rfl rfl)) ?_
 obtain ⟨bn, aX, hM⟩ := M.e_bind hM
 refine s_call cf49 [.agg #[ag, aa, ah]] rfl (zaK s_Sections s_Marks s_Reaches (aS.app _) aT (aU.app _) ao (aV.app _) aW aX _ (H.gt 1)) ?_
 rintro vq bo (⟨r1, aY, hvq, ap⟩ | ⟨am, ai, ax, aZ, hvq, ap⟩)
 ·subst aY
  subst vq
  try dsimp only at hM
  replace H := H.bk ap
  clear ap
  refine zM (.tuple #[.pointer none, I r1]) rfl ?_
  refine zX [.pointer none, I r1] (.pointer none) rfl rfl ?_
  refine zX [.pointer none, I r1] (I r1) rfl rfl ?_
  refine zA (.pointer none) rfl ?_
  refine zA (I r1) rfl ?_
  refine s_nil ?_
  refine W.seq ?_
  refine W.region rfl ?_
  refine zA (I (-1)) rfl ?_
  refine s_nil ?_
  refine W.seq ?_
  refine W.seq ?_
  refine W.region rfl ?_
  refine zM ae rfl ?_
  have bp := (aj).len_le
  refine s_val (x_lenS T28.und rfl aj) ?_
  refine zM (I 0) rfl ?_
  refine s_nil ?_
  refine W.block ?_
  obtain ⟨a6, ay, a7⟩ := M.e_bind hM
  obtain ⟨a8, ay⟩ := M.e_iter ay
  refine W.loop (fun m σ W => ∃ (e2 : Int) (last : Int) (s2 : Nat) (ρ : Env), σ = upds ρ [(2, Pq ac), (6, .pointer none), (7, I e2), (8, I last), (16, ae), (17, I (marks.length : Int)), (18, I (s2 : Int))] /\ M.iterN (zbW s_Marks marks) m (e2, last, s2) = some a6 /\ St w W [cBlk ac [ag, aa, ah] 27] R) ?_ ?_
  ·exact ⟨_, r1, -1, 0, _, upds_of _ _ ⟨rfl, rfl, rfl, rfl, rfl, rfl, rfl, trivial⟩, ay, H⟩
  rintro bq σ br ⟨e2, last, s2, ρ, rfl, aM, H⟩
  obtain ⟨aN, aO, bt, hM, az⟩ := M.e_iterN aM
  simp only [zbW] at hM
  clear aM
  refine W.seq ?_
  refine W.region rfl ?_
  refine zC (s2 : Int) (marks.length : Int) (decide ((s2 : Int) < (marks.length : Int))) rfl rfl rfl ?_
  refine s_nil ?_
  refine W.seq ?_
  refine W.cond (decide ((s2 : Int) < (marks.length : Int))) rfl (fun aq => ?_) (fun aq => ?_)
  ·replace hM := M.e_t hM aq
   simp only [qy1, qy2, qy3, qy4, qy5, qy6, ne_eq, qy7] at aq
   refine W.skip ?_
   refine W.seq ?_
   refine W.block ?_
   refine W.seq ?_
   refine W.region rfl ?_
   obtain ⟨ba, hM⟩ := M.e_grd hM
   simp only [Bool.and_eq_true, decide_eq_true_eq] at ba
   refine s_val (x_ix (a := ae) (b := I (s2 : Int)) (v := vat ae 1 (Int.toNat (s2 : Int))) rfl rfl (Sl.ix (α := Int) T28.und T28.size aj (by omega) (by omega))) ?_
   refine s_val (x_ld (p := vat ae 1 (Int.toNat (s2 : Int))) (v := I (marks.getD s2 0)) rfl (ld_sc Sc3 (At.mono (Int_at aj (i := (s2 : Int)) (by omega) (by omega)) (aJ.at H)))) ?_
   refine zA (I (marks.getD s2 0)) rfl ?_
   refine s_nil ?_
   refine W.seq ?_
   refine W.seq ?_
   refine W.region rfl ?_
   refine zM (I e2) rfl ?_
   refine zC e2 0 (e2 == 0) rfl rfl rfl ?_
   refine zM (B (e2 == 0)) rfl ?_
   refine g_val (e2 == 0) (gy_t rfl) (fun hg => x_mv (v := I (marks.getD s2 0)) rfl) ?_
   refine g_val (e2 == 0) (gy_t rfl) (fun hg => x_mv (v := I last) rfl) ?_
   obtain ⟨au, hM⟩ := M.e_grd hM
   replace au := M.imp_of au
   simp only [Bool.and_eq_true, decide_eq_true_eq] at au
   refine g_val (e2 == 0) (gy_t rfl) (fun hg => x_ari (a := last) (b := 1) (r := last + 1) (gd_of (c := e2 == 0) hg (I last)) rfl rfl (by have ab := au.resolve_left (by rw [hg]; decide); first | exact ab | exact ab.1 | exact ab.2 | omega | (have ak := hg; simp at ak; omega))) ?_
   refine g_val (e2 == 0) (gy_t rfl) (fun hg => x_fa (a := Pq ac) (v := Oq ac 1) rfl (fa_blk (o := 0) Fd27_1 Sz24)) ?_
   refine g_val (e2 == 0) (gy_t rfl) (fun hg => x_ld (p := Oq ac 1) (v := aa) (gd_of (c := e2 == 0) hg (Oq ac 1)) (ldb_sc Sc24 (H.bl 0) rfl)) ?_
   have bu := (ao).len_le
   refine g_val (e2 == 0) (gy_t rfl) (fun hg => x_lenS T24.und (gd_of (c := e2 == 0) hg (aa)) ao) ?_
   refine g_val (e2 == 0) (gy_t rfl) (fun hg => x_ari (a := (s_Marks.length : Int)) (b := 1) (r := (s_Marks.length : Int) - 1) (gd_of (c := e2 == 0) hg (I (s_Marks.length : Int))) rfl rfl (by have ab := au.resolve_left (by rw [hg]; decide); first | exact ab | exact ab.1 | exact ab.2 | omega | (have ak := hg; simp at ak; omega))) ?_
   obtain ⟨r2, bb, hM⟩ := M.e_bind hM
   refine t_gcall (e2 == 0) (gy_t rfl) cf70 (B r2) (fun _ => [I (marks.getD s2 0), I (last + 1), I ((s_Marks.length : Int) - 1)]) (fun hg => lst3 (gd_of (c := e2 == 0) hg (I (marks.getD s2 0))) (gd_of (c := e2 == 0) hg (I (last + 1))) (gd_of (c := e2 == 0) hg (I ((s_Marks.length : Int) - 1)))) H (fun hg => (zae (marks.getD s2 0) (last + 1) ((s_Marks.length : Int) - 1) (M.e_opt bb hg) _ (H.give (A := []) rfl)).mono fun v_ w_ ⟨y_, al, aA, H_⟩ => by subst al; exact ⟨aA, H.via H_⟩) ?_
   intro bv H
   refine g_val (e2 == 0) (gy_t rfl) (fun hg => x_not (b := r2) (gd_of (c := e2 == 0) hg (B r2))) ?_
   refine s_val (x_pand (b := e2 == 0) (r := !r2) rfl (fun hb => gd_of (c := e2 == 0) (by first | exact hb | (rw [hb]; rfl) | simp_all) (B (!r2))) rfl) ?_
   refine s_nil ?_
   refine W.cond ((e2 == 0) && (!r2)) rfl (fun aB => ?_) (fun aB => ?_)
   ·replace hM := M.e_t hM aB
    refine W.region rfl ?_
    refine zA (I 2) rfl ?_
    refine s_nil ?_
    refine W.region rfl ?_
    refine zM (I (marks.getD s2 0)) rfl ?_
    refine zA (I (marks.getD s2 0)) rfl ?_
    refine s_nil ?_
    refine W.region rfl ?_
    refine zR (s2 : Int) 1 ((s2 : Int) + 1) rfl rfl rfl (by omega) ?_
    refine zM (I ((s2 : Int) + 1)) rfl ?_
    refine s_nil ?_
    exact ⟨aN, aO, 2, marks.getD s2 0, s2 + 1, _, upds_of _ _ ⟨rfl, rfl, rfl, rfl, rfl, rfl, rfl, trivial⟩, M.e_inl hM az, H⟩
   replace hM := M.e_f hM aB
   refine W.skip ?_
   refine W.region rfl ?_
   refine zM (I (marks.getD s2 0)) rfl ?_
   refine zA (I (marks.getD s2 0)) rfl ?_
   refine s_nil ?_
   refine W.region rfl ?_
   refine zR (s2 : Int) 1 ((s2 : Int) + 1) rfl rfl rfl (by omega) ?_
   refine zM (I ((s2 : Int) + 1)) rfl ?_
   refine s_nil ?_
   exact ⟨aN, aO, e2, marks.getD s2 0, s2 + 1, _, upds_of _ _ ⟨rfl, rfl, rfl, rfl, rfl, rfl, rfl, trivial⟩, M.e_inl hM az, H⟩
  replace hM := M.e_f hM aq
  simp only [qy1, qy2, qy3, qy4, qy5, qy6, ne_eq, qy7] at aq
  refine W.exit ?_
  have bc := M.e_inr hM az
  subst bc
  replace hM := a7
  try dsimp only at hM
  refine W.seq ?_
  refine W.region rfl ?_
  refine zM (.pointer none) rfl ?_
  refine zM (I e2) rfl ?_
  refine zA (.pointer none) rfl ?_
  refine zA (I e2) rfl ?_
  refine s_nil ?_
  refine W.ret ?_
  have al := M.e_pure hM
  exact ⟨_, resE_tmp2 rfl, .inl (⟨e2, al, rfl, (H.pk [])⟩)⟩
 subst aZ
 subst vq
 try dsimp only at hM
 replace H := H.bk ap
 clear ap
 refine zM (.tuple #[Pq ai, I am]) rfl ?_
 refine zX [Pq ai, I am] (Pq ai) rfl rfl ?_
 refine zX [Pq ai, I am] (I am) rfl rfl ?_
 refine zA (Pq ai) rfl ?_
 refine zA (I am) rfl ?_
 refine s_nil ?_
 refine W.seq ?_
 refine W.region rfl ?_
 refine zA (I (-1)) rfl ?_
 refine s_nil ?_
 refine W.seq ?_
 refine W.seq ?_
 refine W.region rfl ?_
 refine zM ae rfl ?_
 have bw := (aj).len_le
 refine s_val (x_lenS T28.und rfl aj) ?_
 refine zM (I 0) rfl ?_
 refine s_nil ?_
 refine W.block ?_
 obtain ⟨bf, aC, bg⟩ := M.e_bind hM
 obtain ⟨a8, aC⟩ := M.e_iter aC
 refine W.loop (fun m σ W => ∃ (e2 : Int) (last : Int) (s2 : Nat) (ρ : Env), σ = upds ρ [(2, Pq ac), (6, Pq ai), (7, I e2), (8, I last), (16, ae), (17, I (marks.length : Int)), (18, I (s2 : Int))] /\ M.iterN (zaV s_Marks marks) m (e2, last, s2) = some bf /\ St w W [cBlk ai [ag, aa, ah, .map (some ax)] 177, cMemI encSpt ax (zaa s_Sections s_Marks s_Reaches), cBlk ac [ag, aa, ah] 27] R) ?_ ?_
 ·exact ⟨_, am, -1, 0, _, upds_of _ _ ⟨rfl, rfl, rfl, rfl, rfl, rfl, rfl, trivial⟩, aC, H⟩
 rintro bx σ bz ⟨e2, last, s2, ρ, rfl, aP, H⟩
 obtain ⟨aQ, aR, bA, hM, aD⟩ := M.e_iterN aP
 simp only [zaV] at hM
 clear aP
 refine W.seq ?_
 refine W.region rfl ?_
 refine zC (s2 : Int) (marks.length : Int) (decide ((s2 : Int) < (marks.length : Int))) rfl rfl rfl ?_
 refine s_nil ?_
 refine W.seq ?_
 refine W.cond (decide ((s2 : Int) < (marks.length : Int))) rfl (fun av => ?_) (fun av => ?_)
 ·replace hM := M.e_t hM av
  simp only [qy1, qy2, qy3, qy4, qy5, qy6, ne_eq, qy7] at av
  refine W.skip ?_
  refine W.seq ?_
  refine W.block ?_
  refine W.seq ?_
  refine W.region rfl ?_
  obtain ⟨bh, hM⟩ := M.e_grd hM
  simp only [Bool.and_eq_true, decide_eq_true_eq] at bh
  refine s_val (x_ix (a := ae) (b := I (s2 : Int)) (v := vat ae 1 (Int.toNat (s2 : Int))) rfl rfl (Sl.ix (α := Int) T28.und T28.size aj (by omega) (by omega))) ?_
  refine s_val (x_ld (p := vat ae 1 (Int.toNat (s2 : Int))) (v := I (marks.getD s2 0)) rfl (ld_sc Sc3 (At.mono (Int_at aj (i := (s2 : Int)) (by omega) (by omega)) (aJ.at H)))) ?_
  refine zA (I (marks.getD s2 0)) rfl ?_
  refine s_nil ?_
  refine W.seq ?_
  refine W.seq ?_
  refine W.region rfl ?_
  refine zM (I e2) rfl ?_
  refine zC e2 0 (e2 == 0) rfl rfl rfl ?_
  refine zM (B (e2 == 0)) rfl ?_
  refine g_val (e2 == 0) (gy_t rfl) (fun hg => x_mv (v := I (marks.getD s2 0)) rfl) ?_
  refine g_val (e2 == 0) (gy_t rfl) (fun hg => x_mv (v := I last) rfl) ?_
  obtain ⟨aw, hM⟩ := M.e_grd hM
  replace aw := M.imp_of aw
  simp only [Bool.and_eq_true, decide_eq_true_eq] at aw
  refine g_val (e2 == 0) (gy_t rfl) (fun hg => x_ari (a := last) (b := 1) (r := last + 1) (gd_of (c := e2 == 0) hg (I last)) rfl rfl (by have ab := aw.resolve_left (by rw [hg]; decide); first | exact ab | exact ab.1 | exact ab.2 | omega | (have ak := hg; simp at ak; omega))) ?_
  refine g_val (e2 == 0) (gy_t rfl) (fun hg => x_fa (a := Pq ac) (v := Oq ac 1) rfl (fa_blk (o := 0) Fd27_1 Sz24)) ?_
  refine g_val (e2 == 0) (gy_t rfl) (fun hg => x_ld (p := Oq ac 1) (v := aa) (gd_of (c := e2 == 0) hg (Oq ac 1)) (ldb_sc Sc24 (H.bl 2) rfl)) ?_
  have bB := (ao).len_le
  refine g_val (e2 == 0) (gy_t rfl) (fun hg => x_lenS T24.und (gd_of (c := e2 == 0) hg (aa)) ao) ?_
  refine g_val (e2 == 0) (gy_t rfl) (fun hg => x_ari (a := (s_Marks.length : Int)) (b := 1) (r := (s_Marks.length : Int) - 1) (gd_of (c := e2 == 0) hg (I (s_Marks.length : Int))) rfl rfl (by have ab := aw.resolve_left (by rw [hg]; decide); first | exact ab | exact ab.1 | exact ab.2 | omega | (have ak := hg; simp at ak; omega))) ?_
  obtain ⟨r2, bi, hM⟩ := M.e_bind hM
  refine t_gcall (e2 == 0) (gy_t rfl) cf70 (B r2) (fun _ => [I (marks.getD s2 0), I (last + 1), I ((s_Marks.length : Int) - 1)]) (fun hg => lst3 (gd_of (c := e2 == 0) hg (I (marks.getD s2 0))) (gd_of (c := e2 == 0) hg (I (last + 1))) (gd_of (c := e2 == 0) hg (I ((s_Marks.length : Int) - 1)))) H (fun hg => (zae (marks.getD s2 0) (last + 1) ((s_Marks.length : Int) - 1) (M.e_opt bi hg) _ (H.give (A := []) rfl)).mono fun v_ w_ ⟨y_, al, aA, H_⟩ => by subst al; exact ⟨aA, H.via H_⟩) ?_
  intro bC H
  refine g_val (e2 == 0) (gy_t rfl) (fun hg => x_not (b := r2) (gd_of (c := e2 == 0) hg (B r2))) ?_
  refine s_val (x_pand (b := e2 == 0) (r := !r2) rfl (fun hb => gd_of (c := e2 == 0) (by first | exact hb | (rw [hb]; rfl) | simp_all) (B (!r2))) rfl) ?_
  refine s_nil ?_
  refine W.cond ((e2 == 0) && (!r2)) rfl (fun aE => ?_) (fun aE => ?_)
  ·replace hM := M.e_t hM aE
   refine W.region rfl ?_
   refine zA (I 2) rfl ?_
   refine s_nil ?_
   refine W.region rfl ?_
   refine zM (I (marks.getD s2 0)) rfl ?_
   refine zA (I (marks.getD s2 0)) rfl ?_
   refine s_nil ?_
   refine W.region rfl ?_
   refine zR (s2 : Int) 1 ((s2 : Int) + 1) rfl rfl rfl (by omega) ?_
   refine zM (I ((s2 : Int) + 1)) rfl ?_
   refine s_nil ?_
   exact ⟨aQ, aR, 2, marks.getD s2 0, s2 + 1, _, upds_of _ _ ⟨rfl, rfl, rfl, rfl, rfl, rfl, rfl, trivial⟩, M.e_inl hM aD, H⟩
  replace hM := M.e_f hM aE
  refine W.skip ?_
  refine W.region rfl ?_
  refine zM (I (marks.getD s2 0)) rfl ?_
  refine zA (I (marks.getD s2 0)) rfl ?_
  refine s_nil ?_
  refine W.region rfl ?_
  refine zR (s2 : Int) 1 ((s2 : Int) + 1) rfl rfl rfl (by omega) ?_
  refine zM (I ((s2 : Int) + 1)) rfl ?_
  refine s_nil ?_
  exact ⟨aQ, aR, e2, marks.getD s2 0, s2 + 1, _, upds_of _ _ ⟨rfl, rfl, rfl, rfl, rfl, rfl, rfl, trivial⟩, M.e_inl hM aD, H⟩
 replace hM := M.e_f hM av
 simp only [qy1, qy2, qy3, qy4, qy5, qy6, ne_eq, qy7] at av
 refine W.exit ?_
 have bj := M.e_inr hM aD
 subst bj
 replace hM := bg
 try dsimp only at hM
 refine W.seq ?_
 refine W.region rfl ?_
 refine zM (Pq ai) rfl ?_
 refine zM (I e2) rfl ?_
 refine zA (Pq ai) rfl ?_
 refine zA (I e2) rfl ?_
 refine s_nil ?_
 refine W.ret ?_
 have al := M.e_pure hM
 exact ⟨_, resE_tmp2 rfl, .inr (⟨e2, ai, ax, al, rfl, (H.pk [0, 1])⟩)⟩

def zbs (s_Sections : List Sect) (s_Marks : List Mrk) (s_Reaches : List Rch) (marks : List Int) (reach : Int) : M ((Int × Int × Int × Int × Bool × Int) ⊕ (Int × Int × Int × Int × Bool × Int)) :=
  M.bind (zaw s_Sections s_Marks s_Reaches marks) fun x_ => match x_ with
  | (.inl r1) => (
  M.bind (M.opt (r1 == 0) (zac reach 0 ((s_Reaches.length : Int) - 1)) false) fun r2 =>
  bif ((r1 == 0) && (!r2)) then (
  M.pure (.inl (0, 0, 0, 0, false, 2)))
  else (
  bif r1 != 0 then (
  M.pure (.inl (0, 0, 0, 0, false, r1)))
  else (
  M.fail)))
  | (.inr aa) => (
  M.bind (M.opt (aa == 0) (zac reach 0 ((s_Reaches.length : Int) - 1)) false) fun r2 =>
  bif ((aa == 0) && (!r2)) then (
  M.pure (.inl (0, 0, 0, 0, false, 2)))
  else (
  bif aa != 0 then (
  M.fail)
  else (
  M.grd (decide ((0 : Int) <= reach) && decide (reach < (s_Reaches.length : Int))) <|
  M.pure (.inr (((s_Reaches.getD (Int.toNat reach) default).up), ((s_Reaches.getD (Int.toNat reach) default).down), ((s_Reaches.getD (Int.toNat reach) default).lo), ((s_Reaches.getD (Int.toNat reach) default).hi), ((s_Reaches.getD (Int.toNat reach) default).narrow), 0)))))
theorem zcI {R : List Chunk} {ax : Cells} {ah : Value} {ay : Cells} {ai : Value} {az : Cells} {ab : Value} {aA : Cells} {am : Value} (s_Sections : List Sect) (s_Marks : List Mrk) (s_Reaches : List Rch) (marks : List Int) (reach : Int) (aG : Reads R ax) (aH : Sl ax ah s_Sections) (aI : Reads R ay) (aJ : Sl ay ai s_Marks) (aB : Reads R az) (aj : Sl az ab s_Reaches) (aK : Reads R aA) (aL : Sl aA am marks) {r : ((Int × Int × Int × Int × Bool × Int) ⊕ (Int × Int × Int × Int × Bool × Int))} (hM : (zbs s_Sections s_Marks s_Reaches marks reach).Ends r) (w : World) (H : St w w [] R) : Ret Tryz.prog 65 #[.agg #[ah, ai, ab], am, I reach] w fun v w' => (∃ (y0 : Int) (y1 : Int) (y2 : Int) (y3 : Int) (y4 : Bool) (y5 : Int), (.inl (y0, y1, y2, y3, y4, y5)) = r /\ v = .tuple #[.pointer none, .agg #[I y0, I y1, I y2, I y3, B y4], I y5] /\ St w w' [] R) ∨ (∃ (y0 : Int) (y1 : Int) (y2 : Int) (y3 : Int) (y4 : Bool) (y5 : Int) (aC : Nat) (aD : Nat), (.inr (y0, y1, y2, y3, y4, y5)) = r /\ v = .tuple #[Pq aC, .agg #[I y0, I y1, I y2, I y3, B y4], I y5] /\ St w w' [cBlk aC [ah, ai, ab, .map (some aD)] 177, cMemI encSpt aD (zaa s_Sections s_Marks s_Reaches)] R) := by
 refine ret_of_W Tryz.func65 rfl rfl rfl ?_
 refine W.seq ?_
 refine W.region rfl ?_
 refine t_box (v := .agg #[ah, ai, ab]) (cs := [ah, ai, ab]) H rfl rfl ?_
 intro ac aW H
 refine zA (.pointer none) rfl ?_
 refine t_alloc (cs := [I 0, I 0, I 0, I 0, B false]) H Al58 rfl ?_
 intro aX aY H
 refine zA (I 0) rfl ?_
 refine s_nil ?_
 refine W.seq ?_
 refine W.region rfl ?_
 refine s_val (x_ld (p := Pq ac) (v := .agg #[ah, ai, ab]) rfl (ldb_ag (ds := [ah, ai, ab]) Ag27 Sz27 (H.bl 1) rfl rfl)) ?_
 refine zM am rfl ?_
 obtain ⟨aZ, aM, hM⟩ := M.e_bind hM
 refine s_call cf57 [.agg #[ah, ai, ab], am] rfl (zbF s_Sections s_Marks s_Reaches marks (aG.app _) aH (aI.app _) aJ (aB.app _) aj (aK.app _) aL aM _ (H.gt 2)) ?_
 rintro vq a6 (⟨r1, aN, hvq, al⟩ | ⟨aa, ae, aq, aO, hvq, al⟩)
 ·subst aN
  subst vq
  try dsimp only at hM
  replace H := H.bk al
  clear al
  refine zM (.tuple #[.pointer none, I r1]) rfl ?_
  refine zX [.pointer none, I r1] (.pointer none) rfl rfl ?_
  refine zX [.pointer none, I r1] (I r1) rfl rfl ?_
  refine zA (.pointer none) rfl ?_
  refine zA (I r1) rfl ?_
  refine s_nil ?_
  refine W.seq ?_
  refine W.seq ?_
  refine W.region rfl ?_
  refine zM (I r1) rfl ?_
  refine zC r1 0 (r1 == 0) rfl rfl rfl ?_
  refine zM (B (r1 == 0)) rfl ?_
  refine g_val (r1 == 0) (gy_t rfl) (fun hg => x_mv (v := I reach) rfl) ?_
  refine g_val (r1 == 0) (gy_t rfl) (fun hg => x_fa (a := Pq ac) (v := Oq ac 2) rfl (fa_blk (o := 0) Fd27_2 Sz25)) ?_
  refine g_val (r1 == 0) (gy_t rfl) (fun hg => x_ld (p := Oq ac 2) (v := ab) (gd_of (c := r1 == 0) hg (Oq ac 2)) (ldb_sc Sc25 (H.bl 1) rfl)) ?_
  have a7 := (aj).len_le
  refine g_val (r1 == 0) (gy_t rfl) (fun hg => x_lenS T25.und (gd_of (c := r1 == 0) hg (ab)) aj) ?_
  refine g_val (r1 == 0) (gy_t rfl) (fun hg => x_ari (a := (s_Reaches.length : Int)) (b := 1) (r := (s_Reaches.length : Int) - 1) (gd_of (c := r1 == 0) hg (I (s_Reaches.length : Int))) rfl rfl (by first | omega | (have ak := hg; simp at ak; omega))) ?_
  obtain ⟨r2, aP, hM⟩ := M.e_bind hM
  refine t_gcall (r1 == 0) (gy_t rfl) cf70 (B r2) (fun _ => [I reach, I 0, I ((s_Reaches.length : Int) - 1)]) (fun hg => lst3 (gd_of (c := r1 == 0) hg (I reach)) rfl (gd_of (c := r1 == 0) hg (I ((s_Reaches.length : Int) - 1)))) H (fun hg => (zae reach 0 ((s_Reaches.length : Int) - 1) (M.e_opt aP hg) _ (H.give (A := []) rfl)).mono fun v_ w_ ⟨y_, ag, au, H_⟩ => by subst ag; exact ⟨au, H.via H_⟩) ?_
  intro a8 H
  refine g_val (r1 == 0) (gy_t rfl) (fun hg => x_not (b := r2) (gd_of (c := r1 == 0) hg (B r2))) ?_
  refine s_val (x_pand (b := r1 == 0) (r := !r2) rfl (fun hb => gd_of (c := r1 == 0) (by first | exact hb | (rw [hb]; rfl) | simp_all) (B (!r2))) rfl) ?_
  refine s_nil ?_
  refine W.cond ((r1 == 0) && (!r2)) rfl (fun av => ?_) (fun av => ?_)
  ·replace hM := M.e_t hM av
   refine W.region rfl ?_
   refine zA (I 2) rfl ?_
   refine s_nil ?_
   refine W.seq ?_
   refine W.seq ?_
   refine W.region rfl ?_
   refine zM (I 2) rfl ?_
   refine zC 2 0 ((2 : Int) != 0) rfl rfl rfl ?_
   refine s_nil ?_
   refine W.cond ((2 : Int) != 0) rfl (fun aE => ?_) (fun aE => ?_)
   ·skip
    refine W.seq ?_
    refine W.region rfl ?_
    refine s_val (x_bld (ps := []) (zs := [I 0, I 0, I 0, I 0, B false]) (L' := [I 0, I 0, I 0, I 0, B false]) rfl Tryz.underlying58 Al58 rfl (Bd58 Tryz.underlying58) (.nil)) ?_
    refine zM (I 2) rfl ?_
    refine zA (.pointer none) rfl ?_
    refine t_sw 0 0 [I 0, I 0, I 0, I 0, B false] (.agg #[I 0, I 0, I 0, I 0, B false]) H rfl rfl Sz58 rfl rfl rfl rfl ?_
    intro ba H
    refine zA (I 2) rfl ?_
    refine s_nil ?_
    refine W.ret ?_
    have aQ := (H.bl 0)
    have ag := M.e_pure hM
    exact ⟨_, (resE_ofn (vs := [.pointer none, .agg #[I 0, I 0, I 0, I 0, B false], I 2]) rfl rfl (.tmp (v := .pointer none) rfl <| .cell (v := .agg #[I 0, I 0, I 0, I 0, B false]) rfl (run_loadVar_ag (ds := [I 0, I 0, I 0, I 0, B false]) Ag58 Sz58 aQ rfl rfl) <| .tmp (v := I 2) rfl <| .nil)), .inl (⟨0, 0, 0, 0, false, 2, ag, rfl, (H.pk [])⟩)⟩
   skip
   exact absurd aE (by decide)
  replace hM := M.e_f hM av
  refine W.skip ?_
  refine W.seq ?_
  refine W.seq ?_
  refine W.region rfl ?_
  refine zM (I r1) rfl ?_
  refine zC r1 0 (r1 != 0) rfl rfl rfl ?_
  refine s_nil ?_
  refine W.cond (r1 != 0) rfl (fun ao => ?_) (fun ao => ?_)
  ·replace hM := M.e_t hM ao
   simp only [qy1, qy2, qy3, qy4, qy5, qy6, ne_eq, qy7] at ao
   refine W.seq ?_
   refine W.region rfl ?_
   refine s_val (x_bld (ps := []) (zs := [I 0, I 0, I 0, I 0, B false]) (L' := [I 0, I 0, I 0, I 0, B false]) rfl Tryz.underlying58 Al58 rfl (Bd58 Tryz.underlying58) (.nil)) ?_
   refine zM (I r1) rfl ?_
   refine zA (.pointer none) rfl ?_
   refine t_sw 0 0 [I 0, I 0, I 0, I 0, B false] (.agg #[I 0, I 0, I 0, I 0, B false]) H rfl rfl Sz58 rfl rfl rfl rfl ?_
   intro bb H
   refine zA (I r1) rfl ?_
   refine s_nil ?_
   refine W.ret ?_
   have aR := (H.bl 0)
   have ag := M.e_pure hM
   exact ⟨_, (resE_ofn (vs := [.pointer none, .agg #[I 0, I 0, I 0, I 0, B false], I r1]) rfl rfl (.tmp (v := .pointer none) rfl <| .cell (v := .agg #[I 0, I 0, I 0, I 0, B false]) rfl (run_loadVar_ag (ds := [I 0, I 0, I 0, I 0, B false]) Ag58 Sz58 aR rfl rfl) <| .tmp (v := I r1) rfl <| .nil)), .inl (⟨0, 0, 0, 0, false, r1, ag, rfl, (H.pk [])⟩)⟩
  replace hM := M.e_f hM ao
  exact (M.e_fail hM).elim
 subst aO
 subst vq
 try dsimp only at hM
 replace H := H.bk al
 clear al
 refine zM (.tuple #[Pq ae, I aa]) rfl ?_
 refine zX [Pq ae, I aa] (Pq ae) rfl rfl ?_
 refine zX [Pq ae, I aa] (I aa) rfl rfl ?_
 refine zA (Pq ae) rfl ?_
 refine zA (I aa) rfl ?_
 refine s_nil ?_
 refine W.seq ?_
 refine W.seq ?_
 refine W.region rfl ?_
 refine zM (I aa) rfl ?_
 refine zC aa 0 (aa == 0) rfl rfl rfl ?_
 refine zM (B (aa == 0)) rfl ?_
 refine g_val (aa == 0) (gy_t rfl) (fun hg => x_mv (v := I reach) rfl) ?_
 refine g_val (aa == 0) (gy_t rfl) (fun hg => x_fa (a := Pq ac) (v := Oq ac 2) rfl (fa_blk (o := 0) Fd27_2 Sz25)) ?_
 refine g_val (aa == 0) (gy_t rfl) (fun hg => x_ld (p := Oq ac 2) (v := ab) (gd_of (c := aa == 0) hg (Oq ac 2)) (ldb_sc Sc25 (H.bl 3) rfl)) ?_
 have bc := (aj).len_le
 refine g_val (aa == 0) (gy_t rfl) (fun hg => x_lenS T25.und (gd_of (c := aa == 0) hg (ab)) aj) ?_
 refine g_val (aa == 0) (gy_t rfl) (fun hg => x_ari (a := (s_Reaches.length : Int)) (b := 1) (r := (s_Reaches.length : Int) - 1) (gd_of (c := aa == 0) hg (I (s_Reaches.length : Int))) rfl rfl (by first | omega | (have ak := hg; simp at ak; omega))) ?_
 obtain ⟨r2, aS, hM⟩ := M.e_bind hM
 refine t_gcall (aa == 0) (gy_t rfl) cf70 (B r2) (fun _ => [I reach, I 0, I ((s_Reaches.length : Int) - 1)]) (fun hg => lst3 (gd_of (c := aa == 0) hg (I reach)) rfl (gd_of (c := aa == 0) hg (I ((s_Reaches.length : Int) - 1)))) H (fun hg => (zae reach 0 ((s_Reaches.length : Int) - 1) (M.e_opt aS hg) _ (H.give (A := []) rfl)).mono fun v_ w_ ⟨y_, ag, au, H_⟩ => by subst ag; exact ⟨au, H.via H_⟩) ?_
 intro bf H
 refine g_val (aa == 0) (gy_t rfl) (fun hg => x_not (b := r2) (gd_of (c := aa == 0) hg (B r2))) ?_
 refine s_val (x_pand (b := aa == 0) (r := !r2) rfl (fun hb => gd_of (c := aa == 0) (by first | exact hb | (rw [hb]; rfl) | simp_all) (B (!r2))) rfl) ?_
 refine s_nil ?_
 refine W.cond ((aa == 0) && (!r2)) rfl (fun aw => ?_) (fun aw => ?_)
 ·replace hM := M.e_t hM aw
  refine W.region rfl ?_
  refine zA (I 2) rfl ?_
  refine s_nil ?_
  refine W.seq ?_
  refine W.seq ?_
  refine W.region rfl ?_
  refine zM (I 2) rfl ?_
  refine zC 2 0 ((2 : Int) != 0) rfl rfl rfl ?_
  refine s_nil ?_
  refine W.cond ((2 : Int) != 0) rfl (fun aF => ?_) (fun aF => ?_)
  ·skip
   refine W.seq ?_
   refine W.region rfl ?_
   refine s_val (x_bld (ps := []) (zs := [I 0, I 0, I 0, I 0, B false]) (L' := [I 0, I 0, I 0, I 0, B false]) rfl Tryz.underlying58 Al58 rfl (Bd58 Tryz.underlying58) (.nil)) ?_
   refine zM (I 2) rfl ?_
   refine zA (.pointer none) rfl ?_
   refine t_sw 2 0 [I 0, I 0, I 0, I 0, B false] (.agg #[I 0, I 0, I 0, I 0, B false]) H rfl rfl Sz58 rfl rfl rfl rfl ?_
   intro bg H
   refine zA (I 2) rfl ?_
   refine s_nil ?_
   replace H := H.pk [2]
   refine W.ret ?_
   have aT := (H.bl 0)
   have ag := M.e_pure hM
   exact ⟨_, (resE_ofn (vs := [.pointer none, .agg #[I 0, I 0, I 0, I 0, B false], I 2]) rfl rfl (.tmp (v := .pointer none) rfl <| .cell (v := .agg #[I 0, I 0, I 0, I 0, B false]) rfl (run_loadVar_ag (ds := [I 0, I 0, I 0, I 0, B false]) Ag58 Sz58 aT rfl rfl) <| .tmp (v := I 2) rfl <| .nil)), .inl (⟨0, 0, 0, 0, false, 2, ag, rfl, (H.pk [])⟩)⟩
  skip
  exact absurd aF (by decide)
 replace hM := M.e_f hM aw
 refine W.skip ?_
 refine W.seq ?_
 refine W.seq ?_
 refine W.region rfl ?_
 refine zM (I aa) rfl ?_
 refine zC aa 0 (aa != 0) rfl rfl rfl ?_
 refine s_nil ?_
 refine W.cond (aa != 0) rfl (fun ap => ?_) (fun ap => ?_)
 ·replace hM := M.e_t hM ap
  exact (M.e_fail hM).elim
 replace hM := M.e_f hM ap
 simp only [qy1, qy2, qy3, qy4, qy5, qy6, ne_eq, qy7] at ap
 refine W.skip ?_
 refine W.seq ?_
 refine W.draw (fun W => St w W [cBlk ae [ah, ai, ab, .map (some aq)] 177, cMemI encSpt aq (zaa s_Sections s_Marks s_Reaches), cBlk ac [ah, ai, ab] 27] R) [(0, true), (1, true), (2, true), (3, true), (4, true), (5, true), (6, true), (7, false), (8, true)] mixed (by decide +kernel) rfl ?_
 intro bh ak
 replace H := H.ext ak
 clear ak
 refine ⟨(H.pk [0, 1, 3]), ?_⟩
 refine d_q rfl (fun w' H => x_mv (v := Pq ae) rfl) ?_
 refine d_q rfl (fun w' H => x_fa (a := Pq ac) (v := Oq ac 2) rfl (fa_blk (o := 0) Fd27_2 Sz25)) ?_
 refine d_q rfl (fun w' H => x_ld (p := Oq ac 2) (v := ab) rfl (ldb_sc Sc25 (H.bl 2) rfl)) ?_
 refine d_q rfl (fun w' H => x_mv (v := I reach) rfl) ?_
 obtain ⟨aU, hM⟩ := M.e_grd hM
 simp only [Bool.and_eq_true, decide_eq_true_eq] at aU
 refine d_q rfl (fun w' H => x_ix (a := ab) (b := I reach) (v := vat ab 5 (Int.toNat reach)) rfl rfl (Sl.ix (α := Rch) T25.und T25.size aj (by omega) (by omega))) ?_
 refine d_q rfl (fun w' H => x_ld (p := vat ab 5 (Int.toNat reach)) (v := .agg #[I ((s_Reaches.getD (Int.toNat reach) default).up), I ((s_Reaches.getD (Int.toNat reach) default).down), I ((s_Reaches.getD (Int.toNat reach) default).lo), I ((s_Reaches.getD (Int.toNat reach) default).hi), B ((s_Reaches.getD (Int.toNat reach) default).narrow)]) rfl (ld_ag Ag58 Sz58 (At.mono (Rch_atA aj (i := reach) (by omega) (by omega)) (aB.at H)))) ?_
 refine d_q rfl (fun w' H => x_as (v := Pq ae) rfl) ?_
 refine d_l rfl ?_
 refine t_sw 2 0 [I ((s_Reaches.getD (Int.toNat reach) default).up), I ((s_Reaches.getD (Int.toNat reach) default).down), I ((s_Reaches.getD (Int.toNat reach) default).lo), I ((s_Reaches.getD (Int.toNat reach) default).hi), B ((s_Reaches.getD (Int.toNat reach) default).narrow)] (.agg #[I ((s_Reaches.getD (Int.toNat reach) default).up), I ((s_Reaches.getD (Int.toNat reach) default).down), I ((s_Reaches.getD (Int.toNat reach) default).lo), I ((s_Reaches.getD (Int.toNat reach) default).hi), B ((s_Reaches.getD (Int.toNat reach) default).narrow)]) H rfl rfl Sz58 rfl rfl rfl rfl ?_
 intro bi H
 refine s_nil ⟨(H.pk [0, 1, 3]), ?_⟩
 refine d_q rfl (fun w' H => x_as (v := I 0) rfl) ?_
 refine d_nil ?_
 refine W.ret ?_
 have aV := (H.bl 2)
 have ag := M.e_pure hM
 exact ⟨_, (resE_ofn (vs := [Pq ae, .agg #[I ((s_Reaches.getD (Int.toNat reach) default).up), I ((s_Reaches.getD (Int.toNat reach) default).down), I ((s_Reaches.getD (Int.toNat reach) default).lo), I ((s_Reaches.getD (Int.toNat reach) default).hi), B ((s_Reaches.getD (Int.toNat reach) default).narrow)], I 0]) rfl rfl (.tmp (v := Pq ae) rfl <| .cell (v := .agg #[I ((s_Reaches.getD (Int.toNat reach) default).up), I ((s_Reaches.getD (Int.toNat reach) default).down), I ((s_Reaches.getD (Int.toNat reach) default).lo), I ((s_Reaches.getD (Int.toNat reach) default).hi), B ((s_Reaches.getD (Int.toNat reach) default).narrow)]) rfl (run_loadVar_ag (ds := [I ((s_Reaches.getD (Int.toNat reach) default).up), I ((s_Reaches.getD (Int.toNat reach) default).down), I ((s_Reaches.getD (Int.toNat reach) default).lo), I ((s_Reaches.getD (Int.toNat reach) default).hi), B ((s_Reaches.getD (Int.toNat reach) default).narrow)]) Ag58 Sz58 aV rfl rfl) <| .tmp (v := I 0) rfl <| .nil)), .inr (⟨((s_Reaches.getD (Int.toNat reach) default).up), ((s_Reaches.getD (Int.toNat reach) default).down), ((s_Reaches.getD (Int.toNat reach) default).lo), ((s_Reaches.getD (Int.toNat reach) default).hi), ((s_Reaches.getD (Int.toNat reach) default).narrow), 0, ae, aq, ag, rfl, (H.pk [0, 1])⟩)⟩

def zaP (s : List Int) (f : Int -> M Bool) : Nat -> M (Nat ⊕ (Int ⊕ Unit)) := fun s2 =>
  bif decide ((s2 : Int) < (s.length : Int)) then (
  M.grd (decide ((s2 : Int) < (s.length : Int))) <|
  M.bind (f (s.getD s2 0)) fun r2 =>
  bif r2 then (
  M.pure (.inr (.inl (s2 : Int))))
  else (
  M.pure (.inl (s2 + 1))))
  else (
  M.pure (.inr (.inr ())))
def zbT (s : List Int) (f : Int -> M Bool) : M Int :=
  M.bind (M.iter (zaP s f) 0) fun x_ => match x_ with
  | (.inl s3) => (
  M.pure s3)
  | (.inr (_ : Unit)) => (
  M.pure (-1))
theorem zdh {R : List Chunk} {ak : Cells} {aa : Value} {ac : Value} (s : List Int) (f : Int -> M Bool) (ao : Reads R ak) (ae : Sl ak aa s) (ap : FnM Tryz.prog R ac f) {r : Int} (hM : (zbT s f).Ends r) (w : World) (H : St w w [] R) : Ret Tryz.prog 144 #[aa, ac] w fun v w' => ∃ (y0 : Int), y0 = r /\ v = I y0 /\ St w w' [] R := by
 refine ret_of_W Tryz.func144 rfl rfl rfl ?_
 refine W.seq ?_
 refine W.region rfl ?_
 refine zA (I 0) rfl ?_
 refine s_nil ?_
 refine W.seq ?_
 refine W.seq ?_
 refine W.region rfl ?_
 refine zM aa rfl ?_
 have aA := (ae).len_le
 refine s_val (x_lenS T28.und rfl ae) ?_
 refine zM (I 0) rfl ?_
 refine s_nil ?_
 refine W.block ?_
 obtain ⟨aq, ag, al⟩ := M.e_bind hM
 obtain ⟨aB, ag⟩ := M.e_iter ag
 refine W.loop (fun m σ W => ∃ (s2 : Nat) (ρ : Env), σ = upds ρ [(0, aa), (1, ac), (7, I (s.length : Int)), (8, I (s2 : Int))] /\ M.iterN (zaP s f) m s2 = some aq /\ St w W [] R) ?_ ?_
 ·exact ⟨_, 0, _, upds_of _ _ ⟨rfl, rfl, rfl, rfl, trivial⟩, ag, H⟩
 rintro aC σ aD ⟨s2, ρ, rfl, am, H⟩
 obtain ⟨au, av, aE, hM, ah⟩ := M.e_iterN am
 simp only [zaP] at hM
 clear am
 refine W.seq ?_
 refine W.region rfl ?_
 refine zC (s2 : Int) (s.length : Int) (decide ((s2 : Int) < (s.length : Int))) rfl rfl rfl ?_
 refine s_nil ?_
 refine W.seq ?_
 refine W.cond (decide ((s2 : Int) < (s.length : Int))) rfl (fun ab => ?_) (fun ab => ?_)
 ·replace hM := M.e_t hM ab
  simp only [qy1, qy2, qy3, qy4, qy5, qy6, ne_eq, qy7] at ab
  refine W.skip ?_
  refine W.seq ?_
  refine W.block ?_
  refine W.seq ?_
  refine W.region rfl ?_
  refine zM (I (s2 : Int)) rfl ?_
  refine zA (I (s2 : Int)) rfl ?_
  refine s_nil ?_
  refine W.seq ?_
  refine W.region rfl ?_
  refine zM ac rfl ?_
  refine zM aa rfl ?_
  refine zM (I (s2 : Int)) rfl ?_
  obtain ⟨aw, hM⟩ := M.e_grd hM
  simp only [Bool.and_eq_true, decide_eq_true_eq] at aw
  refine s_val (x_ix (a := aa) (b := I (s2 : Int)) (v := vat aa 1 (Int.toNat (s2 : Int))) rfl rfl (Sl.ix (α := Int) T28.und T28.size ae (by omega) (by omega))) ?_
  refine s_val (x_ld (p := vat aa 1 (Int.toNat (s2 : Int))) (v := I (s.getD s2 0)) rfl (ld_sc Sc3 (At.mono (Int_at ae (i := (s2 : Int)) (by omega) (by omega)) (ao.at H)))) ?_
  obtain ⟨r2, ax, hM⟩ := M.e_bind hM
  refine t_callM H ap rfl rfl (s.getD s2 0) Reads.none (Arg.mkI (fun _ => none) _) ax ?_
  intro aF H
  refine s_nil ?_
  refine W.cond r2 rfl (fun ai => ?_) (fun ai => ?_)
  ·replace hM := M.e_t hM ai
   refine W.seq ?_
   refine W.region rfl ?_
   refine zM (I (s2 : Int)) rfl ?_
   refine zA (I (s2 : Int)) rfl ?_
   refine s_nil ?_
   refine W.ret ?_
   have ay := M.e_inr hM ah
   subst ay
   replace hM := al
   try dsimp only at hM
   have aj := M.e_pure hM
   exact ⟨_, resE_tmp rfl, ⟨(s2 : Int), aj, rfl, H⟩⟩
  replace hM := M.e_f hM ai
  refine W.skip ?_
  refine W.region rfl ?_
  refine zR (s2 : Int) 1 ((s2 : Int) + 1) rfl rfl rfl (by omega) ?_
  refine zM (I ((s2 : Int) + 1)) rfl ?_
  refine s_nil ?_
  exact ⟨au, av, s2 + 1, _, upds_of _ _ ⟨rfl, rfl, rfl, rfl, trivial⟩, M.e_inl hM ah, H⟩
 replace hM := M.e_f hM ab
 simp only [qy1, qy2, qy3, qy4, qy5, qy6, ne_eq, qy7] at ab
 refine W.exit ?_
 have az := M.e_inr hM ah
 subst az
 replace hM := al
 try dsimp only at hM
 refine W.seq ?_
 refine W.region rfl ?_
 refine zA (I (-1)) rfl ?_
 refine s_nil ?_
 refine W.ret ?_
 have aj := M.e_pure hM
 exact ⟨_, resE_tmp rfl, ⟨(-1), aj, rfl, H⟩⟩

def zbU (s : List Int) (f : Int -> M Bool) : M Bool :=
  M.bind (zbT s f) fun r2 =>
  M.pure (decide (0 <= r2))
theorem zdn {R : List Chunk} {ac : Cells} {aa : Value} {ab : Value} (s : List Int) (f : Int -> M Bool) (ag : Reads R ac) (ah : Sl ac aa s) (ai : FnM Tryz.prog R ab f) {r : Bool} (hM : (zbU s f).Ends r) (w : World) (H : St w w [] R) : Ret Tryz.prog 132 #[aa, ab] w fun v w' => ∃ (y0 : Bool), y0 = r /\ v = B y0 /\ St w w' [] R := by
 refine ret_of_W Tryz.func132 rfl rfl rfl ?_
 refine W.seq ?_
 refine W.region rfl ?_
 refine zA (B false) rfl ?_
 refine s_nil ?_
 refine W.seq ?_
 refine W.region rfl ?_
 refine zM aa rfl ?_
 refine zM ab rfl ?_
 obtain ⟨am, aj, hM⟩ := M.e_bind hM
 refine s_call cf144 [aa, ab] rfl (zdh s f (ag.app _) ah (ai.app _) aj _ (H.gt 0)) ?_
 rintro vq ao ⟨r2, ak, hvq, ae⟩
 subst ak
 subst vq
 try dsimp only at hM
 replace H := H.bk ae
 clear ae
 refine zC r2 0 (decide (0 <= r2)) rfl rfl rfl ?_
 refine zA (B (decide (0 <= r2))) rfl ?_
 refine s_nil ?_
 refine W.ret ?_
 have al := M.e_pure hM
 exact ⟨_, resE_tmp rfl, ⟨(decide (0 <= r2)), al, rfl, H⟩⟩

def zbA (x : Int) (aa : Int -> M Bool) : M Bool :=
  M.bind (aa x) fun r2 =>
  M.pure (!r2)
theorem zdp {R : List Chunk} {aa : Nat} {ab : Value} (x : Int) (ac : Int -> M Bool) (ae : FnM Tryz.prog R ab ac) (ag : Has R (cBlk aa [ab] 157)) {r : Bool} (hM : (zbA x ac).Ends r) (w : World) (H : St w w [] R) : Ret Tryz.prog 133 #[I x, Pq aa] w fun v w' => ∃ (y0 : Bool), y0 = r /\ v = B y0 /\ St w w' [] R := by
 refine ret_of_W Tryz.func133 rfl rfl rfl ?_
 refine W.seq ?_
 refine W.region rfl ?_
 refine zA (B false) rfl ?_
 refine s_nil ?_
 refine W.seq ?_
 refine W.region rfl ?_
 refine s_val (x_ld (p := Pq aa) (v := ab) rfl (ldb_sc Sc157 (ag.blk H) rfl)) ?_
 refine zM (I x) rfl ?_
 obtain ⟨r2, ah, hM⟩ := M.e_bind hM
 refine t_callM H ae rfl rfl x Reads.none (Arg.mkI (fun _ => none) _) ah ?_
 intro aj H
 refine s_val (x_not (b := r2) rfl) ?_
 refine zA (B (!r2)) rfl ?_
 refine s_nil ?_
 refine W.ret ?_
 have ai := M.e_pure hM
 exact ⟨_, resE_tmp rfl, ⟨(!r2), ai, rfl, H⟩⟩

def zav (l : List Int) (so : Int -> M Bool) : M Bool :=
  M.bind (zbU l (fun aa => zbA aa so)) fun r2 =>
  M.pure (!r2)
theorem zbp {R : List Chunk} {ag : Cells} {aa : Value} {ab : Value} (l : List Int) (so : Int -> M Bool) (ak : Reads R ag) (al : Sl ag aa l) (ah : FnM Tryz.prog R ab so) {r : Bool} (hM : (zav l so).Ends r) (w : World) (H : St w w [] R) : Ret Tryz.prog 99 #[aa, ab] w fun v w' => ∃ (y0 : Bool), y0 = r /\ v = B y0 /\ St w w' [] R := by
 refine ret_of_W Tryz.func99 rfl rfl rfl ?_
 refine W.seq ?_
 refine W.region rfl ?_
 refine t_box (v := ab) (cs := [ab]) H rfl (FnM.cells ah) ?_
 intro ac aA H
 refine zA (B false) rfl ?_
 refine s_nil ?_
 refine W.seq ?_
 refine W.region rfl ?_
 refine zM aa rfl ?_
 refine s_val (x_mf (fs := []) (cs := [Pq ac]) rfl rfl) ?_
 obtain ⟨aB, am, hM⟩ := M.e_bind hM
 refine s_call cf132 [aa, .func (.func 133) #[] #[Pq ac]] rfl (zdn l (fun ae => zbA ae so) (ak.app _) al ⟨133, [Pq ac], rfl, cf133, fun ai aC aD ao ae aE ap aF aq au => by obtain rfl := Arg.int aq; exact (zdp ae so (FnM.app (ah.app _) _) (Has.app (Has.here (k := 0) rfl) _) au ai (St.refl ap)).mono fun ao ai ⟨aG, av, aw, ax⟩ => by subst av; exact ⟨aw, ax⟩⟩ am _ (H.gt 1)) ?_
 rintro vq aH ⟨r2, ay, hvq, aj⟩
 subst ay
 subst vq
 try dsimp only at hM
 replace H := H.bk aj
 clear aj
 refine s_val (x_not (b := r2) rfl) ?_
 refine zA (B (!r2)) rfl ?_
 refine s_nil ?_
 refine W.ret ?_
 have az := M.e_pure hM
 exact ⟨_, resE_tmp rfl, ⟨(!r2), az, rfl, (H.pk [])⟩⟩

def zai (ab : List Sect) (aa : List Mrk) (ac : List Rch) (a : Int) (b : Int) : M Bool :=
  M.grd (decide ((0 : Int) <= a) && decide (a < (aa.length : Int))) <|
  M.grd (decide ((0 : Int) <= b) && decide (b < (aa.length : Int))) <|
  M.pure ((decide (((aa.getD (Int.toNat a) default).place) <= ((aa.getD (Int.toNat b) default).place))) && (decide (((aa.getD (Int.toNat a) default).hi) < ((aa.getD (Int.toNat b) default).lo))))
theorem zaq {R : List Chunk} {ab : Nat} {aj : Cells} {ak : Value} {al : Cells} {ac : Value} {am : Cells} {ao : Value} {au : Nat} (ap : List Sect) (aa : List Mrk) (aq : List Rch) (a : Int) (b : Int) (ay : Reads R aj) (az : Sl aj ak ap) (ah : Reads R al) (ag : Sl al ac aa) (aA : Reads R am) (aB : Sl am ao aq) (ai : Has R (cBlk ab [ak, ac, ao, .map (some au)] 177)) {r : Bool} (hM : (zai ap aa aq a b).Ends r) (w : World) (H : St w w [] R) : Ret Tryz.prog 51 #[Pq ab, I a, I b] w fun v w' => ∃ (y0 : Bool), y0 = r /\ v = B y0 /\ St w w' [] R := by
 refine ret_of_W Tryz.func51 rfl rfl rfl ?_
 refine W.seq ?_
 refine W.region rfl ?_
 refine zA (B false) rfl ?_
 refine s_nil ?_
 refine W.seq ?_
 refine W.draw (fun W => St w W [] R) [(0, true), (1, true), (2, true), (3, true), (4, true), (5, true), (6, true), (7, true), (8, true), (9, true), (10, true), (11, true), (12, true), (13, true), (14, true), (15, true), (16, true), (17, true), (18, true), (19, true), (20, true), (21, true), (22, true), (23, true), (24, true), (25, true), (26, true), (27, true), (28, true), (29, true), (30, true), (31, true), (32, true), (33, true), (34, true), (35, true), (36, true), (37, true), (38, true), (39, true), (40, true), (41, true), (42, true)] mixed (by decide +kernel) rfl ?_
 intro aC ae
 replace H := H.ext ae
 clear ae
 refine ⟨(H.pk []), ?_⟩
 refine d_q rfl (fun w' H => x_mv (v := Pq ab) rfl) ?_
 refine d_q rfl (fun w' H => x_nc (a := ⟨ab, 0, none⟩) rfl) ?_
 refine d_q rfl (fun w' H => x_fa (a := Pq ab) (v := Pq ab) rfl (fa_blk (o := 0) Fd177_0 Sz27)) ?_
 refine d_q rfl (fun w' H => x_fa (a := Pq ab) (v := Oq ab 1) rfl (fa_blk (o := 0) Fd27_1 Sz24)) ?_
 refine d_q rfl (fun w' H => x_ld (p := Oq ab 1) (v := ac) rfl (ldb_sc Sc24 (ai.blk H) rfl)) ?_
 refine d_q rfl (fun w' H => x_mv (v := I a) rfl) ?_
 obtain ⟨av, hM⟩ := M.e_grd hM
 simp only [Bool.and_eq_true, decide_eq_true_eq] at av
 refine d_q rfl (fun w' H => x_ix (a := ac) (b := I a) (v := vat ac 3 (Int.toNat a)) rfl rfl (Sl.ix (α := Mrk) T24.und T24.size ag (by omega) (by omega))) ?_
 refine d_q rfl (fun w' H => x_fa (a := vat ac 3 (Int.toNat a)) (v := fat (vat ac 3 (Int.toNat a)) 0) rfl (fa_pl Fd70_0 Sz3 (Sl.pl (i := a) ag (by omega) (by omega)))) ?_
 refine d_q rfl (fun w' H => x_ld (p := fat (vat ac 3 (Int.toNat a)) 0) (v := I ((aa.getD (Int.toNat a) default).place)) rfl (ld_sc Sc3 (At.mono (Mrk_at0 ag (i := a) (by omega) (by omega)) (ah.at H)))) ?_
 refine d_q rfl (fun w' H => x_mv (v := Pq ab) rfl) ?_
 refine d_q rfl (fun w' H => x_nc (a := ⟨ab, 0, none⟩) rfl) ?_
 refine d_q rfl (fun w' H => x_fa (a := Pq ab) (v := Pq ab) rfl (fa_blk (o := 0) Fd177_0 Sz27)) ?_
 refine d_q rfl (fun w' H => x_fa (a := Pq ab) (v := Oq ab 1) rfl (fa_blk (o := 0) Fd27_1 Sz24)) ?_
 refine d_q rfl (fun w' H => x_ld (p := Oq ab 1) (v := ac) rfl (ldb_sc Sc24 (ai.blk H) rfl)) ?_
 refine d_q rfl (fun w' H => x_mv (v := I b) rfl) ?_
 obtain ⟨aw, hM⟩ := M.e_grd hM
 simp only [Bool.and_eq_true, decide_eq_true_eq] at aw
 refine d_q rfl (fun w' H => x_ix (a := ac) (b := I b) (v := vat ac 3 (Int.toNat b)) rfl rfl (Sl.ix (α := Mrk) T24.und T24.size ag (by omega) (by omega))) ?_
 refine d_q rfl (fun w' H => x_fa (a := vat ac 3 (Int.toNat b)) (v := fat (vat ac 3 (Int.toNat b)) 0) rfl (fa_pl Fd70_0 Sz3 (Sl.pl (i := b) ag (by omega) (by omega)))) ?_
 refine d_q rfl (fun w' H => x_ld (p := fat (vat ac 3 (Int.toNat b)) 0) (v := I ((aa.getD (Int.toNat b) default).place)) rfl (ld_sc Sc3 (At.mono (Mrk_at0 ag (i := b) (by omega) (by omega)) (ah.at H)))) ?_
 refine d_q rfl (fun w' H => x_cmp (kd := .i64) (a := (aa.getD (Int.toNat a) default).place) (b := (aa.getD (Int.toNat b) default).place) (r := decide (((aa.getD (Int.toNat a) default).place) <= ((aa.getD (Int.toNat b) default).place))) rfl rfl rfl) ?_
 refine d_q rfl (fun w' H => x_mv (v := B (decide (((aa.getD (Int.toNat a) default).place) <= ((aa.getD (Int.toNat b) default).place)))) rfl) ?_
 refine d_qg (decide (((aa.getD (Int.toNat a) default).place) <= ((aa.getD (Int.toNat b) default).place))) rfl (gy_t rfl) (fun hg => (fun w' H => x_mv (v := Pq ab) rfl)) ?_
 refine d_qg (decide (((aa.getD (Int.toNat a) default).place) <= ((aa.getD (Int.toNat b) default).place))) rfl (gy_t rfl) (fun hg => (fun w' H => x_nc (a := ⟨ab, 0, none⟩) (gd_of (c := decide (((aa.getD (Int.toNat a) default).place) <= ((aa.getD (Int.toNat b) default).place))) hg (Pq ab)))) ?_
 refine d_qg (decide (((aa.getD (Int.toNat a) default).place) <= ((aa.getD (Int.toNat b) default).place))) rfl (gy_t rfl) (fun hg => (fun w' H => x_fa (a := Pq ab) (v := Pq ab) (gd_of (c := decide (((aa.getD (Int.toNat a) default).place) <= ((aa.getD (Int.toNat b) default).place))) hg (Pq ab)) (fa_blk (o := 0) Fd177_0 Sz27))) ?_
 refine d_qg (decide (((aa.getD (Int.toNat a) default).place) <= ((aa.getD (Int.toNat b) default).place))) rfl (gy_t rfl) (fun hg => (fun w' H => x_fa (a := Pq ab) (v := Oq ab 1) (gd_of (c := decide (((aa.getD (Int.toNat a) default).place) <= ((aa.getD (Int.toNat b) default).place))) hg (Pq ab)) (fa_blk (o := 0) Fd27_1 Sz24))) ?_
 refine d_qg (decide (((aa.getD (Int.toNat a) default).place) <= ((aa.getD (Int.toNat b) default).place))) rfl (gy_t rfl) (fun hg => (fun w' H => x_ld (p := Oq ab 1) (v := ac) (gd_of (c := decide (((aa.getD (Int.toNat a) default).place) <= ((aa.getD (Int.toNat b) default).place))) hg (Oq ab 1)) (ldb_sc Sc24 (ai.blk H) rfl))) ?_
 refine d_qg (decide (((aa.getD (Int.toNat a) default).place) <= ((aa.getD (Int.toNat b) default).place))) rfl (gy_t rfl) (fun hg => (fun w' H => x_mv (v := I a) rfl)) ?_
 refine d_qg (decide (((aa.getD (Int.toNat a) default).place) <= ((aa.getD (Int.toNat b) default).place))) rfl (gy_t rfl) (fun hg => (fun w' H => x_ix (a := ac) (b := I a) (v := vat ac 3 (Int.toNat a)) (gd_of (c := decide (((aa.getD (Int.toNat a) default).place) <= ((aa.getD (Int.toNat b) default).place))) hg (ac)) (gd_of (c := decide (((aa.getD (Int.toNat a) default).place) <= ((aa.getD (Int.toNat b) default).place))) hg (I a)) (Sl.ix (α := Mrk) T24.und T24.size ag (by first | omega | (have ae := hg; simp at ae; omega)) (by first | omega | (have ae := hg; simp at ae; omega))))) ?_
 refine d_qg (decide (((aa.getD (Int.toNat a) default).place) <= ((aa.getD (Int.toNat b) default).place))) rfl (gy_t rfl) (fun hg => (fun w' H => x_fa (a := vat ac 3 (Int.toNat a)) (v := fat (vat ac 3 (Int.toNat a)) 1) (gd_of (c := decide (((aa.getD (Int.toNat a) default).place) <= ((aa.getD (Int.toNat b) default).place))) hg (vat ac 3 (Int.toNat a))) (fa_pl Fd70_1 Sz54 (Sl.pl (i := a) ag (by first | omega | (have ae := hg; simp at ae; omega)) (by first | omega | (have ae := hg; simp at ae; omega)))))) ?_
 refine d_qg (decide (((aa.getD (Int.toNat a) default).place) <= ((aa.getD (Int.toNat b) default).place))) rfl (gy_t rfl) (fun hg => (fun w' H => x_fa (a := fat (vat ac 3 (Int.toNat a)) 1) (v := fat (vat ac 3 (Int.toNat a)) 2) (gd_of (c := decide (((aa.getD (Int.toNat a) default).place) <= ((aa.getD (Int.toNat b) default).place))) hg (fat (vat ac 3 (Int.toNat a)) 1)) (fa_pl2 (a := 1) (c := 2) Fd54_1 Sz3 (Sl.pl (i := a) ag (by first | omega | (have ae := hg; simp at ae; omega)) (by first | omega | (have ae := hg; simp at ae; omega))) rfl))) ?_
 refine d_qg (decide (((aa.getD (Int.toNat a) default).place) <= ((aa.getD (Int.toNat b) default).place))) rfl (gy_t rfl) (fun hg => (fun w' H => x_ld (p := fat (vat ac 3 (Int.toNat a)) 2) (v := I ((aa.getD (Int.toNat a) default).hi)) (gd_of (c := decide (((aa.getD (Int.toNat a) default).place) <= ((aa.getD (Int.toNat b) default).place))) hg (fat (vat ac 3 (Int.toNat a)) 2)) (ld_sc Sc3 (At.mono (Mrk_at2 ag (i := a) (by first | omega | (have ae := hg; simp at ae; omega)) (by first | omega | (have ae := hg; simp at ae; omega))) (ah.at H))))) ?_
 refine d_qg (decide (((aa.getD (Int.toNat a) default).place) <= ((aa.getD (Int.toNat b) default).place))) rfl (gy_t rfl) (fun hg => (fun w' H => x_mv (v := Pq ab) rfl)) ?_
 refine d_qg (decide (((aa.getD (Int.toNat a) default).place) <= ((aa.getD (Int.toNat b) default).place))) rfl (gy_t rfl) (fun hg => (fun w' H => x_nc (a := ⟨ab, 0, none⟩) (gd_of (c := decide (((aa.getD (Int.toNat a) default).place) <= ((aa.getD (Int.toNat b) default).place))) hg (Pq ab)))) ?_
 refine d_qg (decide (((aa.getD (Int.toNat a) default).place) <= ((aa.getD (Int.toNat b) default).place))) rfl (gy_t rfl) (fun hg => (fun w' H => x_fa (a := Pq ab) (v := Pq ab) (gd_of (c := decide (((aa.getD (Int.toNat a) default).place) <= ((aa.getD (Int.toNat b) default).place))) hg (Pq ab)) (fa_blk (o := 0) Fd177_0 Sz27))) ?_
 refine d_qg (decide (((aa.getD (Int.toNat a) default).place) <= ((aa.getD (Int.toNat b) default).place))) rfl (gy_t rfl) (fun hg => (fun w' H => x_fa (a := Pq ab) (v := Oq ab 1) (gd_of (c := decide (((aa.getD (Int.toNat a) default).place) <= ((aa.getD (Int.toNat b) default).place))) hg (Pq ab)) (fa_blk (o := 0) Fd27_1 Sz24))) ?_
 refine d_qg (decide (((aa.getD (Int.toNat a) default).place) <= ((aa.getD (Int.toNat b) default).place))) rfl (gy_t rfl) (fun hg => (fun w' H => x_ld (p := Oq ab 1) (v := ac) (gd_of (c := decide (((aa.getD (Int.toNat a) default).place) <= ((aa.getD (Int.toNat b) default).place))) hg (Oq ab 1)) (ldb_sc Sc24 (ai.blk H) rfl))) ?_
 refine d_qg (decide (((aa.getD (Int.toNat a) default).place) <= ((aa.getD (Int.toNat b) default).place))) rfl (gy_t rfl) (fun hg => (fun w' H => x_mv (v := I b) rfl)) ?_
 refine d_qg (decide (((aa.getD (Int.toNat a) default).place) <= ((aa.getD (Int.toNat b) default).place))) rfl (gy_t rfl) (fun hg => (fun w' H => x_ix (a := ac) (b := I b) (v := vat ac 3 (Int.toNat b)) (gd_of (c := decide (((aa.getD (Int.toNat a) default).place) <= ((aa.getD (Int.toNat b) default).place))) hg (ac)) (gd_of (c := decide (((aa.getD (Int.toNat a) default).place) <= ((aa.getD (Int.toNat b) default).place))) hg (I b)) (Sl.ix (α := Mrk) T24.und T24.size ag (by first | omega | (have ae := hg; simp at ae; omega)) (by first | omega | (have ae := hg; simp at ae; omega))))) ?_
 refine d_qg (decide (((aa.getD (Int.toNat a) default).place) <= ((aa.getD (Int.toNat b) default).place))) rfl (gy_t rfl) (fun hg => (fun w' H => x_fa (a := vat ac 3 (Int.toNat b)) (v := fat (vat ac 3 (Int.toNat b)) 1) (gd_of (c := decide (((aa.getD (Int.toNat a) default).place) <= ((aa.getD (Int.toNat b) default).place))) hg (vat ac 3 (Int.toNat b))) (fa_pl Fd70_1 Sz54 (Sl.pl (i := b) ag (by first | omega | (have ae := hg; simp at ae; omega)) (by first | omega | (have ae := hg; simp at ae; omega)))))) ?_
 refine d_qg (decide (((aa.getD (Int.toNat a) default).place) <= ((aa.getD (Int.toNat b) default).place))) rfl (gy_t rfl) (fun hg => (fun w' H => x_fa (a := fat (vat ac 3 (Int.toNat b)) 1) (v := fat (vat ac 3 (Int.toNat b)) 1) (gd_of (c := decide (((aa.getD (Int.toNat a) default).place) <= ((aa.getD (Int.toNat b) default).place))) hg (fat (vat ac 3 (Int.toNat b)) 1)) (fa_pl2 (a := 1) (c := 1) Fd54_0 Sz3 (Sl.pl (i := b) ag (by first | omega | (have ae := hg; simp at ae; omega)) (by first | omega | (have ae := hg; simp at ae; omega))) rfl))) ?_
 refine d_qg (decide (((aa.getD (Int.toNat a) default).place) <= ((aa.getD (Int.toNat b) default).place))) rfl (gy_t rfl) (fun hg => (fun w' H => x_ld (p := fat (vat ac 3 (Int.toNat b)) 1) (v := I ((aa.getD (Int.toNat b) default).lo)) (gd_of (c := decide (((aa.getD (Int.toNat a) default).place) <= ((aa.getD (Int.toNat b) default).place))) hg (fat (vat ac 3 (Int.toNat b)) 1)) (ld_sc Sc3 (At.mono (Mrk_at1 ag (i := b) (by first | omega | (have ae := hg; simp at ae; omega)) (by first | omega | (have ae := hg; simp at ae; omega))) (ah.at H))))) ?_
 refine d_qg (decide (((aa.getD (Int.toNat a) default).place) <= ((aa.getD (Int.toNat b) default).place))) rfl (gy_t rfl) (fun hg => (fun w' H => x_cmp (kd := .i64) (a := (aa.getD (Int.toNat a) default).hi) (b := (aa.getD (Int.toNat b) default).lo) (r := decide (((aa.getD (Int.toNat a) default).hi) < ((aa.getD (Int.toNat b) default).lo))) (gd_of (c := decide (((aa.getD (Int.toNat a) default).place) <= ((aa.getD (Int.toNat b) default).place))) hg (I ((aa.getD (Int.toNat a) default).hi))) (gd_of (c := decide (((aa.getD (Int.toNat a) default).place) <= ((aa.getD (Int.toNat b) default).place))) hg (I ((aa.getD (Int.toNat b) default).lo))) rfl)) ?_
 refine d_q rfl (fun w' H => x_pand (b := decide (((aa.getD (Int.toNat a) default).place) <= ((aa.getD (Int.toNat b) default).place))) (r := decide (((aa.getD (Int.toNat a) default).hi) < ((aa.getD (Int.toNat b) default).lo))) rfl (fun hb => gd_of (c := decide (((aa.getD (Int.toNat a) default).place) <= ((aa.getD (Int.toNat b) default).place))) (by first | exact hb | (rw [hb]; rfl) | simp_all) (B (decide (((aa.getD (Int.toNat a) default).hi) < ((aa.getD (Int.toNat b) default).lo))))) rfl) ?_
 refine d_q rfl (fun w' H => x_as (v := B ((decide (((aa.getD (Int.toNat a) default).place) <= ((aa.getD (Int.toNat b) default).place))) && (decide (((aa.getD (Int.toNat a) default).hi) < ((aa.getD (Int.toNat b) default).lo))))) rfl) ?_
 refine d_nil ?_
 refine W.ret ?_
 have ax := M.e_pure hM
 exact ⟨_, resE_tmp rfl, ⟨((decide (((aa.getD (Int.toNat a) default).place) <= ((aa.getD (Int.toNat b) default).place))) && (decide (((aa.getD (Int.toNat a) default).hi) < ((aa.getD (Int.toNat b) default).lo)))), ax, rfl, H⟩⟩

def zbj (b : Int) (aa : List Sect) (ab : List Mrk) (ac : List Rch) (ae : Int) : M Bool :=
  M.bind (zai aa ab ac ae b) fun r2 =>
  M.pure (!r2)
theorem zdr {R : List Chunk} {ac : Nat} {ab : Nat} {aj : Cells} {ak : Value} {al : Cells} {am : Value} {ao : Cells} {ap : Value} {au : Nat} {ae : Nat} (b : Int) (ag : List Sect) (ah : List Mrk) (ai : List Rch) (aa : Int) (av : Reads R aj) (aw : Sl aj ak ag) (ax : Reads R al) (ay : Sl al am ah) (az : Reads R ao) (aA : Sl ao ap ai) (aB : Has R (cBlk ab [ak, am, ap, .map (some au)] 177)) (aC : Has R (cBlk ac [Pq ab] 112)) (aD : Has R (cBlk ae [I aa] 3)) {r : Bool} (hM : (zbj b ag ah ai aa).Ends r) (w : World) (H : St w w [] R) : Ret Tryz.prog 105 #[I b, Pq ac, Pq ae] w fun v w' => ∃ (y0 : Bool), y0 = r /\ v = B y0 /\ St w w' [] R := by
 refine ret_of_W Tryz.func105 rfl rfl rfl ?_
 refine W.seq ?_
 refine W.region rfl ?_
 refine zA (B false) rfl ?_
 refine s_nil ?_
 refine W.seq ?_
 refine W.region rfl ?_
 refine s_val (x_ld (p := Pq ac) (v := Pq ab) rfl (ldb_sc Sc112 (aC.blk H) rfl)) ?_
 refine s_val (x_ld (p := Pq ae) (v := I aa) rfl (ldb_sc Sc3 (aD.blk H) rfl)) ?_
 refine zM (I b) rfl ?_
 obtain ⟨aH, aE, hM⟩ := M.e_bind hM
 refine s_call cf51 [Pq ab, I aa, I b] rfl (zaq ag ah ai aa b (av.app _) aw (ax.app _) ay (az.app _) aA (aB.app _) aE _ (H.gt 0)) ?_
 rintro vq aI ⟨r2, aF, hvq, aq⟩
 subst aF
 subst vq
 try dsimp only at hM
 replace H := H.bk aq
 clear aq
 refine s_val (x_not (b := r2) rfl) ?_
 refine zA (B (!r2)) rfl ?_
 refine s_nil ?_
 refine W.ret ?_
 have aG := M.e_pure hM
 exact ⟨_, resE_tmp rfl, ⟨(!r2), aG, rfl, H⟩⟩

def zbe (a : Int) (aa : List Int) (ab : List Sect) (ac : List Mrk) (ae : List Rch) : M Bool :=
  M.bind (zav aa (fun ag => zbj ag ab ac ae a)) fun r2 =>
  M.pure r2
theorem zdg {R : List Chunk} {ah : Nat} {al : Cells} {ab : Value} {aa : Nat} {am : Nat} {ao : Cells} {ap : Value} {aq : Cells} {au : Value} {av : Cells} {aw : Value} {az : Nat} (a : Int) (ai : List Int) (ac : List Sect) (ae : List Mrk) (ag : List Rch) (aA : Reads R al) (aB : Sl al ab ai) (aC : Has R (cBlk ah [ab] 28)) (aD : Reads R ao) (aE : Sl ao ap ac) (aF : Reads R aq) (aG : Sl aq au ae) (aH : Reads R av) (aI : Sl av aw ag) (aJ : Has R (cBlk am [ap, au, aw, .map (some az)] 177)) (aK : Has R (cBlk aa [Pq am] 112)) {r : Bool} (hM : (zbe a ai ac ae ag).Ends r) (w : World) (H : St w w [] R) : Ret Tryz.prog 104 #[I a, Pq ah, Pq aa] w fun v w' => ∃ (y0 : Bool), y0 = r /\ v = B y0 /\ St w w' [] R := by
 refine ret_of_W Tryz.func104 rfl rfl rfl ?_
 refine W.seq ?_
 refine W.region rfl ?_
 refine t_box (v := I a) (cs := [I a]) H rfl rfl ?_
 intro aj aV H
 refine zA (B false) rfl ?_
 refine s_nil ?_
 refine W.seq ?_
 refine W.region rfl ?_
 refine s_val (x_ld (p := Pq ah) (v := ab) rfl (ldb_sc Sc28 (aC.blk H) rfl)) ?_
 refine s_val (x_mf (fs := []) (cs := [Pq aa, Pq aj]) rfl rfl) ?_
 obtain ⟨aW, aL, hM⟩ := M.e_bind hM
 refine s_call cf99 [ab, .func (.func 105) #[] #[Pq aa, Pq aj]] rfl (zbp ai (fun ak => zbj ak ac ae ag a) (aA.app _) aB ⟨105, [Pq aa, Pq aj], rfl, cf105, fun ax aX aY aM ak aZ aN a6 aO aP => by obtain rfl := Arg.int aO; exact (zdr ak ac ae ag a (Reads.app (aD.app _) _) aE (Reads.app (aF.app _) _) aG (Reads.app (aH.app _) _) aI (Has.app (aJ.app _) _) (Has.app (aK.app _) _) (Has.app (Has.here (k := 0) rfl) _) aP ax (St.refl aN)).mono fun aM ax ⟨a7, aQ, aR, aS⟩ => by subst aQ; exact ⟨aR, aS⟩⟩ aL _ (H.gt 1)) ?_
 rintro vq a8 ⟨r2, aT, hvq, ay⟩
 subst aT
 subst vq
 try dsimp only at hM
 replace H := H.bk ay
 clear ay
 refine zA (B r2) rfl ?_
 refine s_nil ?_
 refine W.ret ?_
 have aU := M.e_pure hM
 exact ⟨_, resE_tmp rfl, ⟨r2, aU, rfl, (H.pk [])⟩⟩

def zaC (aa : List Sect) (ab : List Mrk) (ac : List Rch) (marks : List Int) : M Bool :=
  M.bind (zav marks (fun ae => zbe ae marks aa ab ac)) fun r2 =>
  M.pure r2
theorem zbR {R : List Chunk} {ab : Nat} {al : Cells} {am : Value} {ao : Cells} {ap : Value} {aq : Cells} {au : Value} {az : Nat} {av : Cells} {aa : Value} (ac : List Sect) (ae : List Mrk) (ag : List Rch) (marks : List Int) (aA : Reads R al) (aB : Sl al am ac) (aC : Reads R ao) (aD : Sl ao ap ae) (aE : Reads R aq) (aF : Sl aq au ag) (aG : Has R (cBlk ab [am, ap, au, .map (some az)] 177)) (aw : Reads R av) (ai : Sl av aa marks) {r : Bool} (hM : (zaC ac ae ag marks).Ends r) (w : World) (H : St w w [] R) : Ret Tryz.prog 58 #[Pq ab, aa] w fun v w' => ∃ (y0 : Bool), y0 = r /\ v = B y0 /\ St w w' [] R := by
 refine ret_of_W Tryz.func58 rfl rfl rfl ?_
 refine W.seq ?_
 refine W.region rfl ?_
 refine t_box (v := Pq ab) (cs := [Pq ab]) H rfl rfl ?_
 intro aj aR H
 refine t_box (v := aa) (cs := [aa]) H rfl (Sl.cells ai) ?_
 intro ah aS H
 refine zA (B false) rfl ?_
 refine s_nil ?_
 refine W.seq ?_
 refine W.region rfl ?_
 refine s_val (x_ld (p := Pq ah) (v := aa) rfl (ldb_sc Sc28 (H.bl 0) rfl)) ?_
 refine s_val (x_mf (fs := []) (cs := [Pq ah, Pq aj]) rfl rfl) ?_
 obtain ⟨aT, aH, hM⟩ := M.e_bind hM
 refine s_call cf99 [aa, .func (.func 104) #[] #[Pq ah, Pq aj]] rfl (zbp marks (fun ak => zbe ak marks ac ae ag) (aw.app _) ai ⟨104, [Pq ah, Pq aj], rfl, cf104, fun ax aU aV aI ak aW aJ aX aK aL => by obtain rfl := Arg.int aK; exact (zdg ak marks ac ae ag (Reads.app (aw.app _) _) ai (Has.app (Has.here (k := 0) rfl) _) (Reads.app (aA.app _) _) aB (Reads.app (aC.app _) _) aD (Reads.app (aE.app _) _) aF (Has.app (aG.app _) _) (Has.app (Has.here (k := 1) rfl) _) aL ax (St.refl aJ)).mono fun aI ax ⟨aY, aM, aN, aO⟩ => by subst aM; exact ⟨aN, aO⟩⟩ aH _ (H.gt 2)) ?_
 rintro vq aZ ⟨r2, aP, hvq, ay⟩
 subst aP
 subst vq
 try dsimp only at hM
 replace H := H.bk ay
 clear ay
 refine zA (B r2) rfl ?_
 refine s_nil ?_
 replace H := H.pk []
 refine W.ret ?_
 have aQ := M.e_pure hM
 exact ⟨_, resE_tmp rfl, ⟨r2, aQ, rfl, H⟩⟩

def zaj (s_Sections : List Sect) (s_Marks : List Mrk) (s_Reaches : List Rch) (marks : List Int) (reach : Int) : M (Int × Int × Int) :=
  M.bind (zbs s_Sections s_Marks s_Reaches marks reach) fun x_ => match x_ with
  | (.inl (ai, aj, ak, al, am, r2)) => (
  bif r2 != 0 then (
  M.pure (0, 0, r2))
  else (
  M.fail))
  | (.inr (aa, ab, ac, ae, ag, ah)) => (
  bif ah != 0 then (
  M.fail)
  else (
  M.bind (zaC s_Sections s_Marks s_Reaches marks) fun r3 =>
  bif !r3 then (
  M.pure (0, 0, 7))
  else (
  M.bind (zaA s_Sections s_Marks s_Reaches marks (⟨(aa : Int), (ab : Int), (ac : Int), (ae : Int), ag⟩ : Rch)) fun (r0, r1) =>
  M.pure (r0, r1, 0))))
theorem zal {R : List Chunk} {aJ : Cells} {al : Value} {aK : Cells} {am : Value} {aL : Cells} {ao : Value} {aM : Cells} {ak : Value} (s_Sections : List Sect) (s_Marks : List Mrk) (s_Reaches : List Rch) (marks : List Int) (reach : Int) (aA : Reads R aJ) (aB : Sl aJ al s_Sections) (aC : Reads R aK) (aD : Sl aK am s_Marks) (aE : Reads R aL) (aF : Sl aL ao s_Reaches) (aG : Reads R aM) (aH : Sl aM ak marks) {r : (Int × Int × Int)} (hM : (zaj s_Sections s_Marks s_Reaches marks reach).Ends r) (w : World) (H : St w w [] R) : Ret Tryz.prog 20 #[.agg #[al, am, ao], ak, I reach] w fun v w' => ∃ (y0 : Int) (y1 : Int) (y2 : Int), (y0, y1, y2) = r /\ v = .tuple #[.agg #[I y0, I y1], I y2] /\ St w w' [] R := by
 refine ret_of_W Tryz.func20 rfl rfl rfl ?_
 refine W.seq ?_
 refine W.region rfl ?_
 refine t_box (v := .agg #[al, am, ao]) (cs := [al, am, ao]) H rfl rfl ?_
 intro aO aZ H
 refine t_alloc (cs := [I 0, I 0]) H Al54 rfl ?_
 intro a6 a7 H
 refine zA (I 0) rfl ?_
 refine s_nil ?_
 refine W.seq ?_
 refine W.region rfl ?_
 refine s_val (x_ld (p := Pq aO) (v := .agg #[al, am, ao]) rfl (ldb_ag (ds := [al, am, ao]) Ag27 Sz27 (H.bl 1) rfl rfl)) ?_
 refine zM ak rfl ?_
 refine zM (I reach) rfl ?_
 obtain ⟨a8, aP, hM⟩ := M.e_bind hM
 refine s_call cf65 [.agg #[al, am, ao], ak, I reach] rfl (zcI s_Sections s_Marks s_Reaches marks reach (aA.app _) aB (aC.app _) aD (aE.app _) aF (aG.app _) aH aP _ (H.gt 2)) ?_
 rintro vq ba (⟨ap, aq, au, av, aw, r2, aQ, hvq, aa⟩ | ⟨ab, ac, ae, ag, ah, ai, aj, bb, aR, hvq, aa⟩)
 ·subst aQ
  subst vq
  try dsimp only at hM
  replace H := H.bk aa
  clear aa
  refine zM (.tuple #[.pointer none, .agg #[I ap, I aq, I au, I av, B aw], I r2]) rfl ?_
  refine zX [.pointer none, .agg #[I ap, I aq, I au, I av, B aw], I r2] (.pointer none) rfl rfl ?_
  refine zX [.pointer none, .agg #[I ap, I aq, I au, I av, B aw], I r2] (.agg #[I ap, I aq, I au, I av, B aw]) rfl rfl ?_
  refine zX [.pointer none, .agg #[I ap, I aq, I au, I av, B aw], I r2] (I r2) rfl rfl ?_
  refine t_alloc (cs := [I 0, I 0, I 0, I 0, B false]) H Al58 rfl ?_
  intro aN bc H
  refine zA (.pointer none) rfl ?_
  refine t_sw 0 0 [I ap, I aq, I au, I av, B aw] (.agg #[I ap, I aq, I au, I av, B aw]) H rfl rfl Sz58 rfl rfl rfl rfl ?_
  intro bf H
  refine zA (I r2) rfl ?_
  refine s_nil ?_
  refine W.seq ?_
  refine W.block ?_
  refine W.seq ?_
  refine W.region rfl ?_
  refine zM (I r2) rfl ?_
  refine zC r2 0 (r2 != 0) rfl rfl rfl ?_
  refine zA (B (r2 != 0)) rfl ?_
  refine s_nil ?_
  refine W.cond (r2 != 0) rfl (fun ay => ?_) (fun ay => ?_)
  ·replace hM := M.e_t hM ay
   simp only [qy1, qy2, qy3, qy4, qy5, qy6, ne_eq, qy7] at ay
   refine W.seq ?_
   refine W.region rfl ?_
   refine s_val (x_bld (ps := []) (zs := [I 0, I 0]) (L' := [I 0, I 0]) rfl Tryz.underlying54 Al54 rfl (Bd54 Tryz.underlying54) (.nil)) ?_
   refine zM (I r2) rfl ?_
   refine t_sw 1 0 [I 0, I 0] (.agg #[I 0, I 0]) H rfl rfl Sz54 rfl rfl rfl rfl ?_
   intro bg H
   refine zA (I r2) rfl ?_
   refine s_nil ?_
   replace H := H.pk [1]
   refine W.ret ?_
   have aS := (H.bl 0)
   have ax := M.e_pure hM
   exact ⟨_, (resE_ofn (vs := [.agg #[I 0, I 0], I r2]) rfl rfl (.cell (v := .agg #[I 0, I 0]) rfl (run_loadVar_ag (ds := [I 0, I 0]) Ag54 Sz54 aS rfl rfl) <| .tmp (v := I r2) rfl <| .nil)), ⟨0, 0, r2, ax, rfl, (H.pk [])⟩⟩
  replace hM := M.e_f hM ay
  exact (M.e_fail hM).elim
 subst aR
 subst vq
 try dsimp only at hM
 replace H := H.bk aa
 clear aa
 refine zM (.tuple #[Pq aj, .agg #[I ab, I ac, I ae, I ag, B ah], I ai]) rfl ?_
 refine zX [Pq aj, .agg #[I ab, I ac, I ae, I ag, B ah], I ai] (Pq aj) rfl rfl ?_
 refine zX [Pq aj, .agg #[I ab, I ac, I ae, I ag, B ah], I ai] (.agg #[I ab, I ac, I ae, I ag, B ah]) rfl rfl ?_
 refine zX [Pq aj, .agg #[I ab, I ac, I ae, I ag, B ah], I ai] (I ai) rfl rfl ?_
 refine t_alloc (cs := [I 0, I 0, I 0, I 0, B false]) H Al58 rfl ?_
 intro aN bh H
 refine zA (Pq aj) rfl ?_
 refine t_sw 0 0 [I ab, I ac, I ae, I ag, B ah] (.agg #[I ab, I ac, I ae, I ag, B ah]) H rfl rfl Sz58 rfl rfl rfl rfl ?_
 intro bi H
 refine zA (I ai) rfl ?_
 refine s_nil ?_
 refine W.seq ?_
 refine W.block ?_
 refine W.seq ?_
 refine W.region rfl ?_
 refine zM (I ai) rfl ?_
 refine zC ai 0 (ai != 0) rfl rfl rfl ?_
 refine zA (B (ai != 0)) rfl ?_
 refine s_nil ?_
 refine W.cond (ai != 0) rfl (fun az => ?_) (fun az => ?_)
 ·replace hM := M.e_t hM az
  exact (M.e_fail hM).elim
 replace hM := M.e_f hM az
 simp only [qy1, qy2, qy3, qy4, qy5, qy6, ne_eq, qy7] at az
 refine W.seq ?_
 refine W.region rfl ?_
 refine zM (Pq aj) rfl ?_
 refine zM ak rfl ?_
 obtain ⟨bj, aT, hM⟩ := M.e_bind hM
 refine s_call cf58 [Pq aj, ak] rfl (zbR s_Sections s_Marks s_Reaches marks (aA.app _) aB (aC.app _) aD (aE.app _) aF (Has.here (k := 1) rfl) (aG.app _) aH aT _ (H.gt 5)) ?_
 rintro vq bm ⟨r3, aU, hvq, aa⟩
 subst aU
 subst vq
 try dsimp only at hM
 replace H := H.bk aa
 clear aa
 refine s_val (x_not (b := r3) rfl) ?_
 refine zA (B (!r3)) rfl ?_
 refine s_nil ?_
 refine W.cond (!r3) rfl (fun aI => ?_) (fun aI => ?_)
 ·replace hM := M.e_t hM aI
  refine W.seq ?_
  refine W.region rfl ?_
  refine s_val (x_bld (ps := []) (zs := [I 0, I 0]) (L' := [I 0, I 0]) rfl Tryz.underlying54 Al54 rfl (Bd54 Tryz.underlying54) (.nil)) ?_
  refine t_sw 3 0 [I 0, I 0] (.agg #[I 0, I 0]) H rfl rfl Sz54 rfl rfl rfl rfl ?_
  intro bn H
  refine zA (I 7) rfl ?_
  refine s_nil ?_
  replace H := H.pk [3]
  refine W.ret ?_
  have aV := (H.bl 0)
  have ax := M.e_pure hM
  exact ⟨_, (resE_ofn (vs := [.agg #[I 0, I 0], I 7]) rfl rfl (.cell (v := .agg #[I 0, I 0]) rfl (run_loadVar_ag (ds := [I 0, I 0]) Ag54 Sz54 aV rfl rfl) <| .tmp (v := I 7) rfl <| .nil)), ⟨0, 0, 7, ax, rfl, (H.pk [])⟩⟩
 replace hM := M.e_f hM aI
 refine W.skip ?_
 refine W.seq ?_
 refine W.region rfl ?_
 refine zM (Pq aj) rfl ?_
 refine zM ak rfl ?_
 refine s_val (x_ld (p := Pq aN) (v := .agg #[I ab, I ac, I ae, I ag, B ah]) rfl (ldb_ag (ds := [I ab, I ac, I ae, I ag, B ah]) Ag58 Sz58 (H.bl 0) rfl rfl)) ?_
 obtain ⟨bo, aW, hM⟩ := M.e_bind hM
 refine s_call cf66 [Pq aj, ak, .agg #[I ab, I ac, I ae, I ag, B ah]] rfl (zbQ s_Sections s_Marks s_Reaches marks (⟨(ab : Int), (ac : Int), (ae : Int), (ag : Int), ah⟩ : Rch) (aA.app _) aB (aC.app _) aD (aE.app _) aF (Has.here (k := 1) rfl) (aG.app _) aH aW _ ((H.pk [2, 0, 1, 3, 4]).gt 4)) ?_
 rintro vq bp ⟨r0, r1, aX, hvq, aa⟩
 subst aX
 subst vq
 try dsimp only at hM
 replace H := H.pk [2, 0, 1, 3, 4] |>.bk aa
 clear aa
 refine t_sw 3 0 [I r0, I r1] (.agg #[I r0, I r1]) H rfl rfl Sz54 rfl rfl rfl rfl ?_
 intro bq H
 refine zA (I 0) rfl ?_
 refine s_nil ?_
 replace H := H.pk [3]
 refine W.ret ?_
 have aY := (H.bl 0)
 have ax := M.e_pure hM
 exact ⟨_, (resE_ofn (vs := [.agg #[I r0, I r1], I 0]) rfl rfl (.cell (v := .agg #[I r0, I r1]) rfl (run_loadVar_ag (ds := [I r0, I r1]) Ag54 Sz54 aY rfl rfl) <| .tmp (v := I 0) rfl <| .nil)), ⟨r0, r1, 0, ax, rfl, (H.pk [])⟩⟩

def zcx (c : Cas) (r_ : Rch) : M Bool :=
  M.bind (zac c.up 0 2000) fun r2 =>
  M.bind (M.opt r2 (zac c.down 0 c.up) false) fun r3 =>
  M.bind (M.opt (r2 && r3) (zac c.roughup r_.lo r_.hi) false) fun r4 =>
  M.bind (M.opt ((r2 && r3) && r4) (zac c.roughdown r_.lo r_.hi) false) fun r5 =>
  M.pure (((r2 && r3) && r4) && r5)
theorem zcJ {R : List Chunk}  (c : Cas) (r_ : Rch)  {r : Bool} (hM : (zcx c r_).Ends r) (w : World) (H : St w w [] R) : Ret Tryz.prog 71 #[.agg #[I c.up, I c.down, I c.roughup, I c.roughdown], .agg #[I r_.up, I r_.down, I r_.lo, I r_.hi, B r_.narrow]] w fun v w' => ∃ (y0 : Bool), y0 = r /\ v = B y0 /\ St w w' [] R := by
 refine ret_of_W Tryz.func71 rfl rfl rfl ?_
 refine W.seq ?_
 refine W.region rfl ?_
 refine t_box (v := .agg #[I c.up, I c.down, I c.roughup, I c.roughdown]) (cs := [I c.up, I c.down, I c.roughup, I c.roughdown]) H rfl rfl ?_
 intro ab am H
 refine t_box (v := .agg #[I r_.up, I r_.down, I r_.lo, I r_.hi, B r_.narrow]) (cs := [I r_.up, I r_.down, I r_.lo, I r_.hi, B r_.narrow]) H rfl rfl ?_
 intro aa ao H
 refine zA (B false) rfl ?_
 refine s_nil ?_
 refine W.seq ?_
 refine W.region rfl ?_
 refine s_val (x_fa (a := Pq ab) (v := Pq ab) rfl (fa_blk (o := 0) Fd61_0 Sz3)) ?_
 refine s_val (x_ld (p := Pq ab) (v := I c.up) rfl (ldb_sc Sc3 (H.bl 1) rfl)) ?_
 obtain ⟨ap, ah, hM⟩ := M.e_bind hM
 refine s_call cf70 [I c.up, I 0, I 2000] rfl (zae c.up 0 2000 ah _ (H.gt 2)) ?_
 rintro vq aq ⟨r2, ai, hvq, ag⟩
 subst ai
 subst vq
 try dsimp only at hM
 replace H := H.bk ag
 clear ag
 refine zM (B r2) rfl ?_
 refine g_val r2 (gy_t rfl) (fun hg => x_fa (a := Pq ab) (v := Oq ab 1) rfl (fa_blk (o := 0) Fd61_1 Sz3)) ?_
 refine g_val r2 (gy_t rfl) (fun hg => x_ld (p := Oq ab 1) (v := I c.down) (gd_of (c := r2) hg (Oq ab 1)) (ldb_sc Sc3 (H.bl 1) rfl)) ?_
 refine g_val r2 (gy_t rfl) (fun hg => x_fa (a := Pq ab) (v := Pq ab) rfl (fa_blk (o := 0) Fd61_0 Sz3)) ?_
 refine g_val r2 (gy_t rfl) (fun hg => x_ld (p := Pq ab) (v := I c.up) (gd_of (c := r2) hg (Pq ab)) (ldb_sc Sc3 (H.bl 1) rfl)) ?_
 obtain ⟨r3, aj, hM⟩ := M.e_bind hM
 refine t_gcall r2 (gy_t rfl) cf70 (B r3) (fun _ => [I c.down, I 0, I c.up]) (fun hg => lst3 (gd_of (c := r2) hg (I c.down)) rfl (gd_of (c := r2) hg (I c.up))) H (fun hg => (zae c.down 0 c.up (M.e_opt aj hg) _ (H.give (A := []) rfl)).mono fun v_ w_ ⟨y_, ac, ae, H_⟩ => by subst ac; exact ⟨ae, H.via H_⟩) ?_
 intro au H
 refine s_val (x_pand (b := r2) (r := r3) rfl (fun hb => gd_of (c := r2) (by first | exact hb | (rw [hb]; rfl) | simp_all) (B r3)) rfl) ?_
 refine zM (B (r2 && r3)) rfl ?_
 refine g_val (r2 && r3) (gy_t rfl) (fun hg => x_fa (a := Pq ab) (v := Oq ab 2) rfl (fa_blk (o := 0) Fd61_2 Sz3)) ?_
 refine g_val (r2 && r3) (gy_t rfl) (fun hg => x_ld (p := Oq ab 2) (v := I c.roughup) (gd_of (c := (r2 && r3)) hg (Oq ab 2)) (ldb_sc Sc3 (H.bl 1) rfl)) ?_
 refine g_val (r2 && r3) (gy_t rfl) (fun hg => x_fa (a := Pq aa) (v := Oq aa 2) rfl (fa_blk (o := 0) Fd58_2 Sz54)) ?_
 refine g_val (r2 && r3) (gy_t rfl) (fun hg => x_fa (a := Oq aa 2) (v := Oq aa 2) (gd_of (c := (r2 && r3)) hg (Oq aa 2)) (fa_blk (o := 2) Fd54_0 Sz3)) ?_
 refine g_val (r2 && r3) (gy_t rfl) (fun hg => x_ld (p := Oq aa 2) (v := I r_.lo) (gd_of (c := (r2 && r3)) hg (Oq aa 2)) (ldb_sc Sc3 (H.bl 0) rfl)) ?_
 refine g_val (r2 && r3) (gy_t rfl) (fun hg => x_fa (a := Pq aa) (v := Oq aa 2) rfl (fa_blk (o := 0) Fd58_2 Sz54)) ?_
 refine g_val (r2 && r3) (gy_t rfl) (fun hg => x_fa (a := Oq aa 2) (v := Oq aa 3) (gd_of (c := (r2 && r3)) hg (Oq aa 2)) (fa_blk (o := 2) Fd54_1 Sz3)) ?_
 refine g_val (r2 && r3) (gy_t rfl) (fun hg => x_ld (p := Oq aa 3) (v := I r_.hi) (gd_of (c := (r2 && r3)) hg (Oq aa 3)) (ldb_sc Sc3 (H.bl 0) rfl)) ?_
 obtain ⟨r4, ak, hM⟩ := M.e_bind hM
 refine t_gcall (r2 && r3) (gy_t rfl) cf70 (B r4) (fun _ => [I c.roughup, I r_.lo, I r_.hi]) (fun hg => lst3 (gd_of (c := (r2 && r3)) hg (I c.roughup)) (gd_of (c := (r2 && r3)) hg (I r_.lo)) (gd_of (c := (r2 && r3)) hg (I r_.hi))) H (fun hg => (zae c.roughup r_.lo r_.hi (M.e_opt ak hg) _ (H.give (A := []) rfl)).mono fun v_ w_ ⟨y_, ac, ae, H_⟩ => by subst ac; exact ⟨ae, H.via H_⟩) ?_
 intro av H
 refine s_val (x_pand (b := (r2 && r3)) (r := r4) rfl (fun hb => gd_of (c := (r2 && r3)) (by first | exact hb | (rw [hb]; rfl) | simp_all) (B r4)) rfl) ?_
 refine zM (B ((r2 && r3) && r4)) rfl ?_
 refine g_val ((r2 && r3) && r4) (gy_t rfl) (fun hg => x_fa (a := Pq ab) (v := Oq ab 3) rfl (fa_blk (o := 0) Fd61_3 Sz3)) ?_
 refine g_val ((r2 && r3) && r4) (gy_t rfl) (fun hg => x_ld (p := Oq ab 3) (v := I c.roughdown) (gd_of (c := ((r2 && r3) && r4)) hg (Oq ab 3)) (ldb_sc Sc3 (H.bl 1) rfl)) ?_
 refine g_val ((r2 && r3) && r4) (gy_t rfl) (fun hg => x_fa (a := Pq aa) (v := Oq aa 2) rfl (fa_blk (o := 0) Fd58_2 Sz54)) ?_
 refine g_val ((r2 && r3) && r4) (gy_t rfl) (fun hg => x_fa (a := Oq aa 2) (v := Oq aa 2) (gd_of (c := ((r2 && r3) && r4)) hg (Oq aa 2)) (fa_blk (o := 2) Fd54_0 Sz3)) ?_
 refine g_val ((r2 && r3) && r4) (gy_t rfl) (fun hg => x_ld (p := Oq aa 2) (v := I r_.lo) (gd_of (c := ((r2 && r3) && r4)) hg (Oq aa 2)) (ldb_sc Sc3 (H.bl 0) rfl)) ?_
 refine g_val ((r2 && r3) && r4) (gy_t rfl) (fun hg => x_fa (a := Pq aa) (v := Oq aa 2) rfl (fa_blk (o := 0) Fd58_2 Sz54)) ?_
 refine g_val ((r2 && r3) && r4) (gy_t rfl) (fun hg => x_fa (a := Oq aa 2) (v := Oq aa 3) (gd_of (c := ((r2 && r3) && r4)) hg (Oq aa 2)) (fa_blk (o := 2) Fd54_1 Sz3)) ?_
 refine g_val ((r2 && r3) && r4) (gy_t rfl) (fun hg => x_ld (p := Oq aa 3) (v := I r_.hi) (gd_of (c := ((r2 && r3) && r4)) hg (Oq aa 3)) (ldb_sc Sc3 (H.bl 0) rfl)) ?_
 obtain ⟨r5, al, hM⟩ := M.e_bind hM
 refine t_gcall ((r2 && r3) && r4) (gy_t rfl) cf70 (B r5) (fun _ => [I c.roughdown, I r_.lo, I r_.hi]) (fun hg => lst3 (gd_of (c := ((r2 && r3) && r4)) hg (I c.roughdown)) (gd_of (c := ((r2 && r3) && r4)) hg (I r_.lo)) (gd_of (c := ((r2 && r3) && r4)) hg (I r_.hi))) H (fun hg => (zae c.roughdown r_.lo r_.hi (M.e_opt al hg) _ (H.give (A := []) rfl)).mono fun v_ w_ ⟨y_, ac, ae, H_⟩ => by subst ac; exact ⟨ae, H.via H_⟩) ?_
 intro aw H
 refine s_val (x_pand (b := ((r2 && r3) && r4)) (r := r5) rfl (fun hb => gd_of (c := ((r2 && r3) && r4)) (by first | exact hb | (rw [hb]; rfl) | simp_all) (B r5)) rfl) ?_
 refine zA (B (((r2 && r3) && r4) && r5)) rfl ?_
 refine s_nil ?_
 replace H := H.pk []
 refine W.ret ?_
 have ac := M.e_pure hM
 exact ⟨_, resE_tmp rfl, ⟨(((r2 && r3) && r4) && r5), ac, rfl, H⟩⟩

def zcs (s_Sections : List Sect) (s_Marks : List Mrk) (s_Reaches : List Rch) (reach : Int) (c : Cas) : M (Int × Int) :=
  M.bind (zao s_Sections s_Marks s_Reaches) fun x_ => match x_ with
  | (.inl r1) => (
  bif r1 != 0 then (
  M.pure (0, r1))
  else (
  M.fail))
  | (.inr aa) => (
  bif aa != 0 then (
  M.fail)
  else (
  M.bind (zac reach 0 ((s_Reaches.length : Int) - 1)) fun r2 =>
  bif !r2 then (
  M.pure (0, 2))
  else (
  M.grd (decide ((0 : Int) <= reach) && decide (reach < (s_Reaches.length : Int))) <|
  M.bind (zcx c (s_Reaches.getD (Int.toNat reach) default)) fun r3 =>
  bif !r3 then (
  M.pure (0, 4))
  else (
  M.bind (zax s_Sections s_Marks s_Reaches (s_Reaches.getD (Int.toNat reach) default) c) fun r4 =>
  M.pure (r4, 0)))))
theorem zda {R : List Chunk} {ax : Cells} {ae : Value} {ay : Cells} {ag : Value} {az : Cells} {aa : Value} (s_Sections : List Sect) (s_Marks : List Mrk) (s_Reaches : List Rch) (reach : Int) (c : Cas) (aA : Reads R ax) (aB : Sl ax ae s_Sections) (aC : Reads R ay) (aD : Sl ay ag s_Marks) (am : Reads R az) (aj : Sl az aa s_Reaches) {r : (Int × Int)} (hM : (zcs s_Sections s_Marks s_Reaches reach c).Ends r) (w : World) (H : St w w [] R) : Ret Tryz.prog 22 #[.agg #[ae, ag, aa], I reach, .agg #[I c.up, I c.down, I c.roughup, I c.roughdown]] w fun v w' => ∃ (y0 : Int) (y1 : Int), (y0, y1) = r /\ v = .tuple #[I y0, I y1] /\ St w w' [] R := by
 refine ret_of_W Tryz.func22 rfl rfl rfl ?_
 refine W.seq ?_
 refine W.region rfl ?_
 refine t_box (v := .agg #[ae, ag, aa]) (cs := [ae, ag, aa]) H rfl rfl ?_
 intro ac aO H
 refine t_box (v := .agg #[I c.up, I c.down, I c.roughup, I c.roughdown]) (cs := [I c.up, I c.down, I c.roughup, I c.roughdown]) H rfl rfl ?_
 intro ao aP H
 refine zA (I 0) rfl ?_
 refine zA (I 0) rfl ?_
 refine s_nil ?_
 refine W.seq ?_
 refine W.region rfl ?_
 refine s_val (x_ld (p := Pq ac) (v := .agg #[ae, ag, aa]) rfl (ldb_ag (ds := [ae, ag, aa]) Ag27 Sz27 (H.bl 1) rfl rfl)) ?_
 obtain ⟨aQ, aE, hM⟩ := M.e_bind hM
 refine s_call cf49 [.agg #[ae, ag, aa]] rfl (zaK s_Sections s_Marks s_Reaches (aA.app _) aB (aC.app _) aD (am.app _) aj aE _ (H.gt 2)) ?_
 rintro vq aR (⟨r1, aF, hvq, ab⟩ | ⟨ah, ai, au, aG, hvq, ab⟩)
 ·subst aF
  subst vq
  try dsimp only at hM
  replace H := H.bk ab
  clear ab
  refine zM (.tuple #[.pointer none, I r1]) rfl ?_
  refine zX [.pointer none, I r1] (.pointer none) rfl rfl ?_
  refine zX [.pointer none, I r1] (I r1) rfl rfl ?_
  refine zA (.pointer none) rfl ?_
  refine zA (I r1) rfl ?_
  refine s_nil ?_
  refine W.seq ?_
  refine W.block ?_
  refine W.seq ?_
  refine W.region rfl ?_
  refine zM (I r1) rfl ?_
  refine zC r1 0 (r1 != 0) rfl rfl rfl ?_
  refine zA (B (r1 != 0)) rfl ?_
  refine s_nil ?_
  refine W.cond (r1 != 0) rfl (fun ap => ?_) (fun ap => ?_)
  ·replace hM := M.e_t hM ap
   simp only [qy1, qy2, qy3, qy4, qy5, qy6, ne_eq, qy7] at ap
   refine W.seq ?_
   refine W.region rfl ?_
   refine zM (I r1) rfl ?_
   refine zA (I 0) rfl ?_
   refine zA (I r1) rfl ?_
   refine s_nil ?_
   replace H := H.pk []
   refine W.ret ?_
   have ak := M.e_pure hM
   exact ⟨_, resE_tmp2 rfl, ⟨0, r1, ak, rfl, H⟩⟩
  replace hM := M.e_f hM ap
  exact (M.e_fail hM).elim
 subst aG
 subst vq
 try dsimp only at hM
 replace H := H.bk ab
 clear ab
 refine zM (.tuple #[Pq ai, I ah]) rfl ?_
 refine zX [Pq ai, I ah] (Pq ai) rfl rfl ?_
 refine zX [Pq ai, I ah] (I ah) rfl rfl ?_
 refine zA (Pq ai) rfl ?_
 refine zA (I ah) rfl ?_
 refine s_nil ?_
 refine W.seq ?_
 refine W.block ?_
 refine W.seq ?_
 refine W.region rfl ?_
 refine zM (I ah) rfl ?_
 refine zC ah 0 (ah != 0) rfl rfl rfl ?_
 refine zA (B (ah != 0)) rfl ?_
 refine s_nil ?_
 refine W.cond (ah != 0) rfl (fun aq => ?_) (fun aq => ?_)
 ·replace hM := M.e_t hM aq
  exact (M.e_fail hM).elim
 replace hM := M.e_f hM aq
 simp only [qy1, qy2, qy3, qy4, qy5, qy6, ne_eq, qy7] at aq
 refine W.seq ?_
 refine W.region rfl ?_
 refine zM (I reach) rfl ?_
 refine s_val (x_fa (a := Pq ac) (v := Oq ac 2) rfl (fa_blk (o := 0) Fd27_2 Sz25)) ?_
 refine s_val (x_ld (p := Oq ac 2) (v := aa) rfl (ldb_sc Sc25 (H.bl 3) rfl)) ?_
 have aS := (aj).len_le
 refine s_val (x_lenS T25.und rfl aj) ?_
 refine zR (s_Reaches.length : Int) 1 ((s_Reaches.length : Int) - 1) rfl rfl rfl (by omega) ?_
 obtain ⟨aT, aH, hM⟩ := M.e_bind hM
 refine s_call cf70 [I reach, I 0, I ((s_Reaches.length : Int) - 1)] rfl (zae reach 0 ((s_Reaches.length : Int) - 1) aH _ (H.gt 4)) ?_
 rintro vq aU ⟨r2, aI, hvq, ab⟩
 subst aI
 subst vq
 try dsimp only at hM
 replace H := H.bk ab
 clear ab
 refine s_val (x_not (b := r2) rfl) ?_
 refine zA (B (!r2)) rfl ?_
 refine s_nil ?_
 refine W.cond (!r2) rfl (fun av => ?_) (fun av => ?_)
 ·replace hM := M.e_t hM av
  refine W.seq ?_
  refine W.region rfl ?_
  refine zA (I 0) rfl ?_
  refine zA (I 2) rfl ?_
  refine s_nil ?_
  replace H := H.pk []
  refine W.ret ?_
  have ak := M.e_pure hM
  exact ⟨_, resE_tmp2 rfl, ⟨0, 2, ak, rfl, H⟩⟩
 replace hM := M.e_f hM av
 refine W.seq ?_
 refine W.draw (fun W => St w W [cBlk ai [ae, ag, aa, .map (some au)] 177, cMemI encSpt au (zaa s_Sections s_Marks s_Reaches), cBlk ao [I c.up, I c.down, I c.roughup, I c.roughdown] 61, cBlk ac [ae, ag, aa] 27] R) [(0, true), (1, true), (2, true), (3, true), (4, true), (5, true), (6, false), (7, true), (8, true)] mixed (by decide +kernel) rfl ?_
 intro aV al
 replace H := H.ext al
 clear al
 refine ⟨(H.pk [0, 1, 2, 3]), ?_⟩
 refine d_q rfl (fun w' H => x_ld (p := Pq ao) (v := .agg #[I c.up, I c.down, I c.roughup, I c.roughdown]) rfl (ldb_ag (ds := [I c.up, I c.down, I c.roughup, I c.roughdown]) Ag61 Sz61 (H.bl 2) rfl rfl)) ?_
 refine d_q rfl (fun w' H => x_fa (a := Pq ac) (v := Oq ac 2) rfl (fa_blk (o := 0) Fd27_2 Sz25)) ?_
 refine d_q rfl (fun w' H => x_ld (p := Oq ac 2) (v := aa) rfl (ldb_sc Sc25 (H.bl 3) rfl)) ?_
 refine d_q rfl (fun w' H => x_mv (v := I reach) rfl) ?_
 obtain ⟨aJ, hM⟩ := M.e_grd hM
 simp only [Bool.and_eq_true, decide_eq_true_eq] at aJ
 refine d_q rfl (fun w' H => x_ix (a := aa) (b := I reach) (v := vat aa 5 (Int.toNat reach)) rfl rfl (Sl.ix (α := Rch) T25.und T25.size aj (by omega) (by omega))) ?_
 refine d_q rfl (fun w' H => x_ld (p := vat aa 5 (Int.toNat reach)) (v := .agg #[I ((s_Reaches.getD (Int.toNat reach) default).up), I ((s_Reaches.getD (Int.toNat reach) default).down), I ((s_Reaches.getD (Int.toNat reach) default).lo), I ((s_Reaches.getD (Int.toNat reach) default).hi), B ((s_Reaches.getD (Int.toNat reach) default).narrow)]) rfl (ld_ag Ag58 Sz58 (At.mono (Rch_atA aj (i := reach) (by omega) (by omega)) (am.at H)))) ?_
 refine d_l rfl ?_
 obtain ⟨aW, aK, hM⟩ := M.e_bind hM
 refine s_call cf71 [.agg #[I c.up, I c.down, I c.roughup, I c.roughdown], .agg #[I ((s_Reaches.getD (Int.toNat reach) default).up), I ((s_Reaches.getD (Int.toNat reach) default).down), I ((s_Reaches.getD (Int.toNat reach) default).lo), I ((s_Reaches.getD (Int.toNat reach) default).hi), B ((s_Reaches.getD (Int.toNat reach) default).narrow)]] rfl (zcJ c (s_Reaches.getD (Int.toNat reach) default) aK _ (H.gt 4)) ?_
 rintro vq aX ⟨r3, aL, hvq, ab⟩
 subst aL
 subst vq
 try dsimp only at hM
 replace H := H.bk ab
 clear ab
 refine s_nil ⟨(H.pk [0, 1, 2, 3]), ?_⟩
 refine d_q rfl (fun w' H => x_not (b := r3) rfl) ?_
 refine d_q rfl (fun w' H => x_as (v := B (!r3)) rfl) ?_
 refine d_nil ?_
 refine W.cond (!r3) rfl (fun aw => ?_) (fun aw => ?_)
 ·replace hM := M.e_t hM aw
  refine W.seq ?_
  refine W.region rfl ?_
  refine zA (I 0) rfl ?_
  refine zA (I 4) rfl ?_
  refine s_nil ?_
  replace H := H.pk []
  refine W.ret ?_
  have ak := M.e_pure hM
  exact ⟨_, resE_tmp2 rfl, ⟨0, 4, ak, rfl, H⟩⟩
 replace hM := M.e_f hM aw
 refine W.skip ?_
 refine W.seq ?_
 refine W.draw (fun W => St w W [cBlk ai [ae, ag, aa, .map (some au)] 177, cBlk ao [I c.up, I c.down, I c.roughup, I c.roughdown] 61, cBlk ac [ae, ag, aa] 27] R) [(0, true), (1, true), (2, true), (3, true), (4, true), (5, true), (6, true), (7, false), (8, true), (9, true)] mixed (by decide +kernel) rfl ?_
 intro aY al
 replace H := H.ext al
 clear al
 refine ⟨(H.pk [0, 2, 3]), ?_⟩
 refine d_q rfl (fun w' H => x_mv (v := Pq ai) rfl) ?_
 refine d_q rfl (fun w' H => x_fa (a := Pq ac) (v := Oq ac 2) rfl (fa_blk (o := 0) Fd27_2 Sz25)) ?_
 refine d_q rfl (fun w' H => x_ld (p := Oq ac 2) (v := aa) rfl (ldb_sc Sc25 (H.bl 2) rfl)) ?_
 refine d_q rfl (fun w' H => x_mv (v := I reach) rfl) ?_
 refine d_q rfl (fun w' H => x_ix (a := aa) (b := I reach) (v := vat aa 5 (Int.toNat reach)) rfl rfl (Sl.ix (α := Rch) T25.und T25.size aj (by omega) (by omega))) ?_
 refine d_q rfl (fun w' H => x_ld (p := vat aa 5 (Int.toNat reach)) (v := .agg #[I ((s_Reaches.getD (Int.toNat reach) default).up), I ((s_Reaches.getD (Int.toNat reach) default).down), I ((s_Reaches.getD (Int.toNat reach) default).lo), I ((s_Reaches.getD (Int.toNat reach) default).hi), B ((s_Reaches.getD (Int.toNat reach) default).narrow)]) rfl (ld_ag Ag58 Sz58 (At.mono (Rch_atA aj (i := reach) (by omega) (by omega)) (am.at H)))) ?_
 refine d_q rfl (fun w' H => x_ld (p := Pq ao) (v := .agg #[I c.up, I c.down, I c.roughup, I c.roughdown]) rfl (ldb_ag (ds := [I c.up, I c.down, I c.roughup, I c.roughdown]) Ag61 Sz61 (H.bl 1) rfl rfl)) ?_
 refine d_l rfl ?_
 obtain ⟨aZ, aM, hM⟩ := M.e_bind hM
 refine s_call cf72 [Pq ai, .agg #[I ((s_Reaches.getD (Int.toNat reach) default).up), I ((s_Reaches.getD (Int.toNat reach) default).down), I ((s_Reaches.getD (Int.toNat reach) default).lo), I ((s_Reaches.getD (Int.toNat reach) default).hi), B ((s_Reaches.getD (Int.toNat reach) default).narrow)], .agg #[I c.up, I c.down, I c.roughup, I c.roughdown]] rfl (zcf s_Sections s_Marks s_Reaches (s_Reaches.getD (Int.toNat reach) default) c (aA.app _) aB (aC.app _) aD (am.app _) aj (Has.here (k := 0) rfl) aM _ ((H.pk [1, 0, 2, 3]).gt 3)) ?_
 rintro vq a6 ⟨r4, aN, hvq, ab⟩
 subst aN
 subst vq
 try dsimp only at hM
 replace H := H.pk [1, 0, 2, 3] |>.bk ab
 clear ab
 refine s_nil ⟨(H.pk [1, 2, 3]), ?_⟩
 refine d_q rfl (fun w' H => x_as (v := I r4) rfl) ?_
 refine d_q rfl (fun w' H => x_as (v := I 0) rfl) ?_
 refine d_nil ?_
 replace H := H.pk []
 refine W.ret ?_
 have ak := M.e_pure hM
 exact ⟨_, resE_tmp2 rfl, ⟨r4, 0, ak, rfl, H⟩⟩

def zbK (s_Sections : List Sect) (s_Marks : List Mrk) (s_Reaches : List Rch) (marks : List Int) : (Nat × (List Span)) -> M ((Nat × (List Span)) ⊕ ((List Span) × (List Span))) := fun (s2, l) =>
  bif decide ((s2 : Int) < (s_Sections.length : Int)) then (
  M.bind (zan s_Sections s_Marks s_Reaches marks (s2 : Int)) fun (r0, aa) =>
  M.grd (decide ((l.length + ([(⟨(r0 : Int), (aa : Int)⟩ : Span)]).length) * 16 <= 140737488355328)) <|
  M.pure (.inl (s2 + 1, l ++ ([(⟨(r0 : Int), (aa : Int)⟩ : Span)]))))
  else (
  M.pure (.inr (l, l)))
def zcr (s_Sections : List Sect) (s_Marks : List Mrk) (s_Reaches : List Rch) (marks : List Int) : M ((List Span) × Int) :=
  M.bind (zaw s_Sections s_Marks s_Reaches marks) fun x_ => match x_ with
  | (.inl r1) => (
  bif r1 != 0 then (
  M.pure (([]), r1))
  else (
  M.fail))
  | (.inr aa) => (
  bif aa != 0 then (
  M.fail)
  else (
  M.bind (zaC s_Sections s_Marks s_Reaches marks) fun r2 =>
  bif !r2 then (
  M.pure (([]), 7))
  else (
  M.bind (M.iter (zbK s_Sections s_Marks s_Reaches marks) (0, [])) fun (l2, l3) =>
  M.pure (l3, 0))))
theorem zcO {R : List Chunk} {aE : Cells} {ac : Value} {aF : Cells} {ag : Value} {aG : Cells} {ah : Value} {aH : Cells} {ai : Value} (s_Sections : List Sect) (s_Marks : List Mrk) (s_Reaches : List Rch) (marks : List Int) (av : Reads R aE) (al : Sl aE ac s_Sections) (aw : Reads R aF) (ax : Sl aF ag s_Marks) (ay : Reads R aG) (az : Sl aG ah s_Reaches) (aA : Reads R aH) (aB : Sl aH ai marks) {r : ((List Span) × Int)} (hM : (zcr s_Sections s_Marks s_Reaches marks).Ends r) (w : World) (H : St w w [] R) : Ret Tryz.prog 13 #[.agg #[ac, ag, ah], ai] w fun v w' => ∃ (y0 : List Span) (y1 : Int) (u0 : Value), (y0, y1) = r /\ v = .tuple #[u0, I y1] /\ St w w' [cOwn (α := Span) 54 u0 y0] R := by
 refine ret_of_W Tryz.func13 rfl rfl rfl ?_
 refine W.seq ?_
 refine W.region rfl ?_
 refine t_box (v := .agg #[ac, ag, ah]) (cs := [ac, ag, ah]) H rfl rfl ?_
 intro am a6 H
 refine zA (.slice none 0 0) rfl ?_
 refine zA (I 0) rfl ?_
 refine s_nil ?_
 refine W.seq ?_
 refine W.region rfl ?_
 refine s_val (x_ld (p := Pq am) (v := .agg #[ac, ag, ah]) rfl (ldb_ag (ds := [ac, ag, ah]) Ag27 Sz27 (H.bl 0) rfl rfl)) ?_
 refine zM ai rfl ?_
 obtain ⟨a7, aM, hM⟩ := M.e_bind hM
 refine s_call cf57 [.agg #[ac, ag, ah], ai] rfl (zbF s_Sections s_Marks s_Reaches marks (av.app _) al (aw.app _) ax (ay.app _) az (aA.app _) aB aM _ (H.gt 1)) ?_
 rintro vq a8 (⟨r1, aN, hvq, aa⟩ | ⟨ae, ab, aI, aO, hvq, aa⟩)
 ·subst aN
  subst vq
  try dsimp only at hM
  replace H := H.bk aa
  clear aa
  refine zM (.tuple #[.pointer none, I r1]) rfl ?_
  refine zX [.pointer none, I r1] (.pointer none) rfl rfl ?_
  refine zX [.pointer none, I r1] (I r1) rfl rfl ?_
  refine zA (.pointer none) rfl ?_
  refine zA (I r1) rfl ?_
  refine s_nil ?_
  refine W.seq ?_
  refine W.block ?_
  refine W.seq ?_
  refine W.region rfl ?_
  refine zM (I r1) rfl ?_
  refine zC r1 0 (r1 != 0) rfl rfl rfl ?_
  refine zA (B (r1 != 0)) rfl ?_
  refine s_nil ?_
  refine W.cond (r1 != 0) rfl (fun aq => ?_) (fun aq => ?_)
  ·replace hM := M.e_t hM aq
   simp only [qy1, qy2, qy3, qy4, qy5, qy6, ne_eq, qy7] at aq
   refine W.seq ?_
   refine W.region rfl ?_
   refine zM (I r1) rfl ?_
   refine zA (.slice none 0 0) rfl ?_
   refine zA (I r1) rfl ?_
   refine s_nil ?_
   refine W.ret ?_
   have ao := M.e_pure hM
   replace H := H.nilOwn (α := Span) 54
   exact ⟨_, resE_tmp2 rfl, ⟨([]), r1, (.slice none 0 0), ao, rfl, (H.pk [0])⟩⟩
  replace hM := M.e_f hM aq
  exact (M.e_fail hM).elim
 subst aO
 subst vq
 try dsimp only at hM
 replace H := H.bk aa
 clear aa
 refine zM (.tuple #[Pq ab, I ae]) rfl ?_
 refine zX [Pq ab, I ae] (Pq ab) rfl rfl ?_
 refine zX [Pq ab, I ae] (I ae) rfl rfl ?_
 refine zA (Pq ab) rfl ?_
 refine zA (I ae) rfl ?_
 refine s_nil ?_
 refine W.seq ?_
 refine W.block ?_
 refine W.seq ?_
 refine W.region rfl ?_
 refine zM (I ae) rfl ?_
 refine zC ae 0 (ae != 0) rfl rfl rfl ?_
 refine zA (B (ae != 0)) rfl ?_
 refine s_nil ?_
 refine W.cond (ae != 0) rfl (fun au => ?_) (fun au => ?_)
 ·replace hM := M.e_t hM au
  exact (M.e_fail hM).elim
 replace hM := M.e_f hM au
 simp only [qy1, qy2, qy3, qy4, qy5, qy6, ne_eq, qy7] at au
 refine W.seq ?_
 refine W.region rfl ?_
 refine zM (Pq ab) rfl ?_
 refine zM ai rfl ?_
 obtain ⟨ba, aP, hM⟩ := M.e_bind hM
 refine s_call cf58 [Pq ab, ai] rfl (zbR s_Sections s_Marks s_Reaches marks (av.app _) al (aw.app _) ax (ay.app _) az (Has.here (k := 0) rfl) (aA.app _) aB aP _ (H.gt 3)) ?_
 rintro vq bb ⟨r2, aQ, hvq, aa⟩
 subst aQ
 subst vq
 try dsimp only at hM
 replace H := H.bk aa
 clear aa
 refine s_val (x_not (b := r2) rfl) ?_
 refine zA (B (!r2)) rfl ?_
 refine s_nil ?_
 refine W.cond (!r2) rfl (fun aC => ?_) (fun aC => ?_)
 ·replace hM := M.e_t hM aC
  refine W.seq ?_
  refine W.region rfl ?_
  refine zA (.slice none 0 0) rfl ?_
  refine zA (I 7) rfl ?_
  refine s_nil ?_
  replace H := H.pk []
  refine W.ret ?_
  have ao := M.e_pure hM
  replace H := H.nilOwn (α := Span) 54
  exact ⟨_, resE_tmp2 rfl, ⟨([]), 7, (.slice none 0 0), ao, rfl, H⟩⟩
 replace hM := M.e_f hM aC
 refine W.skip ?_
 refine W.seq ?_
 refine W.region rfl ?_
 refine zA (.slice none 0 0) rfl ?_
 refine s_nil ?_
 refine W.seq ?_
 refine W.seq ?_
 refine W.region rfl ?_
 refine s_val (x_fa (a := Pq am) (v := Pq am) rfl (fa_blk (o := 0) Fd27_0 Sz23)) ?_
 refine s_val (x_ld (p := Pq am) (v := ac) rfl (ldb_sc Sc23 (H.bl 2) rfl)) ?_
 have bc := (al).len_le
 refine s_val (x_lenS T23.und rfl al) ?_
 refine zM (I 0) rfl ?_
 refine s_nil ?_
 refine W.block ?_
 replace H := H.nilOwn (α := Span) 54
 obtain ⟨aR, aD, aS⟩ := M.e_bind hM
 obtain ⟨bf, aD⟩ := M.e_iter aD
 refine W.loop (fun m σ W => ∃ (s2 : Nat) (l : List Span) (aj : Value) (ρ : Env), σ = upds ρ [(1, ai), (6, Pq ab), (8, aj), (27, I (s_Sections.length : Int)), (28, I (s2 : Int))] /\ M.iterN (zbK s_Sections s_Marks s_Reaches marks) m (s2, l) = some aR /\ St w W [cOwn (α := Span) 54 aj l, cBlk ab [ac, ag, ah, .map (some aI)] 177, cMemI encSpt aI (zaa s_Sections s_Marks s_Reaches), cBlk am [ac, ag, ah] 27] R) ?_ ?_
 ·exact ⟨_, 0, [], (.slice none 0 0), _, upds_of _ _ ⟨rfl, rfl, rfl, rfl, rfl, trivial⟩, aD, H⟩
 rintro bg σ bh ⟨s2, l, aj, ρ, rfl, aJ, H⟩
 obtain ⟨aT, aU, bi, hM, aK⟩ := M.e_iterN aJ
 simp only [zbK] at hM
 clear aJ
 refine W.seq ?_
 refine W.region rfl ?_
 refine zC (s2 : Int) (s_Sections.length : Int) (decide ((s2 : Int) < (s_Sections.length : Int))) rfl rfl rfl ?_
 refine s_nil ?_
 refine W.seq ?_
 refine W.cond (decide ((s2 : Int) < (s_Sections.length : Int))) rfl (fun ap => ?_) (fun ap => ?_)
 ·replace hM := M.e_t hM ap
  simp only [qy1, qy2, qy3, qy4, qy5, qy6, ne_eq, qy7] at ap
  refine W.skip ?_
  refine W.seq ?_
  refine W.block ?_
  refine W.seq ?_
  refine W.region rfl ?_
  refine zM (I (s2 : Int)) rfl ?_
  refine zA (I (s2 : Int)) rfl ?_
  refine s_nil ?_
  refine W.region rfl ?_
  refine zM aj rfl ?_
  refine zM (Pq ab) rfl ?_
  refine zM ai rfl ?_
  refine zM (I (s2 : Int)) rfl ?_
  obtain ⟨bj, aV, hM⟩ := M.e_bind hM
  refine s_call cf59 [Pq ab, ai, I (s2 : Int)] rfl (za6 s_Sections s_Marks s_Reaches marks (s2 : Int) (av.app _) al (aw.app _) ax (ay.app _) az (Has.here (k := 1) rfl) (aA.app _) aB aV _ (H.gt 4)) ?_
  rintro vq bm ⟨r0, ak, aW, hvq, aa⟩
  subst aW
  subst vq
  try dsimp only at hM
  replace H := H.bk aa
  clear aa
  refine t_bs (α := Span) T43 [.agg #[I r0, I ak]] [(⟨(r0 : Int), (ak : Int)⟩ : Span)] H rfl (.cons rfl (Flat.rep_enc _ (⟨(r0 : Int), (ak : Int)⟩ : Span)) <| .nil) rfl rfl rfl ?_
  intro aX bn H
  obtain ⟨aY, hM⟩ := M.e_grd hM
  simp only [Bool.and_eq_true, decide_eq_true_eq] at aY
  refine t_app (α := Span) (k := 1) (l := l) (l2 := [(⟨(r0 : Int), (ak : Int)⟩ : Span)]) (l' := l ++ ([(⟨(r0 : Int), (ak : Int)⟩ : Span)])) (vy := aX) T43 rfl H rfl rfl rfl (H.os 0) (H.ol 0) (rfl) (by first | omega | (simp only [List.length_nil] at *; omega)) ?_
  intro aL bo H
  replace H := H.nf
  refine zA aL rfl ?_
  refine s_nil ?_
  refine W.region rfl ?_
  refine zR (s2 : Int) 1 ((s2 : Int) + 1) rfl rfl rfl (by omega) ?_
  refine zM (I ((s2 : Int) + 1)) rfl ?_
  refine s_nil ?_
  exact ⟨aT, aU, s2 + 1, l ++ ([(⟨(r0 : Int), (ak : Int)⟩ : Span)]), aL, _, upds_of _ _ ⟨rfl, rfl, rfl, rfl, rfl, trivial⟩, M.e_inl hM aK, (H.pk [1, 2, 3, 4])⟩
 replace hM := M.e_f hM ap
 simp only [qy1, qy2, qy3, qy4, qy5, qy6, ne_eq, qy7] at ap
 refine W.exit ?_
 have aZ := M.e_inr hM aK
 subst aZ
 replace hM := aS
 try dsimp only at hM
 replace H := H.pk [0]
 refine W.seq ?_
 refine W.region rfl ?_
 refine zM aj rfl ?_
 refine zA aj rfl ?_
 refine zA (I 0) rfl ?_
 refine s_nil ?_
 refine W.ret ?_
 have ao := M.e_pure hM
 exact ⟨_, resE_tmp2 rfl, ⟨l, 0, aj, ao, rfl, H⟩⟩

end Go.Proofs.YtlemgioaakecpaaGreat
end
section
set_option maxRecDepth 100000
set_option maxHeartbeats 16000000
namespace Go.Proofs.YtlemgioaakecpaaGreat
open Go Go.Nm
def zci (s_Sections : List Sect) (s_Marks : List Mrk) (s_Reaches : List Rch) (a : Int) (b : Int) : M (Bool × Int) :=
  M.bind (zao s_Sections s_Marks s_Reaches) fun x_ => match x_ with
  | (.inl r1) => (
  bif r1 != 0 then (
  M.pure (false, r1))
  else (
  M.fail))
  | (.inr aa) => (
  bif aa != 0 then (
  M.fail)
  else (
  M.bind (zac a 0 ((s_Marks.length : Int) - 1)) fun r2 =>
  M.bind (M.opt (!(!r2)) (zac b 0 ((s_Marks.length : Int) - 1)) false) fun r3 =>
  bif ((!r2) || (!r3)) then (
  M.pure (false, 2))
  else (
  M.bind (zai s_Sections s_Marks s_Reaches a b) fun r4 =>
  M.bind (M.opt (!r4) (zai s_Sections s_Marks s_Reaches b a) false) fun r5 =>
  M.pure ((r4 || r5), 0))))
theorem zcR {R : List Chunk} {ay : Cells} {ai : Value} {az : Cells} {ab : Value} {aA : Cells} {aj : Value} (s_Sections : List Sect) (s_Marks : List Mrk) (s_Reaches : List Rch) (a : Int) (b : Int) (ao : Reads R ay) (ap : Sl ay ai s_Sections) (aq : Reads R az) (ak : Sl az ab s_Marks) (au : Reads R aA) (av : Sl aA aj s_Reaches) {r : (Bool × Int)} (hM : (zci s_Sections s_Marks s_Reaches a b).Ends r) (w : World) (H : St w w [] R) : Ret Tryz.prog 30 #[.agg #[ai, ab, aj], I a, I b] w fun v w' => ∃ (y0 : Bool) (y1 : Int), (y0, y1) = r /\ v = .tuple #[B y0, I y1] /\ St w w' [] R := by
 refine ret_of_W Tryz.func30 rfl rfl rfl ?_
 refine W.seq ?_
 refine W.region rfl ?_
 refine t_box (v := .agg #[ai, ab, aj]) (cs := [ai, ab, aj]) H rfl rfl ?_
 intro ah aL H
 refine zA (B false) rfl ?_
 refine zA (I 0) rfl ?_
 refine s_nil ?_
 refine W.seq ?_
 refine W.region rfl ?_
 refine s_val (x_ld (p := Pq ah) (v := .agg #[ai, ab, aj]) rfl (ldb_ag (ds := [ai, ab, aj]) Ag27 Sz27 (H.bl 0) rfl rfl)) ?_
 obtain ⟨aM, aB, hM⟩ := M.e_bind hM
 refine s_call cf49 [.agg #[ai, ab, aj]] rfl (zaK s_Sections s_Marks s_Reaches (ao.app _) ap (aq.app _) ak (au.app _) av aB _ (H.gt 1)) ?_
 rintro vq aN (⟨r1, aC, hvq, aa⟩ | ⟨ac, ae, aO, aD, hvq, aa⟩)
 ·subst aC
  subst vq
  try dsimp only at hM
  replace H := H.bk aa
  clear aa
  refine zM (.tuple #[.pointer none, I r1]) rfl ?_
  refine zX [.pointer none, I r1] (.pointer none) rfl rfl ?_
  refine zX [.pointer none, I r1] (I r1) rfl rfl ?_
  refine zA (.pointer none) rfl ?_
  refine zA (I r1) rfl ?_
  refine s_nil ?_
  refine W.seq ?_
  refine W.block ?_
  refine W.seq ?_
  refine W.region rfl ?_
  refine zM (I r1) rfl ?_
  refine zC r1 0 (r1 != 0) rfl rfl rfl ?_
  refine zA (B (r1 != 0)) rfl ?_
  refine s_nil ?_
  refine W.cond (r1 != 0) rfl (fun al => ?_) (fun al => ?_)
  ·replace hM := M.e_t hM al
   simp only [qy1, qy2, qy3, qy4, qy5, qy6, ne_eq, qy7] at al
   refine W.seq ?_
   refine W.region rfl ?_
   refine zM (I r1) rfl ?_
   refine zA (B false) rfl ?_
   refine zA (I r1) rfl ?_
   refine s_nil ?_
   refine W.ret ?_
   have ag := M.e_pure hM
   exact ⟨_, resE_tmp2 rfl, ⟨false, r1, ag, rfl, (H.pk [])⟩⟩
  replace hM := M.e_f hM al
  exact (M.e_fail hM).elim
 subst aD
 subst vq
 try dsimp only at hM
 replace H := H.bk aa
 clear aa
 refine zM (.tuple #[Pq ae, I ac]) rfl ?_
 refine zX [Pq ae, I ac] (Pq ae) rfl rfl ?_
 refine zX [Pq ae, I ac] (I ac) rfl rfl ?_
 refine zA (Pq ae) rfl ?_
 refine zA (I ac) rfl ?_
 refine s_nil ?_
 refine W.seq ?_
 refine W.block ?_
 refine W.seq ?_
 refine W.region rfl ?_
 refine zM (I ac) rfl ?_
 refine zC ac 0 (ac != 0) rfl rfl rfl ?_
 refine zA (B (ac != 0)) rfl ?_
 refine s_nil ?_
 refine W.cond (ac != 0) rfl (fun am => ?_) (fun am => ?_)
 ·replace hM := M.e_t hM am
  exact (M.e_fail hM).elim
 replace hM := M.e_f hM am
 simp only [qy1, qy2, qy3, qy4, qy5, qy6, ne_eq, qy7] at am
 refine W.seq ?_
 refine W.region rfl ?_
 refine zM (I a) rfl ?_
 refine s_val (x_fa (a := Pq ah) (v := Oq ah 1) rfl (fa_blk (o := 0) Fd27_1 Sz24)) ?_
 refine s_val (x_ld (p := Oq ah 1) (v := ab) rfl (ldb_sc Sc24 (H.bl 2) rfl)) ?_
 have aP := (ak).len_le
 refine s_val (x_lenS T24.und rfl ak) ?_
 refine zR (s_Marks.length : Int) 1 ((s_Marks.length : Int) - 1) rfl rfl rfl (by omega) ?_
 obtain ⟨aQ, aE, hM⟩ := M.e_bind hM
 refine s_call cf70 [I a, I 0, I ((s_Marks.length : Int) - 1)] rfl (zae a 0 ((s_Marks.length : Int) - 1) aE _ (H.gt 3)) ?_
 rintro vq aR ⟨r2, aF, hvq, aa⟩
 subst aF
 subst vq
 try dsimp only at hM
 replace H := H.bk aa
 clear aa
 refine s_val (x_not (b := r2) rfl) ?_
 refine zM (B (!r2)) rfl ?_
 refine g_val (!(!r2)) (gy_f rfl) (fun hg => x_mv (v := I b) rfl) ?_
 refine g_val (!(!r2)) (gy_f rfl) (fun hg => x_fa (a := Pq ah) (v := Oq ah 1) rfl (fa_blk (o := 0) Fd27_1 Sz24)) ?_
 refine g_val (!(!r2)) (gy_f rfl) (fun hg => x_ld (p := Oq ah 1) (v := ab) (gd_of (c := !(!r2)) hg (Oq ah 1)) (ldb_sc Sc24 (H.bl 2) rfl)) ?_
 have aS := (ak).len_le
 refine g_val (!(!r2)) (gy_f rfl) (fun hg => x_lenS T24.und (gd_of (c := !(!r2)) hg (ab)) ak) ?_
 refine g_val (!(!r2)) (gy_f rfl) (fun hg => x_ari (a := (s_Marks.length : Int)) (b := 1) (r := (s_Marks.length : Int) - 1) (gd_of (c := !(!r2)) hg (I (s_Marks.length : Int))) rfl rfl (by first | omega | (have aG := hg; simp at aG; omega))) ?_
 obtain ⟨r3, aH, hM⟩ := M.e_bind hM
 refine t_gcall (!(!r2)) (gy_f rfl) cf70 (B r3) (fun _ => [I b, I 0, I ((s_Marks.length : Int) - 1)]) (fun hg => lst3 (gd_of (c := !(!r2)) hg (I b)) rfl (gd_of (c := !(!r2)) hg (I ((s_Marks.length : Int) - 1)))) H (fun hg => (zae b 0 ((s_Marks.length : Int) - 1) (M.e_opt aH hg) _ (H.give (A := []) rfl)).mono fun v_ w_ ⟨y_, ag, aw, H_⟩ => by subst ag; exact ⟨aw, H.via H_⟩) ?_
 intro aT H
 refine g_val (!(!r2)) (gy_f rfl) (fun hg => x_not (b := r3) (gd_of (c := !(!r2)) hg (B r3))) ?_
 refine s_val (x_por (b := !r2) (r := !r3) rfl rfl (fun hb => gd_of (c := !(!r2)) (by first | exact hb | (rw [hb]; rfl) | simp_all) (B (!r3)))) ?_
 refine zA (B ((!r2) || (!r3))) rfl ?_
 refine s_nil ?_
 refine W.cond ((!r2) || (!r3)) rfl (fun ax => ?_) (fun ax => ?_)
 ·replace hM := M.e_t hM ax
  refine W.seq ?_
  refine W.region rfl ?_
  refine zA (B false) rfl ?_
  refine zA (I 2) rfl ?_
  refine s_nil ?_
  replace H := H.pk []
  refine W.ret ?_
  have ag := M.e_pure hM
  exact ⟨_, resE_tmp2 rfl, ⟨false, 2, ag, rfl, H⟩⟩
 replace hM := M.e_f hM ax
 refine W.skip ?_
 refine W.seq ?_
 refine W.region rfl ?_
 refine zM (Pq ae) rfl ?_
 refine zM (I a) rfl ?_
 refine zM (I b) rfl ?_
 obtain ⟨aU, aI, hM⟩ := M.e_bind hM
 refine s_call cf51 [Pq ae, I a, I b] rfl (zaq s_Sections s_Marks s_Reaches a b (ao.app _) ap (aq.app _) ak (au.app _) av (Has.here (k := 0) rfl) aI _ (H.gt 3)) ?_
 rintro vq aV ⟨r4, aJ, hvq, aa⟩
 subst aJ
 subst vq
 try dsimp only at hM
 replace H := H.bk aa
 clear aa
 refine zM (B r4) rfl ?_
 refine g_val (!r4) (gy_f rfl) (fun hg => x_mv (v := Pq ae) rfl) ?_
 refine g_val (!r4) (gy_f rfl) (fun hg => x_mv (v := I b) rfl) ?_
 refine g_val (!r4) (gy_f rfl) (fun hg => x_mv (v := I a) rfl) ?_
 obtain ⟨r5, aK, hM⟩ := M.e_bind hM
 refine t_gcall (!r4) (gy_f rfl) cf51 (B r5) (fun _ => [Pq ae, I b, I a]) (fun hg => lst3 (gd_of (c := !r4) hg (Pq ae)) (gd_of (c := !r4) hg (I b)) (gd_of (c := !r4) hg (I a))) H (fun hg => (zaq s_Sections s_Marks s_Reaches b a (ao.app _) ap (aq.app _) ak (au.app _) av (Has.here (k := 0) rfl) (M.e_opt aK hg) _ (H.give (A := []) rfl)).mono fun v_ w_ ⟨y_, ag, aw, H_⟩ => by subst ag; exact ⟨aw, H.via H_⟩) ?_
 intro aW H
 refine s_val (x_por (b := r4) (r := r5) rfl rfl (fun hb => gd_of (c := !r4) (by first | exact hb | (rw [hb]; rfl) | simp_all) (B r5))) ?_
 refine zA (B (r4 || r5)) rfl ?_
 refine zA (I 0) rfl ?_
 refine s_nil ?_
 replace H := H.pk []
 refine W.ret ?_
 have ag := M.e_pure hM
 exact ⟨_, resE_tmp2 rfl, ⟨(r4 || r5), 0, ag, rfl, H⟩⟩

end Go.Proofs.YtlemgioaakecpaaGreat
end
namespace Go.Nm
namespace Fl
/-- Sections that are right. -/
structure Secs (S : List Sect) : Prop where
  n : 2 <= S.length /\ S.length <= 6
  rows : ∀ i, i < S.length -> Rows (S.getD i default).rows /\ 2 <= (S.getD i default).rows.length /\ (S.getD i default).rows.length <= 8
  place : ∀ i, i < S.length -> 0 <= (S.getD i default).place /\ (S.getD i default).place <= 10000
  up : ∀ i j, i < j -> j < S.length -> (S.getD i default).place < (S.getD j default).place
structure Rok (S : List Sect) (r : Rch) : Prop where
  u0 : 0 <= r.up
  ud : r.up < r.down
  d1 : r.down < S.length
  l1 : 1 <= r.lo
  lh : r.lo <= r.hi
  h4 : r.hi <= 400
structure Mok (m : Mrk) : Prop where
  p0 : 0 <= m.place
  p1 : m.place <= 10000
  l0 : 0 <= m.lo
  lh : m.lo <= m.hi
  h2 : m.hi <= 2000
structure Site (S : List Sect) (M : List Mrk) (R : List Rch) : Prop where
  s : Secs S
  m : 1 <= M.length /\ M.length <= 16
  r : 1 <= R.length /\ R.length <= 6
  mks : ∀ x ∈ M, Mok x
  rks : ∀ x ∈ R, Rok S x
/-- The flow of a case. -/
def fl (S : List Sect) (r : Rch) (c : Cas) : Int :=
  let a := car (S.getD (Int.toNat r.up) default).rows c.up
  let b := car (S.getD (Int.toNat r.down) default).rows c.down
  rt (10000 * (bif r.narrow then b else a) * b * (c.up - c.down) / ((bif r.narrow then c.roughdown else c.roughup) * c.roughdown * ((S.getD (Int.toNat r.down) default).place - (S.getD (Int.toNat r.up) default).place)))
/-- A case that lies in bounds. -/
structure Cok (c : Cas) : Prop where
  d0 : 0 <= c.down
  du : c.down <= c.up
  u2 : c.up <= 2000
  r1 : 1 <= c.roughup
  r2 : 1 <= c.roughdown
  r3 : c.roughup <= 400
  r4 : c.roughdown <= 400
theorem num_bd {a b d : Int} (ha : 0 <= a /\ a <= 100000) (hb : 0 <= b /\ b <= 100000) (hd : 0 <= d /\ d <= 2000) :
    0 <= 10000 * a * b /\ 10000 * a * b <= 100000000000000 /\ 0 <= 10000 * a * b * d /\ 10000 * a * b * d <= 200000000000000000 := by
  have h1 : 0 <= 10000 * a * b := Int.mul_nonneg (by omega) hb.1
  have h2 : 10000 * a * b <= 1000000000 * 100000 := Int.mul_le_mul (by omega) hb.2 hb.1 (by omega)
  have h3 : 0 <= 10000 * a * b * d := Int.mul_nonneg h1 hd.1
  have h4 : 10000 * a * b * d <= 100000000000000 * 2000 := Int.mul_le_mul (by omega) hd.2 hd.1 (by omega)
  omega
theorem den_bd {a b d : Int} (ha : 1 <= a /\ a <= 400) (hb : 1 <= b /\ b <= 400) (hd : 1 <= d /\ d <= 10000) : 1 <= a * b /\ a * b <= 160000 /\ 1 <= a * b * d /\ a * b * d <= 1600000000 := by
  have h1 : 1 * 1 <= a * b := Int.mul_le_mul ha.1 hb.1 (by omega) (by omega)
  have h2 : a * b <= 400 * 400 := Int.mul_le_mul ha.2 hb.2 (by omega) (by omega)
  have h3 : 1 * 1 <= a * b * d := Int.mul_le_mul (by omega) hd.1 (by omega) (by omega)
  have h4 : a * b * d <= 160000 * 10000 := Int.mul_le_mul (by omega) hd.2 (by omega) (by omega)
  omega
section
variable {S : List Sect} {r : Rch}
theorem Rok.iu (h : Rok S r) : Int.toNat r.up < S.length := by have := h.u0; have := h.ud; have := h.d1; omega
theorem Rok.id (h : Rok S r) : Int.toNat r.down < S.length := by have := h.u0; have := h.ud; have := h.d1; omega
theorem far (hS : Secs S) (h : Rok S r) : 1 <= (S.getD (Int.toNat r.down) default).place - (S.getD (Int.toNat r.up) default).place /\ (S.getD (Int.toNat r.down) default).place - (S.getD (Int.toNat r.up) default).place <= 10000 := by
  have h1 := hS.up (Int.toNat r.up) (Int.toNat r.down) (by have := h.u0; have := h.ud; omega) h.id
  have h2 := hS.place _ h.id
  have h3 := hS.place _ h.iu
  omega
theorem carU (hS : Secs S) (h : Rok S r) (s : Int) : 0 <= car (S.getD (Int.toNat r.up) default).rows s /\ car (S.getD (Int.toNat r.up) default).rows s <= 100000 := by
  have := car_mono (hS.rows _ h.iu).1 (Int.le_refl s)
  omega
theorem carD (hS : Secs S) (h : Rok S r) (s : Int) : 0 <= car (S.getD (Int.toNat r.down) default).rows s /\ car (S.getD (Int.toNat r.down) default).rows s <= 100000 := by
  have := car_mono (hS.rows _ h.id).1 (Int.le_refl s)
  omega
theorem fl_nn (c : Cas) : 0 <= fl S r c := rt_nn _
/-- A flow rises with the upper stage, and falls with both roughnesses. -/
theorem fl_mono (hS : Secs S) (h : Rok S r) {c e : Cas} (hc : Cok c) (he : Cok e) (hd : c.down = e.down) (hu : c.up <= e.up) (h1 : e.roughup <= c.roughup) (h2 : e.roughdown <= c.roughdown) : fl S r c <= fl S r e := by
  have k1 := car_mono (hS.rows _ h.iu).1 hu
  have k2 := carD hS h c.down
  have k3 := far hS h
  have q1 := hc.du
  have q2 := he.u2
  have q3 := hc.d0
  have q4 := he.r1
  have q5 := he.r2
  have q6 := hc.r3
  have q7 := hc.r4
  unfold fl
  dsimp only
  rw [← hd]
  generalize car (S.getD (Int.toNat r.up) default).rows c.up = a at k1 ⊢
  generalize car (S.getD (Int.toNat r.up) default).rows e.up = a' at k1 ⊢
  generalize car (S.getD (Int.toNat r.down) default).rows c.down = b at k2 ⊢
  generalize (S.getD (Int.toNat r.down) default).place - (S.getD (Int.toNat r.up) default).place = f at k3 ⊢
  cases r.narrow with
  | true =>
    dsimp only [cond]
    have n := num_bd k2 k2 (d := c.up - c.down) (by omega)
    have n' := num_bd k2 k2 (d := e.up - c.down) (by omega)
    have le : 10000 * b * b * (c.up - c.down) <= 10000 * b * b * (e.up - c.down) := Int.mul_le_mul_of_nonneg_left (by omega) n.1
    have d := den_bd (a := e.roughdown) (b := e.roughdown) (d := f) (by omega) (by omega) k3
    have dl : e.roughdown * e.roughdown * f <= c.roughdown * c.roughdown * f := Int.mul_le_mul_of_nonneg_right (sq_mono (by omega) h2) (by omega)
    exact rt_mono (Int.ediv_nonneg n.2.2.1 (by omega)) (div_mono n.2.2.1 le (by omega) dl)
  | false =>
    dsimp only [cond]
    have n := num_bd (a := a) (b := b) (by omega) k2 (d := c.up - c.down) (by omega)
    have n' := num_bd (a := a') (b := b) (by omega) k2 (d := e.up - c.down) (by omega)
    have l1 : 10000 * a * b <= 10000 * a' * b := Int.mul_le_mul_of_nonneg_right (by omega) k2.1
    have le : 10000 * a * b * (c.up - c.down) <= 10000 * a' * b * (e.up - c.down) := Int.mul_le_mul l1 (by omega) (by omega) n'.1
    have d := den_bd (a := e.roughup) (b := e.roughdown) (d := f) (by omega) (by omega) k3
    have l2 : e.roughup * e.roughdown <= c.roughup * c.roughdown := Int.mul_le_mul h1 h2 (by omega) (by omega)
    have dl : e.roughup * e.roughdown * f <= c.roughup * c.roughdown * f := Int.mul_le_mul_of_nonneg_right l2 (by omega)
    exact rt_mono (Int.ediv_nonneg n.2.2.1 (by omega)) (div_mono n.2.2.1 le (by omega) dl)
end
def stLo (M : List Mrk) (ms : List Int) (p : Int) : Int := ms.foldl (fun a k => if p <= (M.getD (Int.toNat k) default).place then max a (M.getD (Int.toNat k) default).lo else a) 0
def stHi (M : List Mrk) (ms : List Int) (p : Int) : Int := ms.foldl (fun a k => if (M.getD (Int.toNat k) default).place <= p then min a (M.getD (Int.toNat k) default).hi else a) 2000
end Fl
end Go.Nm
namespace Go.Proofs.YtlemgioaakecpaaGreat
open Go Go.Nm
theorem flow_ends {S : List Sect} {M' : List Mrk} {R' : List Rch} {r : Rch} {c : Cas} (hS : Fl.Secs S) (h : Fl.Rok S r) (hc : Fl.Cok c) : (zax S M' R' r c).Ends (Fl.fl S r c) := by
  have hu := hS.rows _ h.iu
  have hd := hS.rows _ h.id
  have k1 := Fl.carU hS h c.up
  have k2 := Fl.carD hS h c.down
  have k3 := Fl.far hS h
  have h0 := h.u0
  have h1 := h.ud
  have h2 := h.d1
  obtain ⟨c1, c2, c3, c4, c5, c6, c7⟩ := hc
  unfold zax
  refine M.i_bind (carry_ends (by omega) (by omega) hu.1 (by intro e; rw [e] at hu; simp at hu) (by omega) (by omega)) (M.i_bind (carry_ends (by omega) (by omega) hd.1 (by intro e; rw [e] at hd; simp at hd) (by omega) (by omega)) ?_)
  unfold Fl.fl
  dsimp only
  generalize Fl.car (S.getD (Int.toNat r.up) default).rows c.up = a at k1 ⊢
  generalize Fl.car (S.getD (Int.toNat r.down) default).rows c.down = b at k2 ⊢
  have key : ∀ s a : Int, (0 <= a /\ a <= 100000) -> (1 <= s /\ s <= 400) -> (zaD S M' R' r c b s a).Ends (Fl.rt (10000 * a * b * (c.up - c.down) / (s * c.roughdown * ((S.getD (Int.toNat r.down) default).place - (S.getD (Int.toNat r.up) default).place)))) := fun s a ha hs => by
    unfold zaD
    have n := Fl.num_bd ha k2 (d := c.up - c.down) (by omega)
    have d := Fl.den_bd hs (b := c.roughdown) (by omega) k3
    refine M.i_grd (gA2 (by omega) (by omega)) (M.i_grd (gA2 (by omega) (by omega)) (M.i_grd (gA2 (by omega) (by omega)) ?_))
    generalize (S.getD (Int.toNat r.down) default).place - (S.getD (Int.toNat r.up) default).place = f at d k3 ⊢
    refine M.i_grd (gA2 (by omega) (by omega)) (M.i_grd (gA2 (by omega) (by omega)) (M.i_grd (gA2 (by omega) (by omega)) (M.i_grd (gA2 (by omega) (by omega)) (M.i_grd (gA2 (by omega) (by omega)) (M.i_grd (gA2 (by omega) (by omega)) (M.i_grd (gA3 (by omega) (by omega) (by omega)) (M.i_bind (root_ends (Int.ediv_nonneg n.2.2.1 (by omega)) ?_) M.i_pure)))))))
    have := Fl.div_mono n.2.2.1 (Int.le_refl _) (by decide : (0 : Int) < 1) (by omega : (1 : Int) <= s * c.roughdown * f)
    rw [Int.ediv_one] at this
    omega
  cases hn : r.narrow with
  | true => exact key _ _ k2 ⟨c5, c7⟩
  | false => exact key _ _ k1 ⟨c4, c6⟩
theorem least_ends (a b : Int) : (zau a [b]).Ends (min a b) := by
  unfold zau
  refine M.i_bind (M.i_next (s' := (min a b, 1)) ?_ (M.i_stop ?_)) M.i_pure
  · simp only [zaU]
    exact M.i_t (by simp) (M.i_grd (by simp) M.i_pure)
  · simp only [zaU]
    exact M.i_f (by simp) M.i_pure
theorem stages_ends {S : List Sect} {M' : List Mrk} {R' : List Rch} {ms : List Int} {i : Int} (hm : ∀ k ∈ ms, 0 <= k /\ k < M'.length) (h0 : 0 <= i) (h1 : i < S.length) :
    (zan S M' R' ms i).Ends (Fl.stLo M' ms (S.getD (Int.toNat i) default).place, Fl.stHi M' ms (S.getD (Int.toNat i) default).place) := by
  unfold zan
  refine M.i_bind (a := (Fl.stLo M' ms (S.getD (Int.toNat i) default).place, Fl.stHi M' ms (S.getD (Int.toNat i) default).place)) ?_ M.i_pure
  refine M.i_for (fun j => (Fl.stLo M' (ms.take j) (S.getD (Int.toNat i) default).place, Fl.stHi M' (ms.take j) (S.getD (Int.toNat i) default).place, j)) ms.length (fun j hj => ?_) ?_
  · have hk := hm (ms.getD j 0) (by rw [getD_el ms hj]; exact List.getElem_mem hj)
    simp only [zaT]
    refine M.i_t (decide_eq_true (by omega)) (M.i_grd (decide_eq_true (by omega)) (M.i_grd (gA2 hk.1 hk.2) (M.i_grd (gA2 h0 h1) ?_)))
    have el : Fl.stLo M' (ms.take (j + 1)) (S.getD (Int.toNat i) default).place = if (S.getD (Int.toNat i) default).place <= (M'.getD (Int.toNat (ms.getD j 0)) default).place then max (Fl.stLo M' (ms.take j) (S.getD (Int.toNat i) default).place) (M'.getD (Int.toNat (ms.getD j 0)) default).lo else Fl.stLo M' (ms.take j) (S.getD (Int.toNat i) default).place := by
      rw [← take_succ_D ms j hj 0]
      unfold Fl.stLo
      rw [List.foldl_append]
      rfl
    have eh : Fl.stHi M' (ms.take (j + 1)) (S.getD (Int.toNat i) default).place = if (M'.getD (Int.toNat (ms.getD j 0)) default).place <= (S.getD (Int.toNat i) default).place then min (Fl.stHi M' (ms.take j) (S.getD (Int.toNat i) default).place) (M'.getD (Int.toNat (ms.getD j 0)) default).hi else Fl.stHi M' (ms.take j) (S.getD (Int.toNat i) default).place := by
      rw [← take_succ_D ms j hj 0]
      unfold Fl.stHi
      rw [List.foldl_append]
      rfl
    rw [el, eh]
    refine M.i_if (fun hc => ?_) (fun hc => ?_)
    · have hc := of_decide_eq_true hc
      rw [if_pos hc]
      refine M.i_bind (least_ends _ _) (M.i_if (fun hd => ?_) (fun hd => ?_))
      · rw [if_pos (of_decide_eq_true hd)]; exact M.i_pure
      · rw [if_neg (of_decide_eq_false hd)]; exact M.i_pure
    · have hc := of_decide_eq_false hc
      rw [if_neg hc]
      refine M.i_if (fun hd => ?_) (fun hd => ?_)
      · rw [if_pos (of_decide_eq_true hd)]; exact M.i_pure
      · rw [if_neg (of_decide_eq_false hd)]; exact M.i_pure
  · simp only [zaT]
    rw [List.take_length]
    exact M.i_f (decide_eq_false (by omega)) M.i_pure
theorem nums_out {T X : Type} {bd : T -> Int -> M (T ⊕ X)} {lo hi : Int} (J : Int -> T -> Prop) (hl : lo <= hi + 1) (h1 : hi <= 1000000) (h2 : -1000000 <= lo) {s0 : T} (h0 : J lo s0)
    (step : ∀ x s, lo <= x -> x <= hi -> J x s -> (bd s x).Out (fun r => match r with | .inl s' => J (x + 1) s' | .inr _ => False)) :
    (zap (M.yl bd) (.inl s0) lo hi).Out (fun r => match r with | .inl s => J (hi + 1) s | .inr _ => False) := by
  unfold zap
  refine M.o_bind (P := fun (x : (T ⊕ X) ⊕ (T ⊕ X)) => ∃ s, x = .inr (.inl s) /\ J (hi + 1) s) ?_ ?_
  · refine M.o_iter (fun m (x : Int × (T ⊕ X)) => ∃ s, x.2 = .inl s /\ lo <= x.1 /\ x.1 <= hi + 1 /\ m = (hi + 1 - x.1).toNat /\ J x.1 s) ?_ _ (lo, .inl s0) ⟨s0, rfl, Int.le_refl _, hl, rfl, h0⟩
    rintro m ⟨n, t⟩ ⟨s, rfl, a, b, rfl, hj⟩
    dsimp only at a b hj ⊢
    simp only [zaE]
    refine M.o_if (fun hb => ?_) (fun hb => ?_)
    · have hb := of_decide_eq_true hb
      refine M.o_bind (P := fun (y : Bool × (T ⊕ X)) => y.1 = true /\ ∃ s', y.2 = .inl s' /\ J (n + 1) s') ?_ ?_
      · unfold M.yl
        refine M.o_bind (step n s a hb hj) ?_
        intro r hr
        cases r with
        | inl s' => exact M.o_pure ⟨rfl, s', rfl, hr⟩
        | inr x => exact hr.elim
      · rintro ⟨g, t⟩ ⟨h1', s', h2', hj'⟩
        dsimp only at h1' h2' ⊢
        subst h1' h2'
        refine M.o_f rfl (M.o_grd (gA2 (by omega) (by omega)) (M.o_pure ⟨(hi + 1 - (n + 1)).toNat, by omega, s', rfl, by dsimp only; omega, by dsimp only; omega, rfl, hj'⟩))
    · have hb := of_decide_eq_false hb
      obtain rfl : n = hi + 1 := by omega
      exact M.o_pure ⟨s, rfl, hj⟩
  · rintro _ ⟨s, rfl, hj⟩
    exact M.o_pure hj
end Go.Proofs.YtlemgioaakecpaaGreat
