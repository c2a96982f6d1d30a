/- Part 3 of the texts on which the proof rests. Conditions: none. -/
import Derived.Test.YtlemgioaakecpaaGreatZK2
set_option linter.unusedVariables false
set_option linter.unusedSimpArgs false
set_option linter.unusedSectionVars false
section
set_option maxRecDepth 100000
set_option maxHeartbeats 16000000
namespace Go.Proofs.YtlemgioaakecpaaGreat
open Go Go.Nm
def zaL (aa : List Sect) (ab : List Mrk) (ac : List Rch) (r_ : Rch) (r0 : Int) (r2 : Bool) : (Int × Int × Int × Int × Int) -> Int -> M ((Int × Int × Int × Int × Int) ⊕ Unit) := fun (s, s2, s3, s4, s5) x =>
  bif r2 then (
  M.fail)
  else (
  M.bind (zbi aa ab ac r_ (⟨(max r0 x : Int), (x : Int), (r_.hi : Int), (r_.hi : Int)⟩ : Cas)) fun r4 =>
  M.bind (M.opt (!(decide ((⟨(s2 : Int), (s3 : Int), (s4 : Int), (s5 : Int)⟩ : Cas) = (⟨(0 : Int), (0 : Int), (0 : Int), (0 : Int)⟩ : Cas)))) (zbZ r4 s) false) fun r5 =>
  bif ((decide ((⟨(s2 : Int), (s3 : Int), (s4 : Int), (s5 : Int)⟩ : Cas) = (⟨(0 : Int), (0 : Int), (0 : Int), (0 : Int)⟩ : Cas))) || r5) then (
  M.pure (.inl (r4, max r0 x, x, r_.hi, r_.hi)))
  else (
  M.pure (.inl (s, s2, s3, s4, s5))))
def zca (aa : List Sect) (ab : List Mrk) (ac : List Rch) (marks : List Int) (r_ : Rch) : M (Int × Int × Int × Int × Int) :=
  M.bind (zao aa ab ac marks r_.up) fun (r0, r1) =>
  M.bind (zao aa ab ac marks r_.down) fun (ae, ag) =>
  M.bind (zbZ 1 0) fun r2 =>
  bif !r2 then (
  M.bind (zaB ag ([(r1 : Int)])) fun r3 =>
  M.bind (zbW (⟨(ae : Int), (r3 : Int)⟩ : Span)) fun (ai, aj) =>
  M.bind (zay (M.yl (zaL aa ab ac r_ r0 r2)) (.inl (0, 0, 0, 0, 0)) ai aj) fun x_ => match x_ with
  | .inl (s, s2, s3, s4, s5) => (
  M.pure (s2, s3, s4, s5, s))
  | .inr _ => M.fail)
  else (
  M.fail)
theorem zb1 {R : List Chunk} {ag : Nat} {aZ : Cells} {a6 : Value} {a7 : Cells} {a8 : Value} {ba : Cells} {bb : Value} {ai : Nat} {bc : Cells} {aB : Value} (ab : List Sect) (ac : List Mrk) (ae : List Rch) (marks : List Int) (r_ : Rch) (aF : Reads R aZ) (aL : Sl aZ a6 ab) (aG : Reads R a7) (aM : Sl a7 a8 ac) (aH : Reads R ba) (aN : Sl ba bb ae) (aI : Has R (cBlk ag [a6, a8, bb, .map (some ai)] 177)) (aO : Reads R bc) (aS : Sl bc aB marks) {r : (Int × Int × Int × Int × Int)} (hM : (zca ab ac ae marks r_).Ends r) (w : World) (H : St w w [cMemI encSpt ai (zaa ab ac ae)] R) : Ret Tryz.prog 69 #[Pq ag, aB, .agg #[I r_.up, I r_.down, I r_.lo, I r_.hi, B r_.narrow], .agg #[.func (.func 106) #[] #[]]] w fun v w' => ∃ (y0 : Int) (y1 : Int) (y2 : Int) (y3 : Int) (y4 : Int), (y0, y1, y2, y3, y4) = r /\ v = .tuple #[.agg #[I y0, I y1, I y2, I y3], I y4] /\ St w w' [cMemI encSpt ai (zaa ab ac ae)] R := by
 refine ret_of_WD Tryz.func69 rfl rfl rfl ?_
 replace H : St w w [cMk ([]), cMemI encSpt ai (zaa ab ac ae)] R := H.mk0
 have bP := aL.len_le
 have bQ := aM.len_le
 have bR := aN.len_le
 have bS := aS.len_le
 unfold zca at hM
 refine WD.seq ?_
 refine WD.of ?_
 refine W.region rfl ?_
 refine t_box (v := Pq ag) (cs := [Pq ag]) H rfl rfl ?_
 intro am bT H
 refine t_box (v := .agg #[I r_.up, I r_.down, I r_.lo, I r_.hi, B r_.narrow]) (cs := [I r_.up, I r_.down, I r_.lo, I r_.hi, B r_.narrow]) H rfl rfl ?_
 intro aa bU H
 refine t_box (v := .agg #[.func (.func 106) #[] #[]]) (cs := [.func (.func 106) #[] #[]]) H rfl rfl ?_
 intro aj bV H
 refine t_alloc (cs := [I 0, I 0, I 0, I 0]) H Al61 rfl ?_
 intro ao bW H
 refine zA (I 0) rfl ?_
 refine s_nil ?_
 refine WD.seq ?_
 refine WD.of ?_
 refine W.drawA (fun W => St w W [cBlk ao [I 0, I 0, I 0, I 0] 61, cBlk aj [.func (.func 106) #[] #[]] 138, cBlk aa [I r_.up, I r_.down, I r_.lo, I r_.hi, B r_.narrow] 58, cBlk am [Pq ag] 112, cMk ([]), cMemI encSpt ai (zaa ab ac ae)] R) [(0, true), (1, true), (2, true), (3, true), (5, true), (6, true), (7, true), (8, true), (4, false), (9, false)] [(10, 10, 54, [I 0, I 0]), (11, 11, 54, [I 0, I 0])] (.l 12 (.l 13 .nil)) 2 mixed (by decide +kernel) rfl (by intro x hx; simp only [List.mem_cons, List.not_mem_nil, or_false] at hx; rcases hx with rfl | rfl <;> first | exact ⟨_, _, _, rfl, _, Al54, rfl⟩) (by decide) (by decide) H ?_
 refine sa_q (fun ak w_ H => (St.pick H [0, 1, 2, 3, 4, 5] (by decide) rfl)) rfl rfl (fun g_ w' H => x_ld (p := Pq am) (v := Pq ag) rfl (ldb_sc Sc112 (H.bl 3) rfl)) ?_
 refine sa_q (fun ak w_ H => (St.pick H [0, 1, 2, 3, 4, 5] (by decide) rfl)) rfl rfl (fun g_ w' H => x_mv (v := aB) rfl) ?_
 refine sa_q (fun ak w_ H => (St.pick H [0, 1, 2, 3, 4, 5] (by decide) rfl)) rfl rfl (fun g_ w' H => x_fa (a := Pq aa) (v := Pq aa) rfl (fa_blk (o := 0) Fd58_0 Sz3)) ?_
 refine sa_q (fun ak w_ H => (St.pick H [0, 1, 2, 3, 4, 5] (by decide) rfl)) rfl rfl (fun g_ w' H => x_ld (p := Pq aa) (v := I r_.up) rfl (ldb_sc Sc3 (H.bl 2) rfl)) ?_
 refine sa_q (fun ak w_ H => (St.pick H [0, 1, 2, 3, 4, 5] (by decide) rfl)) rfl rfl (fun g_ w' H => x_ld (p := Pq am) (v := Pq ag) rfl (ldb_sc Sc112 (H.bl 3) rfl)) ?_
 refine sa_q (fun ak w_ H => (St.pick H [0, 1, 2, 3, 4, 5] (by decide) rfl)) rfl rfl (fun g_ w' H => x_mv (v := aB) rfl) ?_
 refine sa_q (fun ak w_ H => (St.pick H [0, 1, 2, 3, 4, 5] (by decide) rfl)) rfl rfl (fun g_ w' H => x_fa (a := Pq aa) (v := Oq aa 1) rfl (fa_blk (o := 0) Fd58_1 Sz3)) ?_
 refine sa_q (fun ak w_ H => (St.pick H [0, 1, 2, 3, 4, 5] (by decide) rfl)) rfl rfl (fun g_ w' H => x_ld (p := Oq aa 1) (v := I r_.down) rfl (ldb_sc Sc3 (H.bl 2) rfl)) ?_
 refine sa_l (fun ak w_ H => (St.pick H [0, 1, 2, 3, 4, 5] (by decide) rfl)) rfl ?_
 intro g_ ak bh H
 replace H : St w bh (cBlk ao [I 0, I 0, I 0, I 0] 61 :: cBlk aj [.func (.func 106) #[] #[]] 138 :: cBlk aa [I r_.up, I r_.down, I r_.lo, I r_.hi, B r_.narrow] 58 :: cBlk am [Pq ag] 112 :: cMk ([]) :: cMemI encSpt ai (zaa ab ac ae) :: ak) R := H
 obtain ⟨bX, bi, hM⟩ := M.e_bind hM
 refine s_call cf59 [Pq ag, aB, I r_.up] rfl (za7 ab ac ae marks r_.up (aF.app _) aL (aG.app _) aM (aH.app _) aN (aI.app _) (aO.app _) aS bi _ (St.give (T := (cBlk ao [I 0, I 0, I 0, I 0] 61 :: cBlk aj [.func (.func 106) #[] #[]] 138 :: cBlk aa [I r_.up, I r_.down, I r_.lo, I r_.hi, B r_.narrow] 58 :: cBlk am [Pq ag] 112 :: cMk ([]) :: cMemI encSpt ai (zaa ab ac ae) :: ak)) H rfl)) ?_
 rintro vq bj ⟨r0, r1, bm, hvq, ap⟩
 subst bm
 subst vq
 try dsimp only at hM
 replace H : St w bj (cBlk ao [I 0, I 0, I 0, I 0] 61 :: cBlk aj [.func (.func 106) #[] #[]] 138 :: cBlk aa [I r_.up, I r_.down, I r_.lo, I r_.hi, B r_.narrow] 58 :: cBlk am [Pq ag] 112 :: cMk ([]) :: cMemI encSpt ai (zaa ab ac ae) :: ak) R := H.back ap rfl
 clear ap
 refine s_nil ⟨(St.pick H [0, 1, 2, 3, 4, 5] (by decide) rfl), _, [cBlk ao [I 0, I 0, I 0, I 0] 61, cBlk aj [.func (.func 106) #[] #[]] 138, cBlk aa [I r_.up, I r_.down, I r_.lo, I r_.hi, B r_.narrow] 58, cBlk am [Pq ag] 112, cMk ([]), cMemI encSpt ai (zaa ab ac ae)], mix_upd rfl, H, ?_⟩
 refine sa_l (fun ak w_ H => (St.pick H [0, 1, 2, 3, 4, 5] (by decide) rfl)) rfl ?_
 intro g_ ak bn H
 replace H : St w bn (cBlk ao [I 0, I 0, I 0, I 0] 61 :: cBlk aj [.func (.func 106) #[] #[]] 138 :: cBlk aa [I r_.up, I r_.down, I r_.lo, I r_.hi, B r_.narrow] 58 :: cBlk am [Pq ag] 112 :: cMk ([]) :: cMemI encSpt ai (zaa ab ac ae) :: ak) R := H
 obtain ⟨bY, bo, hM⟩ := M.e_bind hM
 refine s_call cf59 [Pq ag, aB, I r_.down] rfl (za7 ab ac ae marks r_.down (aF.app _) aL (aG.app _) aM (aH.app _) aN (aI.app _) (aO.app _) aS bo _ (St.give (T := (cBlk ao [I 0, I 0, I 0, I 0] 61 :: cBlk aj [.func (.func 106) #[] #[]] 138 :: cBlk aa [I r_.up, I r_.down, I r_.lo, I r_.hi, B r_.narrow] 58 :: cBlk am [Pq ag] 112 :: cMk ([]) :: cMemI encSpt ai (zaa ab ac ae) :: ak)) H rfl)) ?_
 rintro vq bp ⟨au, aw, bq, hvq, ap⟩
 subst bq
 subst vq
 try dsimp only at hM
 replace H : St w bp (cBlk ao [I 0, I 0, I 0, I 0] 61 :: cBlk aj [.func (.func 106) #[] #[]] 138 :: cBlk aa [I r_.up, I r_.down, I r_.lo, I r_.hi, B r_.narrow] 58 :: cBlk am [Pq ag] 112 :: cMk ([]) :: cMemI encSpt ai (zaa ab ac ae) :: ak) R := H.back ap rfl
 clear ap
 refine s_nil ⟨(St.pick H [0, 1, 2, 3, 4, 5] (by decide) rfl), _, [cBlk ao [I 0, I 0, I 0, I 0] 61, cBlk aj [.func (.func 106) #[] #[]] 138, cBlk aa [I r_.up, I r_.down, I r_.lo, I r_.hi, B r_.narrow] 58, cBlk am [Pq ag] 112, cMk ([]), cMemI encSpt ai (zaa ab ac ae)], mix_upd rfl, H, ?_⟩
 refine sa_nil (fun ak w_ H => (St.pick H [0, 1, 2, 3, 4, 5] (by decide) rfl)) ?_
 intro aq av br H
 replace H : St w br [cBlk ao [I 0, I 0, I 0, I 0] 61, cBlk aj [.func (.func 106) #[] #[]] 138, cBlk aa [I r_.up, I r_.down, I r_.lo, I r_.hi, B r_.narrow] 58, cBlk am [Pq ag] 112, cMk ([]), cMemI encSpt ai (zaa ab ac ae), cBlk aq [I 0, I 0] 54, cBlk av [I 0, I 0] 54] R := (H)
 refine t_l rfl ?_
 refine t_sw 6 0 [I r0, I r1] (.agg #[I r0, I r1]) H rfl rfl Sz54 rfl rfl rfl rfl ?_
 intro bZ H
 refine s_nil ⟨(St.pick H [0, 1, 2, 3, 4, 5] (by decide) rfl), ?_⟩
 refine t_l rfl ?_
 refine t_sw 7 0 [I au, I aw] (.agg #[I au, I aw]) H rfl rfl Sz54 rfl rfl rfl rfl ?_
 intro b3 H
 refine s_nil ⟨(St.pick H [0, 1, 2, 3, 4, 5] (by decide) rfl), ?_⟩
 refine t_nil ?_
 refine WD.seq ?_
 refine WD.of ?_
 refine W.drawA (fun W => St w W [cBlk ao [I 0, I 0, I 0, I 0] 61, cBlk aj [.func (.func 106) #[] #[]] 138, cBlk aa [I r_.up, I r_.down, I r_.lo, I r_.hi, B r_.narrow] 58, cBlk am [Pq ag] 112, cMk ([]), cMemI encSpt ai (zaa ab ac ae), cBlk aq [I r0, I r1] 54, cBlk av [I au, I aw] 54] R) [(0, true), (1, true), (2, true), (3, true), (4, true), (5, false)] [(6, 12, 3, [I 0]), (7, 13, 4, [B false])] (.l 8 (.l 9 .nil)) 2 mixed (by decide +kernel) rfl (by intro x hx; simp only [List.mem_cons, List.not_mem_nil, or_false] at hx; rcases hx with rfl | rfl <;> first | exact ⟨_, _, _, rfl, _, Al3, rfl⟩ | exact ⟨_, _, _, rfl, _, Al4, rfl⟩) (by decide) (by decide) H ?_
 refine sa_q (fun ak w_ H => (St.pick H [0, 1, 2, 3, 4, 5, 6, 7] (by decide) rfl)) rfl rfl (fun g_ w' H => x_fa (a := Pq aa) (v := Oq aa 2) rfl (fa_blk (o := 0) Fd58_2 Sz54)) ?_
 refine sa_q (fun ak w_ H => (St.pick H [0, 1, 2, 3, 4, 5, 6, 7] (by decide) rfl)) rfl rfl (fun g_ w' H => x_fa (a := Oq aa 2) (v := Oq aa 2) rfl (fa_blk (o := 2) Fd54_0 Sz3)) ?_
 refine sa_q (fun ak w_ H => (St.pick H [0, 1, 2, 3, 4, 5, 6, 7] (by decide) rfl)) rfl rfl (fun g_ w' H => x_ld (p := Oq aa 2) (v := I r_.lo) rfl (ldb_sc Sc3 (H.bl 2) rfl)) ?_
 refine sa_q (fun ak w_ H => (St.pick H [0, 1, 2, 3, 4, 5, 6, 7] (by decide) rfl)) rfl rfl (fun g_ w' H => x_fa (a := Pq aj) (v := Pq aj) rfl (fa_blk (o := 0) Fd138_0 Sz116)) ?_
 refine sa_q (fun ak w_ H => (St.pick H [0, 1, 2, 3, 4, 5, 6, 7] (by decide) rfl)) rfl rfl (fun g_ w' H => x_ld (p := Pq aj) (v := .func (.func 106) #[] #[]) rfl (ldb_sc Sc116 (H.bl 1) rfl)) ?_
 refine sa_l (fun ak w_ H => (St.pick H [0, 1, 2, 3, 4, 5, 6, 7] (by decide) rfl)) rfl ?_
 intro g_ ak bt H
 replace H : St w bt (cBlk ao [I 0, I 0, I 0, I 0] 61 :: cBlk aj [.func (.func 106) #[] #[]] 138 :: cBlk aa [I r_.up, I r_.down, I r_.lo, I r_.hi, B r_.narrow] 58 :: cBlk am [Pq ag] 112 :: cMk ([]) :: cMemI encSpt ai (zaa ab ac ae) :: cBlk aq [I r0, I r1] 54 :: cBlk av [I au, I aw] 54 :: ak) R := H
 obtain ⟨b4, bu, hM⟩ := M.e_bind hM
 refine s_callv (f := 106) rfl cf106 [I 1, I 0] rfl (zcp 1 0 bu _ (St.give (T := (cBlk ao [I 0, I 0, I 0, I 0] 61 :: cBlk aj [.func (.func 106) #[] #[]] 138 :: cBlk aa [I r_.up, I r_.down, I r_.lo, I r_.hi, B r_.narrow] 58 :: cBlk am [Pq ag] 112 :: cMk ([]) :: cMemI encSpt ai (zaa ab ac ae) :: cBlk aq [I r0, I r1] 54 :: cBlk av [I au, I aw] 54 :: ak)) H rfl)) ?_
 rintro vq bv ⟨r2, bw, hvq, ap⟩
 subst bw
 subst vq
 try dsimp only at hM
 replace H : St w bv (cBlk ao [I 0, I 0, I 0, I 0] 61 :: cBlk aj [.func (.func 106) #[] #[]] 138 :: cBlk aa [I r_.up, I r_.down, I r_.lo, I r_.hi, B r_.narrow] 58 :: cBlk am [Pq ag] 112 :: cMk ([]) :: cMemI encSpt ai (zaa ab ac ae) :: cBlk aq [I r0, I r1] 54 :: cBlk av [I au, I aw] 54 :: ak) R := H.back ap rfl
 clear ap
 refine s_nil ⟨(St.pick H [0, 1, 2, 3, 4, 5, 6, 7] (by decide) rfl), _, [cBlk ao [I 0, I 0, I 0, I 0] 61, cBlk aj [.func (.func 106) #[] #[]] 138, cBlk aa [I r_.up, I r_.down, I r_.lo, I r_.hi, B r_.narrow] 58, cBlk am [Pq ag] 112, cMk ([]), cMemI encSpt ai (zaa ab ac ae), cBlk aq [I r0, I r1] 54, cBlk av [I au, I aw] 54], mix_upd rfl, H, ?_⟩
 refine sa_nil (fun ak w_ H => (St.pick H [0, 1, 2, 3, 4, 5, 6, 7] (by decide) rfl)) ?_
 intro az aA bx H
 replace H : St w bx [cBlk ao [I 0, I 0, I 0, I 0] 61, cBlk aj [.func (.func 106) #[] #[]] 138, cBlk aa [I r_.up, I r_.down, I r_.lo, I r_.hi, B r_.narrow] 58, cBlk am [Pq ag] 112, cMk ([]), cMemI encSpt ai (zaa ab ac ae), cBlk aq [I r0, I r1] 54, cBlk av [I au, I aw] 54, cBlk az [I 0] 3, cBlk aA [B false] 4] R := (H)
 refine t_l rfl ?_
 refine t_sw 8 0 [I r_.lo] (I r_.lo) H rfl rfl Sz3 rfl rfl rfl rfl ?_
 intro b5 H
 refine s_nil ⟨(St.pick H [0, 1, 2, 3, 4, 5, 6, 7] (by decide) rfl), ?_⟩
 refine t_l rfl ?_
 refine t_sw 9 0 [B r2] (B r2) H rfl rfl Sz4 rfl rfl rfl rfl ?_
 intro b6 H
 refine s_nil ⟨(St.pick H [0, 1, 2, 3, 4, 5, 6, 7] (by decide) rfl), ?_⟩
 refine t_nil ?_
 refine WD.seq ?_
 refine WD.seq ?_
 refine WD.of ?_
 refine W.region rfl ?_
 refine s_val (x_ld (p := Pq aA) (v := B r2) rfl (ldb_sc Sc4 (H.bl 9) rfl)) ?_
 refine s_val (x_not (b := r2) rfl) ?_
 refine s_nil ?_
 refine WD.cond (!r2) rfl (fun aT => ?_) (fun aT => ?_)
 ·replace hM := M.e_t hM aT
  refine WD.of ?_
  refine W.region rfl ?_
  refine s_val (x_fa (a := Pq aa) (v := Oq aa 2) rfl (fa_blk (o := 0) Fd58_2 Sz54)) ?_
  refine s_val (x_fa (a := Oq aa 2) (v := Oq aa 3) rfl (fa_blk (o := 2) Fd54_1 Sz3)) ?_
  refine s_val (x_ld (p := Oq aa 3) (v := I r_.hi) rfl (ldb_sc Sc3 (H.bl 2) rfl)) ?_
  refine t_sw 8 0 [I r_.hi] (I r_.hi) H rfl rfl Sz3 rfl rfl rfl rfl ?_
  intro b7 H
  refine s_nil ?_
  refine WD.seq ?_
  refine WD.of ?_
  refine W.region rfl ?_
  refine t_alloc (cs := [I 0, I 0, I 0, I 0]) H Al61 rfl ?_
  intro ax b8 H
  refine s_nil ?_
  refine WD.seq ?_
  refine WD.of ?_
  refine W.region rfl ?_
  refine t_alloc (cs := [I 0]) H Al3 rfl ?_
  intro ay b9 H
  refine t_sw 0 0 [I 0] (I 0) H rfl rfl Sz3 rfl rfl rfl rfl ?_
  intro cb H
  refine s_nil ?_
  refine WD.seq ?_
  refine WD.seq ?_
  refine WD.of ?_
  refine W.draw (fun W => St w W [cBlk ay [I 0] 3, cBlk ax [I 0, I 0, I 0, I 0] 61, cBlk ao [I 0, I 0, I 0, I 0] 61, cBlk aj [.func (.func 106) #[] #[]] 138, cBlk aa [I r_.up, I r_.down, I r_.lo, I r_.hi, B r_.narrow] 58, cBlk am [Pq ag] 112, cMk ([]), cMemI encSpt ai (zaa ab ac ae), cBlk aq [I r0, I r1] 54, cBlk av [I au, I aw] 54, cBlk az [I r_.hi] 3, cBlk aA [B r2] 4] R) [(0, true), (1, true), (2, true), (3, true), (4, true), (5, true), (6, false), (7, false), (8, true), (9, false)] mixed (by decide +kernel) rfl ?_
  intro cc aJ
  replace H := H.ext aJ
  clear aJ
  refine ⟨(H.pk [0, 1, 2, 3, 4, 5, 6, 7, 8, 9, 10, 11]), ?_⟩
  refine d_q rfl (fun w' H => x_fa (a := Pq av) (v := Pq av) rfl (fa_blk (o := 0) Fd54_0 Sz3)) ?_
  refine d_q rfl (fun w' H => x_ld (p := Pq av) (v := I au) rfl (ldb_sc Sc3 (H.bl 9) rfl)) ?_
  refine d_q rfl (fun w' H => x_fa (a := Pq av) (v := Oq av 1) rfl (fa_blk (o := 0) Fd54_1 Sz3)) ?_
  refine d_q rfl (fun w' H => x_ld (p := Oq av 1) (v := I aw) rfl (ldb_sc Sc3 (H.bl 9) rfl)) ?_
  refine d_q rfl (fun w' H => x_fa (a := Pq aq) (v := Oq aq 1) rfl (fa_blk (o := 0) Fd54_1 Sz3)) ?_
  refine d_q rfl (fun w' H => x_ld (p := Oq aq 1) (v := I r1) rfl (ldb_sc Sc3 (H.bl 8) rfl)) ?_
  refine d_l rfl ?_
  refine t_bs (α := Int) T28 [I r1] [(r1 : Int)] H rfl (.cons rfl (Flat.rep_enc _ (r1 : Int)) <| .nil) rfl rfl rfl ?_
  intro bz cd H
  have ce := Sl.cells (H.os 0)
  have cf := Sl.oc (H.os 0)
  refine s_nil ⟨(H.pk [1, 2, 3, 4, 5, 6, 7, 8, 9, 10, 11, 12]), ?_⟩
  refine d_l rfl ?_
  obtain ⟨cg, bA, hM⟩ := M.e_bind hM
  refine s_call cf73 [I aw, bz] rfl (zce aw ([(r1 : Int)]) (rdo 0) (H.os 0) bA _ (H.gt 13)) ?_
  rintro vq cj ⟨r3, bB, hvq, ap⟩
  subst bB
  subst vq
  try dsimp only at hM
  replace H := H.bk ap
  clear ap
  refine s_nil ⟨(H.pk [1, 2, 3, 4, 5, 6, 7, 8, 9, 10, 11, 12]), ?_⟩
  refine d_q rfl (fun w' H => x_bld (ps := [(0, I au), (1, I r3)]) (zs := [I 0, I 0]) (L' := [I au, I r3]) rfl Tryz.underlying54 Al54 rfl (Bd54 Tryz.underlying54) (.cons (cs := [I au]) rfl rfl rfl rfl rfl <| .cons (cs := [I r3]) rfl rfl rfl rfl rfl <| .nil)) ?_
  refine d_l rfl ?_
  obtain ⟨ck, bC, hM⟩ := M.e_bind hM
  refine s_call cf95 [.agg #[I au, I r3]] rfl (zcy (⟨(au : Int), (r3 : Int)⟩ : Span) bC _ (H.gt 13)) ?_
  rintro vq cn ⟨aC, aD, aE, bD, hvq, ap⟩
  subst bD
  subst vq
  try dsimp only at hM
  replace H := H.bk ap
  clear ap
  refine s_nil ⟨(H.pk [2, 3, 4, 5, 6, 7, 8, 9, 10, 11, 12, 13]), ?_⟩
  refine d_nil ?_
  replace H := H.pk [0, 2, 3, 4, 5, 6, 7, 8, 9, 10, 12, 13]
  refine WD.block ?_
  obtain ⟨co, bE, hM⟩ := M.e_bind hM
  refine WD.range (L := [cBlk ay [I 0] 3, cBlk ax [I 0, I 0, I 0, I 0] 61, cMemI encSpt ai (zaa ab ac ae), cBlk aE [I aC, I aD] 54, cBlk ao [I 0, I 0, I 0, I 0] 61, cBlk aj [.func (.func 106) #[] #[]] 138, cBlk aa [I r_.up, I r_.down, I r_.lo, I r_.hi, B r_.narrow] 58, cBlk am [Pq ag] 112, cBlk aq [I r0, I r1] 54, cBlk az [I r_.hi] 3, cBlk aA [B r2] 4]) [Pq aE] (H.pk [7, 1, 2, 8, 0, 3, 4, 5, 6, 9, 10, 11]) rfl cf119 ?_
  intro aP aQ aU bF aV H
  have hYC : YieldC Tryz.prog ([cMk (aQ :: ([])), cBlk aE [I aC, I aD] 54, cBlk ao [I 0, I 0, I 0, I 0] 61, cBlk aj [.func (.func 106) #[] #[]] 138, cBlk aa [I r_.up, I r_.down, I r_.lo, I r_.hi, B r_.narrow] 58, cBlk am [Pq ag] 112, cBlk aq [I r0, I r1] 54, cBlk az [I r_.hi] 3, cBlk aA [B r2] 4] ++ R) arI (yJ aP aU (fun (s, s2, s3, s4, s5) aR => aR = [cBlk ay [I s] 3, cBlk ax [I s2, I s3, I s4, I s5] 61, cMemI encSpt ai (zaa ab ac ae)]) (fun (_ : Unit) _ => False) (fun _ => .ret)) (.func (.yield aP) #[] #[]) (M.yl (zaL ab ac ae r_ r0 r2)) := by
   refine YieldC.mk aV (fun (s, s2, s3, s4, s5) aR => aR = [cBlk ay [I s] 3, cBlk ax [I s2, I s3, I s4, I s5] 61, cMemI encSpt ai (zaa ab ac ae)]) (fun (_ : Unit) _ => False) (fun _ => .ret) (zaL ab ac ae r_ r0 r2) (by rintro ⟨s, s2, s3, s4, s5⟩ _ h_; obtain ⟨rfl⟩ := h_; rfl) (fun _ _ h_ => h_.elim) rfl (arI_len rfl) ?_
   intro C_ cp x W_ bG
   obtain rfl := bG
   refine W.region rfl ?_
   refine zA (I x) rfl ?_
   refine s_nil ?_
   refine ⟨rfl, rfl, ?_⟩
   intro w R aK aR s_ r bH hM H
   obtain ⟨s, s2, s3, s4, s5⟩ := s_
   obtain ⟨rfl⟩ := bH
   replace aF := aF.sub aK
   replace aG := aG.sub aK
   replace aH := aH.sub aK
   replace aI := aI.sub aK
   replace aO := aO.sub aK
   replace hM : (zaL ab ac ae r_ r0 r2 (s, s2, s3, s4, s5) x).Ends r := hM
   simp only [zaL] at hM
   replace H := H.pk [0, 1, 2, 4, 5, 6, 7, 8, 9, 10, 11, 3]
   refine W.block ?_
   refine W.seq ?_
   refine W.region rfl ?_
   refine s_val (x_fa (a := Pq aq) (v := Pq aq) rfl (fa_blk (o := 0) Fd54_0 Sz3)) ?_
   refine s_val (x_ld (p := Pq aq) (v := I r0) rfl (ldb_sc Sc3 (H.bl 8) rfl)) ?_
   refine zM (I x) rfl ?_
   refine s_val (x_max (kd := .i64) (a := r0) (b := x) rfl rfl) ?_
   refine zM (I x) rfl ?_
   refine s_val (x_ld (p := Pq az) (v := I r_.hi) rfl (ldb_sc Sc3 (H.bl 9) rfl)) ?_
   refine s_val (x_ld (p := Pq az) (v := I r_.hi) rfl (ldb_sc Sc3 (H.bl 9) rfl)) ?_
   refine s_val (x_bld (ps := [(0, I (max r0 x)), (1, I x), (2, I r_.hi), (3, I r_.hi)]) (zs := [I 0, I 0, I 0, I 0]) (L' := [I (max r0 x), I x, I r_.hi, I r_.hi]) rfl Tryz.underlying61 Al61 rfl (Bd61 Tryz.underlying61) (.cons (cs := [I (max r0 x)]) rfl rfl rfl rfl rfl <| .cons (cs := [I x]) rfl rfl rfl rfl rfl <| .cons (cs := [I r_.hi]) rfl rfl rfl rfl rfl <| .cons (cs := [I r_.hi]) rfl rfl rfl rfl rfl <| .nil)) ?_
   refine t_alloc (cs := [I 0, I 0, I 0, I 0]) H Al61 rfl ?_
   intro bf cq H
   refine t_sw 0 0 [I (max r0 x), I x, I r_.hi, I r_.hi] (.agg #[I (max r0 x), I x, I r_.hi, I r_.hi]) H rfl rfl Sz61 rfl rfl rfl rfl ?_
   intro cr H
   refine s_nil ?_
   refine W.seq ?_
   refine W.seq ?_
   refine W.region rfl ?_
   refine s_val (x_ld (p := Pq aA) (v := B r2) rfl (ldb_sc Sc4 (H.bl 11) rfl)) ?_
   refine s_nil ?_
   refine W.cond r2 rfl (fun aW => ?_) (fun aW => ?_)
   ·replace hM := M.e_t hM aW
    exact (M.e_fail hM).elim
   replace hM := M.e_f hM aW
   refine W.skip ?_
   refine W.seq ?_
   refine W.region rfl ?_
   refine s_val (x_ld (p := Pq am) (v := Pq ag) rfl (ldb_sc Sc112 (H.bl 8) rfl)) ?_
   refine s_val (x_ld (p := Pq aa) (v := .agg #[I r_.up, I r_.down, I r_.lo, I r_.hi, B r_.narrow]) rfl (ldb_ag (ds := [I r_.up, I r_.down, I r_.lo, I r_.hi, B r_.narrow]) Ag58 Sz58 (H.bl 7) rfl rfl)) ?_
   refine s_val (x_ld (p := Pq bf) (v := .agg #[I (max r0 x), I x, I r_.hi, I r_.hi]) rfl (ldb_ag (ds := [I (max r0 x), I x, I r_.hi, I r_.hi]) Ag61 Sz61 (H.bl 0) rfl rfl)) ?_
   obtain ⟨ct, bI, hM⟩ := M.e_bind hM
   refine s_call cf72 [Pq ag, .agg #[I r_.up, I r_.down, I r_.lo, I r_.hi, B r_.narrow], .agg #[I (max r0 x), I x, I r_.hi, I r_.hi]] rfl (zcg ab ac ae r_ (⟨(max r0 x : Int), (x : Int), (r_.hi : Int), (r_.hi : Int)⟩ : Cas) (aF.app _) aL (aG.app _) aM (aH.app _) aN (aI.app _) bI _ ((H.pk [3, 0, 1, 2, 4, 5, 6, 7, 8, 9, 10, 11, 12]).gt 12)) ?_
   rintro vq cu ⟨r4, bJ, hvq, ap⟩
   subst bJ
   subst vq
   try dsimp only at hM
   replace H := H.pk [3, 0, 1, 2, 4, 5, 6, 7, 8, 9, 10, 11, 12] |>.bk ap
   clear ap
   refine zA (I r4) rfl ?_
   refine s_nil ?_
   refine W.seq ?_
   refine W.region rfl ?_
   refine s_val (x_ld (p := Pq ax) (v := .agg #[I s2, I s3, I s4, I s5]) rfl (ldb_ag (ds := [I s2, I s3, I s4, I s5]) Ag61 Sz61 (H.bl 3) rfl rfl)) ?_
   refine s_val (x_bld (ps := []) (zs := [I 0, I 0, I 0, I 0]) (L' := [I 0, I 0, I 0, I 0]) rfl Tryz.underlying61 Al61 rfl (Bd61 Tryz.underlying61) (.nil)) ?_
   refine s_val (x_eqS (eqT61 (⟨(s2 : Int), (s3 : Int), (s4 : Int), (s5 : Int)⟩ : Cas) (⟨(0 : Int), (0 : Int), (0 : Int), (0 : Int)⟩ : Cas) _) gdT61 rfl rfl) ?_
   refine zM (B (decide ((⟨(s2 : Int), (s3 : Int), (s4 : Int), (s5 : Int)⟩ : Cas) = (⟨(0 : Int), (0 : Int), (0 : Int), (0 : Int)⟩ : Cas)))) rfl ?_
   refine g_val (!(decide ((⟨(s2 : Int), (s3 : Int), (s4 : Int), (s5 : Int)⟩ : Cas) = (⟨(0 : Int), (0 : Int), (0 : Int), (0 : Int)⟩ : Cas)))) (gy_f rfl) (fun hg => x_fa (a := Pq aj) (v := Pq aj) rfl (fa_blk (o := 0) Fd138_0 Sz116)) ?_
   refine g_val (!(decide ((⟨(s2 : Int), (s3 : Int), (s4 : Int), (s5 : Int)⟩ : Cas) = (⟨(0 : Int), (0 : Int), (0 : Int), (0 : Int)⟩ : Cas)))) (gy_f rfl) (fun hg => x_ld (p := Pq aj) (v := .func (.func 106) #[] #[]) (gd_of (c := !(decide ((⟨(s2 : Int), (s3 : Int), (s4 : Int), (s5 : Int)⟩ : Cas) = (⟨(0 : Int), (0 : Int), (0 : Int), (0 : Int)⟩ : Cas)))) hg (Pq aj)) (ldb_sc Sc116 (H.bl 6) rfl)) ?_
   refine g_val (!(decide ((⟨(s2 : Int), (s3 : Int), (s4 : Int), (s5 : Int)⟩ : Cas) = (⟨(0 : Int), (0 : Int), (0 : Int), (0 : Int)⟩ : Cas)))) (gy_f rfl) (fun hg => x_mv (v := I r4) rfl) ?_
   refine g_val (!(decide ((⟨(s2 : Int), (s3 : Int), (s4 : Int), (s5 : Int)⟩ : Cas) = (⟨(0 : Int), (0 : Int), (0 : Int), (0 : Int)⟩ : Cas)))) (gy_f rfl) (fun hg => x_ld (p := Pq ay) (v := I s) rfl (ldb_sc Sc3 (H.bl 2) rfl)) ?_
   obtain ⟨r5, bK, hM⟩ := M.e_bind hM
   refine t_gcallv (cap := []) (!(decide ((⟨(s2 : Int), (s3 : Int), (s4 : Int), (s5 : Int)⟩ : Cas) = (⟨(0 : Int), (0 : Int), (0 : Int), (0 : Int)⟩ : Cas)))) (gy_f rfl) cf106 (fun hg => (gd_of (c := !(decide ((⟨(s2 : Int), (s3 : Int), (s4 : Int), (s5 : Int)⟩ : Cas) = (⟨(0 : Int), (0 : Int), (0 : Int), (0 : Int)⟩ : Cas)))) hg (.func (.func 106) #[] #[]))) (B r5) (fun _ => [I r4, I s]) (fun hg => lst2 (gd_of (c := !(decide ((⟨(s2 : Int), (s3 : Int), (s4 : Int), (s5 : Int)⟩ : Cas) = (⟨(0 : Int), (0 : Int), (0 : Int), (0 : Int)⟩ : Cas)))) hg (I r4)) (gd_of (c := !(decide ((⟨(s2 : Int), (s3 : Int), (s4 : Int), (s5 : Int)⟩ : Cas) = (⟨(0 : Int), (0 : Int), (0 : Int), (0 : Int)⟩ : Cas)))) hg (I s))) H (fun hg => (zcp r4 s (M.e_opt bK hg) _ (H.give (A := []) rfl)).mono fun v_ w_ ⟨y_, aX, bL, H_⟩ => by subst aX; exact ⟨bL, H.via H_⟩) ?_
   intro cv H
   refine s_val (x_por (b := decide ((⟨(s2 : Int), (s3 : Int), (s4 : Int), (s5 : Int)⟩ : Cas) = (⟨(0 : Int), (0 : Int), (0 : Int), (0 : Int)⟩ : Cas))) (r := r5) rfl rfl (fun hb => gd_of (c := !(decide ((⟨(s2 : Int), (s3 : Int), (s4 : Int), (s5 : Int)⟩ : Cas) = (⟨(0 : Int), (0 : Int), (0 : Int), (0 : Int)⟩ : Cas)))) (by first | exact hb | (rw [hb]; rfl) | simp_all) (B r5))) ?_
   refine s_nil ?_
   refine W.cond ((decide ((⟨(s2 : Int), (s3 : Int), (s4 : Int), (s5 : Int)⟩ : Cas) = (⟨(0 : Int), (0 : Int), (0 : Int), (0 : Int)⟩ : Cas))) || r5) rfl (fun aY => ?_) (fun aY => ?_)
   ·replace hM := M.e_t hM aY
    refine W.region rfl ?_
    refine s_val (x_ld (p := Pq bf) (v := .agg #[I (max r0 x), I x, I r_.hi, I r_.hi]) rfl (ldb_ag (ds := [I (max r0 x), I x, I r_.hi, I r_.hi]) Ag61 Sz61 (H.bl 1) rfl rfl)) ?_
    refine zM (I r4) rfl ?_
    refine t_sw 3 0 [I (max r0 x), I x, I r_.hi, I r_.hi] (.agg #[I (max r0 x), I x, I r_.hi, I r_.hi]) H rfl rfl Sz61 rfl rfl rfl rfl ?_
    intro cw H
    refine t_sw 2 0 [I r4] (I r4) H rfl rfl Sz3 rfl rfl rfl rfl ?_
    intro cx H
    refine s_nil ?_
    exact ⟨(r4, max r0 x, x, r_.hi, r_.hi), [cBlk ay [I r4] 3, cBlk ax [I (max r0 x), I x, I r_.hi, I r_.hi] 61, cMemI encSpt ai (zaa ab ac ae)], (M.e_pure hM).symm, rfl, H.pick [2, 3, 0, 12, 4, 5, 6, 7, 8, 9, 10, 11] (by decide) rfl⟩
   replace hM := M.e_f hM aY
   refine W.skip ?_
   exact ⟨(s, s2, s3, s4, s5), [cBlk ay [I s] 3, cBlk ax [I s2, I s3, I s4, I s5] 61, cMemI encSpt ai (zaa ab ac ae)], (M.e_pure hM).symm, rfl, H.pick [2, 3, 0, 12, 4, 5, 6, 7, 8, 9, 10, 11] (by decide) rfl⟩
  replace H : St w bF (cAll (cObj aP (.loop aU) :: [cBlk ay [I 0] 3, cBlk ax [I 0, I 0, I 0, I 0] 61, cMemI encSpt ai (zaa ab ac ae)]) :: [cMk (aQ :: ([])), cBlk aE [I aC, I aD] 54, cBlk ao [I 0, I 0, I 0, I 0] 61, cBlk aj [.func (.func 106) #[] #[]] 138, cBlk aa [I r_.up, I r_.down, I r_.lo, I r_.hi, B r_.narrow] 58, cBlk am [Pq ag] 112, cBlk aq [I r0, I r1] 54, cBlk az [I r_.hi] 3, cBlk aA [B r2] 4]) R := St.bundleB (A := cObj aP (.loop aU) :: [cBlk ay [I 0] 3, cBlk ax [I 0, I 0, I 0, I 0] 61, cMemI encSpt ai (zaa ab ac ae)]) (T := [cMk (aQ :: ([])), cBlk aE [I aC, I aD] 54, cBlk ao [I 0, I 0, I 0, I 0] 61, cBlk aj [.func (.func 106) #[] #[]] 138, cBlk aa [I r_.up, I r_.down, I r_.lo, I r_.hi, B r_.narrow] 58, cBlk am [Pq ag] 112, cBlk aq [I r0, I r1] 54, cBlk az [I r_.hi] 3, cBlk aA [B r2] 4]) rfl (H.pk [0, 2, 3, 4, 1, 5, 6, 7, 8, 9, 10, 11, 12])
  refine (zcn (M.yl (zaL ab ac ae r_ r0 r2)) (.inl (0, 0, 0, 0, 0)) aC aD hYC ⟨_, rfl, rfl⟩ (Has.here (k := 1) rfl) bE _ (H.gt 9)).mono ?_
  rintro vq cy ⟨bM, cz, bN, hvq, ap, bg⟩
  subst bN
  replace H := H.back ap rfl
  clear ap hYC
  rcases bM with ⟨s, s2, s3, s4, s5⟩ | _
  ·try dsimp only at hM
   obtain ⟨_, rfl, rfl⟩ := bg
   refine ⟨_, [cBlk ay [I s] 3, cBlk ax [I s2, I s3, I s4, I s5] 61, cMemI encSpt ai (zaa ab ac ae), cBlk aE [I aC, I aD] 54, cBlk ao [I 0, I 0, I 0, I 0] 61, cBlk aj [.func (.func 106) #[] #[]] 138, cBlk aa [I r_.up, I r_.down, I r_.lo, I r_.hi, B r_.narrow] 58, cBlk am [Pq ag] 112, cBlk aq [I r0, I r1] 54, cBlk az [I r_.hi] 3, cBlk aA [B r2] 4], H.unbundle.pick [0, 4, 1, 2, 3, 5, 6, 7, 8, 9, 10, 11, 12] (by decide) rfl, aV.nb, ?_⟩
   intro cA H
   rw [aV.pd]
   replace H := H.nf
   try simp only []
   replace H := H.pk [0, 1, 2, 3, 5]
   refine WD.seq ?_
   refine WD.of ?_
   refine W.draw (fun W => St w W [cMk (aQ :: ([])), cBlk ay [I s] 3, cBlk ax [I s2, I s3, I s4, I s5] 61, cMemI encSpt ai (zaa ab ac ae)] R) [(0, true), (1, true), (2, false), (3, true)] mixed (by decide +kernel) rfl ?_
   intro cB aJ
   replace H := H.ext aJ
   clear aJ
   refine ⟨(H.pk [0, 1, 2, 3]), ?_⟩
   refine d_q rfl (fun w' H => x_ld (p := Pq ax) (v := .agg #[I s2, I s3, I s4, I s5]) rfl (ldb_ag (ds := [I s2, I s3, I s4, I s5]) Ag61 Sz61 (H.bl 2) rfl rfl)) ?_
   refine d_q rfl (fun w' H => x_ld (p := Pq ay) (v := I s) rfl (ldb_sc Sc3 (H.bl 1) rfl)) ?_
   refine d_l rfl ?_
   refine t_sw 4 0 [I s2, I s3, I s4, I s5] (.agg #[I s2, I s3, I s4, I s5]) H rfl rfl Sz61 rfl rfl rfl rfl ?_
   intro cC H
   refine s_nil ⟨(H.pk [0, 1, 2, 3]), ?_⟩
   refine d_q rfl (fun w' H => x_as (v := I s) rfl) ?_
   refine d_nil ?_
   replace H := H.pk [0, 3, 4]
   refine WD.of ?_
   refine W.ret ?_
   refine bodyD_r (H.pk [0, 1, 2]) ?_
   intro cD H
   replace H := H.nf
   have bO := (H.bl 1)
   have aX := M.e_pure hM
   exact ⟨_, (resE_ofn (vs := [.agg #[I s2, I s3, I s4, I s5], I s]) rfl rfl (.cell (v := .agg #[I s2, I s3, I s4, I s5]) rfl (run_loadVar_ag (ds := [I s2, I s3, I s4, I s5]) Ag61 Sz61 bO rfl rfl) <| .tmp (v := I s) rfl <| .nil)), ⟨s2, s3, s4, s5, s, aX, rfl, (H.pk [0])⟩⟩
  obtain ⟨_, _, h_⟩ := bg; exact h_.elim
 replace hM := M.e_f hM aT
 exact (M.e_fail hM).elim

def zcw : M Unit :=
  M.pure ()
theorem zaz {R : List Chunk}    {r : Unit} (hM : (zcw).Ends r) (w : World) (H : St w w [] R) : Ret Tryz.prog 68 #[] w fun v w' => () = r /\ v = .agg #[.func (.func 107) #[] #[]] /\ St w w' [] R := by
 refine ret_of_W Tryz.func68 rfl rfl rfl ?_
 refine W.seq ?_
 refine W.region rfl ?_
 refine t_alloc (cs := [.nilFunc]) H Al138 rfl ?_
 intro ac ae H
 refine s_nil ?_
 refine W.seq ?_
 refine W.region rfl ?_
 refine s_val (x_bld (ps := [(0, .func (.func 107) #[] #[])]) (zs := [.nilFunc]) (L' := [.func (.func 107) #[] #[]]) rfl Tryz.underlying138 Al138 rfl (Bd138 Tryz.underlying138) (.cons (cs := [.func (.func 107) #[] #[]]) rfl rfl rfl rfl rfl <| .nil)) ?_
 refine t_sw 0 0 [.func (.func 107) #[] #[]] (.agg #[.func (.func 107) #[] #[]]) H rfl rfl Sz138 rfl rfl rfl rfl ?_
 intro ag H
 refine s_nil ?_
 refine W.ret ?_
 have aa := (H.bl 0)
 have ab := M.e_pure hM
 exact ⟨_, (resE_of1 (v := .agg #[.func (.func 107) #[] #[]]) rfl (.cell (v := .agg #[.func (.func 107) #[] #[]]) rfl (run_loadVar_ag (ds := [.func (.func 107) #[] #[]]) Ag138 Sz138 aa rfl rfl) <| .nil)), ⟨ab, rfl, (H.pk [])⟩⟩

def zbR (a : Int) (b : Int) : M Bool :=
  M.pure (decide (b < a))
theorem zcl {R : List Chunk}  (a : Int) (b : Int)  {r : Bool} (hM : (zbR a b).Ends r) (w : World) (H : St w w [] R) : Ret Tryz.prog 107 #[I a, I b] w fun v w' => ∃ (y0 : Bool), y0 = r /\ v = B y0 /\ St w w' [] R := by
 refine ret_of_W Tryz.func107 rfl rfl rfl ?_
 refine W.seq ?_
 refine W.region rfl ?_
 refine zA (B false) rfl ?_
 refine s_nil ?_
 refine W.seq ?_
 refine W.region rfl ?_
 refine zM (I a) rfl ?_
 refine zM (I b) rfl ?_
 refine zC a b (decide (b < a)) rfl rfl rfl ?_
 refine zA (B (decide (b < a))) rfl ?_
 refine s_nil ?_
 refine W.ret ?_
 have aa := M.e_pure hM
 exact ⟨_, resE_tmp rfl, ⟨(decide (b < a)), aa, rfl, H⟩⟩

def zaJ (aa : List Sect) (ab : List Mrk) (ac : List Rch) (r_ : Rch) (r1 : Int) (r2 : Bool) : (Int × Int × Int × Int × Int) -> Int -> M ((Int × Int × Int × Int × Int) ⊕ Unit) := fun (s, s2, s3, s4, s5) x =>
  bif r2 then (
  M.bind (zbi aa ab ac r_ (⟨(r1 : Int), (x : Int), (r_.lo : Int), (r_.lo : Int)⟩ : Cas)) fun r4 =>
  M.bind (M.opt (!(decide ((⟨(s2 : Int), (s3 : Int), (s4 : Int), (s5 : Int)⟩ : Cas) = (⟨(0 : Int), (0 : Int), (0 : Int), (0 : Int)⟩ : Cas)))) (zbR r4 s) false) fun r5 =>
  bif ((decide ((⟨(s2 : Int), (s3 : Int), (s4 : Int), (s5 : Int)⟩ : Cas) = (⟨(0 : Int), (0 : Int), (0 : Int), (0 : Int)⟩ : Cas))) || r5) then (
  M.pure (.inl (r4, r1, x, r_.lo, r_.lo)))
  else (
  M.pure (.inl (s, s2, s3, s4, s5))))
  else (
  M.fail)
def zb4 (aa : List Sect) (ab : List Mrk) (ac : List Rch) (marks : List Int) (r_ : Rch) : M (Int × Int × Int × Int × Int) :=
  M.bind (zao aa ab ac marks r_.up) fun (r0, r1) =>
  M.bind (zao aa ab ac marks r_.down) fun (ae, ag) =>
  M.bind (zbR 1 0) fun r2 =>
  bif !r2 then (
  M.fail)
  else (
  M.bind (zaB ag ([(r1 : Int)])) fun r3 =>
  M.bind (zbW (⟨(ae : Int), (r3 : Int)⟩ : Span)) fun (ai, aj) =>
  M.bind (zay (M.yl (zaJ aa ab ac r_ r1 r2)) (.inl (0, 0, 0, 0, 0)) ai aj) fun x_ => match x_ with
  | .inl (s, s2, s3, s4, s5) => (
  M.pure (s2, s3, s4, s5, s))
  | .inr _ => M.fail)
theorem zaj {R : List Chunk} {ag : Nat} {a6 : Cells} {a7 : Value} {a8 : Cells} {ba : Value} {bb : Cells} {bc : Value} {ai : Nat} {bf : Cells} {aB : Value} (aa : List Sect) (ab : List Mrk) (ac : List Rch) (marks : List Int) (r_ : Rch) (aF : Reads R a6) (aL : Sl a6 a7 aa) (aG : Reads R a8) (aM : Sl a8 ba ab) (aH : Reads R bb) (aN : Sl bb bc ac) (aI : Has R (cBlk ag [a7, ba, bc, .map (some ai)] 177)) (aO : Reads R bf) (aT : Sl bf aB marks) {r : (Int × Int × Int × Int × Int)} (hM : (zb4 aa ab ac marks r_).Ends r) (w : World) (H : St w w [cMemI encSpt ai (zaa aa ab ac)] R) : Ret Tryz.prog 69 #[Pq ag, aB, .agg #[I r_.up, I r_.down, I r_.lo, I r_.hi, B r_.narrow], .agg #[.func (.func 107) #[] #[]]] w fun v w' => ∃ (y0 : Int) (y1 : Int) (y2 : Int) (y3 : Int) (y4 : Int), (y0, y1, y2, y3, y4) = r /\ v = .tuple #[.agg #[I y0, I y1, I y2, I y3], I y4] /\ St w w' [cMemI encSpt ai (zaa aa ab ac)] R := by
 refine ret_of_WD Tryz.func69 rfl rfl rfl ?_
 replace H : St w w [cMk ([]), cMemI encSpt ai (zaa aa ab ac)] R := H.mk0
 have bP := aL.len_le
 have bQ := aM.len_le
 have bR := aN.len_le
 have bS := aT.len_le
 unfold zb4 at hM
 refine WD.seq ?_
 refine WD.of ?_
 refine W.region rfl ?_
 refine t_box (v := Pq ag) (cs := [Pq ag]) H rfl rfl ?_
 intro am bT H
 refine t_box (v := .agg #[I r_.up, I r_.down, I r_.lo, I r_.hi, B r_.narrow]) (cs := [I r_.up, I r_.down, I r_.lo, I r_.hi, B r_.narrow]) H rfl rfl ?_
 intro ae bU H
 refine t_box (v := .agg #[.func (.func 107) #[] #[]]) (cs := [.func (.func 107) #[] #[]]) H rfl rfl ?_
 intro aj bV H
 refine t_alloc (cs := [I 0, I 0, I 0, I 0]) H Al61 rfl ?_
 intro ao bW H
 refine zA (I 0) rfl ?_
 refine s_nil ?_
 refine WD.seq ?_
 refine WD.of ?_
 refine W.drawA (fun W => St w W [cBlk ao [I 0, I 0, I 0, I 0] 61, cBlk aj [.func (.func 107) #[] #[]] 138, cBlk ae [I r_.up, I r_.down, I r_.lo, I r_.hi, B r_.narrow] 58, cBlk am [Pq ag] 112, cMk ([]), cMemI encSpt ai (zaa aa ab ac)] R) [(0, true), (1, true), (2, true), (3, true), (5, true), (6, true), (7, true), (8, true), (4, false), (9, false)] [(10, 10, 54, [I 0, I 0]), (11, 11, 54, [I 0, I 0])] (.l 12 (.l 13 .nil)) 2 mixed (by decide +kernel) rfl (by intro x hx; simp only [List.mem_cons, List.not_mem_nil, or_false] at hx; rcases hx with rfl | rfl <;> first | exact ⟨_, _, _, rfl, _, Al54, rfl⟩) (by decide) (by decide) H ?_
 refine sa_q (fun ak w_ H => (St.pick H [0, 1, 2, 3, 4, 5] (by decide) rfl)) rfl rfl (fun g_ w' H => x_ld (p := Pq am) (v := Pq ag) rfl (ldb_sc Sc112 (H.bl 3) rfl)) ?_
 refine sa_q (fun ak w_ H => (St.pick H [0, 1, 2, 3, 4, 5] (by decide) rfl)) rfl rfl (fun g_ w' H => x_mv (v := aB) rfl) ?_
 refine sa_q (fun ak w_ H => (St.pick H [0, 1, 2, 3, 4, 5] (by decide) rfl)) rfl rfl (fun g_ w' H => x_fa (a := Pq ae) (v := Pq ae) rfl (fa_blk (o := 0) Fd58_0 Sz3)) ?_
 refine sa_q (fun ak w_ H => (St.pick H [0, 1, 2, 3, 4, 5] (by decide) rfl)) rfl rfl (fun g_ w' H => x_ld (p := Pq ae) (v := I r_.up) rfl (ldb_sc Sc3 (H.bl 2) rfl)) ?_
 refine sa_q (fun ak w_ H => (St.pick H [0, 1, 2, 3, 4, 5] (by decide) rfl)) rfl rfl (fun g_ w' H => x_ld (p := Pq am) (v := Pq ag) rfl (ldb_sc Sc112 (H.bl 3) rfl)) ?_
 refine sa_q (fun ak w_ H => (St.pick H [0, 1, 2, 3, 4, 5] (by decide) rfl)) rfl rfl (fun g_ w' H => x_mv (v := aB) rfl) ?_
 refine sa_q (fun ak w_ H => (St.pick H [0, 1, 2, 3, 4, 5] (by decide) rfl)) rfl rfl (fun g_ w' H => x_fa (a := Pq ae) (v := Oq ae 1) rfl (fa_blk (o := 0) Fd58_1 Sz3)) ?_
 refine sa_q (fun ak w_ H => (St.pick H [0, 1, 2, 3, 4, 5] (by decide) rfl)) rfl rfl (fun g_ w' H => x_ld (p := Oq ae 1) (v := I r_.down) rfl (ldb_sc Sc3 (H.bl 2) rfl)) ?_
 refine sa_l (fun ak w_ H => (St.pick H [0, 1, 2, 3, 4, 5] (by decide) rfl)) rfl ?_
 intro g_ ak bh H
 replace H : St w bh (cBlk ao [I 0, I 0, I 0, I 0] 61 :: cBlk aj [.func (.func 107) #[] #[]] 138 :: cBlk ae [I r_.up, I r_.down, I r_.lo, I r_.hi, B r_.narrow] 58 :: cBlk am [Pq ag] 112 :: cMk ([]) :: cMemI encSpt ai (zaa aa ab ac) :: ak) R := H
 obtain ⟨bX, bi, hM⟩ := M.e_bind hM
 refine s_call cf59 [Pq ag, aB, I r_.up] rfl (za7 aa ab ac marks r_.up (aF.app _) aL (aG.app _) aM (aH.app _) aN (aI.app _) (aO.app _) aT bi _ (St.give (T := (cBlk ao [I 0, I 0, I 0, I 0] 61 :: cBlk aj [.func (.func 107) #[] #[]] 138 :: cBlk ae [I r_.up, I r_.down, I r_.lo, I r_.hi, B r_.narrow] 58 :: cBlk am [Pq ag] 112 :: cMk ([]) :: cMemI encSpt ai (zaa aa ab ac) :: ak)) H rfl)) ?_
 rintro vq bj ⟨r0, r1, bm, hvq, aq⟩
 subst bm
 subst vq
 try dsimp only at hM
 replace H : St w bj (cBlk ao [I 0, I 0, I 0, I 0] 61 :: cBlk aj [.func (.func 107) #[] #[]] 138 :: cBlk ae [I r_.up, I r_.down, I r_.lo, I r_.hi, B r_.narrow] 58 :: cBlk am [Pq ag] 112 :: cMk ([]) :: cMemI encSpt ai (zaa aa ab ac) :: ak) R := H.back aq rfl
 clear aq
 refine s_nil ⟨(St.pick H [0, 1, 2, 3, 4, 5] (by decide) rfl), _, [cBlk ao [I 0, I 0, I 0, I 0] 61, cBlk aj [.func (.func 107) #[] #[]] 138, cBlk ae [I r_.up, I r_.down, I r_.lo, I r_.hi, B r_.narrow] 58, cBlk am [Pq ag] 112, cMk ([]), cMemI encSpt ai (zaa aa ab ac)], mix_upd rfl, H, ?_⟩
 refine sa_l (fun ak w_ H => (St.pick H [0, 1, 2, 3, 4, 5] (by decide) rfl)) rfl ?_
 intro g_ ak bn H
 replace H : St w bn (cBlk ao [I 0, I 0, I 0, I 0] 61 :: cBlk aj [.func (.func 107) #[] #[]] 138 :: cBlk ae [I r_.up, I r_.down, I r_.lo, I r_.hi, B r_.narrow] 58 :: cBlk am [Pq ag] 112 :: cMk ([]) :: cMemI encSpt ai (zaa aa ab ac) :: ak) R := H
 obtain ⟨bY, bo, hM⟩ := M.e_bind hM
 refine s_call cf59 [Pq ag, aB, I r_.down] rfl (za7 aa ab ac marks r_.down (aF.app _) aL (aG.app _) aM (aH.app _) aN (aI.app _) (aO.app _) aT bo _ (St.give (T := (cBlk ao [I 0, I 0, I 0, I 0] 61 :: cBlk aj [.func (.func 107) #[] #[]] 138 :: cBlk ae [I r_.up, I r_.down, I r_.lo, I r_.hi, B r_.narrow] 58 :: cBlk am [Pq ag] 112 :: cMk ([]) :: cMemI encSpt ai (zaa aa ab ac) :: ak)) H rfl)) ?_
 rintro vq bp ⟨au, aw, bq, hvq, aq⟩
 subst bq
 subst vq
 try dsimp only at hM
 replace H : St w bp (cBlk ao [I 0, I 0, I 0, I 0] 61 :: cBlk aj [.func (.func 107) #[] #[]] 138 :: cBlk ae [I r_.up, I r_.down, I r_.lo, I r_.hi, B r_.narrow] 58 :: cBlk am [Pq ag] 112 :: cMk ([]) :: cMemI encSpt ai (zaa aa ab ac) :: ak) R := H.back aq rfl
 clear aq
 refine s_nil ⟨(St.pick H [0, 1, 2, 3, 4, 5] (by decide) rfl), _, [cBlk ao [I 0, I 0, I 0, I 0] 61, cBlk aj [.func (.func 107) #[] #[]] 138, cBlk ae [I r_.up, I r_.down, I r_.lo, I r_.hi, B r_.narrow] 58, cBlk am [Pq ag] 112, cMk ([]), cMemI encSpt ai (zaa aa ab ac)], mix_upd rfl, H, ?_⟩
 refine sa_nil (fun ak w_ H => (St.pick H [0, 1, 2, 3, 4, 5] (by decide) rfl)) ?_
 intro ap av br H
 replace H : St w br [cBlk ao [I 0, I 0, I 0, I 0] 61, cBlk aj [.func (.func 107) #[] #[]] 138, cBlk ae [I r_.up, I r_.down, I r_.lo, I r_.hi, B r_.narrow] 58, cBlk am [Pq ag] 112, cMk ([]), cMemI encSpt ai (zaa aa ab ac), cBlk ap [I 0, I 0] 54, cBlk av [I 0, I 0] 54] R := (H)
 refine t_l rfl ?_
 refine t_sw 6 0 [I r0, I r1] (.agg #[I r0, I r1]) H rfl rfl Sz54 rfl rfl rfl rfl ?_
 intro bZ H
 refine s_nil ⟨(St.pick H [0, 1, 2, 3, 4, 5] (by decide) rfl), ?_⟩
 refine t_l rfl ?_
 refine t_sw 7 0 [I au, I aw] (.agg #[I au, I aw]) H rfl rfl Sz54 rfl rfl rfl rfl ?_
 intro b3 H
 refine s_nil ⟨(St.pick H [0, 1, 2, 3, 4, 5] (by decide) rfl), ?_⟩
 refine t_nil ?_
 refine WD.seq ?_
 refine WD.of ?_
 refine W.drawA (fun W => St w W [cBlk ao [I 0, I 0, I 0, I 0] 61, cBlk aj [.func (.func 107) #[] #[]] 138, cBlk ae [I r_.up, I r_.down, I r_.lo, I r_.hi, B r_.narrow] 58, cBlk am [Pq ag] 112, cMk ([]), cMemI encSpt ai (zaa aa ab ac), cBlk ap [I r0, I r1] 54, cBlk av [I au, I aw] 54] R) [(0, true), (1, true), (2, true), (3, true), (4, true), (5, false)] [(6, 12, 3, [I 0]), (7, 13, 4, [B false])] (.l 8 (.l 9 .nil)) 2 mixed (by decide +kernel) rfl (by intro x hx; simp only [List.mem_cons, List.not_mem_nil, or_false] at hx; rcases hx with rfl | rfl <;> first | exact ⟨_, _, _, rfl, _, Al3, rfl⟩ | exact ⟨_, _, _, rfl, _, Al4, rfl⟩) (by decide) (by decide) H ?_
 refine sa_q (fun ak w_ H => (St.pick H [0, 1, 2, 3, 4, 5, 6, 7] (by decide) rfl)) rfl rfl (fun g_ w' H => x_fa (a := Pq ae) (v := Oq ae 2) rfl (fa_blk (o := 0) Fd58_2 Sz54)) ?_
 refine sa_q (fun ak w_ H => (St.pick H [0, 1, 2, 3, 4, 5, 6, 7] (by decide) rfl)) rfl rfl (fun g_ w' H => x_fa (a := Oq ae 2) (v := Oq ae 2) rfl (fa_blk (o := 2) Fd54_0 Sz3)) ?_
 refine sa_q (fun ak w_ H => (St.pick H [0, 1, 2, 3, 4, 5, 6, 7] (by decide) rfl)) rfl rfl (fun g_ w' H => x_ld (p := Oq ae 2) (v := I r_.lo) rfl (ldb_sc Sc3 (H.bl 2) rfl)) ?_
 refine sa_q (fun ak w_ H => (St.pick H [0, 1, 2, 3, 4, 5, 6, 7] (by decide) rfl)) rfl rfl (fun g_ w' H => x_fa (a := Pq aj) (v := Pq aj) rfl (fa_blk (o := 0) Fd138_0 Sz116)) ?_
 refine sa_q (fun ak w_ H => (St.pick H [0, 1, 2, 3, 4, 5, 6, 7] (by decide) rfl)) rfl rfl (fun g_ w' H => x_ld (p := Pq aj) (v := .func (.func 107) #[] #[]) rfl (ldb_sc Sc116 (H.bl 1) rfl)) ?_
 refine sa_l (fun ak w_ H => (St.pick H [0, 1, 2, 3, 4, 5, 6, 7] (by decide) rfl)) rfl ?_
 intro g_ ak bt H
 replace H : St w bt (cBlk ao [I 0, I 0, I 0, I 0] 61 :: cBlk aj [.func (.func 107) #[] #[]] 138 :: cBlk ae [I r_.up, I r_.down, I r_.lo, I r_.hi, B r_.narrow] 58 :: cBlk am [Pq ag] 112 :: cMk ([]) :: cMemI encSpt ai (zaa aa ab ac) :: cBlk ap [I r0, I r1] 54 :: cBlk av [I au, I aw] 54 :: ak) R := H
 obtain ⟨b4, bu, hM⟩ := M.e_bind hM
 refine s_callv (f := 107) rfl cf107 [I 1, I 0] rfl (zcl 1 0 bu _ (St.give (T := (cBlk ao [I 0, I 0, I 0, I 0] 61 :: cBlk aj [.func (.func 107) #[] #[]] 138 :: cBlk ae [I r_.up, I r_.down, I r_.lo, I r_.hi, B r_.narrow] 58 :: cBlk am [Pq ag] 112 :: cMk ([]) :: cMemI encSpt ai (zaa aa ab ac) :: cBlk ap [I r0, I r1] 54 :: cBlk av [I au, I aw] 54 :: ak)) H rfl)) ?_
 rintro vq bv ⟨r2, bw, hvq, aq⟩
 subst bw
 subst vq
 try dsimp only at hM
 replace H : St w bv (cBlk ao [I 0, I 0, I 0, I 0] 61 :: cBlk aj [.func (.func 107) #[] #[]] 138 :: cBlk ae [I r_.up, I r_.down, I r_.lo, I r_.hi, B r_.narrow] 58 :: cBlk am [Pq ag] 112 :: cMk ([]) :: cMemI encSpt ai (zaa aa ab ac) :: cBlk ap [I r0, I r1] 54 :: cBlk av [I au, I aw] 54 :: ak) R := H.back aq rfl
 clear aq
 refine s_nil ⟨(St.pick H [0, 1, 2, 3, 4, 5, 6, 7] (by decide) rfl), _, [cBlk ao [I 0, I 0, I 0, I 0] 61, cBlk aj [.func (.func 107) #[] #[]] 138, cBlk ae [I r_.up, I r_.down, I r_.lo, I r_.hi, B r_.narrow] 58, cBlk am [Pq ag] 112, cMk ([]), cMemI encSpt ai (zaa aa ab ac), cBlk ap [I r0, I r1] 54, cBlk av [I au, I aw] 54], mix_upd rfl, H, ?_⟩
 refine sa_nil (fun ak w_ H => (St.pick H [0, 1, 2, 3, 4, 5, 6, 7] (by decide) rfl)) ?_
 intro az aA bx H
 replace H : St w bx [cBlk ao [I 0, I 0, I 0, I 0] 61, cBlk aj [.func (.func 107) #[] #[]] 138, cBlk ae [I r_.up, I r_.down, I r_.lo, I r_.hi, B r_.narrow] 58, cBlk am [Pq ag] 112, cMk ([]), cMemI encSpt ai (zaa aa ab ac), cBlk ap [I r0, I r1] 54, cBlk av [I au, I aw] 54, cBlk az [I 0] 3, cBlk aA [B false] 4] R := (H)
 refine t_l rfl ?_
 refine t_sw 8 0 [I r_.lo] (I r_.lo) H rfl rfl Sz3 rfl rfl rfl rfl ?_
 intro b5 H
 refine s_nil ⟨(St.pick H [0, 1, 2, 3, 4, 5, 6, 7] (by decide) rfl), ?_⟩
 refine t_l rfl ?_
 refine t_sw 9 0 [B r2] (B r2) H rfl rfl Sz4 rfl rfl rfl rfl ?_
 intro b6 H
 refine s_nil ⟨(St.pick H [0, 1, 2, 3, 4, 5, 6, 7] (by decide) rfl), ?_⟩
 refine t_nil ?_
 refine WD.seq ?_
 refine WD.seq ?_
 refine WD.of ?_
 refine W.region rfl ?_
 refine s_val (x_ld (p := Pq aA) (v := B r2) rfl (ldb_sc Sc4 (H.bl 9) rfl)) ?_
 refine s_val (x_not (b := r2) rfl) ?_
 refine s_nil ?_
 refine WD.cond (!r2) rfl (fun aU => ?_) (fun aU => ?_)
 ·replace hM := M.e_t hM aU
  exact (M.e_fail hM).elim
 replace hM := M.e_f hM aU
 refine WD.of ?_
 refine W.skip ?_
 refine WD.seq ?_
 refine WD.of ?_
 refine W.region rfl ?_
 refine t_alloc (cs := [I 0, I 0, I 0, I 0]) H Al61 rfl ?_
 intro ax b7 H
 refine s_nil ?_
 refine WD.seq ?_
 refine WD.of ?_
 refine W.region rfl ?_
 refine t_alloc (cs := [I 0]) H Al3 rfl ?_
 intro ay b8 H
 refine t_sw 0 0 [I 0] (I 0) H rfl rfl Sz3 rfl rfl rfl rfl ?_
 intro b9 H
 refine s_nil ?_
 refine WD.seq ?_
 refine WD.seq ?_
 refine WD.of ?_
 refine W.draw (fun W => St w W [cBlk ay [I 0] 3, cBlk ax [I 0, I 0, I 0, I 0] 61, cBlk ao [I 0, I 0, I 0, I 0] 61, cBlk aj [.func (.func 107) #[] #[]] 138, cBlk ae [I r_.up, I r_.down, I r_.lo, I r_.hi, B r_.narrow] 58, cBlk am [Pq ag] 112, cMk ([]), cMemI encSpt ai (zaa aa ab ac), cBlk ap [I r0, I r1] 54, cBlk av [I au, I aw] 54, cBlk az [I r_.lo] 3, cBlk aA [B r2] 4] R) [(0, true), (1, true), (2, true), (3, true), (4, true), (5, true), (6, false), (7, false), (8, true), (9, false)] mixed (by decide +kernel) rfl ?_
 intro cb aJ
 replace H := H.ext aJ
 clear aJ
 refine ⟨(H.pk [0, 1, 2, 3, 4, 5, 6, 7, 8, 9, 10, 11]), ?_⟩
 refine d_q rfl (fun w' H => x_fa (a := Pq av) (v := Pq av) rfl (fa_blk (o := 0) Fd54_0 Sz3)) ?_
 refine d_q rfl (fun w' H => x_ld (p := Pq av) (v := I au) rfl (ldb_sc Sc3 (H.bl 9) rfl)) ?_
 refine d_q rfl (fun w' H => x_fa (a := Pq av) (v := Oq av 1) rfl (fa_blk (o := 0) Fd54_1 Sz3)) ?_
 refine d_q rfl (fun w' H => x_ld (p := Oq av 1) (v := I aw) rfl (ldb_sc Sc3 (H.bl 9) rfl)) ?_
 refine d_q rfl (fun w' H => x_fa (a := Pq ap) (v := Oq ap 1) rfl (fa_blk (o := 0) Fd54_1 Sz3)) ?_
 refine d_q rfl (fun w' H => x_ld (p := Oq ap 1) (v := I r1) rfl (ldb_sc Sc3 (H.bl 8) rfl)) ?_
 refine d_l rfl ?_
 refine t_bs (α := Int) T28 [I r1] [(r1 : Int)] H rfl (.cons rfl (Flat.rep_enc _ (r1 : Int)) <| .nil) rfl rfl rfl ?_
 intro bz cc H
 have cd := Sl.cells (H.os 0)
 have ce := Sl.oc (H.os 0)
 refine s_nil ⟨(H.pk [1, 2, 3, 4, 5, 6, 7, 8, 9, 10, 11, 12]), ?_⟩
 refine d_l rfl ?_
 obtain ⟨cf, bA, hM⟩ := M.e_bind hM
 refine s_call cf73 [I aw, bz] rfl (zce aw ([(r1 : Int)]) (rdo 0) (H.os 0) bA _ (H.gt 13)) ?_
 rintro vq cg ⟨r3, bB, hvq, aq⟩
 subst bB
 subst vq
 try dsimp only at hM
 replace H := H.bk aq
 clear aq
 refine s_nil ⟨(H.pk [1, 2, 3, 4, 5, 6, 7, 8, 9, 10, 11, 12]), ?_⟩
 refine d_q rfl (fun w' H => x_bld (ps := [(0, I au), (1, I r3)]) (zs := [I 0, I 0]) (L' := [I au, I r3]) rfl Tryz.underlying54 Al54 rfl (Bd54 Tryz.underlying54) (.cons (cs := [I au]) rfl rfl rfl rfl rfl <| .cons (cs := [I r3]) rfl rfl rfl rfl rfl <| .nil)) ?_
 refine d_l rfl ?_
 obtain ⟨cj, bC, hM⟩ := M.e_bind hM
 refine s_call cf95 [.agg #[I au, I r3]] rfl (zcy (⟨(au : Int), (r3 : Int)⟩ : Span) bC _ (H.gt 13)) ?_
 rintro vq ck ⟨aC, aD, aE, bD, hvq, aq⟩
 subst bD
 subst vq
 try dsimp only at hM
 replace H := H.bk aq
 clear aq
 refine s_nil ⟨(H.pk [2, 3, 4, 5, 6, 7, 8, 9, 10, 11, 12, 13]), ?_⟩
 refine d_nil ?_
 replace H := H.pk [0, 2, 3, 4, 5, 6, 7, 8, 9, 10, 12, 13]
 refine WD.block ?_
 obtain ⟨cn, bE, hM⟩ := M.e_bind hM
 refine WD.range (L := [cBlk ay [I 0] 3, cBlk ax [I 0, I 0, I 0, I 0] 61, cMemI encSpt ai (zaa aa ab ac), cBlk aE [I aC, I aD] 54, cBlk ao [I 0, I 0, I 0, I 0] 61, cBlk aj [.func (.func 107) #[] #[]] 138, cBlk ae [I r_.up, I r_.down, I r_.lo, I r_.hi, B r_.narrow] 58, cBlk am [Pq ag] 112, cBlk ap [I r0, I r1] 54, cBlk az [I r_.lo] 3, cBlk aA [B r2] 4]) [Pq aE] (H.pk [7, 1, 2, 8, 0, 3, 4, 5, 6, 9, 10, 11]) rfl cf119 ?_
 intro aP aQ aV bF aW H
 have hYC : YieldC Tryz.prog ([cMk (aQ :: ([])), cBlk aE [I aC, I aD] 54, cBlk ao [I 0, I 0, I 0, I 0] 61, cBlk aj [.func (.func 107) #[] #[]] 138, cBlk ae [I r_.up, I r_.down, I r_.lo, I r_.hi, B r_.narrow] 58, cBlk am [Pq ag] 112, cBlk ap [I r0, I r1] 54, cBlk az [I r_.lo] 3, cBlk aA [B r2] 4] ++ R) arI (yJ aP aV (fun (s, s2, s3, s4, s5) aR => aR = [cBlk ay [I s] 3, cBlk ax [I s2, I s3, I s4, I s5] 61, cMemI encSpt ai (zaa aa ab ac)]) (fun (_ : Unit) _ => False) (fun _ => .ret)) (.func (.yield aP) #[] #[]) (M.yl (zaJ aa ab ac r_ r1 r2)) := by
  refine YieldC.mk aW (fun (s, s2, s3, s4, s5) aR => aR = [cBlk ay [I s] 3, cBlk ax [I s2, I s3, I s4, I s5] 61, cMemI encSpt ai (zaa aa ab ac)]) (fun (_ : Unit) _ => False) (fun _ => .ret) (zaJ aa ab ac r_ r1 r2) (by rintro ⟨s, s2, s3, s4, s5⟩ _ h_; obtain ⟨rfl⟩ := h_; rfl) (fun _ _ h_ => h_.elim) rfl (arI_len rfl) ?_
  intro C_ co x W_ bG
  obtain rfl := bG
  refine W.region rfl ?_
  refine zA (I x) rfl ?_
  refine s_nil ?_
  refine ⟨rfl, rfl, ?_⟩
  intro w R aK aR s_ r bH hM H
  obtain ⟨s, s2, s3, s4, s5⟩ := s_
  obtain ⟨rfl⟩ := bH
  replace aF := aF.sub aK
  replace aG := aG.sub aK
  replace aH := aH.sub aK
  replace aI := aI.sub aK
  replace aO := aO.sub aK
  replace hM : (zaJ aa ab ac r_ r1 r2 (s, s2, s3, s4, s5) x).Ends r := hM
  simp only [zaJ] at hM
  replace H := H.pk [0, 1, 2, 4, 5, 6, 7, 8, 9, 10, 11, 3]
  refine W.block ?_
  refine W.seq ?_
  refine W.region rfl ?_
  refine s_val (x_fa (a := Pq ap) (v := Pq ap) rfl (fa_blk (o := 0) Fd54_0 Sz3)) ?_
  refine s_val (x_ld (p := Pq ap) (v := I r0) rfl (ldb_sc Sc3 (H.bl 8) rfl)) ?_
  refine zM (I x) rfl ?_
  refine s_val (x_max (kd := .i64) (a := r0) (b := x) rfl rfl) ?_
  refine zM (I x) rfl ?_
  refine s_val (x_ld (p := Pq az) (v := I r_.lo) rfl (ldb_sc Sc3 (H.bl 9) rfl)) ?_
  refine s_val (x_ld (p := Pq az) (v := I r_.lo) rfl (ldb_sc Sc3 (H.bl 9) rfl)) ?_
  refine s_val (x_bld (ps := [(0, I (max r0 x)), (1, I x), (2, I r_.lo), (3, I r_.lo)]) (zs := [I 0, I 0, I 0, I 0]) (L' := [I (max r0 x), I x, I r_.lo, I r_.lo]) rfl Tryz.underlying61 Al61 rfl (Bd61 Tryz.underlying61) (.cons (cs := [I (max r0 x)]) rfl rfl rfl rfl rfl <| .cons (cs := [I x]) rfl rfl rfl rfl rfl <| .cons (cs := [I r_.lo]) rfl rfl rfl rfl rfl <| .cons (cs := [I r_.lo]) rfl rfl rfl rfl rfl <| .nil)) ?_
  refine t_alloc (cs := [I 0, I 0, I 0, I 0]) H Al61 rfl ?_
  intro aS cp H
  refine t_sw 0 0 [I (max r0 x), I x, I r_.lo, I r_.lo] (.agg #[I (max r0 x), I x, I r_.lo, I r_.lo]) H rfl rfl Sz61 rfl rfl rfl rfl ?_
  intro cq H
  refine s_nil ?_
  refine W.seq ?_
  refine W.seq ?_
  refine W.region rfl ?_
  refine s_val (x_ld (p := Pq aA) (v := B r2) rfl (ldb_sc Sc4 (H.bl 11) rfl)) ?_
  refine s_nil ?_
  refine W.cond r2 rfl (fun aX => ?_) (fun aX => ?_)
  ·replace hM := M.e_t hM aX
   refine W.region rfl ?_
   refine s_val (x_fa (a := Pq ap) (v := Oq ap 1) rfl (fa_blk (o := 0) Fd54_1 Sz3)) ?_
   refine s_val (x_ld (p := Oq ap 1) (v := I r1) rfl (ldb_sc Sc3 (H.bl 9) rfl)) ?_
   refine s_val (x_fa (a := Pq aS) (v := Pq aS) rfl (fa_blk (o := 0) Fd61_0 Sz3)) ?_
   refine t_sw 0 0 [I r1] (I r1) H rfl rfl Sz3 rfl rfl rfl rfl ?_
   intro cr H
   refine s_nil ?_
   refine W.seq ?_
   refine W.region rfl ?_
   refine s_val (x_ld (p := Pq am) (v := Pq ag) rfl (ldb_sc Sc112 (H.bl 8) rfl)) ?_
   refine s_val (x_ld (p := Pq ae) (v := .agg #[I r_.up, I r_.down, I r_.lo, I r_.hi, B r_.narrow]) rfl (ldb_ag (ds := [I r_.up, I r_.down, I r_.lo, I r_.hi, B r_.narrow]) Ag58 Sz58 (H.bl 7) rfl rfl)) ?_
   refine s_val (x_ld (p := Pq aS) (v := .agg #[I r1, I x, I r_.lo, I r_.lo]) rfl (ldb_ag (ds := [I r1, I x, I r_.lo, I r_.lo]) Ag61 Sz61 (H.bl 0) rfl rfl)) ?_
   obtain ⟨ct, bI, hM⟩ := M.e_bind hM
   refine s_call cf72 [Pq ag, .agg #[I r_.up, I r_.down, I r_.lo, I r_.hi, B r_.narrow], .agg #[I r1, I x, I r_.lo, I r_.lo]] rfl (zcg aa ab ac r_ (⟨(r1 : Int), (x : Int), (r_.lo : Int), (r_.lo : Int)⟩ : Cas) (aF.app _) aL (aG.app _) aM (aH.app _) aN (aI.app _) bI _ ((H.pk [3, 0, 1, 2, 4, 5, 6, 7, 8, 9, 10, 11, 12]).gt 12)) ?_
   rintro vq cu ⟨r4, bJ, hvq, aq⟩
   subst bJ
   subst vq
   try dsimp only at hM
   replace H := H.pk [3, 0, 1, 2, 4, 5, 6, 7, 8, 9, 10, 11, 12] |>.bk aq
   clear aq
   refine zA (I r4) rfl ?_
   refine s_nil ?_
   refine W.seq ?_
   refine W.region rfl ?_
   refine s_val (x_ld (p := Pq ax) (v := .agg #[I s2, I s3, I s4, I s5]) rfl (ldb_ag (ds := [I s2, I s3, I s4, I s5]) Ag61 Sz61 (H.bl 3) rfl rfl)) ?_
   refine s_val (x_bld (ps := []) (zs := [I 0, I 0, I 0, I 0]) (L' := [I 0, I 0, I 0, I 0]) rfl Tryz.underlying61 Al61 rfl (Bd61 Tryz.underlying61) (.nil)) ?_
   refine s_val (x_eqS (eqT61 (⟨(s2 : Int), (s3 : Int), (s4 : Int), (s5 : Int)⟩ : Cas) (⟨(0 : Int), (0 : Int), (0 : Int), (0 : Int)⟩ : Cas) _) gdT61 rfl rfl) ?_
   refine zM (B (decide ((⟨(s2 : Int), (s3 : Int), (s4 : Int), (s5 : Int)⟩ : Cas) = (⟨(0 : Int), (0 : Int), (0 : Int), (0 : Int)⟩ : Cas)))) rfl ?_
   refine g_val (!(decide ((⟨(s2 : Int), (s3 : Int), (s4 : Int), (s5 : Int)⟩ : Cas) = (⟨(0 : Int), (0 : Int), (0 : Int), (0 : Int)⟩ : Cas)))) (gy_f rfl) (fun hg => x_fa (a := Pq aj) (v := Pq aj) rfl (fa_blk (o := 0) Fd138_0 Sz116)) ?_
   refine g_val (!(decide ((⟨(s2 : Int), (s3 : Int), (s4 : Int), (s5 : Int)⟩ : Cas) = (⟨(0 : Int), (0 : Int), (0 : Int), (0 : Int)⟩ : Cas)))) (gy_f rfl) (fun hg => x_ld (p := Pq aj) (v := .func (.func 107) #[] #[]) (gd_of (c := !(decide ((⟨(s2 : Int), (s3 : Int), (s4 : Int), (s5 : Int)⟩ : Cas) = (⟨(0 : Int), (0 : Int), (0 : Int), (0 : Int)⟩ : Cas)))) hg (Pq aj)) (ldb_sc Sc116 (H.bl 6) rfl)) ?_
   refine g_val (!(decide ((⟨(s2 : Int), (s3 : Int), (s4 : Int), (s5 : Int)⟩ : Cas) = (⟨(0 : Int), (0 : Int), (0 : Int), (0 : Int)⟩ : Cas)))) (gy_f rfl) (fun hg => x_mv (v := I r4) rfl) ?_
   refine g_val (!(decide ((⟨(s2 : Int), (s3 : Int), (s4 : Int), (s5 : Int)⟩ : Cas) = (⟨(0 : Int), (0 : Int), (0 : Int), (0 : Int)⟩ : Cas)))) (gy_f rfl) (fun hg => x_ld (p := Pq ay) (v := I s) rfl (ldb_sc Sc3 (H.bl 2) rfl)) ?_
   obtain ⟨r5, bK, hM⟩ := M.e_bind hM
   refine t_gcallv (cap := []) (!(decide ((⟨(s2 : Int), (s3 : Int), (s4 : Int), (s5 : Int)⟩ : Cas) = (⟨(0 : Int), (0 : Int), (0 : Int), (0 : Int)⟩ : Cas)))) (gy_f rfl) cf107 (fun hg => (gd_of (c := !(decide ((⟨(s2 : Int), (s3 : Int), (s4 : Int), (s5 : Int)⟩ : Cas) = (⟨(0 : Int), (0 : Int), (0 : Int), (0 : Int)⟩ : Cas)))) hg (.func (.func 107) #[] #[]))) (B r5) (fun _ => [I r4, I s]) (fun hg => lst2 (gd_of (c := !(decide ((⟨(s2 : Int), (s3 : Int), (s4 : Int), (s5 : Int)⟩ : Cas) = (⟨(0 : Int), (0 : Int), (0 : Int), (0 : Int)⟩ : Cas)))) hg (I r4)) (gd_of (c := !(decide ((⟨(s2 : Int), (s3 : Int), (s4 : Int), (s5 : Int)⟩ : Cas) = (⟨(0 : Int), (0 : Int), (0 : Int), (0 : Int)⟩ : Cas)))) hg (I s))) H (fun hg => (zcl r4 s (M.e_opt bK hg) _ (H.give (A := []) rfl)).mono fun v_ w_ ⟨y_, aY, bL, H_⟩ => by subst aY; exact ⟨bL, H.via H_⟩) ?_
   intro cv H
   refine s_val (x_por (b := decide ((⟨(s2 : Int), (s3 : Int), (s4 : Int), (s5 : Int)⟩ : Cas) = (⟨(0 : Int), (0 : Int), (0 : Int), (0 : Int)⟩ : Cas))) (r := r5) rfl rfl (fun hb => gd_of (c := !(decide ((⟨(s2 : Int), (s3 : Int), (s4 : Int), (s5 : Int)⟩ : Cas) = (⟨(0 : Int), (0 : Int), (0 : Int), (0 : Int)⟩ : Cas)))) (by first | exact hb | (rw [hb]; rfl) | simp_all) (B r5))) ?_
   refine s_nil ?_
   refine W.cond ((decide ((⟨(s2 : Int), (s3 : Int), (s4 : Int), (s5 : Int)⟩ : Cas) = (⟨(0 : Int), (0 : Int), (0 : Int), (0 : Int)⟩ : Cas))) || r5) rfl (fun aZ => ?_) (fun aZ => ?_)
   ·replace hM := M.e_t hM aZ
    refine W.region rfl ?_
    refine s_val (x_ld (p := Pq aS) (v := .agg #[I r1, I x, I r_.lo, I r_.lo]) rfl (ldb_ag (ds := [I r1, I x, I r_.lo, I r_.lo]) Ag61 Sz61 (H.bl 1) rfl rfl)) ?_
    refine zM (I r4) rfl ?_
    refine t_sw 3 0 [I r1, I x, I r_.lo, I r_.lo] (.agg #[I r1, I x, I r_.lo, I r_.lo]) H rfl rfl Sz61 rfl rfl rfl rfl ?_
    intro cw H
    refine t_sw 2 0 [I r4] (I r4) H rfl rfl Sz3 rfl rfl rfl rfl ?_
    intro cx H
    refine s_nil ?_
    exact ⟨(r4, r1, x, r_.lo, r_.lo), [cBlk ay [I r4] 3, cBlk ax [I r1, I x, I r_.lo, I r_.lo] 61, cMemI encSpt ai (zaa aa ab ac)], (M.e_pure hM).symm, rfl, H.pick [2, 3, 0, 12, 4, 5, 6, 7, 8, 9, 10, 11] (by decide) rfl⟩
   replace hM := M.e_f hM aZ
   refine W.skip ?_
   exact ⟨(s, s2, s3, s4, s5), [cBlk ay [I s] 3, cBlk ax [I s2, I s3, I s4, I s5] 61, cMemI encSpt ai (zaa aa ab ac)], (M.e_pure hM).symm, rfl, H.pick [2, 3, 0, 12, 4, 5, 6, 7, 8, 9, 10, 11] (by decide) rfl⟩
  replace hM := M.e_f hM aX
  exact (M.e_fail hM).elim
 replace H : St w bF (cAll (cObj aP (.loop aV) :: [cBlk ay [I 0] 3, cBlk ax [I 0, I 0, I 0, I 0] 61, cMemI encSpt ai (zaa aa ab ac)]) :: [cMk (aQ :: ([])), cBlk aE [I aC, I aD] 54, cBlk ao [I 0, I 0, I 0, I 0] 61, cBlk aj [.func (.func 107) #[] #[]] 138, cBlk ae [I r_.up, I r_.down, I r_.lo, I r_.hi, B r_.narrow] 58, cBlk am [Pq ag] 112, cBlk ap [I r0, I r1] 54, cBlk az [I r_.lo] 3, cBlk aA [B r2] 4]) R := St.bundleB (A := cObj aP (.loop aV) :: [cBlk ay [I 0] 3, cBlk ax [I 0, I 0, I 0, I 0] 61, cMemI encSpt ai (zaa aa ab ac)]) (T := [cMk (aQ :: ([])), cBlk aE [I aC, I aD] 54, cBlk ao [I 0, I 0, I 0, I 0] 61, cBlk aj [.func (.func 107) #[] #[]] 138, cBlk ae [I r_.up, I r_.down, I r_.lo, I r_.hi, B r_.narrow] 58, cBlk am [Pq ag] 112, cBlk ap [I r0, I r1] 54, cBlk az [I r_.lo] 3, cBlk aA [B r2] 4]) rfl (H.pk [0, 2, 3, 4, 1, 5, 6, 7, 8, 9, 10, 11, 12])
 refine (zcn (M.yl (zaJ aa ab ac r_ r1 r2)) (.inl (0, 0, 0, 0, 0)) aC aD hYC ⟨_, rfl, rfl⟩ (Has.here (k := 1) rfl) bE _ (H.gt 9)).mono ?_
 rintro vq cy ⟨bM, cz, bN, hvq, aq, bg⟩
 subst bN
 replace H := H.back aq rfl
 clear aq hYC
 rcases bM with ⟨s, s2, s3, s4, s5⟩ | _
 ·try dsimp only at hM
  obtain ⟨_, rfl, rfl⟩ := bg
  refine ⟨_, [cBlk ay [I s] 3, cBlk ax [I s2, I s3, I s4, I s5] 61, cMemI encSpt ai (zaa aa ab ac), cBlk aE [I aC, I aD] 54, cBlk ao [I 0, I 0, I 0, I 0] 61, cBlk aj [.func (.func 107) #[] #[]] 138, cBlk ae [I r_.up, I r_.down, I r_.lo, I r_.hi, B r_.narrow] 58, cBlk am [Pq ag] 112, cBlk ap [I r0, I r1] 54, cBlk az [I r_.lo] 3, cBlk aA [B r2] 4], H.unbundle.pick [0, 4, 1, 2, 3, 5, 6, 7, 8, 9, 10, 11, 12] (by decide) rfl, aW.nb, ?_⟩
  intro cA H
  rw [aW.pd]
  replace H := H.nf
  try simp only []
  replace H := H.pk [0, 1, 2, 3, 5]
  refine WD.seq ?_
  refine WD.of ?_
  refine W.draw (fun W => St w W [cMk (aQ :: ([])), cBlk ay [I s] 3, cBlk ax [I s2, I s3, I s4, I s5] 61, cMemI encSpt ai (zaa aa ab ac)] R) [(0, true), (1, true), (2, false), (3, true)] mixed (by decide +kernel) rfl ?_
  intro cB aJ
  replace H := H.ext aJ
  clear aJ
  refine ⟨(H.pk [0, 1, 2, 3]), ?_⟩
  refine d_q rfl (fun w' H => x_ld (p := Pq ax) (v := .agg #[I s2, I s3, I s4, I s5]) rfl (ldb_ag (ds := [I s2, I s3, I s4, I s5]) Ag61 Sz61 (H.bl 2) rfl rfl)) ?_
  refine d_q rfl (fun w' H => x_ld (p := Pq ay) (v := I s) rfl (ldb_sc Sc3 (H.bl 1) rfl)) ?_
  refine d_l rfl ?_
  refine t_sw 4 0 [I s2, I s3, I s4, I s5] (.agg #[I s2, I s3, I s4, I s5]) H rfl rfl Sz61 rfl rfl rfl rfl ?_
  intro cC H
  refine s_nil ⟨(H.pk [0, 1, 2, 3]), ?_⟩
  refine d_q rfl (fun w' H => x_as (v := I s) rfl) ?_
  refine d_nil ?_
  replace H := H.pk [0, 3, 4]
  refine WD.of ?_
  refine W.ret ?_
  refine bodyD_r (H.pk [0, 1, 2]) ?_
  intro cD H
  replace H := H.nf
  have bO := (H.bl 1)
  have aY := M.e_pure hM
  exact ⟨_, (resE_ofn (vs := [.agg #[I s2, I s3, I s4, I s5], I s]) rfl rfl (.cell (v := .agg #[I s2, I s3, I s4, I s5]) rfl (run_loadVar_ag (ds := [I s2, I s3, I s4, I s5]) Ag61 Sz61 bO rfl rfl) <| .tmp (v := I s) rfl <| .nil)), ⟨s2, s3, s4, s5, s, aY, rfl, (H.pk [0])⟩⟩
 obtain ⟨_, _, h_⟩ := bg; exact h_.elim

def zcr (aa : List Sect) (ab : List Mrk) (ac : List Rch) (marks : List Int) (r_ : Rch) : M (Int × Int) :=
  M.bind (zcD) fun (_ : Unit) =>
  M.bind (zca aa ab ac marks r_) fun (ag, ai, aj, ak, r1) =>
  M.bind (zcw) fun (_ : Unit) =>
  M.bind (zb4 aa ab ac marks r_) fun (am, ao, ap, aq, ae) =>
  M.pure (r1, ae)
theorem zcZ {R : List Chunk} {ap : Nat} {aN : Cells} {aO : Value} {aP : Cells} {aQ : Value} {aR : Cells} {aS : Value} {aM : Nat} {aT : Cells} {aq : Value} (av : List Sect) (aw : List Mrk) (ax : List Rch) (marks : List Int) (r_ : Rch) (ay : Reads R aN) (az : Sl aN aO av) (aA : Reads R aP) (aB : Sl aP aQ aw) (aC : Reads R aR) (aD : Sl aR aS ax) (aE : Has R (cBlk ap [aO, aQ, aS, .map (some aM)] 177)) (aF : Reads R aT) (aG : Sl aT aq marks) {r : (Int × Int)} (hM : (zcr av aw ax marks r_).Ends r) (w : World) (H : St w w [cMemI encSpt aM (zaa av aw ax)] R) : Ret Tryz.prog 66 #[Pq ap, aq, .agg #[I r_.up, I r_.down, I r_.lo, I r_.hi, B r_.narrow]] w fun v w' => ∃ (y0 : Int) (y1 : Int), (y0, y1) = r /\ v = .agg #[I y0, I y1] /\ St w w' [cMemI encSpt aM (zaa av aw ax)] R := by
 refine ret_of_W Tryz.func66 rfl rfl rfl ?_
 refine W.seq ?_
 refine W.region rfl ?_
 refine t_box (v := .agg #[I r_.up, I r_.down, I r_.lo, I r_.hi, B r_.narrow]) (cs := [I r_.up, I r_.down, I r_.lo, I r_.hi, B r_.narrow]) H rfl rfl ?_
 intro aI bU H
 refine t_alloc (cs := [I 0, I 0]) H Al54 rfl ?_
 intro aL bV H
 refine s_nil ?_
 refine W.seq ?_
 refine W.drawT (fun W => St w W [cBlk aL [I 0, I 0] 54, cBlk aI [I r_.up, I r_.down, I r_.lo, I r_.hi, B r_.narrow] 58] R) (.q 0 (.q 1 (.q 2 (.l2 3 (.l2 4 (.q 5 (.q 6 (.q 7 (.l 8 (.l 9 (.q 10 .nil)))))) 8 (.l 4 (.q 5 (.q 6 (.q 7 (.l 9 (.q 10 .nil))))))) 8 (.l 3 (.l 4 (.q 5 (.q 6 (.q 7 (.l 9 (.q 10 .nil))))))))))) mixed (by decide +kernel) rfl ?_
 intro bW aH
 replace H := H.ext aH
 clear aH
 refine ⟨(H.pk [0, 1]), ?_⟩
 refine t_q rfl (fun w' H => x_mv (v := Pq ap) rfl) ?_
 refine t_q rfl (fun w' H => x_mv (v := aq) rfl) ?_
 refine t_q rfl (fun w' H => x_ld (p := Pq aI) (v := .agg #[I r_.up, I r_.down, I r_.lo, I r_.hi, B r_.narrow]) rfl (ldb_ag (ds := [I r_.up, I r_.down, I r_.lo, I r_.hi, B r_.narrow]) Ag58 Sz58 (H.bl 1) rfl rfl)) ?_
 refine t_l2 rfl rfl ?_ ?_
 ·skip
  obtain ⟨bX, aU, hM⟩ := M.e_bind hM
  refine s_call cf67 [] rfl (zcx aU _ (H.gt 3)) ?_
  rintro vq bY ⟨aV, hvq, ai⟩
  subst aV
  subst vq
  try dsimp only at hM
  replace H := H.bk ai
  clear ai
  refine s_nil ⟨(H.pk [0, 1]), ?_⟩
  refine t_l2 rfl rfl ?_ ?_
  ·skip
   obtain ⟨bZ, aW, hM⟩ := M.e_bind hM
   refine s_call cf69 [Pq ap, aq, .agg #[I r_.up, I r_.down, I r_.lo, I r_.hi, B r_.narrow], .agg #[.func (.func 106) #[] #[]]] rfl (zb1 av aw ax marks r_ (ay.app _) az (aA.app _) aB (aC.app _) aD (aE.app _) (aF.app _) aG aW _ ((H.pk [2, 0, 1]).gt 2)) ?_
   rintro vq b3 ⟨aj, ak, am, ao, r1, aX, hvq, ai⟩
   subst aX
   subst vq
   try dsimp only at hM
   replace H := H.pk [2, 0, 1] |>.bk ai
   clear ai
   refine s_nil ⟨(H.pk [1, 2]), ?_⟩
   refine t_q rfl (fun w' H => x_mv (v := .tuple #[.agg #[I aj, I ak, I am, I ao], I r1]) rfl) ?_
   refine t_q rfl (fun w' H => x_ext (vs := [.agg #[I aj, I ak, I am, I ao], I r1]) (v := .agg #[I aj, I ak, I am, I ao]) rfl rfl) ?_
   refine t_q rfl (fun w' H => x_ext (vs := [.agg #[I aj, I ak, I am, I ao], I r1]) (v := I r1) rfl rfl) ?_
   refine t_l rfl ?_
   refine t_alloc (cs := [I 0, I 0, I 0, I 0]) H Al61 rfl ?_
   intro aK b4 H
   refine s_nil ⟨(H.pk [2, 3]), ?_⟩
   refine t_l rfl ?_
   refine t_sw 0 0 [I aj, I ak, I am, I ao] (.agg #[I aj, I ak, I am, I ao]) H rfl rfl Sz61 rfl rfl rfl rfl ?_
   intro b5 H
   refine s_nil ⟨(H.pk [2, 3]), ?_⟩
   refine t_q rfl (fun w' H => x_as (v := I r1) rfl) ?_
   refine t_nil ?_
   refine W.seq ?_
   refine W.drawT (fun W => St w W [cBlk aK [I aj, I ak, I am, I ao] 61, cBlk aL [I 0, I 0] 54, cBlk aI [I r_.up, I r_.down, I r_.lo, I r_.hi, B r_.narrow] 58] R) (.q 0 (.q 1 (.q 2 (.l2 3 (.l2 4 (.q 5 (.q 6 (.q 7 (.l 8 (.l 9 (.q 10 .nil)))))) 8 (.l 4 (.q 5 (.q 6 (.q 7 (.l 9 (.q 10 .nil))))))) 8 (.l 3 (.l 4 (.q 5 (.q 6 (.q 7 (.l 9 (.q 10 .nil))))))))))) mixed (by decide +kernel) rfl ?_
   intro b6 aH
   replace H := H.ext aH
   clear aH
   refine ⟨(H.pk [0, 2, 3]), ?_⟩
   refine t_q rfl (fun w' H => x_mv (v := Pq ap) rfl) ?_
   refine t_q rfl (fun w' H => x_mv (v := aq) rfl) ?_
   refine t_q rfl (fun w' H => x_ld (p := Pq aI) (v := .agg #[I r_.up, I r_.down, I r_.lo, I r_.hi, B r_.narrow]) rfl (ldb_ag (ds := [I r_.up, I r_.down, I r_.lo, I r_.hi, B r_.narrow]) Ag58 Sz58 (H.bl 2) rfl rfl)) ?_
   refine t_l2 rfl rfl ?_ ?_
   ·skip
    obtain ⟨b7, aY, hM⟩ := M.e_bind hM
    refine s_call cf68 [] rfl (zaz aY _ (H.gt 4)) ?_
    rintro vq b8 ⟨aZ, hvq, ai⟩
    subst aZ
    subst vq
    try dsimp only at hM
    replace H := H.bk ai
    clear ai
    refine s_nil ⟨(H.pk [0, 2, 3]), ?_⟩
    refine t_l2 rfl rfl ?_ ?_
    ·skip
     obtain ⟨b9, a6, hM⟩ := M.e_bind hM
     refine s_call cf69 [Pq ap, aq, .agg #[I r_.up, I r_.down, I r_.lo, I r_.hi, B r_.narrow], .agg #[.func (.func 107) #[] #[]]] rfl (zaj av aw ax marks r_ (ay.app _) az (aA.app _) aB (aC.app _) aD (aE.app _) (aF.app _) aG a6 _ ((H.pk [1, 0, 2, 3]).gt 3)) ?_
     rintro vq cb ⟨ab, ac, ae, ag, aa, a7, hvq, ai⟩
     subst a7
     subst vq
     try dsimp only at hM
     replace H := H.pk [1, 0, 2, 3] |>.bk ai
     clear ai
     refine s_nil ⟨(H.pk [1, 2, 3]), ?_⟩
     refine t_q rfl (fun w' H => x_mv (v := .tuple #[.agg #[I ab, I ac, I ae, I ag], I aa]) rfl) ?_
     refine t_q rfl (fun w' H => x_ext (vs := [.agg #[I ab, I ac, I ae, I ag], I aa]) (v := .agg #[I ab, I ac, I ae, I ag]) rfl rfl) ?_
     refine t_q rfl (fun w' H => x_ext (vs := [.agg #[I ab, I ac, I ae, I ag], I aa]) (v := I aa) rfl rfl) ?_
     refine t_l rfl ?_
     refine t_alloc (cs := [I 0, I 0, I 0, I 0]) H Al61 rfl ?_
     intro aJ cc H
     refine s_nil ⟨(H.pk [2, 3, 4]), ?_⟩
     refine t_l rfl ?_
     refine t_sw 0 0 [I ab, I ac, I ae, I ag] (.agg #[I ab, I ac, I ae, I ag]) H rfl rfl Sz61 rfl rfl rfl rfl ?_
     intro cd H
     refine s_nil ⟨(H.pk [2, 3, 4]), ?_⟩
     refine t_q rfl (fun w' H => x_as (v := I aa) rfl) ?_
     refine t_nil ?_
     replace H := H.pk [1, 3]
     refine W.seq ?_
     refine W.region rfl ?_
     refine zM (I r1) rfl ?_
     refine zM (I aa) rfl ?_
     refine s_val (x_bld (ps := [(0, I r1), (1, I aa)]) (zs := [I 0, I 0]) (L' := [I r1, I aa]) rfl Tryz.underlying54 Al54 rfl (Bd54 Tryz.underlying54) (.cons (cs := [I r1]) rfl rfl rfl rfl rfl <| .cons (cs := [I aa]) rfl rfl rfl rfl rfl <| .nil)) ?_
     refine t_sw 1 0 [I r1, I aa] (.agg #[I r1, I aa]) H rfl rfl Sz54 rfl rfl rfl rfl ?_
     intro ce H
     refine s_nil ?_
     refine W.ret ?_
     have a8 := (H.bl 1)
     have au := M.e_pure hM
     exact ⟨_, (resE_of1 (v := .agg #[I r1, I aa]) rfl (.cell (v := .agg #[I r1, I aa]) rfl (run_loadVar_ag (ds := [I r1, I aa]) Ag54 Sz54 a8 rfl rfl) <| .nil)), ⟨r1, aa, au, rfl, (H.pk [0])⟩⟩
    skip
    refine t_alloc (cs := [I 0, I 0, I 0, I 0]) H Al61 rfl ?_
    intro aJ cf H
    refine s_nil ⟨(H.pk [1, 3, 4]), ?_⟩
    refine t_l rfl ?_
    obtain ⟨cg, ba, hM⟩ := M.e_bind hM
    refine s_call cf69 [Pq ap, aq, .agg #[I r_.up, I r_.down, I r_.lo, I r_.hi, B r_.narrow], .agg #[.func (.func 107) #[] #[]]] rfl (zaj av aw ax marks r_ (ay.app _) az (aA.app _) aB (aC.app _) aD (aE.app _) (aF.app _) aG ba _ ((H.pk [2, 0, 1, 3, 4]).gt 4)) ?_
    rintro vq cj ⟨ab, ac, ae, ag, aa, bb, hvq, ai⟩
    subst bb
    subst vq
    try dsimp only at hM
    replace H := H.pk [2, 0, 1, 3, 4] |>.bk ai
    clear ai
    refine s_nil ⟨(H.pk [2, 3, 4]), ?_⟩
    refine t_q rfl (fun w' H => x_mv (v := .tuple #[.agg #[I ab, I ac, I ae, I ag], I aa]) rfl) ?_
    refine t_q rfl (fun w' H => x_ext (vs := [.agg #[I ab, I ac, I ae, I ag], I aa]) (v := .agg #[I ab, I ac, I ae, I ag]) rfl rfl) ?_
    refine t_q rfl (fun w' H => x_ext (vs := [.agg #[I ab, I ac, I ae, I ag], I aa]) (v := I aa) rfl rfl) ?_
    refine t_l rfl ?_
    refine t_sw 1 0 [I ab, I ac, I ae, I ag] (.agg #[I ab, I ac, I ae, I ag]) H rfl rfl Sz61 rfl rfl rfl rfl ?_
    intro ck H
    refine s_nil ⟨(H.pk [2, 3, 4]), ?_⟩
    refine t_q rfl (fun w' H => x_as (v := I aa) rfl) ?_
    refine t_nil ?_
    replace H := H.pk [0, 3]
    refine W.seq ?_
    refine W.region rfl ?_
    refine zM (I r1) rfl ?_
    refine zM (I aa) rfl ?_
    refine s_val (x_bld (ps := [(0, I r1), (1, I aa)]) (zs := [I 0, I 0]) (L' := [I r1, I aa]) rfl Tryz.underlying54 Al54 rfl (Bd54 Tryz.underlying54) (.cons (cs := [I r1]) rfl rfl rfl rfl rfl <| .cons (cs := [I aa]) rfl rfl rfl rfl rfl <| .nil)) ?_
    refine t_sw 1 0 [I r1, I aa] (.agg #[I r1, I aa]) H rfl rfl Sz54 rfl rfl rfl rfl ?_
    intro cn H
    refine s_nil ?_
    refine W.ret ?_
    have bc := (H.bl 1)
    have au := M.e_pure hM
    exact ⟨_, (resE_of1 (v := .agg #[I r1, I aa]) rfl (.cell (v := .agg #[I r1, I aa]) rfl (run_loadVar_ag (ds := [I r1, I aa]) Ag54 Sz54 bc rfl rfl) <| .nil)), ⟨r1, aa, au, rfl, (H.pk [0])⟩⟩
   skip
   refine t_alloc (cs := [I 0, I 0, I 0, I 0]) H Al61 rfl ?_
   intro aJ co H
   refine s_nil ⟨(H.pk [1, 3, 4]), ?_⟩
   refine t_l rfl ?_
   obtain ⟨cp, bf, hM⟩ := M.e_bind hM
   refine s_call cf68 [] rfl (zaz bf _ (H.gt 5)) ?_
   rintro vq cq ⟨bg, hvq, ai⟩
   subst bg
   subst vq
   try dsimp only at hM
   replace H := H.bk ai
   clear ai
   refine s_nil ⟨(H.pk [1, 3, 4]), ?_⟩
   refine t_l rfl ?_
   obtain ⟨cr, bh, hM⟩ := M.e_bind hM
   refine s_call cf69 [Pq ap, aq, .agg #[I r_.up, I r_.down, I r_.lo, I r_.hi, B r_.narrow], .agg #[.func (.func 107) #[] #[]]] rfl (zaj av aw ax marks r_ (ay.app _) az (aA.app _) aB (aC.app _) aD (aE.app _) (aF.app _) aG bh _ ((H.pk [2, 0, 1, 3, 4]).gt 4)) ?_
   rintro vq ct ⟨ab, ac, ae, ag, aa, bi, hvq, ai⟩
   subst bi
   subst vq
   try dsimp only at hM
   replace H := H.pk [2, 0, 1, 3, 4] |>.bk ai
   clear ai
   refine s_nil ⟨(H.pk [2, 3, 4]), ?_⟩
   refine t_q rfl (fun w' H => x_mv (v := .tuple #[.agg #[I ab, I ac, I ae, I ag], I aa]) rfl) ?_
   refine t_q rfl (fun w' H => x_ext (vs := [.agg #[I ab, I ac, I ae, I ag], I aa]) (v := .agg #[I ab, I ac, I ae, I ag]) rfl rfl) ?_
   refine t_q rfl (fun w' H => x_ext (vs := [.agg #[I ab, I ac, I ae, I ag], I aa]) (v := I aa) rfl rfl) ?_
   refine t_l rfl ?_
   refine t_sw 1 0 [I ab, I ac, I ae, I ag] (.agg #[I ab, I ac, I ae, I ag]) H rfl rfl Sz61 rfl rfl rfl rfl ?_
   intro cu H
   refine s_nil ⟨(H.pk [2, 3, 4]), ?_⟩
   refine t_q rfl (fun w' H => x_as (v := I aa) rfl) ?_
   refine t_nil ?_
   replace H := H.pk [0, 3]
   refine W.seq ?_
   refine W.region rfl ?_
   refine zM (I r1) rfl ?_
   refine zM (I aa) rfl ?_
   refine s_val (x_bld (ps := [(0, I r1), (1, I aa)]) (zs := [I 0, I 0]) (L' := [I r1, I aa]) rfl Tryz.underlying54 Al54 rfl (Bd54 Tryz.underlying54) (.cons (cs := [I r1]) rfl rfl rfl rfl rfl <| .cons (cs := [I aa]) rfl rfl rfl rfl rfl <| .nil)) ?_
   refine t_sw 1 0 [I r1, I aa] (.agg #[I r1, I aa]) H rfl rfl Sz54 rfl rfl rfl rfl ?_
   intro cv H
   refine s_nil ?_
   refine W.ret ?_
   have bj := (H.bl 1)
   have au := M.e_pure hM
   exact ⟨_, (resE_of1 (v := .agg #[I r1, I aa]) rfl (.cell (v := .agg #[I r1, I aa]) rfl (run_loadVar_ag (ds := [I r1, I aa]) Ag54 Sz54 bj rfl rfl) <| .nil)), ⟨r1, aa, au, rfl, (H.pk [0])⟩⟩
  skip
  refine t_alloc (cs := [I 0, I 0, I 0, I 0]) H Al61 rfl ?_
  intro aK cw H
  refine s_nil ⟨(H.pk [1, 2]), ?_⟩
  refine t_l rfl ?_
  obtain ⟨cx, bm, hM⟩ := M.e_bind hM
  refine s_call cf69 [Pq ap, aq, .agg #[I r_.up, I r_.down, I r_.lo, I r_.hi, B r_.narrow], .agg #[.func (.func 106) #[] #[]]] rfl (zb1 av aw ax marks r_ (ay.app _) az (aA.app _) aB (aC.app _) aD (aE.app _) (aF.app _) aG bm _ ((H.pk [3, 0, 1, 2]).gt 3)) ?_
  rintro vq cy ⟨aj, ak, am, ao, r1, bn, hvq, ai⟩
  subst bn
  subst vq
  try dsimp only at hM
  replace H := H.pk [3, 0, 1, 2] |>.bk ai
  clear ai
  refine s_nil ⟨(H.pk [2, 3]), ?_⟩
  refine t_q rfl (fun w' H => x_mv (v := .tuple #[.agg #[I aj, I ak, I am, I ao], I r1]) rfl) ?_
  refine t_q rfl (fun w' H => x_ext (vs := [.agg #[I aj, I ak, I am, I ao], I r1]) (v := .agg #[I aj, I ak, I am, I ao]) rfl rfl) ?_
  refine t_q rfl (fun w' H => x_ext (vs := [.agg #[I aj, I ak, I am, I ao], I r1]) (v := I r1) rfl rfl) ?_
  refine t_l rfl ?_
  refine t_sw 1 0 [I aj, I ak, I am, I ao] (.agg #[I aj, I ak, I am, I ao]) H rfl rfl Sz61 rfl rfl rfl rfl ?_
  intro cz H
  refine s_nil ⟨(H.pk [2, 3]), ?_⟩
  refine t_q rfl (fun w' H => x_as (v := I r1) rfl) ?_
  refine t_nil ?_
  refine W.seq ?_
  refine W.drawT (fun W => St w W [cBlk aK [I aj, I ak, I am, I ao] 61, cBlk aL [I 0, I 0] 54, cBlk aI [I r_.up, I r_.down, I r_.lo, I r_.hi, B r_.narrow] 58] R) (.q 0 (.q 1 (.q 2 (.l2 3 (.l2 4 (.q 5 (.q 6 (.q 7 (.l 8 (.l 9 (.q 10 .nil)))))) 8 (.l 4 (.q 5 (.q 6 (.q 7 (.l 9 (.q 10 .nil))))))) 8 (.l 3 (.l 4 (.q 5 (.q 6 (.q 7 (.l 9 (.q 10 .nil))))))))))) mixed (by decide +kernel) rfl ?_
  intro cA aH
  replace H := H.ext aH
  clear aH
  refine ⟨(H.pk [1, 2, 3]), ?_⟩
  refine t_q rfl (fun w' H => x_mv (v := Pq ap) rfl) ?_
  refine t_q rfl (fun w' H => x_mv (v := aq) rfl) ?_
  refine t_q rfl (fun w' H => x_ld (p := Pq aI) (v := .agg #[I r_.up, I r_.down, I r_.lo, I r_.hi, B r_.narrow]) rfl (ldb_ag (ds := [I r_.up, I r_.down, I r_.lo, I r_.hi, B r_.narrow]) Ag58 Sz58 (H.bl 2) rfl rfl)) ?_
  refine t_l2 rfl rfl ?_ ?_
  ·skip
   obtain ⟨cB, bo, hM⟩ := M.e_bind hM
   refine s_call cf68 [] rfl (zaz bo _ (H.gt 4)) ?_
   rintro vq cC ⟨bp, hvq, ai⟩
   subst bp
   subst vq
   try dsimp only at hM
   replace H := H.bk ai
   clear ai
   refine s_nil ⟨(H.pk [1, 2, 3]), ?_⟩
   refine t_l2 rfl rfl ?_ ?_
   ·skip
    obtain ⟨cD, bq, hM⟩ := M.e_bind hM
    refine s_call cf69 [Pq ap, aq, .agg #[I r_.up, I r_.down, I r_.lo, I r_.hi, B r_.narrow], .agg #[.func (.func 107) #[] #[]]] rfl (zaj av aw ax marks r_ (ay.app _) az (aA.app _) aB (aC.app _) aD (aE.app _) (aF.app _) aG bq _ (H.gt 3)) ?_
    rintro vq cE ⟨ab, ac, ae, ag, aa, br, hvq, ai⟩
    subst br
    subst vq
    try dsimp only at hM
    replace H := H.bk ai
    clear ai
    refine s_nil ⟨(H.pk [1, 2, 3]), ?_⟩
    refine t_q rfl (fun w' H => x_mv (v := .tuple #[.agg #[I ab, I ac, I ae, I ag], I aa]) rfl) ?_
    refine t_q rfl (fun w' H => x_ext (vs := [.agg #[I ab, I ac, I ae, I ag], I aa]) (v := .agg #[I ab, I ac, I ae, I ag]) rfl rfl) ?_
    refine t_q rfl (fun w' H => x_ext (vs := [.agg #[I ab, I ac, I ae, I ag], I aa]) (v := I aa) rfl rfl) ?_
    refine t_l rfl ?_
    refine t_alloc (cs := [I 0, I 0, I 0, I 0]) H Al61 rfl ?_
    intro aJ cF H
    refine s_nil ⟨(H.pk [2, 3, 4]), ?_⟩
    refine t_l rfl ?_
    refine t_sw 0 0 [I ab, I ac, I ae, I ag] (.agg #[I ab, I ac, I ae, I ag]) H rfl rfl Sz61 rfl rfl rfl rfl ?_
    intro cG H
    refine s_nil ⟨(H.pk [2, 3, 4]), ?_⟩
    refine t_q rfl (fun w' H => x_as (v := I aa) rfl) ?_
    refine t_nil ?_
    replace H := H.pk [1, 3]
    refine W.seq ?_
    refine W.region rfl ?_
    refine zM (I r1) rfl ?_
    refine zM (I aa) rfl ?_
    refine s_val (x_bld (ps := [(0, I r1), (1, I aa)]) (zs := [I 0, I 0]) (L' := [I r1, I aa]) rfl Tryz.underlying54 Al54 rfl (Bd54 Tryz.underlying54) (.cons (cs := [I r1]) rfl rfl rfl rfl rfl <| .cons (cs := [I aa]) rfl rfl rfl rfl rfl <| .nil)) ?_
    refine t_sw 1 0 [I r1, I aa] (.agg #[I r1, I aa]) H rfl rfl Sz54 rfl rfl rfl rfl ?_
    intro cH H
    refine s_nil ?_
    refine W.ret ?_
    have bt := (H.bl 1)
    have au := M.e_pure hM
    exact ⟨_, (resE_of1 (v := .agg #[I r1, I aa]) rfl (.cell (v := .agg #[I r1, I aa]) rfl (run_loadVar_ag (ds := [I r1, I aa]) Ag54 Sz54 bt rfl rfl) <| .nil)), ⟨r1, aa, au, rfl, (H.pk [0])⟩⟩
   skip
   refine t_alloc (cs := [I 0, I 0, I 0, I 0]) H Al61 rfl ?_
   intro aJ cI H
   refine s_nil ⟨(H.pk [2, 3, 4]), ?_⟩
   refine t_l rfl ?_
   obtain ⟨cJ, bu, hM⟩ := M.e_bind hM
   refine s_call cf69 [Pq ap, aq, .agg #[I r_.up, I r_.down, I r_.lo, I r_.hi, B r_.narrow], .agg #[.func (.func 107) #[] #[]]] rfl (zaj av aw ax marks r_ (ay.app _) az (aA.app _) aB (aC.app _) aD (aE.app _) (aF.app _) aG bu _ ((H.pk [1, 0, 2, 3, 4]).gt 4)) ?_
   rintro vq cK ⟨ab, ac, ae, ag, aa, bv, hvq, ai⟩
   subst bv
   subst vq
   try dsimp only at hM
   replace H := H.pk [1, 0, 2, 3, 4] |>.bk ai
   clear ai
   refine s_nil ⟨(H.pk [2, 3, 4]), ?_⟩
   refine t_q rfl (fun w' H => x_mv (v := .tuple #[.agg #[I ab, I ac, I ae, I ag], I aa]) rfl) ?_
   refine t_q rfl (fun w' H => x_ext (vs := [.agg #[I ab, I ac, I ae, I ag], I aa]) (v := .agg #[I ab, I ac, I ae, I ag]) rfl rfl) ?_
   refine t_q rfl (fun w' H => x_ext (vs := [.agg #[I ab, I ac, I ae, I ag], I aa]) (v := I aa) rfl rfl) ?_
   refine t_l rfl ?_
   refine t_sw 1 0 [I ab, I ac, I ae, I ag] (.agg #[I ab, I ac, I ae, I ag]) H rfl rfl Sz61 rfl rfl rfl rfl ?_
   intro cL H
   refine s_nil ⟨(H.pk [2, 3, 4]), ?_⟩
   refine t_q rfl (fun w' H => x_as (v := I aa) rfl) ?_
   refine t_nil ?_
   replace H := H.pk [0, 3]
   refine W.seq ?_
   refine W.region rfl ?_
   refine zM (I r1) rfl ?_
   refine zM (I aa) rfl ?_
   refine s_val (x_bld (ps := [(0, I r1), (1, I aa)]) (zs := [I 0, I 0]) (L' := [I r1, I aa]) rfl Tryz.underlying54 Al54 rfl (Bd54 Tryz.underlying54) (.cons (cs := [I r1]) rfl rfl rfl rfl rfl <| .cons (cs := [I aa]) rfl rfl rfl rfl rfl <| .nil)) ?_
   refine t_sw 1 0 [I r1, I aa] (.agg #[I r1, I aa]) H rfl rfl Sz54 rfl rfl rfl rfl ?_
   intro cM H
   refine s_nil ?_
   refine W.ret ?_
   have bw := (H.bl 1)
   have au := M.e_pure hM
   exact ⟨_, (resE_of1 (v := .agg #[I r1, I aa]) rfl (.cell (v := .agg #[I r1, I aa]) rfl (run_loadVar_ag (ds := [I r1, I aa]) Ag54 Sz54 bw rfl rfl) <| .nil)), ⟨r1, aa, au, rfl, (H.pk [0])⟩⟩
  skip
  refine t_alloc (cs := [I 0, I 0, I 0, I 0]) H Al61 rfl ?_
  intro aJ cN H
  refine s_nil ⟨(H.pk [2, 3, 4]), ?_⟩
  refine t_l rfl ?_
  obtain ⟨cO, bx, hM⟩ := M.e_bind hM
  refine s_call cf68 [] rfl (zaz bx _ (H.gt 5)) ?_
  rintro vq cP ⟨bz, hvq, ai⟩
  subst bz
  subst vq
  try dsimp only at hM
  replace H := H.bk ai
  clear ai
  refine s_nil ⟨(H.pk [2, 3, 4]), ?_⟩
  refine t_l rfl ?_
  obtain ⟨cQ, bA, hM⟩ := M.e_bind hM
  refine s_call cf69 [Pq ap, aq, .agg #[I r_.up, I r_.down, I r_.lo, I r_.hi, B r_.narrow], .agg #[.func (.func 107) #[] #[]]] rfl (zaj av aw ax marks r_ (ay.app _) az (aA.app _) aB (aC.app _) aD (aE.app _) (aF.app _) aG bA _ ((H.pk [1, 0, 2, 3, 4]).gt 4)) ?_
  rintro vq cR ⟨ab, ac, ae, ag, aa, bB, hvq, ai⟩
  subst bB
  subst vq
  try dsimp only at hM
  replace H := H.pk [1, 0, 2, 3, 4] |>.bk ai
  clear ai
  refine s_nil ⟨(H.pk [2, 3, 4]), ?_⟩
  refine t_q rfl (fun w' H => x_mv (v := .tuple #[.agg #[I ab, I ac, I ae, I ag], I aa]) rfl) ?_
  refine t_q rfl (fun w' H => x_ext (vs := [.agg #[I ab, I ac, I ae, I ag], I aa]) (v := .agg #[I ab, I ac, I ae, I ag]) rfl rfl) ?_
  refine t_q rfl (fun w' H => x_ext (vs := [.agg #[I ab, I ac, I ae, I ag], I aa]) (v := I aa) rfl rfl) ?_
  refine t_l rfl ?_
  refine t_sw 1 0 [I ab, I ac, I ae, I ag] (.agg #[I ab, I ac, I ae, I ag]) H rfl rfl Sz61 rfl rfl rfl rfl ?_
  intro cS H
  refine s_nil ⟨(H.pk [2, 3, 4]), ?_⟩
  refine t_q rfl (fun w' H => x_as (v := I aa) rfl) ?_
  refine t_nil ?_
  replace H := H.pk [0, 3]
  refine W.seq ?_
  refine W.region rfl ?_
  refine zM (I r1) rfl ?_
  refine zM (I aa) rfl ?_
  refine s_val (x_bld (ps := [(0, I r1), (1, I aa)]) (zs := [I 0, I 0]) (L' := [I r1, I aa]) rfl Tryz.underlying54 Al54 rfl (Bd54 Tryz.underlying54) (.cons (cs := [I r1]) rfl rfl rfl rfl rfl <| .cons (cs := [I aa]) rfl rfl rfl rfl rfl <| .nil)) ?_
  refine t_sw 1 0 [I r1, I aa] (.agg #[I r1, I aa]) H rfl rfl Sz54 rfl rfl rfl rfl ?_
  intro cT H
  refine s_nil ?_
  refine W.ret ?_
  have bC := (H.bl 1)
  have au := M.e_pure hM
  exact ⟨_, (resE_of1 (v := .agg #[I r1, I aa]) rfl (.cell (v := .agg #[I r1, I aa]) rfl (run_loadVar_ag (ds := [I r1, I aa]) Ag54 Sz54 bC rfl rfl) <| .nil)), ⟨r1, aa, au, rfl, (H.pk [0])⟩⟩
 skip
 refine t_alloc (cs := [I 0, I 0, I 0, I 0]) H Al61 rfl ?_
 intro aK cU H
 refine s_nil ⟨(H.pk [1, 2]), ?_⟩
 refine t_l rfl ?_
 obtain ⟨cV, bD, hM⟩ := M.e_bind hM
 refine s_call cf67 [] rfl (zcx bD _ (H.gt 4)) ?_
 rintro vq cW ⟨bE, hvq, ai⟩
 subst bE
 subst vq
 try dsimp only at hM
 replace H := H.bk ai
 clear ai
 refine s_nil ⟨(H.pk [1, 2]), ?_⟩
 refine t_l rfl ?_
 obtain ⟨cX, bF, hM⟩ := M.e_bind hM
 refine s_call cf69 [Pq ap, aq, .agg #[I r_.up, I r_.down, I r_.lo, I r_.hi, B r_.narrow], .agg #[.func (.func 106) #[] #[]]] rfl (zb1 av aw ax marks r_ (ay.app _) az (aA.app _) aB (aC.app _) aD (aE.app _) (aF.app _) aG bF _ ((H.pk [3, 0, 1, 2]).gt 3)) ?_
 rintro vq cY ⟨aj, ak, am, ao, r1, bG, hvq, ai⟩
 subst bG
 subst vq
 try dsimp only at hM
 replace H := H.pk [3, 0, 1, 2] |>.bk ai
 clear ai
 refine s_nil ⟨(H.pk [2, 3]), ?_⟩
 refine t_q rfl (fun w' H => x_mv (v := .tuple #[.agg #[I aj, I ak, I am, I ao], I r1]) rfl) ?_
 refine t_q rfl (fun w' H => x_ext (vs := [.agg #[I aj, I ak, I am, I ao], I r1]) (v := .agg #[I aj, I ak, I am, I ao]) rfl rfl) ?_
 refine t_q rfl (fun w' H => x_ext (vs := [.agg #[I aj, I ak, I am, I ao], I r1]) (v := I r1) rfl rfl) ?_
 refine t_l rfl ?_
 refine t_sw 1 0 [I aj, I ak, I am, I ao] (.agg #[I aj, I ak, I am, I ao]) H rfl rfl Sz61 rfl rfl rfl rfl ?_
 intro cZ H
 refine s_nil ⟨(H.pk [2, 3]), ?_⟩
 refine t_q rfl (fun w' H => x_as (v := I r1) rfl) ?_
 refine t_nil ?_
 refine W.seq ?_
 refine W.drawT (fun W => St w W [cBlk aK [I aj, I ak, I am, I ao] 61, cBlk aL [I 0, I 0] 54, cBlk aI [I r_.up, I r_.down, I r_.lo, I r_.hi, B r_.narrow] 58] R) (.q 0 (.q 1 (.q 2 (.l2 3 (.l2 4 (.q 5 (.q 6 (.q 7 (.l 8 (.l 9 (.q 10 .nil)))))) 8 (.l 4 (.q 5 (.q 6 (.q 7 (.l 9 (.q 10 .nil))))))) 8 (.l 3 (.l 4 (.q 5 (.q 6 (.q 7 (.l 9 (.q 10 .nil))))))))))) mixed (by decide +kernel) rfl ?_
 intro c3 aH
 replace H := H.ext aH
 clear aH
 refine ⟨(H.pk [1, 2, 3]), ?_⟩
 refine t_q rfl (fun w' H => x_mv (v := Pq ap) rfl) ?_
 refine t_q rfl (fun w' H => x_mv (v := aq) rfl) ?_
 refine t_q rfl (fun w' H => x_ld (p := Pq aI) (v := .agg #[I r_.up, I r_.down, I r_.lo, I r_.hi, B r_.narrow]) rfl (ldb_ag (ds := [I r_.up, I r_.down, I r_.lo, I r_.hi, B r_.narrow]) Ag58 Sz58 (H.bl 2) rfl rfl)) ?_
 refine t_l2 rfl rfl ?_ ?_
 ·skip
  obtain ⟨c4, bH, hM⟩ := M.e_bind hM
  refine s_call cf68 [] rfl (zaz bH _ (H.gt 4)) ?_
  rintro vq c5 ⟨bI, hvq, ai⟩
  subst bI
  subst vq
  try dsimp only at hM
  replace H := H.bk ai
  clear ai
  refine s_nil ⟨(H.pk [1, 2, 3]), ?_⟩
  refine t_l2 rfl rfl ?_ ?_
  ·skip
   obtain ⟨c6, bJ, hM⟩ := M.e_bind hM
   refine s_call cf69 [Pq ap, aq, .agg #[I r_.up, I r_.down, I r_.lo, I r_.hi, B r_.narrow], .agg #[.func (.func 107) #[] #[]]] rfl (zaj av aw ax marks r_ (ay.app _) az (aA.app _) aB (aC.app _) aD (aE.app _) (aF.app _) aG bJ _ (H.gt 3)) ?_
   rintro vq c7 ⟨ab, ac, ae, ag, aa, bK, hvq, ai⟩
   subst bK
   subst vq
   try dsimp only at hM
   replace H := H.bk ai
   clear ai
   refine s_nil ⟨(H.pk [1, 2, 3]), ?_⟩
   refine t_q rfl (fun w' H => x_mv (v := .tuple #[.agg #[I ab, I ac, I ae, I ag], I aa]) rfl) ?_
   refine t_q rfl (fun w' H => x_ext (vs := [.agg #[I ab, I ac, I ae, I ag], I aa]) (v := .agg #[I ab, I ac, I ae, I ag]) rfl rfl) ?_
   refine t_q rfl (fun w' H => x_ext (vs := [.agg #[I ab, I ac, I ae, I ag], I aa]) (v := I aa) rfl rfl) ?_
   refine t_l rfl ?_
   refine t_alloc (cs := [I 0, I 0, I 0, I 0]) H Al61 rfl ?_
   intro aJ c8 H
   refine s_nil ⟨(H.pk [2, 3, 4]), ?_⟩
   refine t_l rfl ?_
   refine t_sw 0 0 [I ab, I ac, I ae, I ag] (.agg #[I ab, I ac, I ae, I ag]) H rfl rfl Sz61 rfl rfl rfl rfl ?_
   intro c9 H
   refine s_nil ⟨(H.pk [2, 3, 4]), ?_⟩
   refine t_q rfl (fun w' H => x_as (v := I aa) rfl) ?_
   refine t_nil ?_
   replace H := H.pk [1, 3]
   refine W.seq ?_
   refine W.region rfl ?_
   refine zM (I r1) rfl ?_
   refine zM (I aa) rfl ?_
   refine s_val (x_bld (ps := [(0, I r1), (1, I aa)]) (zs := [I 0, I 0]) (L' := [I r1, I aa]) rfl Tryz.underlying54 Al54 rfl (Bd54 Tryz.underlying54) (.cons (cs := [I r1]) rfl rfl rfl rfl rfl <| .cons (cs := [I aa]) rfl rfl rfl rfl rfl <| .nil)) ?_
   refine t_sw 1 0 [I r1, I aa] (.agg #[I r1, I aa]) H rfl rfl Sz54 rfl rfl rfl rfl ?_
   intro da H
   refine s_nil ?_
   refine W.ret ?_
   have bL := (H.bl 1)
   have au := M.e_pure hM
   exact ⟨_, (resE_of1 (v := .agg #[I r1, I aa]) rfl (.cell (v := .agg #[I r1, I aa]) rfl (run_loadVar_ag (ds := [I r1, I aa]) Ag54 Sz54 bL rfl rfl) <| .nil)), ⟨r1, aa, au, rfl, (H.pk [0])⟩⟩
  skip
  refine t_alloc (cs := [I 0, I 0, I 0, I 0]) H Al61 rfl ?_
  intro aJ db H
  refine s_nil ⟨(H.pk [2, 3, 4]), ?_⟩
  refine t_l rfl ?_
  obtain ⟨dc, bM, hM⟩ := M.e_bind hM
  refine s_call cf69 [Pq ap, aq, .agg #[I r_.up, I r_.down, I r_.lo, I r_.hi, B r_.narrow], .agg #[.func (.func 107) #[] #[]]] rfl (zaj av aw ax marks r_ (ay.app _) az (aA.app _) aB (aC.app _) aD (aE.app _) (aF.app _) aG bM _ ((H.pk [1, 0, 2, 3, 4]).gt 4)) ?_
  rintro vq dd ⟨ab, ac, ae, ag, aa, bN, hvq, ai⟩
  subst bN
  subst vq
  try dsimp only at hM
  replace H := H.pk [1, 0, 2, 3, 4] |>.bk ai
  clear ai
  refine s_nil ⟨(H.pk [2, 3, 4]), ?_⟩
  refine t_q rfl (fun w' H => x_mv (v := .tuple #[.agg #[I ab, I ac, I ae, I ag], I aa]) rfl) ?_
  refine t_q rfl (fun w' H => x_ext (vs := [.agg #[I ab, I ac, I ae, I ag], I aa]) (v := .agg #[I ab, I ac, I ae, I ag]) rfl rfl) ?_
  refine t_q rfl (fun w' H => x_ext (vs := [.agg #[I ab, I ac, I ae, I ag], I aa]) (v := I aa) rfl rfl) ?_
  refine t_l rfl ?_
  refine t_sw 1 0 [I ab, I ac, I ae, I ag] (.agg #[I ab, I ac, I ae, I ag]) H rfl rfl Sz61 rfl rfl rfl rfl ?_
  intro de H
  refine s_nil ⟨(H.pk [2, 3, 4]), ?_⟩
  refine t_q rfl (fun w' H => x_as (v := I aa) rfl) ?_
  refine t_nil ?_
  replace H := H.pk [0, 3]
  refine W.seq ?_
  refine W.region rfl ?_
  refine zM (I r1) rfl ?_
  refine zM (I aa) rfl ?_
  refine s_val (x_bld (ps := [(0, I r1), (1, I aa)]) (zs := [I 0, I 0]) (L' := [I r1, I aa]) rfl Tryz.underlying54 Al54 rfl (Bd54 Tryz.underlying54) (.cons (cs := [I r1]) rfl rfl rfl rfl rfl <| .cons (cs := [I aa]) rfl rfl rfl rfl rfl <| .nil)) ?_
  refine t_sw 1 0 [I r1, I aa] (.agg #[I r1, I aa]) H rfl rfl Sz54 rfl rfl rfl rfl ?_
  intro dg H
  refine s_nil ?_
  refine W.ret ?_
  have bO := (H.bl 1)
  have au := M.e_pure hM
  exact ⟨_, (resE_of1 (v := .agg #[I r1, I aa]) rfl (.cell (v := .agg #[I r1, I aa]) rfl (run_loadVar_ag (ds := [I r1, I aa]) Ag54 Sz54 bO rfl rfl) <| .nil)), ⟨r1, aa, au, rfl, (H.pk [0])⟩⟩
 skip
 refine t_alloc (cs := [I 0, I 0, I 0, I 0]) H Al61 rfl ?_
 intro aJ dh H
 refine s_nil ⟨(H.pk [2, 3, 4]), ?_⟩
 refine t_l rfl ?_
 obtain ⟨di, bP, hM⟩ := M.e_bind hM
 refine s_call cf68 [] rfl (zaz bP _ (H.gt 5)) ?_
 rintro vq dj ⟨bQ, hvq, ai⟩
 subst bQ
 subst vq
 try dsimp only at hM
 replace H := H.bk ai
 clear ai
 refine s_nil ⟨(H.pk [2, 3, 4]), ?_⟩
 refine t_l rfl ?_
 obtain ⟨dk, bR, hM⟩ := M.e_bind hM
 refine s_call cf69 [Pq ap, aq, .agg #[I r_.up, I r_.down, I r_.lo, I r_.hi, B r_.narrow], .agg #[.func (.func 107) #[] #[]]] rfl (zaj av aw ax marks r_ (ay.app _) az (aA.app _) aB (aC.app _) aD (aE.app _) (aF.app _) aG bR _ ((H.pk [1, 0, 2, 3, 4]).gt 4)) ?_
 rintro vq dm ⟨ab, ac, ae, ag, aa, bS, hvq, ai⟩
 subst bS
 subst vq
 try dsimp only at hM
 replace H := H.pk [1, 0, 2, 3, 4] |>.bk ai
 clear ai
 refine s_nil ⟨(H.pk [2, 3, 4]), ?_⟩
 refine t_q rfl (fun w' H => x_mv (v := .tuple #[.agg #[I ab, I ac, I ae, I ag], I aa]) rfl) ?_
 refine t_q rfl (fun w' H => x_ext (vs := [.agg #[I ab, I ac, I ae, I ag], I aa]) (v := .agg #[I ab, I ac, I ae, I ag]) rfl rfl) ?_
 refine t_q rfl (fun w' H => x_ext (vs := [.agg #[I ab, I ac, I ae, I ag], I aa]) (v := I aa) rfl rfl) ?_
 refine t_l rfl ?_
 refine t_sw 1 0 [I ab, I ac, I ae, I ag] (.agg #[I ab, I ac, I ae, I ag]) H rfl rfl Sz61 rfl rfl rfl rfl ?_
 intro dp H
 refine s_nil ⟨(H.pk [2, 3, 4]), ?_⟩
 refine t_q rfl (fun w' H => x_as (v := I aa) rfl) ?_
 refine t_nil ?_
 replace H := H.pk [0, 3]
 refine W.seq ?_
 refine W.region rfl ?_
 refine zM (I r1) rfl ?_
 refine zM (I aa) rfl ?_
 refine s_val (x_bld (ps := [(0, I r1), (1, I aa)]) (zs := [I 0, I 0]) (L' := [I r1, I aa]) rfl Tryz.underlying54 Al54 rfl (Bd54 Tryz.underlying54) (.cons (cs := [I r1]) rfl rfl rfl rfl rfl <| .cons (cs := [I aa]) rfl rfl rfl rfl rfl <| .nil)) ?_
 refine t_sw 1 0 [I r1, I aa] (.agg #[I r1, I aa]) H rfl rfl Sz54 rfl rfl rfl rfl ?_
 intro dq H
 refine s_nil ?_
 refine W.ret ?_
 have bT := (H.bl 1)
 have au := M.e_pure hM
 exact ⟨_, (resE_of1 (v := .agg #[I r1, I aa]) rfl (.cell (v := .agg #[I r1, I aa]) rfl (run_loadVar_ag (ds := [I r1, I aa]) Ag54 Sz54 bT rfl rfl) <| .nil)), ⟨r1, aa, au, rfl, (H.pk [0])⟩⟩

def zac (n : Int) (aa : Int) (greatest : Int) : M Bool :=
  M.pure ((decide (aa <= n)) && (decide (n <= greatest)))
theorem zae {R : List Chunk}  (n : Int) (aa : Int) (greatest : Int)  {r : Bool} (hM : (zac n aa greatest).Ends r) (w : World) (H : St w w [] R) : Ret Tryz.prog 70 #[I n, I aa, I greatest] w fun v w' => ∃ (y0 : Bool), y0 = r /\ v = B y0 /\ St w w' [] R := by
 refine ret_of_W Tryz.func70 rfl rfl rfl ?_
 refine W.seq ?_
 refine W.region rfl ?_
 refine zA (B false) rfl ?_
 refine s_nil ?_
 refine W.seq ?_
 refine W.region rfl ?_
 refine zM (I n) rfl ?_
 refine zM (I aa) rfl ?_
 refine zC n aa (decide (aa <= n)) rfl rfl rfl ?_
 refine zM (B (decide (aa <= n))) rfl ?_
 refine g_val (decide (aa <= n)) (gy_t rfl) (fun hg => x_mv (v := I n) rfl) ?_
 refine g_val (decide (aa <= n)) (gy_t rfl) (fun hg => x_mv (v := I greatest) rfl) ?_
 refine g_val (decide (aa <= n)) (gy_t rfl) (fun hg => x_cmp (kd := .i64) (a := n) (b := greatest) (r := decide (n <= greatest)) (gd_of (c := decide (aa <= n)) hg (I n)) (gd_of (c := decide (aa <= n)) hg (I greatest)) rfl) ?_
 refine s_val (x_pand (b := decide (aa <= n)) (r := decide (n <= greatest)) rfl (fun hb => gd_of (c := decide (aa <= n)) (by first | exact hb | (rw [hb]; rfl) | simp_all) (B (decide (n <= greatest)))) rfl) ?_
 refine zA (B ((decide (aa <= n)) && (decide (n <= greatest)))) rfl ?_
 refine s_nil ?_
 refine W.ret ?_
 have ab := M.e_pure hM
 exact ⟨_, resE_tmp rfl, ⟨((decide (aa <= n)) && (decide (n <= greatest))), ab, rfl, H⟩⟩

def zaO (s : List Sect) (f : Sect -> M Bool) : Nat -> M (Nat ⊕ (Int ⊕ Unit)) := fun s2 =>
  bif decide ((s2 : Int) < (s.length : Int)) then (
  M.grd (decide ((s2 : Int) < (s.length : Int))) <|
  M.bind (f (s.getD s2 default)) fun r2 =>
  bif r2 then (
  M.pure (.inr (.inl (s2 : Int))))
  else (
  M.pure (.inl (s2 + 1))))
  else (
  M.pure (.inr (.inr ())))
def zcd (s : List Sect) (f : Sect -> M Bool) : M Int :=
  M.bind (M.iter (zaO s f) 0) fun x_ => match x_ with
  | (.inl s3) => (
  M.pure s3)
  | (.inr (_ : Unit)) => (
  M.pure (-1))
theorem zcW {R : List Chunk} {ao : Cells} {aa : Value} {ac : Value} (s : List Sect) (f : Sect -> M Bool) (ap : Reads R ao) (ae : Sl ao aa s) (aw : FnM Tryz.prog R ac f) {r : Int} (hM : (zcd s f).Ends r) (w : World) (H : St w w [] R) : Ret Tryz.prog 135 #[aa, ac] w fun v w' => ∃ (y0 : Int), y0 = r /\ v = I y0 /\ St w w' [] R := by
 refine ret_of_W Tryz.func135 rfl rfl rfl ?_
 refine W.seq ?_
 refine W.region rfl ?_
 refine zA (I 0) rfl ?_
 refine s_nil ?_
 refine W.seq ?_
 refine W.seq ?_
 refine W.region rfl ?_
 refine zM aa rfl ?_
 have aF := (ae).len_le
 refine s_val (x_lenS T23.und rfl ae) ?_
 refine zM (I 0) rfl ?_
 refine s_nil ?_
 refine W.block ?_
 obtain ⟨ax, ai, aq⟩ := M.e_bind hM
 obtain ⟨aG, ai⟩ := M.e_iter ai
 refine W.loop (fun m σ W => ∃ (s2 : Nat) (ρ : Env), σ = upds ρ [(0, aa), (1, ac), (7, I (s.length : Int)), (8, I (s2 : Int))] /\ M.iterN (zaO s f) m s2 = some ax /\ St w W [] R) ?_ ?_
 ·exact ⟨_, 0, _, upds_of _ _ ⟨rfl, rfl, rfl, rfl, trivial⟩, ai, H⟩
 rintro aH σ aI ⟨s2, ρ, rfl, au, H⟩
 obtain ⟨ay, az, aJ, hM, aj⟩ := M.e_iterN au
 simp only [zaO] at hM
 clear au
 refine W.seq ?_
 refine W.region rfl ?_
 refine zC (s2 : Int) (s.length : Int) (decide ((s2 : Int) < (s.length : Int))) rfl rfl rfl ?_
 refine s_nil ?_
 refine W.seq ?_
 refine W.cond (decide ((s2 : Int) < (s.length : Int))) rfl (fun ab => ?_) (fun ab => ?_)
 ·replace hM := M.e_t hM ab
  simp only [qy1, qy2, qy3, qy4, qy5, qy6, ne_eq, qy7] at ab
  refine W.skip ?_
  refine W.seq ?_
  refine W.block ?_
  refine W.seq ?_
  refine W.region rfl ?_
  refine zM (I (s2 : Int)) rfl ?_
  refine zA (I (s2 : Int)) rfl ?_
  refine s_nil ?_
  refine W.seq ?_
  refine W.region rfl ?_
  refine zM ac rfl ?_
  refine zM aa rfl ?_
  refine zM (I (s2 : Int)) rfl ?_
  obtain ⟨aA, hM⟩ := M.e_grd hM
  simp only [Bool.and_eq_true, decide_eq_true_eq] at aA
  refine s_val (x_ix (a := aa) (b := I (s2 : Int)) (v := vat aa 2 (Int.toNat (s2 : Int))) rfl rfl (Sl.ix (α := Sect) T23.und T23.size ae (by omega) (by omega))) ?_
  obtain ⟨av, aB, ag⟩ := Sect_atA ae (i := (s2 : Int)) (by omega) (by omega)
  replace ag : Sl _ av (s.getD s2 default).rows := ag
  have aK := ag.len_le
  refine s_val (x_ld (p := vat aa 2 (Int.toNat (s2 : Int))) (v := .agg #[I ((s.getD s2 default).place), av]) rfl (ld_ag Ag68 Sz68 (At.mono aB (ap.at H)))) ?_
  obtain ⟨r2, aC, hM⟩ := M.e_bind hM
  refine t_callM H aw rfl rfl (s.getD s2 default) (ap.app _) ⟨_, Sect_mk ag, rfl⟩ aC ?_
  intro aL H
  refine s_nil ?_
  refine W.cond r2 rfl (fun ak => ?_) (fun ak => ?_)
  ·replace hM := M.e_t hM ak
   refine W.seq ?_
   refine W.region rfl ?_
   refine zM (I (s2 : Int)) rfl ?_
   refine zA (I (s2 : Int)) rfl ?_
   refine s_nil ?_
   refine W.ret ?_
   have aD := M.e_inr hM aj
   subst aD
   replace hM := aq
   try dsimp only at hM
   have am := M.e_pure hM
   exact ⟨_, resE_tmp rfl, ⟨(s2 : Int), am, rfl, H⟩⟩
  replace hM := M.e_f hM ak
  refine W.skip ?_
  refine W.region rfl ?_
  refine zR (s2 : Int) 1 ((s2 : Int) + 1) rfl rfl rfl (by omega) ?_
  refine zM (I ((s2 : Int) + 1)) rfl ?_
  refine s_nil ?_
  exact ⟨ay, az, s2 + 1, _, upds_of _ _ ⟨rfl, rfl, rfl, rfl, trivial⟩, M.e_inl hM aj, H⟩
 replace hM := M.e_f hM ab
 simp only [qy1, qy2, qy3, qy4, qy5, qy6, ne_eq, qy7] at ab
 refine W.exit ?_
 have aE := M.e_inr hM aj
 subst aE
 replace hM := aq
 try dsimp only at hM
 refine W.seq ?_
 refine W.region rfl ?_
 refine zA (I (-1)) rfl ?_
 refine s_nil ?_
 refine W.ret ?_
 have am := M.e_pure hM
 exact ⟨_, resE_tmp rfl, ⟨(-1), am, rfl, H⟩⟩

def zb8 (s : List Sect) (f : Sect -> M Bool) : M Bool :=
  M.bind (zcd s f) fun r2 =>
  M.pure (decide (0 <= r2))
theorem zdp {R : List Chunk} {ac : Cells} {aa : Value} {ab : Value} (s : List Sect) (f : Sect -> M Bool) (ag : Reads R ac) (ai : Sl ac aa s) (aj : FnM Tryz.prog R ab f) {r : Bool} (hM : (zb8 s f).Ends r) (w : World) (H : St w w [] R) : Ret Tryz.prog 109 #[aa, ab] w fun v w' => ∃ (y0 : Bool), y0 = r /\ v = B y0 /\ St w w' [] R := by
 refine ret_of_W Tryz.func109 rfl rfl rfl ?_
 refine W.seq ?_
 refine W.region rfl ?_
 refine zA (B false) rfl ?_
 refine s_nil ?_
 refine W.seq ?_
 refine W.region rfl ?_
 refine zM aa rfl ?_
 refine zM ab rfl ?_
 obtain ⟨ap, ak, hM⟩ := M.e_bind hM
 refine s_call cf135 [aa, ab] rfl (zcW s f (ag.app _) ai (aj.app _) ak _ (H.gt 0)) ?_
 rintro vq aq ⟨r2, am, hvq, ae⟩
 subst am
 subst vq
 try dsimp only at hM
 replace H := H.bk ae
 clear ae
 refine zC r2 0 (decide (0 <= r2)) rfl rfl rfl ?_
 refine zA (B (decide (0 <= r2))) rfl ?_
 refine s_nil ?_
 refine W.ret ?_
 have ao := M.e_pure hM
 exact ⟨_, resE_tmp rfl, ⟨(decide (0 <= r2)), ao, rfl, H⟩⟩

def zbg (x : Sect) (aa : Sect -> M Bool) : M Bool :=
  M.bind (aa x) fun r2 =>
  M.pure (!r2)
theorem zcY {R : List Chunk} {ae : Cells} {aa : Value} {ab : Nat} {ac : Value} (x : Sect) (ag : Sect -> M Bool) (ai : Reads R ae) (aj : Sl ae aa x.rows) (ak : FnM Tryz.prog R ac ag) (am : Has R (cBlk ab [ac] 152)) {r : Bool} (hM : (zbg x ag).Ends r) (w : World) (H : St w w [] R) : Ret Tryz.prog 110 #[.agg #[I x.place, aa], Pq ab] w fun v w' => ∃ (y0 : Bool), y0 = r /\ v = B y0 /\ St w w' [] R := by
 refine ret_of_W Tryz.func110 rfl rfl rfl ?_
 refine W.seq ?_
 refine W.region rfl ?_
 refine t_box (v := .agg #[I x.place, aa]) (cs := [I x.place, aa]) H rfl rfl ?_
 intro ao au H
 refine zA (B false) rfl ?_
 refine s_nil ?_
 refine W.seq ?_
 refine W.region rfl ?_
 refine s_val (x_ld (p := Pq ab) (v := ac) rfl (ldb_sc Sc152 (am.blk H) rfl)) ?_
 refine s_val (x_ld (p := Pq ao) (v := .agg #[I x.place, aa]) rfl (ldb_ag (ds := [I x.place, aa]) Ag68 Sz68 (H.bl 0) rfl rfl)) ?_
 obtain ⟨r2, ap, hM⟩ := M.e_bind hM
 refine t_callM H ak rfl rfl x (ai.app _) ⟨_, Sect_mk aj, rfl⟩ ap ?_
 intro av H
 refine s_val (x_not (b := r2) rfl) ?_
 refine zA (B (!r2)) rfl ?_
 refine s_nil ?_
 refine W.ret ?_
 have aq := M.e_pure hM
 exact ⟨_, resE_tmp rfl, ⟨(!r2), aq, rfl, (H.pk [])⟩⟩

def zbG (l : List Sect) (so : Sect -> M Bool) : M Bool :=
  M.bind (zb8 l (fun aa => zbg aa so)) fun r2 =>
  M.pure (!r2)
theorem zdn {R : List Chunk} {ag : Cells} {aa : Value} {ab : Value} (l : List Sect) (so : Sect -> M Bool) (am : Reads R ag) (ao : Sl ag aa l) (ai : FnM Tryz.prog R ab so) {r : Bool} (hM : (zbG l so).Ends r) (w : World) (H : St w w [] R) : Ret Tryz.prog 75 #[aa, ab] w fun v w' => ∃ (y0 : Bool), y0 = r /\ v = B y0 /\ St w w' [] R := by
 refine ret_of_W Tryz.func75 rfl rfl rfl ?_
 refine W.seq ?_
 refine W.region rfl ?_
 refine t_box (v := ab) (cs := [ab]) H rfl (FnM.cells ai) ?_
 intro ac aE H
 refine zA (B false) rfl ?_
 refine s_nil ?_
 refine W.seq ?_
 refine W.region rfl ?_
 refine zM aa rfl ?_
 refine s_val (x_mf (fs := []) (cs := [Pq ac]) rfl rfl) ?_
 obtain ⟨aF, ap, hM⟩ := M.e_bind hM
 refine s_call cf109 [aa, .func (.func 110) #[] #[Pq ac]] rfl (zdp l (fun ae => zbg ae so) (am.app _) ao ⟨110, [Pq ac], rfl, cf110, fun aj aG aH aq ae aI au av aw ax => by obtain ⟨aJ, rfl, ay⟩ := Sect_arg aw; exact (zcY ae so av ay (FnM.app (ai.app _) _) (Has.app (Has.here (k := 0) rfl) _) ax aj (St.refl au)).mono fun aq aj ⟨aK, az, aA, aB⟩ => by subst az; exact ⟨aA, aB⟩⟩ ap _ (H.gt 1)) ?_
 rintro vq aL ⟨r2, aC, hvq, ak⟩
 subst aC
 subst vq
 try dsimp only at hM
 replace H := H.bk ak
 clear ak
 refine s_val (x_not (b := r2) rfl) ?_
 refine zA (B (!r2)) rfl ?_
 refine s_nil ?_
 refine W.ret ?_
 have aD := M.e_pure hM
 exact ⟨_, resE_tmp rfl, ⟨(!r2), aD, rfl, (H.pk [])⟩⟩

def zbu (x : Sect) : M Bool :=
  M.bind (zac (x.rows.length : Int) 2 8) fun r2 =>
  M.pure r2
theorem zcO {R : List Chunk} {ac : Cells} {aa : Value} (x : Sect) (am : Reads R ac) (ae : Sl ac aa x.rows) {r : Bool} (hM : (zbu x).Ends r) (w : World) (H : St w w [] R) : Ret Tryz.prog 74 #[.agg #[I x.place, aa]] w fun v w' => ∃ (y0 : Bool), y0 = r /\ v = B y0 /\ St w w' [] R := by
 refine ret_of_W Tryz.func74 rfl rfl rfl ?_
 refine W.seq ?_
 refine W.region rfl ?_
 refine t_box (v := .agg #[I x.place, aa]) (cs := [I x.place, aa]) H rfl rfl ?_
 intro ab ao H
 refine zA (B false) rfl ?_
 refine s_nil ?_
 refine W.seq ?_
 refine W.region rfl ?_
 refine s_val (x_fa (a := Pq ab) (v := Oq ab 1) rfl (fa_blk (o := 0) Fd68_1 Sz66)) ?_
 refine s_val (x_ld (p := Oq ab 1) (v := aa) rfl (ldb_sc Sc66 (H.bl 0) rfl)) ?_
 have ap := (ae).len_le
 refine s_val (x_lenS T66.und rfl ae) ?_
 obtain ⟨aq, ai, hM⟩ := M.e_bind hM
 refine s_call cf70 [I (x.rows.length : Int), I 2, I 8] rfl (zae (x.rows.length : Int) 2 8 ai _ (H.gt 1)) ?_
 rintro vq au ⟨r2, aj, hvq, ag⟩
 subst aj
 subst vq
 try dsimp only at hM
 replace H := H.bk ag
 clear ag
 refine zA (B r2) rfl ?_
 refine s_nil ?_
 refine W.ret ?_
 have ak := M.e_pure hM
 exact ⟨_, resE_tmp rfl, ⟨r2, ak, rfl, (H.pk [])⟩⟩

def zbb (x : Sect) : (Int × Int × Nat) -> M ((Int × Int × Nat) ⊕ ((Int × Int) ⊕ (Int × Int))) := fun (s, s2, s3) =>
  bif decide ((s3 : Int) < (x.rows.length : Int)) then (
  M.grd (decide ((s3 : Int) < (x.rows.length : Int))) <|
  M.grd (decide ((-9223372036854775808 : Int) <= (s + 1)) && decide ((s + 1) <= (9223372036854775807 : Int))) <|
  M.bind (zac ((x.rows.getD s3 default).stage) (s + 1) 2000) fun r2 =>
  M.bind (M.opt (!(!r2)) (zac ((x.rows.getD s3 default).carry) s2 100000) false) fun r3 =>
  bif ((!r2) || (!r3)) then (
  M.pure (.inr (.inl (s, s2))))
  else (
  M.pure (.inl ((x.rows.getD s3 default).stage, (x.rows.getD s3 default).carry, s3 + 1))))
  else (
  M.pure (.inr (.inr (s, s2))))
def zbK (x : Sect) : M Bool :=
  M.bind (M.iter (zbb x) (-1, 0, 0)) fun x_ => match x_ with
  | (.inl (s4, s5)) => (
  M.pure false)
  | (.inr (s6, s7)) => (
  M.bind (zac x.place 0 10000) fun r4 =>
  M.pure r4)
theorem zc1 {R : List Chunk} {aq : Cells} {aa : Value} (x : Sect) (aw : Reads R aq) (ak : Sl aq aa x.rows) {r : Bool} (hM : (zbK x).Ends r) (w : World) (H : St w w [] R) : Ret Tryz.prog 76 #[.agg #[I x.place, aa]] w fun v w' => ∃ (y0 : Bool), y0 = r /\ v = B y0 /\ St w w' [] R := by
 refine ret_of_W Tryz.func76 rfl rfl rfl ?_
 refine W.seq ?_
 refine W.region rfl ?_
 refine t_box (v := .agg #[I x.place, aa]) (cs := [I x.place, aa]) H rfl rfl ?_
 intro ac aK H
 refine zA (B false) rfl ?_
 refine s_nil ?_
 refine W.seq ?_
 refine W.region rfl ?_
 refine s_val (x_bld (ps := [(0, I (-1))]) (zs := [I 0, I 0]) (L' := [I (-1), I 0]) rfl Tryz.underlying109 Al109 rfl (Bd109 Tryz.underlying109) (.cons (cs := [I (-1)]) rfl rfl rfl rfl rfl <| .nil)) ?_
 refine t_alloc (cs := [I 0, I 0]) H Al109 rfl ?_
 intro ab aL H
 refine t_sw 0 0 [I (-1), I 0] (.agg #[I (-1), I 0]) H rfl rfl Sz109 rfl rfl rfl rfl ?_
 intro aM H
 refine s_nil ?_
 refine W.seq ?_
 refine W.seq ?_
 refine W.region rfl ?_
 refine s_val (x_fa (a := Pq ac) (v := Oq ac 1) rfl (fa_blk (o := 0) Fd68_1 Sz66)) ?_
 refine s_val (x_ld (p := Oq ac 1) (v := aa) rfl (ldb_sc Sc66 (H.bl 1) rfl)) ?_
 have aN := (ak).len_le
 refine s_val (x_lenS T66.und rfl ak) ?_
 refine zM (I 0) rfl ?_
 refine s_nil ?_
 refine W.block ?_
 obtain ⟨ax, am, au⟩ := M.e_bind hM
 obtain ⟨aO, am⟩ := M.e_iter am
 refine W.loop (fun m σ W => ∃ (s : Int) (s2 : Int) (s3 : Nat) (ρ : Env), σ = upds ρ [(1, Pq ac), (3, Pq ab), (8, aa), (9, I (x.rows.length : Int)), (10, I (s3 : Int))] /\ M.iterN (zbb x) m (s, s2, s3) = some ax /\ St w W [cBlk ab [I s, I s2] 109, cBlk ac [I x.place, aa] 68] R) ?_ ?_
 ·exact ⟨_, -1, 0, 0, _, upds_of _ _ ⟨rfl, rfl, rfl, rfl, rfl, trivial⟩, am, H⟩
 rintro aP σ aQ ⟨s, s2, s3, ρ, rfl, av, H⟩
 obtain ⟨ay, az, aR, hM, ao⟩ := M.e_iterN av
 simp only [zbb] at hM
 clear av
 refine W.seq ?_
 refine W.region rfl ?_
 refine zC (s3 : Int) (x.rows.length : Int) (decide ((s3 : Int) < (x.rows.length : Int))) rfl rfl rfl ?_
 refine s_nil ?_
 refine W.seq ?_
 refine W.cond (decide ((s3 : Int) < (x.rows.length : Int))) rfl (fun ag => ?_) (fun ag => ?_)
 ·replace hM := M.e_t hM ag
  simp only [qy1, qy2, qy3, qy4, qy5, qy6, ne_eq, qy7] at ag
  refine W.skip ?_
  refine W.seq ?_
  refine W.block ?_
  refine W.seq ?_
  refine W.region rfl ?_
  obtain ⟨aA, hM⟩ := M.e_grd hM
  simp only [Bool.and_eq_true, decide_eq_true_eq] at aA
  refine s_val (x_ix (a := aa) (b := I (s3 : Int)) (v := vat aa 2 (Int.toNat (s3 : Int))) rfl rfl (Sl.ix (α := FRow) T66.und T66.size ak (by omega) (by omega))) ?_
  refine s_val (x_ld (p := vat aa 2 (Int.toNat (s3 : Int))) (v := .agg #[I ((x.rows.getD s3 default).stage), I ((x.rows.getD s3 default).carry)]) rfl (ld_ag Ag109 Sz109 (At.mono (FRow_atA ak (i := (s3 : Int)) (by omega) (by omega)) (aw.at H)))) ?_
  refine t_alloc (cs := [I 0, I 0]) H Al109 rfl ?_
  intro ae aS H
  refine t_sw 0 0 [I ((x.rows.getD s3 default).stage), I ((x.rows.getD s3 default).carry)] (.agg #[I ((x.rows.getD s3 default).stage), I ((x.rows.getD s3 default).carry)]) H rfl rfl Sz109 rfl rfl rfl rfl ?_
  intro aT H
  refine s_nil ?_
  refine W.seq ?_
  refine W.seq ?_
  refine W.region rfl ?_
  refine s_val (x_fa (a := Pq ae) (v := Pq ae) rfl (fa_blk (o := 0) Fd109_0 Sz3)) ?_
  refine s_val (x_ld (p := Pq ae) (v := I ((x.rows.getD s3 default).stage)) rfl (ldb_sc Sc3 (H.bl 0) rfl)) ?_
  refine s_val (x_fa (a := Pq ab) (v := Pq ab) rfl (fa_blk (o := 0) Fd109_0 Sz3)) ?_
  refine s_val (x_ld (p := Pq ab) (v := I s) rfl (ldb_sc Sc3 (H.bl 1) rfl)) ?_
  obtain ⟨aB, hM⟩ := M.e_grd hM
  simp only [Bool.and_eq_true, decide_eq_true_eq] at aB
  refine zR s 1 (s + 1) rfl rfl rfl (by omega) ?_
  obtain ⟨aU, aC, hM⟩ := M.e_bind hM
  refine s_call cf70 [I ((x.rows.getD s3 default).stage), I (s + 1), I 2000] rfl (zae ((x.rows.getD s3 default).stage) (s + 1) 2000 aC _ (H.gt 3)) ?_
  rintro vq aV ⟨r2, aD, hvq, ai⟩
  subst aD
  subst vq
  try dsimp only at hM
  replace H := H.bk ai
  clear ai
  refine s_val (x_not (b := r2) rfl) ?_
  refine zM (B (!r2)) rfl ?_
  refine g_val (!(!r2)) (gy_f rfl) (fun hg => x_fa (a := Pq ae) (v := Oq ae 1) rfl (fa_blk (o := 0) Fd109_1 Sz3)) ?_
  refine g_val (!(!r2)) (gy_f rfl) (fun hg => x_ld (p := Oq ae 1) (v := I ((x.rows.getD s3 default).carry)) (gd_of (c := !(!r2)) hg (Oq ae 1)) (ldb_sc Sc3 (H.bl 0) rfl)) ?_
  refine g_val (!(!r2)) (gy_f rfl) (fun hg => x_fa (a := Pq ab) (v := Oq ab 1) rfl (fa_blk (o := 0) Fd109_1 Sz3)) ?_
  refine g_val (!(!r2)) (gy_f rfl) (fun hg => x_ld (p := Oq ab 1) (v := I s2) (gd_of (c := !(!r2)) hg (Oq ab 1)) (ldb_sc Sc3 (H.bl 1) rfl)) ?_
  obtain ⟨r3, aE, hM⟩ := M.e_bind hM
  refine t_gcall (!(!r2)) (gy_f rfl) cf70 (B r3) (fun _ => [I ((x.rows.getD s3 default).carry), I s2, I 100000]) (fun hg => lst3 (gd_of (c := !(!r2)) hg (I ((x.rows.getD s3 default).carry))) (gd_of (c := !(!r2)) hg (I s2)) rfl) H (fun hg => (zae ((x.rows.getD s3 default).carry) s2 100000 (M.e_opt aE hg) _ (H.give (A := []) rfl)).mono fun v_ w_ ⟨y_, aj, aF, H_⟩ => by subst aj; exact ⟨aF, H.via H_⟩) ?_
  intro aW H
  refine g_val (!(!r2)) (gy_f rfl) (fun hg => x_not (b := r3) (gd_of (c := !(!r2)) hg (B r3))) ?_
  refine s_val (x_por (b := !r2) (r := !r3) rfl rfl (fun hb => gd_of (c := !(!r2)) (by first | exact hb | (rw [hb]; rfl) | simp_all) (B (!r3)))) ?_
  refine s_nil ?_
  refine W.cond ((!r2) || (!r3)) rfl (fun ap => ?_) (fun ap => ?_)
  ·replace hM := M.e_t hM ap
   refine W.seq ?_
   refine W.region rfl ?_
   refine zA (B false) rfl ?_
   refine s_nil ?_
   refine W.ret ?_
   have aG := M.e_inr hM ao
   subst aG
   replace hM := au
   try dsimp only at hM
   have aj := M.e_pure hM
   exact ⟨_, resE_tmp rfl, ⟨false, aj, rfl, (H.pk [])⟩⟩
  replace hM := M.e_f hM ap
  refine W.skip ?_
  refine W.region rfl ?_
  refine s_val (x_ld (p := Pq ae) (v := .agg #[I ((x.rows.getD s3 default).stage), I ((x.rows.getD s3 default).carry)]) rfl (ldb_ag (ds := [I ((x.rows.getD s3 default).stage), I ((x.rows.getD s3 default).carry)]) Ag109 Sz109 (H.bl 0) rfl rfl)) ?_
  refine t_sw 1 0 [I ((x.rows.getD s3 default).stage), I ((x.rows.getD s3 default).carry)] (.agg #[I ((x.rows.getD s3 default).stage), I ((x.rows.getD s3 default).carry)]) H rfl rfl Sz109 rfl rfl rfl rfl ?_
  intro aX H
  refine s_nil ?_
  refine W.region rfl ?_
  refine zR (s3 : Int) 1 ((s3 : Int) + 1) rfl rfl rfl (by omega) ?_
  refine zM (I ((s3 : Int) + 1)) rfl ?_
  refine s_nil ?_
  exact ⟨ay, az, (x.rows.getD s3 default).stage, (x.rows.getD s3 default).carry, s3 + 1, _, upds_of _ _ ⟨rfl, rfl, rfl, rfl, rfl, trivial⟩, M.e_inl hM ao, (H.pk [1, 2])⟩
 replace hM := M.e_f hM ag
 simp only [qy1, qy2, qy3, qy4, qy5, qy6, ne_eq, qy7] at ag
 refine W.exit ?_
 have aH := M.e_inr hM ao
 subst aH
 replace hM := au
 try dsimp only at hM
 refine W.seq ?_
 refine W.region rfl ?_
 refine s_val (x_fa (a := Pq ac) (v := Pq ac) rfl (fa_blk (o := 0) Fd68_0 Sz3)) ?_
 refine s_val (x_ld (p := Pq ac) (v := I x.place) rfl (ldb_sc Sc3 (H.bl 1) rfl)) ?_
 obtain ⟨aY, aI, hM⟩ := M.e_bind hM
 refine s_call cf70 [I x.place, I 0, I 10000] rfl (zae x.place 0 10000 aI _ (H.gt 2)) ?_
 rintro vq aZ ⟨r4, aJ, hvq, ai⟩
 subst aJ
 subst vq
 try dsimp only at hM
 replace H := H.bk ai
 clear ai
 refine zA (B r4) rfl ?_
 refine s_nil ?_
 replace H := H.pk []
 refine W.ret ?_
 have aj := M.e_pure hM
 exact ⟨_, resE_tmp rfl, ⟨r4, aj, rfl, H⟩⟩

def za0 (s : List Mrk) (f : Mrk -> M Bool) : Nat -> M (Nat ⊕ (Int ⊕ Unit)) := fun s2 =>
  bif decide ((s2 : Int) < (s.length : Int)) then (
  M.grd (decide ((s2 : Int) < (s.length : Int))) <|
  M.bind (f (s.getD s2 default)) fun r2 =>
  bif r2 then (
  M.pure (.inr (.inl (s2 : Int))))
  else (
  M.pure (.inl (s2 + 1))))
  else (
  M.pure (.inr (.inr ())))
def zb0 (s : List Mrk) (f : Mrk -> M Bool) : M Int :=
  M.bind (M.iter (za0 s f) 0) fun x_ => match x_ with
  | (.inl s3) => (
  M.pure s3)
  | (.inr (_ : Unit)) => (
  M.pure (-1))
theorem zc9 {R : List Chunk} {am : Cells} {aa : Value} {ac : Value} (s : List Mrk) (f : Mrk -> M Bool) (aq : Reads R am) (ae : Sl am aa s) (au : FnM Tryz.prog R ac f) {r : Int} (hM : (zb0 s f).Ends r) (w : World) (H : St w w [] R) : Ret Tryz.prog 136 #[aa, ac] w fun v w' => ∃ (y0 : Int), y0 = r /\ v = I y0 /\ St w w' [] R := by
 refine ret_of_W Tryz.func136 rfl rfl rfl ?_
 refine W.seq ?_
 refine W.region rfl ?_
 refine zA (I 0) rfl ?_
 refine s_nil ?_
 refine W.seq ?_
 refine W.seq ?_
 refine W.region rfl ?_
 refine zM aa rfl ?_
 have aC := (ae).len_le
 refine s_val (x_lenS T24.und rfl ae) ?_
 refine zM (I 0) rfl ?_
 refine s_nil ?_
 refine W.block ?_
 obtain ⟨av, ag, ao⟩ := M.e_bind hM
 obtain ⟨aD, ag⟩ := M.e_iter ag
 refine W.loop (fun m σ W => ∃ (s2 : Nat) (ρ : Env), σ = upds ρ [(0, aa), (1, ac), (7, I (s.length : Int)), (8, I (s2 : Int))] /\ M.iterN (za0 s f) m s2 = some av /\ St w W [] R) ?_ ?_
 ·exact ⟨_, 0, _, upds_of _ _ ⟨rfl, rfl, rfl, rfl, trivial⟩, ag, H⟩
 rintro aE σ aF ⟨s2, ρ, rfl, ap, H⟩
 obtain ⟨aw, ax, aG, hM, ai⟩ := M.e_iterN ap
 simp only [za0] at hM
 clear ap
 refine W.seq ?_
 refine W.region rfl ?_
 refine zC (s2 : Int) (s.length : Int) (decide ((s2 : Int) < (s.length : Int))) rfl rfl rfl ?_
 refine s_nil ?_
 refine W.seq ?_
 refine W.cond (decide ((s2 : Int) < (s.length : Int))) rfl (fun ab => ?_) (fun ab => ?_)
 ·replace hM := M.e_t hM ab
  simp only [qy1, qy2, qy3, qy4, qy5, qy6, ne_eq, qy7] at ab
  refine W.skip ?_
  refine W.seq ?_
  refine W.block ?_
  refine W.seq ?_
  refine W.region rfl ?_
  refine zM (I (s2 : Int)) rfl ?_
  refine zA (I (s2 : Int)) rfl ?_
  refine s_nil ?_
  refine W.seq ?_
  refine W.region rfl ?_
  refine zM ac rfl ?_
  refine zM aa rfl ?_
  refine zM (I (s2 : Int)) rfl ?_
  obtain ⟨ay, hM⟩ := M.e_grd hM
  simp only [Bool.and_eq_true, decide_eq_true_eq] at ay
  refine s_val (x_ix (a := aa) (b := I (s2 : Int)) (v := vat aa 3 (Int.toNat (s2 : Int))) rfl rfl (Sl.ix (α := Mrk) T24.und T24.size ae (by omega) (by omega))) ?_
  refine s_val (x_ld (p := vat aa 3 (Int.toNat (s2 : Int))) (v := .agg #[I ((s.getD s2 default).place), I ((s.getD s2 default).lo), I ((s.getD s2 default).hi)]) rfl (ld_ag Ag70 Sz70 (At.mono (Mrk_atA ae (i := (s2 : Int)) (by omega) (by omega)) (aq.at H)))) ?_
  obtain ⟨r2, az, hM⟩ := M.e_bind hM
  refine t_callM H au rfl rfl (s.getD s2 default) Reads.none ⟨_, rfl, rfl⟩ az ?_
  intro aH H
  refine s_nil ?_
  refine W.cond r2 rfl (fun aj => ?_) (fun aj => ?_)
  ·replace hM := M.e_t hM aj
   refine W.seq ?_
   refine W.region rfl ?_
   refine zM (I (s2 : Int)) rfl ?_
   refine zA (I (s2 : Int)) rfl ?_
   refine s_nil ?_
   refine W.ret ?_
   have aA := M.e_inr hM ai
   subst aA
   replace hM := ao
   try dsimp only at hM
   have ak := M.e_pure hM
   exact ⟨_, resE_tmp rfl, ⟨(s2 : Int), ak, rfl, H⟩⟩
  replace hM := M.e_f hM aj
  refine W.skip ?_
  refine W.region rfl ?_
  refine zR (s2 : Int) 1 ((s2 : Int) + 1) rfl rfl rfl (by omega) ?_
  refine zM (I ((s2 : Int) + 1)) rfl ?_
  refine s_nil ?_
  exact ⟨aw, ax, s2 + 1, _, upds_of _ _ ⟨rfl, rfl, rfl, rfl, trivial⟩, M.e_inl hM ai, H⟩
 replace hM := M.e_f hM ab
 simp only [qy1, qy2, qy3, qy4, qy5, qy6, ne_eq, qy7] at ab
 refine W.exit ?_
 have aB := M.e_inr hM ai
 subst aB
 replace hM := ao
 try dsimp only at hM
 refine W.seq ?_
 refine W.region rfl ?_
 refine zA (I (-1)) rfl ?_
 refine s_nil ?_
 refine W.ret ?_
 have ak := M.e_pure hM
 exact ⟨_, resE_tmp rfl, ⟨(-1), ak, rfl, H⟩⟩

def zbP (s : List Mrk) (f : Mrk -> M Bool) : M Bool :=
  M.bind (zb0 s f) fun r2 =>
  M.pure (decide (0 <= r2))
theorem zdr {R : List Chunk} {ac : Cells} {aa : Value} {ab : Value} (s : List Mrk) (f : Mrk -> M Bool) (ag : Reads R ac) (ai : Sl ac aa s) (aj : FnM Tryz.prog R ab f) {r : Bool} (hM : (zbP s f).Ends r) (w : World) (H : St w w [] R) : Ret Tryz.prog 111 #[aa, ab] w fun v w' => ∃ (y0 : Bool), y0 = r /\ v = B y0 /\ St w w' [] R := by
 refine ret_of_W Tryz.func111 rfl rfl rfl ?_
 refine W.seq ?_
 refine W.region rfl ?_
 refine zA (B false) rfl ?_
 refine s_nil ?_
 refine W.seq ?_
 refine W.region rfl ?_
 refine zM aa rfl ?_
 refine zM ab rfl ?_
 obtain ⟨ap, ak, hM⟩ := M.e_bind hM
 refine s_call cf136 [aa, ab] rfl (zc9 s f (ag.app _) ai (aj.app _) ak _ (H.gt 0)) ?_
 rintro vq aq ⟨r2, am, hvq, ae⟩
 subst am
 subst vq
 try dsimp only at hM
 replace H := H.bk ae
 clear ae
 refine zC r2 0 (decide (0 <= r2)) rfl rfl rfl ?_
 refine zA (B (decide (0 <= r2))) rfl ?_
 refine s_nil ?_
 refine W.ret ?_
 have ao := M.e_pure hM
 exact ⟨_, resE_tmp rfl, ⟨(decide (0 <= r2)), ao, rfl, H⟩⟩

end Go.Proofs.YtlemgioaakecpaaGreat
end
namespace Go.Nm
namespace Fl
theorem Rows.pw : ∀ {l : List FRow}, Rows l -> l.Pairwise (fun a b => a.stage < b.stage)
  | [], _ => List.Pairwise.nil
  | [a], _ => List.pairwise_singleton _ _
  | a :: b :: r, h => by
    obtain ⟨h1, h2, h3, h4, h5⟩ := h
    have ih := h5.pw
    refine List.Pairwise.cons (fun x hx => ?_) ih
    rcases List.mem_cons.1 hx with rfl | hx
    · exact h2
    · have := (List.pairwise_cons.1 ih).1 x hx
      omega
theorem Rows.lt {l : List FRow} (h : Rows l) {i j : Nat} (hij : i < j) (hj : j < l.length) : (l.getD i default).stage < (l.getD j default).stage := by
  rw [getD_el l (by omega), getD_el l hj]
  exact (List.pairwise_iff_getElem.1 h.pw) i j (by omega) hj hij
theorem Rows.el : ∀ {l : List FRow}, Rows l -> ∀ j, j < l.length -> 0 <= (l.getD j default).stage /\ (l.getD j default).stage <= 2000 /\ 0 <= (l.getD j default).carry /\ (l.getD j default).carry <= 100000
  | [], _, j, hj => by simp at hj
  | a :: r, h, 0, _ => h.head
  | [a], _, j + 1, hj => by simp at hj
  | a :: b :: r, h, j + 1, hj => h.2.2.2.2.el j (by simp at hj ⊢; omega)
theorem Rows.cm : ∀ {l : List FRow}, Rows l -> ∀ j, j + 1 < l.length -> (l.getD j default).carry <= (l.getD (j + 1) default).carry
  | [], _, j, hj => by simp at hj
  | [a], _, j, hj => by simp at hj
  | a :: b :: r, h, 0, _ => h.2.2.2.1
  | a :: b :: r, h, j + 1, hj => h.2.2.2.2.cm j (by simp at hj ⊢; omega)
end Fl
end Go.Nm
namespace Go.Proofs.YtlemgioaakecpaaGreat
open Go Go.Nm
end Go.Proofs.YtlemgioaakecpaaGreat
section
set_option maxRecDepth 100000
set_option maxHeartbeats 16000000
namespace Go.Proofs.YtlemgioaakecpaaGreat
open Go Go.Nm
def zbm (x : Mrk) (aa : Mrk -> M Bool) : M Bool :=
  M.bind (aa x) fun r2 =>
  M.pure (!r2)
theorem zc4 {R : List Chunk} {aa : Nat} {ab : Value} (x : Mrk) (ac : Mrk -> M Bool) (ae : FnM Tryz.prog R ab ac) (ag : Has R (cBlk aa [ab] 155)) {r : Bool} (hM : (zbm x ac).Ends r) (w : World) (H : St w w [] R) : Ret Tryz.prog 112 #[.agg #[I x.place, I x.lo, I x.hi], Pq aa] w fun v w' => ∃ (y0 : Bool), y0 = r /\ v = B y0 /\ St w w' [] R := by
 refine ret_of_W Tryz.func112 rfl rfl rfl ?_
 refine W.seq ?_
 refine W.region rfl ?_
 refine t_box (v := .agg #[I x.place, I x.lo, I x.hi]) (cs := [I x.place, I x.lo, I x.hi]) H rfl rfl ?_
 intro ai am H
 refine zA (B false) rfl ?_
 refine s_nil ?_
 refine W.seq ?_
 refine W.region rfl ?_
 refine s_val (x_ld (p := Pq aa) (v := ab) rfl (ldb_sc Sc155 (ag.blk H) rfl)) ?_
 refine s_val (x_ld (p := Pq ai) (v := .agg #[I x.place, I x.lo, I x.hi]) rfl (ldb_ag (ds := [I x.place, I x.lo, I x.hi]) Ag70 Sz70 (H.bl 0) rfl rfl)) ?_
 obtain ⟨r2, aj, hM⟩ := M.e_bind hM
 refine t_callM H ae rfl rfl x Reads.none ⟨_, rfl, rfl⟩ aj ?_
 intro ao H
 refine s_val (x_not (b := r2) rfl) ?_
 refine zA (B (!r2)) rfl ?_
 refine s_nil ?_
 refine W.ret ?_
 have ak := M.e_pure hM
 exact ⟨_, resE_tmp rfl, ⟨(!r2), ak, rfl, (H.pk [])⟩⟩

def zbp (l : List Mrk) (so : Mrk -> M Bool) : M Bool :=
  M.bind (zbP l (fun aa => zbm aa so)) fun r2 =>
  M.pure (!r2)
theorem zda {R : List Chunk} {ag : Cells} {aa : Value} {ab : Value} (l : List Mrk) (so : Mrk -> M Bool) (am : Reads R ag) (ao : Sl ag aa l) (ai : FnM Tryz.prog R ab so) {r : Bool} (hM : (zbp l so).Ends r) (w : World) (H : St w w [] R) : Ret Tryz.prog 77 #[aa, ab] w fun v w' => ∃ (y0 : Bool), y0 = r /\ v = B y0 /\ St w w' [] R := by
 refine ret_of_W Tryz.func77 rfl rfl rfl ?_
 refine W.seq ?_
 refine W.region rfl ?_
 refine t_box (v := ab) (cs := [ab]) H rfl (FnM.cells ai) ?_
 intro ac aC H
 refine zA (B false) rfl ?_
 refine s_nil ?_
 refine W.seq ?_
 refine W.region rfl ?_
 refine zM aa rfl ?_
 refine s_val (x_mf (fs := []) (cs := [Pq ac]) rfl rfl) ?_
 obtain ⟨aD, ap, hM⟩ := M.e_bind hM
 refine s_call cf111 [aa, .func (.func 112) #[] #[Pq ac]] rfl (zdr l (fun ae => zbm ae so) (am.app _) ao ⟨112, [Pq ac], rfl, cf112, fun aj aE aF aq ae aG au aH av aw => by obtain rfl := Mrk_arg av; exact (zc4 ae so (FnM.app (ai.app _) _) (Has.app (Has.here (k := 0) rfl) _) aw aj (St.refl au)).mono fun aq aj ⟨aI, ax, ay, az⟩ => by subst ax; exact ⟨ay, az⟩⟩ ap _ (H.gt 1)) ?_
 rintro vq aJ ⟨r2, aA, hvq, ak⟩
 subst aA
 subst vq
 try dsimp only at hM
 replace H := H.bk ak
 clear ak
 refine s_val (x_not (b := r2) rfl) ?_
 refine zA (B (!r2)) rfl ?_
 refine s_nil ?_
 refine W.ret ?_
 have aB := M.e_pure hM
 exact ⟨_, resE_tmp rfl, ⟨(!r2), aB, rfl, (H.pk [])⟩⟩

def za1 (s : Span) (aa : Int) (greatest : Int) : M Bool :=
  M.bind (zac s.lo aa greatest) fun r2 =>
  M.bind (M.opt r2 (zac s.hi s.lo greatest) false) fun r3 =>
  M.pure (r2 && r3)
theorem zcF {R : List Chunk}  (s : Span) (ab : Int) (greatest : Int)  {r : Bool} (hM : (za1 s ab greatest).Ends r) (w : World) (H : St w w [] R) : Ret Tryz.prog 113 #[.agg #[I s.lo, I s.hi], I ab, I greatest] w fun v w' => ∃ (y0 : Bool), y0 = r /\ v = B y0 /\ St w w' [] R := by
 refine ret_of_W Tryz.func113 rfl rfl rfl ?_
 refine W.seq ?_
 refine W.region rfl ?_
 refine t_box (v := .agg #[I s.lo, I s.hi]) (cs := [I s.lo, I s.hi]) H rfl rfl ?_
 intro aa am H
 refine zA (B false) rfl ?_
 refine s_nil ?_
 refine W.seq ?_
 refine W.region rfl ?_
 refine s_val (x_fa (a := Pq aa) (v := Pq aa) rfl (fa_blk (o := 0) Fd54_0 Sz3)) ?_
 refine s_val (x_ld (p := Pq aa) (v := I s.lo) rfl (ldb_sc Sc3 (H.bl 0) rfl)) ?_
 refine zM (I ab) rfl ?_
 refine zM (I greatest) rfl ?_
 obtain ⟨ao, ag, hM⟩ := M.e_bind hM
 refine s_call cf70 [I s.lo, I ab, I greatest] rfl (zae s.lo ab greatest ag _ (H.gt 1)) ?_
 rintro vq ap ⟨r2, ai, hvq, ae⟩
 subst ai
 subst vq
 try dsimp only at hM
 replace H := H.bk ae
 clear ae
 refine zM (B r2) rfl ?_
 refine g_val r2 (gy_t rfl) (fun hg => x_fa (a := Pq aa) (v := Oq aa 1) rfl (fa_blk (o := 0) Fd54_1 Sz3)) ?_
 refine g_val r2 (gy_t rfl) (fun hg => x_ld (p := Oq aa 1) (v := I s.hi) (gd_of (c := r2) hg (Oq aa 1)) (ldb_sc Sc3 (H.bl 0) rfl)) ?_
 refine g_val r2 (gy_t rfl) (fun hg => x_fa (a := Pq aa) (v := Pq aa) rfl (fa_blk (o := 0) Fd54_0 Sz3)) ?_
 refine g_val r2 (gy_t rfl) (fun hg => x_ld (p := Pq aa) (v := I s.lo) (gd_of (c := r2) hg (Pq aa)) (ldb_sc Sc3 (H.bl 0) rfl)) ?_
 refine g_val r2 (gy_t rfl) (fun hg => x_mv (v := I greatest) rfl) ?_
 obtain ⟨r3, aj, hM⟩ := M.e_bind hM
 refine t_gcall r2 (gy_t rfl) cf70 (B r3) (fun _ => [I s.hi, I s.lo, I greatest]) (fun hg => lst3 (gd_of (c := r2) hg (I s.hi)) (gd_of (c := r2) hg (I s.lo)) (gd_of (c := r2) hg (I greatest))) H (fun hg => (zae s.hi s.lo greatest (M.e_opt aj hg) _ (H.give (A := []) rfl)).mono fun v_ w_ ⟨y_, ac, ak, H_⟩ => by subst ac; exact ⟨ak, H.via H_⟩) ?_
 intro aq H
 refine s_val (x_pand (b := r2) (r := r3) rfl (fun hb => gd_of (c := r2) (by first | exact hb | (rw [hb]; rfl) | simp_all) (B r3)) rfl) ?_
 refine zA (B (r2 && r3)) rfl ?_
 refine s_nil ?_
 refine W.ret ?_
 have ac := M.e_pure hM
 exact ⟨_, resE_tmp rfl, ⟨(r2 && r3), ac, rfl, (H.pk [])⟩⟩

def za4 (m_ : Mrk) : M Bool :=
  M.bind (zac m_.place 0 10000) fun r2 =>
  M.bind (M.opt r2 (za1 (⟨(m_.lo : Int), (m_.hi : Int)⟩ : Span) 0 2000) false) fun r3 =>
  M.pure (r2 && r3)
theorem zcN {R : List Chunk}  (m_ : Mrk)  {r : Bool} (hM : (za4 m_).Ends r) (w : World) (H : St w w [] R) : Ret Tryz.prog 78 #[.agg #[I m_.place, I m_.lo, I m_.hi]] w fun v w' => ∃ (y0 : Bool), y0 = r /\ v = B y0 /\ St w w' [] R := by
 refine ret_of_W Tryz.func78 rfl rfl rfl ?_
 refine W.seq ?_
 refine W.region rfl ?_
 refine t_box (v := .agg #[I m_.place, I m_.lo, I m_.hi]) (cs := [I m_.place, I m_.lo, I m_.hi]) H rfl rfl ?_
 intro aa ak H
 refine zA (B false) rfl ?_
 refine s_nil ?_
 refine W.seq ?_
 refine W.region rfl ?_
 refine s_val (x_fa (a := Pq aa) (v := Pq aa) rfl (fa_blk (o := 0) Fd70_0 Sz3)) ?_
 refine s_val (x_ld (p := Pq aa) (v := I m_.place) rfl (ldb_sc Sc3 (H.bl 0) rfl)) ?_
 obtain ⟨am, ae, hM⟩ := M.e_bind hM
 refine s_call cf70 [I m_.place, I 0, I 10000] rfl (zae m_.place 0 10000 ae _ (H.gt 1)) ?_
 rintro vq ao ⟨r2, ag, hvq, ac⟩
 subst ag
 subst vq
 try dsimp only at hM
 replace H := H.bk ac
 clear ac
 refine zM (B r2) rfl ?_
 refine g_val r2 (gy_t rfl) (fun hg => x_fa (a := Pq aa) (v := Oq aa 1) rfl (fa_blk (o := 0) Fd70_1 Sz54)) ?_
 refine g_val r2 (gy_t rfl) (fun hg => x_ld (p := Oq aa 1) (v := .agg #[I m_.lo, I m_.hi]) (gd_of (c := r2) hg (Oq aa 1)) (ldb_ag (ds := [I m_.lo, I m_.hi]) Ag54 Sz54 (H.bl 0) rfl rfl)) ?_
 obtain ⟨r3, ai, hM⟩ := M.e_bind hM
 refine t_gcall r2 (gy_t rfl) cf113 (B r3) (fun _ => [.agg #[I m_.lo, I m_.hi], I 0, I 2000]) (fun hg => lst3 (gd_of (c := r2) hg (.agg #[I m_.lo, I m_.hi])) rfl rfl) H (fun hg => (zcF (⟨(m_.lo : Int), (m_.hi : Int)⟩ : Span) 0 2000 (M.e_opt ai hg) _ (H.give (A := []) rfl)).mono fun v_ w_ ⟨y_, ab, aj, H_⟩ => by subst ab; exact ⟨aj, H.via H_⟩) ?_
 intro ap H
 refine s_val (x_pand (b := r2) (r := r3) rfl (fun hb => gd_of (c := r2) (by first | exact hb | (rw [hb]; rfl) | simp_all) (B r3)) rfl) ?_
 refine zA (B (r2 && r3)) rfl ?_
 refine s_nil ?_
 refine W.ret ?_
 have ab := M.e_pure hM
 exact ⟨_, resE_tmp rfl, ⟨(r2 && r3), ab, rfl, (H.pk [])⟩⟩

def zaU (s : List Rch) (f : Rch -> M Bool) : Nat -> M (Nat ⊕ (Int ⊕ Unit)) := fun s2 =>
  bif decide ((s2 : Int) < (s.length : Int)) then (
  M.grd (decide ((s2 : Int) < (s.length : Int))) <|
  M.bind (f (s.getD s2 default)) fun r2 =>
  bif r2 then (
  M.pure (.inr (.inl (s2 : Int))))
  else (
  M.pure (.inl (s2 + 1))))
  else (
  M.pure (.inr (.inr ())))
def zb7 (s : List Rch) (f : Rch -> M Bool) : M Int :=
  M.bind (M.iter (zaU s f) 0) fun x_ => match x_ with
  | (.inl s3) => (
  M.pure s3)
  | (.inr (_ : Unit)) => (
  M.pure (-1))
theorem zc0 {R : List Chunk} {am : Cells} {aa : Value} {ac : Value} (s : List Rch) (f : Rch -> M Bool) (aq : Reads R am) (ae : Sl am aa s) (au : FnM Tryz.prog R ac f) {r : Int} (hM : (zb7 s f).Ends r) (w : World) (H : St w w [] R) : Ret Tryz.prog 137 #[aa, ac] w fun v w' => ∃ (y0 : Int), y0 = r /\ v = I y0 /\ St w w' [] R := by
 refine ret_of_W Tryz.func137 rfl rfl rfl ?_
 refine W.seq ?_
 refine W.region rfl ?_
 refine zA (I 0) rfl ?_
 refine s_nil ?_
 refine W.seq ?_
 refine W.seq ?_
 refine W.region rfl ?_
 refine zM aa rfl ?_
 have aC := (ae).len_le
 refine s_val (x_lenS T25.und rfl ae) ?_
 refine zM (I 0) rfl ?_
 refine s_nil ?_
 refine W.block ?_
 obtain ⟨av, ag, ao⟩ := M.e_bind hM
 obtain ⟨aD, ag⟩ := M.e_iter ag
 refine W.loop (fun m σ W => ∃ (s2 : Nat) (ρ : Env), σ = upds ρ [(0, aa), (1, ac), (7, I (s.length : Int)), (8, I (s2 : Int))] /\ M.iterN (zaU s f) m s2 = some av /\ St w W [] R) ?_ ?_
 ·exact ⟨_, 0, _, upds_of _ _ ⟨rfl, rfl, rfl, rfl, trivial⟩, ag, H⟩
 rintro aE σ aF ⟨s2, ρ, rfl, ap, H⟩
 obtain ⟨aw, ax, aG, hM, ai⟩ := M.e_iterN ap
 simp only [zaU] at hM
 clear ap
 refine W.seq ?_
 refine W.region rfl ?_
 refine zC (s2 : Int) (s.length : Int) (decide ((s2 : Int) < (s.length : Int))) rfl rfl rfl ?_
 refine s_nil ?_
 refine W.seq ?_
 refine W.cond (decide ((s2 : Int) < (s.length : Int))) rfl (fun ab => ?_) (fun ab => ?_)
 ·replace hM := M.e_t hM ab
  simp only [qy1, qy2, qy3, qy4, qy5, qy6, ne_eq, qy7] at ab
  refine W.skip ?_
  refine W.seq ?_
  refine W.block ?_
  refine W.seq ?_
  refine W.region rfl ?_
  refine zM (I (s2 : Int)) rfl ?_
  refine zA (I (s2 : Int)) rfl ?_
  refine s_nil ?_
  refine W.seq ?_
  refine W.region rfl ?_
  refine zM ac rfl ?_
  refine zM aa rfl ?_
  refine zM (I (s2 : Int)) rfl ?_
  obtain ⟨ay, hM⟩ := M.e_grd hM
  simp only [Bool.and_eq_true, decide_eq_true_eq] at ay
  refine s_val (x_ix (a := aa) (b := I (s2 : Int)) (v := vat aa 5 (Int.toNat (s2 : Int))) rfl rfl (Sl.ix (α := Rch) T25.und T25.size ae (by omega) (by omega))) ?_
  refine s_val (x_ld (p := vat aa 5 (Int.toNat (s2 : Int))) (v := .agg #[I ((s.getD s2 default).up), I ((s.getD s2 default).down), I ((s.getD s2 default).lo), I ((s.getD s2 default).hi), B ((s.getD s2 default).narrow)]) rfl (ld_ag Ag58 Sz58 (At.mono (Rch_atA ae (i := (s2 : Int)) (by omega) (by omega)) (aq.at H)))) ?_
  obtain ⟨r2, az, hM⟩ := M.e_bind hM
  refine t_callM H au rfl rfl (s.getD s2 default) Reads.none ⟨_, rfl, rfl⟩ az ?_
  intro aH H
  refine s_nil ?_
  refine W.cond r2 rfl (fun aj => ?_) (fun aj => ?_)
  ·replace hM := M.e_t hM aj
   refine W.seq ?_
   refine W.region rfl ?_
   refine zM (I (s2 : Int)) rfl ?_
   refine zA (I (s2 : Int)) rfl ?_
   refine s_nil ?_
   refine W.ret ?_
   have aA := M.e_inr hM ai
   subst aA
   replace hM := ao
   try dsimp only at hM
   have ak := M.e_pure hM
   exact ⟨_, resE_tmp rfl, ⟨(s2 : Int), ak, rfl, H⟩⟩
  replace hM := M.e_f hM aj
  refine W.skip ?_
  refine W.region rfl ?_
  refine zR (s2 : Int) 1 ((s2 : Int) + 1) rfl rfl rfl (by omega) ?_
  refine zM (I ((s2 : Int) + 1)) rfl ?_
  refine s_nil ?_
  exact ⟨aw, ax, s2 + 1, _, upds_of _ _ ⟨rfl, rfl, rfl, rfl, trivial⟩, M.e_inl hM ai, H⟩
 replace hM := M.e_f hM ab
 simp only [qy1, qy2, qy3, qy4, qy5, qy6, ne_eq, qy7] at ab
 refine W.exit ?_
 have aB := M.e_inr hM ai
 subst aB
 replace hM := ao
 try dsimp only at hM
 refine W.seq ?_
 refine W.region rfl ?_
 refine zA (I (-1)) rfl ?_
 refine s_nil ?_
 refine W.ret ?_
 have ak := M.e_pure hM
 exact ⟨_, resE_tmp rfl, ⟨(-1), ak, rfl, H⟩⟩

def zbO (s : List Rch) (f : Rch -> M Bool) : M Bool :=
  M.bind (zb7 s f) fun r2 =>
  M.pure (decide (0 <= r2))
theorem zdt {R : List Chunk} {ac : Cells} {aa : Value} {ab : Value} (s : List Rch) (f : Rch -> M Bool) (ag : Reads R ac) (ai : Sl ac aa s) (aj : FnM Tryz.prog R ab f) {r : Bool} (hM : (zbO s f).Ends r) (w : World) (H : St w w [] R) : Ret Tryz.prog 114 #[aa, ab] w fun v w' => ∃ (y0 : Bool), y0 = r /\ v = B y0 /\ St w w' [] R := by
 refine ret_of_W Tryz.func114 rfl rfl rfl ?_
 refine W.seq ?_
 refine W.region rfl ?_
 refine zA (B false) rfl ?_
 refine s_nil ?_
 refine W.seq ?_
 refine W.region rfl ?_
 refine zM aa rfl ?_
 refine zM ab rfl ?_
 obtain ⟨ap, ak, hM⟩ := M.e_bind hM
 refine s_call cf137 [aa, ab] rfl (zc0 s f (ag.app _) ai (aj.app _) ak _ (H.gt 0)) ?_
 rintro vq aq ⟨r2, am, hvq, ae⟩
 subst am
 subst vq
 try dsimp only at hM
 replace H := H.bk ae
 clear ae
 refine zC r2 0 (decide (0 <= r2)) rfl rfl rfl ?_
 refine zA (B (decide (0 <= r2))) rfl ?_
 refine s_nil ?_
 refine W.ret ?_
 have ao := M.e_pure hM
 exact ⟨_, resE_tmp rfl, ⟨(decide (0 <= r2)), ao, rfl, H⟩⟩

def zbx (x : Rch) (aa : Rch -> M Bool) : M Bool :=
  M.bind (aa x) fun r2 =>
  M.pure (!r2)
theorem zdf {R : List Chunk} {aa : Nat} {ab : Value} (x : Rch) (ac : Rch -> M Bool) (ae : FnM Tryz.prog R ab ac) (ag : Has R (cBlk aa [ab] 143)) {r : Bool} (hM : (zbx x ac).Ends r) (w : World) (H : St w w [] R) : Ret Tryz.prog 115 #[.agg #[I x.up, I x.down, I x.lo, I x.hi, B x.narrow], Pq aa] w fun v w' => ∃ (y0 : Bool), y0 = r /\ v = B y0 /\ St w w' [] R := by
 refine ret_of_W Tryz.func115 rfl rfl rfl ?_
 refine W.seq ?_
 refine W.region rfl ?_
 refine t_box (v := .agg #[I x.up, I x.down, I x.lo, I x.hi, B x.narrow]) (cs := [I x.up, I x.down, I x.lo, I x.hi, B x.narrow]) H rfl rfl ?_
 intro ai am H
 refine zA (B false) rfl ?_
 refine s_nil ?_
 refine W.seq ?_
 refine W.region rfl ?_
 refine s_val (x_ld (p := Pq aa) (v := ab) rfl (ldb_sc Sc143 (ag.blk H) rfl)) ?_
 refine s_val (x_ld (p := Pq ai) (v := .agg #[I x.up, I x.down, I x.lo, I x.hi, B x.narrow]) rfl (ldb_ag (ds := [I x.up, I x.down, I x.lo, I x.hi, B x.narrow]) Ag58 Sz58 (H.bl 0) rfl rfl)) ?_
 obtain ⟨r2, aj, hM⟩ := M.e_bind hM
 refine t_callM H ae rfl rfl x Reads.none ⟨_, rfl, rfl⟩ aj ?_
 intro ao H
 refine s_val (x_not (b := r2) rfl) ?_
 refine zA (B (!r2)) rfl ?_
 refine s_nil ?_
 refine W.ret ?_
 have ak := M.e_pure hM
 exact ⟨_, resE_tmp rfl, ⟨(!r2), ak, rfl, (H.pk [])⟩⟩

def zbo (l : List Rch) (so : Rch -> M Bool) : M Bool :=
  M.bind (zbO l (fun aa => zbx aa so)) fun r2 =>
  M.pure (!r2)
theorem zdd {R : List Chunk} {ag : Cells} {aa : Value} {ab : Value} (l : List Rch) (so : Rch -> M Bool) (am : Reads R ag) (ao : Sl ag aa l) (ai : FnM Tryz.prog R ab so) {r : Bool} (hM : (zbo l so).Ends r) (w : World) (H : St w w [] R) : Ret Tryz.prog 79 #[aa, ab] w fun v w' => ∃ (y0 : Bool), y0 = r /\ v = B y0 /\ St w w' [] R := by
 refine ret_of_W Tryz.func79 rfl rfl rfl ?_
 refine W.seq ?_
 refine W.region rfl ?_
 refine t_box (v := ab) (cs := [ab]) H rfl (FnM.cells ai) ?_
 intro ac aC H
 refine zA (B false) rfl ?_
 refine s_nil ?_
 refine W.seq ?_
 refine W.region rfl ?_
 refine zM aa rfl ?_
 refine s_val (x_mf (fs := []) (cs := [Pq ac]) rfl rfl) ?_
 obtain ⟨aD, ap, hM⟩ := M.e_bind hM
 refine s_call cf114 [aa, .func (.func 115) #[] #[Pq ac]] rfl (zdt l (fun ae => zbx ae so) (am.app _) ao ⟨115, [Pq ac], rfl, cf115, fun aj aE aF aq ae aG au aH av aw => by obtain rfl := Rch_arg av; exact (zdf ae so (FnM.app (ai.app _) _) (Has.app (Has.here (k := 0) rfl) _) aw aj (St.refl au)).mono fun aq aj ⟨aI, ax, ay, az⟩ => by subst ax; exact ⟨ay, az⟩⟩ ap _ (H.gt 1)) ?_
 rintro vq aJ ⟨r2, aA, hvq, ak⟩
 subst aA
 subst vq
 try dsimp only at hM
 replace H := H.bk ak
 clear ak
 refine s_val (x_not (b := r2) rfl) ?_
 refine zA (B (!r2)) rfl ?_
 refine s_nil ?_
 refine W.ret ?_
 have aB := M.e_pure hM
 exact ⟨_, resE_tmp rfl, ⟨(!r2), aB, rfl, (H.pk [])⟩⟩

def zbC (r_ : Rch) (sections : Int) : M Bool :=
  M.grd (decide ((-9223372036854775808 : Int) <= (sections - 1)) && decide ((sections - 1) <= (9223372036854775807 : Int))) <|
  M.bind (zac r_.up 0 (sections - 1)) fun r2 =>
  M.grd ((!r2 || (decide ((-9223372036854775808 : Int) <= (r_.up + 1)) && decide ((r_.up + 1) <= (9223372036854775807 : Int))))) <|
  M.bind (M.opt r2 (zac r_.down (r_.up + 1) (sections - 1)) false) fun r3 =>
  M.bind (M.opt (r2 && r3) (za1 (⟨(r_.lo : Int), (r_.hi : Int)⟩ : Span) 1 400) false) fun r4 =>
  M.pure ((r2 && r3) && r4)
theorem zcL {R : List Chunk}  (r_ : Rch) (sections : Int)  {r : Bool} (hM : (zbC r_ sections).Ends r) (w : World) (H : St w w [] R) : Ret Tryz.prog 81 #[.agg #[I r_.up, I r_.down, I r_.lo, I r_.hi, B r_.narrow], I sections] w fun v w' => ∃ (y0 : Bool), y0 = r /\ v = B y0 /\ St w w' [] R := by
 refine ret_of_W Tryz.func81 rfl rfl rfl ?_
 refine W.seq ?_
 refine W.region rfl ?_
 refine t_box (v := .agg #[I r_.up, I r_.down, I r_.lo, I r_.hi, B r_.narrow]) (cs := [I r_.up, I r_.down, I r_.lo, I r_.hi, B r_.narrow]) H rfl rfl ?_
 intro aa au H
 refine zA (B false) rfl ?_
 refine s_nil ?_
 refine W.seq ?_
 refine W.region rfl ?_
 refine s_val (x_fa (a := Pq aa) (v := Pq aa) rfl (fa_blk (o := 0) Fd58_0 Sz3)) ?_
 refine s_val (x_ld (p := Pq aa) (v := I r_.up) rfl (ldb_sc Sc3 (H.bl 0) rfl)) ?_
 refine zM (I sections) rfl ?_
 obtain ⟨ak, hM⟩ := M.e_grd hM
 simp only [Bool.and_eq_true, decide_eq_true_eq] at ak
 refine zR sections 1 (sections - 1) rfl rfl rfl (by omega) ?_
 obtain ⟨av, am, hM⟩ := M.e_bind hM
 refine s_call cf70 [I r_.up, I 0, I (sections - 1)] rfl (zae r_.up 0 (sections - 1) am _ (H.gt 1)) ?_
 rintro vq aw ⟨r2, ao, hvq, aj⟩
 subst ao
 subst vq
 try dsimp only at hM
 replace H := H.bk aj
 clear aj
 refine zM (B r2) rfl ?_
 refine g_val r2 (gy_t rfl) (fun hg => x_fa (a := Pq aa) (v := Oq aa 1) rfl (fa_blk (o := 0) Fd58_1 Sz3)) ?_
 refine g_val r2 (gy_t rfl) (fun hg => x_ld (p := Oq aa 1) (v := I r_.down) (gd_of (c := r2) hg (Oq aa 1)) (ldb_sc Sc3 (H.bl 0) rfl)) ?_
 refine g_val r2 (gy_t rfl) (fun hg => x_fa (a := Pq aa) (v := Pq aa) rfl (fa_blk (o := 0) Fd58_0 Sz3)) ?_
 refine g_val r2 (gy_t rfl) (fun hg => x_ld (p := Pq aa) (v := I r_.up) (gd_of (c := r2) hg (Pq aa)) (ldb_sc Sc3 (H.bl 0) rfl)) ?_
 obtain ⟨ac, hM⟩ := M.e_grd hM
 replace ac := M.imp_of ac
 simp only [Bool.and_eq_true, decide_eq_true_eq] at ac
 refine g_val r2 (gy_t rfl) (fun hg => x_ari (a := r_.up) (b := 1) (r := r_.up + 1) (gd_of (c := r2) hg (I r_.up)) rfl rfl (by have ab := ac.resolve_left (by rw [hg]; decide); first | exact ab | exact ab.1 | exact ab.2 | omega | (have ag := hg; simp at ag; omega))) ?_
 refine g_val r2 (gy_t rfl) (fun hg => x_mv (v := I sections) rfl) ?_
 refine g_val r2 (gy_t rfl) (fun hg => x_ari (a := sections) (b := 1) (r := sections - 1) (gd_of (c := r2) hg (I sections)) rfl rfl (by have ab := ac.resolve_left (by rw [hg]; decide); first | exact ab | exact ab.1 | exact ab.2 | omega | (have ag := hg; simp at ag; omega))) ?_
 obtain ⟨r3, ap, hM⟩ := M.e_bind hM
 refine t_gcall r2 (gy_t rfl) cf70 (B r3) (fun _ => [I r_.down, I (r_.up + 1), I (sections - 1)]) (fun hg => lst3 (gd_of (c := r2) hg (I r_.down)) (gd_of (c := r2) hg (I (r_.up + 1))) (gd_of (c := r2) hg (I (sections - 1)))) H (fun hg => (zae r_.down (r_.up + 1) (sections - 1) (M.e_opt ap hg) _ (H.give (A := []) rfl)).mono fun v_ w_ ⟨y_, ae, ai, H_⟩ => by subst ae; exact ⟨ai, H.via H_⟩) ?_
 intro ax H
 refine s_val (x_pand (b := r2) (r := r3) rfl (fun hb => gd_of (c := r2) (by first | exact hb | (rw [hb]; rfl) | simp_all) (B r3)) rfl) ?_
 refine zM (B (r2 && r3)) rfl ?_
 refine g_val (r2 && r3) (gy_t rfl) (fun hg => x_fa (a := Pq aa) (v := Oq aa 2) rfl (fa_blk (o := 0) Fd58_2 Sz54)) ?_
 refine g_val (r2 && r3) (gy_t rfl) (fun hg => x_ld (p := Oq aa 2) (v := .agg #[I r_.lo, I r_.hi]) (gd_of (c := (r2 && r3)) hg (Oq aa 2)) (ldb_ag (ds := [I r_.lo, I r_.hi]) Ag54 Sz54 (H.bl 0) rfl rfl)) ?_
 obtain ⟨r4, aq, hM⟩ := M.e_bind hM
 refine t_gcall (r2 && r3) (gy_t rfl) cf113 (B r4) (fun _ => [.agg #[I r_.lo, I r_.hi], I 1, I 400]) (fun hg => lst3 (gd_of (c := (r2 && r3)) hg (.agg #[I r_.lo, I r_.hi])) rfl rfl) H (fun hg => (zcF (⟨(r_.lo : Int), (r_.hi : Int)⟩ : Span) 1 400 (M.e_opt aq hg) _ (H.give (A := []) rfl)).mono fun v_ w_ ⟨y_, ae, ai, H_⟩ => by subst ae; exact ⟨ai, H.via H_⟩) ?_
 intro ay H
 refine s_val (x_pand (b := (r2 && r3)) (r := r4) rfl (fun hb => gd_of (c := (r2 && r3)) (by first | exact hb | (rw [hb]; rfl) | simp_all) (B r4)) rfl) ?_
 refine zA (B ((r2 && r3) && r4)) rfl ?_
 refine s_nil ?_
 refine W.ret ?_
 have ae := M.e_pure hM
 exact ⟨_, resE_tmp rfl, ⟨((r2 && r3) && r4), ae, rfl, (H.pk [])⟩⟩

def zbe (r_ : Rch) (aa : List Sect) (ab : List Mrk) (ac : List Rch) : M Bool :=
  M.bind (zbC r_ (aa.length : Int)) fun r2 =>
  M.pure r2
theorem zc7 {R : List Chunk} {aa : Nat} {ae : Cells} {ac : Value} {ag : Cells} {ai : Value} {aj : Cells} {ak : Value} (r_ : Rch) (ab : List Sect) (am : List Mrk) (ao : List Rch) (az : Reads R ae) (ap : Sl ae ac ab) (aA : Reads R ag) (aB : Sl ag ai am) (aC : Reads R aj) (aD : Sl aj ak ao) (au : Has R (cBlk aa [ac, ai, ak] 27)) {r : Bool} (hM : (zbe r_ ab am ao).Ends r) (w : World) (H : St w w [] R) : Ret Tryz.prog 80 #[.agg #[I r_.up, I r_.down, I r_.lo, I r_.hi, B r_.narrow], Pq aa] w fun v w' => ∃ (y0 : Bool), y0 = r /\ v = B y0 /\ St w w' [] R := by
 refine ret_of_W Tryz.func80 rfl rfl rfl ?_
 refine W.seq ?_
 refine W.region rfl ?_
 refine t_box (v := .agg #[I r_.up, I r_.down, I r_.lo, I r_.hi, B r_.narrow]) (cs := [I r_.up, I r_.down, I r_.lo, I r_.hi, B r_.narrow]) H rfl rfl ?_
 intro av aE H
 refine zA (B false) rfl ?_
 refine s_nil ?_
 refine W.seq ?_
 refine W.region rfl ?_
 refine s_val (x_ld (p := Pq av) (v := .agg #[I r_.up, I r_.down, I r_.lo, I r_.hi, B r_.narrow]) rfl (ldb_ag (ds := [I r_.up, I r_.down, I r_.lo, I r_.hi, B r_.narrow]) Ag58 Sz58 (H.bl 0) rfl rfl)) ?_
 refine s_val (x_fa (a := Pq aa) (v := Pq aa) rfl (fa_blk (o := 0) Fd27_0 Sz23)) ?_
 refine s_val (x_ld (p := Pq aa) (v := ac) rfl (ldb_sc Sc23 (au.blk H) rfl)) ?_
 have aF := (ap).len_le
 refine s_val (x_lenS T23.und rfl ap) ?_
 obtain ⟨aG, aw, hM⟩ := M.e_bind hM
 refine s_call cf81 [.agg #[I r_.up, I r_.down, I r_.lo, I r_.hi, B r_.narrow], I (ab.length : Int)] rfl (zcL r_ (ab.length : Int) aw _ (H.gt 1)) ?_
 rintro vq aH ⟨r2, ax, hvq, aq⟩
 subst ax
 subst vq
 try dsimp only at hM
 replace H := H.bk aq
 clear aq
 refine zA (B r2) rfl ?_
 refine s_nil ?_
 refine W.ret ?_
 have ay := M.e_pure hM
 exact ⟨_, resE_tmp rfl, ⟨r2, ay, rfl, (H.pk [])⟩⟩

def za3 (s_Sections : List Sect) : (Int × Nat) -> M ((Int × Nat) ⊕ (Unit ⊕ Unit)) := fun (last, s2) =>
  bif decide ((s2 : Int) < (s_Sections.length : Int)) then (
  M.grd (decide ((s2 : Int) < (s_Sections.length : Int))) <|
  M.bind (zbK (s_Sections.getD s2 default)) fun r6 =>
  bif ((!r6) || (decide (((s_Sections.getD s2 default).place) <= last))) then (
  M.pure (.inr (.inl ())))
  else (
  M.pure (.inl ((s_Sections.getD s2 default).place, s2 + 1))))
  else (
  M.pure (.inr (.inr ())))
def zbh (s_Sections : List Sect) (s_Marks : List Mrk) (s_Reaches : List Rch) : M Int :=
  M.bind (zac (s_Sections.length : Int) 2 6) fun r2 =>
  M.bind (M.opt (!(!r2)) (zac (s_Marks.length : Int) 1 16) false) fun r3 =>
  M.bind (M.opt (!((!r2) || (!r3))) (zac (s_Reaches.length : Int) 1 6) false) fun r4 =>
  M.bind (M.opt (!(((!r2) || (!r3)) || (!r4))) (zbG s_Sections (fun aa => zbu aa)) false) fun r5 =>
  bif ((((!r2) || (!r3)) || (!r4)) || (!r5)) then (
  M.pure 3)
  else (
  M.bind (M.iter (za3 s_Sections) (-1, 0)) fun x_ => match x_ with
  | (.inl (_ : Unit)) => (
  M.pure 70)
  | (.inr (_ : Unit)) => (
  M.bind (zbp s_Marks (fun aa => za4 aa)) fun r7 =>
  M.bind (M.opt (!(!r7)) (zbo s_Reaches (fun aa => zbe aa s_Sections s_Marks s_Reaches)) false) fun r8 =>
  bif ((!r7) || (!r8)) then (
  M.pure 70)
  else (
  M.pure 0)))
theorem zcK {R : List Chunk} {aM : Cells} {ac : Value} {aN : Cells} {ai : Value} {aO : Cells} {ag : Value} (s_Sections : List Sect) (s_Marks : List Mrk) (s_Reaches : List Rch) (aD : Reads R aM) (aj : Sl aM ac s_Sections) (aP : Reads R aN) (aE : Sl aN ai s_Marks) (aQ : Reads R aO) (aF : Sl aO ag s_Reaches) {r : Int} (hM : (zbh s_Sections s_Marks s_Reaches).Ends r) (w : World) (H : St w w [] R) : Ret Tryz.prog 26 #[.agg #[ac, ai, ag]] w fun v w' => ∃ (y0 : Int), y0 = r /\ v = I y0 /\ St w w' [] R := by
 refine ret_of_W Tryz.func26 rfl rfl rfl ?_
 refine W.seq ?_
 refine W.region rfl ?_
 refine t_box (v := .agg #[ac, ai, ag]) (cs := [ac, ai, ag]) H rfl rfl ?_
 intro aa bq H
 refine zA (I 0) rfl ?_
 refine s_nil ?_
 refine W.seq ?_
 refine W.region rfl ?_
 refine zA (.func (.func 74) #[] #[]) rfl ?_
 refine s_nil ?_
 refine W.seq ?_
 refine W.seq ?_
 refine W.region rfl ?_
 refine s_val (x_fa (a := Pq aa) (v := Pq aa) rfl (fa_blk (o := 0) Fd27_0 Sz23)) ?_
 refine s_val (x_ld (p := Pq aa) (v := ac) rfl (ldb_sc Sc23 (H.bl 0) rfl)) ?_
 have br := (aj).len_le
 refine s_val (x_lenS T23.und rfl aj) ?_
 obtain ⟨bt, aX, hM⟩ := M.e_bind hM
 refine s_call cf70 [I (s_Sections.length : Int), I 2, I 6] rfl (zae (s_Sections.length : Int) 2 6 aX _ (H.gt 1)) ?_
 rintro vq bu ⟨r2, aY, hvq, ak⟩
 subst aY
 subst vq
 try dsimp only at hM
 replace H := H.bk ak
 clear ak
 refine s_val (x_not (b := r2) rfl) ?_
 refine zM (B (!r2)) rfl ?_
 refine g_val (!(!r2)) (gy_f rfl) (fun hg => x_fa (a := Pq aa) (v := Oq aa 1) rfl (fa_blk (o := 0) Fd27_1 Sz24)) ?_
 refine g_val (!(!r2)) (gy_f rfl) (fun hg => x_ld (p := Oq aa 1) (v := ai) (gd_of (c := !(!r2)) hg (Oq aa 1)) (ldb_sc Sc24 (H.bl 0) rfl)) ?_
 have bv := (aE).len_le
 refine g_val (!(!r2)) (gy_f rfl) (fun hg => x_lenS T24.und (gd_of (c := !(!r2)) hg (ai)) aE) ?_
 obtain ⟨r3, aZ, hM⟩ := M.e_bind hM
 refine t_gcall (!(!r2)) (gy_f rfl) cf70 (B r3) (fun _ => [I (s_Marks.length : Int), I 1, I 16]) (fun hg => lst3 (gd_of (c := !(!r2)) hg (I (s_Marks.length : Int))) rfl rfl) H (fun hg => (zae (s_Marks.length : Int) 1 16 (M.e_opt aZ hg) _ (H.give (A := []) rfl)).mono fun v_ w_ ⟨y_, ab, ap, H_⟩ => by subst ab; exact ⟨ap, H.via H_⟩) ?_
 intro bw H
 refine g_val (!(!r2)) (gy_f rfl) (fun hg => x_not (b := r3) (gd_of (c := !(!r2)) hg (B r3))) ?_
 refine s_val (x_por (b := !r2) (r := !r3) rfl rfl (fun hb => gd_of (c := !(!r2)) (by first | exact hb | (rw [hb]; rfl) | simp_all) (B (!r3)))) ?_
 refine zM (B ((!r2) || (!r3))) rfl ?_
 refine g_val (!((!r2) || (!r3))) (gy_f rfl) (fun hg => x_fa (a := Pq aa) (v := Oq aa 2) rfl (fa_blk (o := 0) Fd27_2 Sz25)) ?_
 refine g_val (!((!r2) || (!r3))) (gy_f rfl) (fun hg => x_ld (p := Oq aa 2) (v := ag) (gd_of (c := !((!r2) || (!r3))) hg (Oq aa 2)) (ldb_sc Sc25 (H.bl 0) rfl)) ?_
 have bx := (aF).len_le
 refine g_val (!((!r2) || (!r3))) (gy_f rfl) (fun hg => x_lenS T25.und (gd_of (c := !((!r2) || (!r3))) hg (ag)) aF) ?_
 obtain ⟨r4, a6, hM⟩ := M.e_bind hM
 refine t_gcall (!((!r2) || (!r3))) (gy_f rfl) cf70 (B r4) (fun _ => [I (s_Reaches.length : Int), I 1, I 6]) (fun hg => lst3 (gd_of (c := !((!r2) || (!r3))) hg (I (s_Reaches.length : Int))) rfl rfl) H (fun hg => (zae (s_Reaches.length : Int) 1 6 (M.e_opt a6 hg) _ (H.give (A := []) rfl)).mono fun v_ w_ ⟨y_, ab, ap, H_⟩ => by subst ab; exact ⟨ap, H.via H_⟩) ?_
 intro bz H
 refine g_val (!((!r2) || (!r3))) (gy_f rfl) (fun hg => x_not (b := r4) (gd_of (c := !((!r2) || (!r3))) hg (B r4))) ?_
 refine s_val (x_por (b := ((!r2) || (!r3))) (r := !r4) rfl rfl (fun hb => gd_of (c := !((!r2) || (!r3))) (by first | exact hb | (rw [hb]; rfl) | simp_all) (B (!r4)))) ?_
 refine zM (B (((!r2) || (!r3)) || (!r4))) rfl ?_
 refine g_val (!(((!r2) || (!r3)) || (!r4))) (gy_f rfl) (fun hg => x_fa (a := Pq aa) (v := Pq aa) rfl (fa_blk (o := 0) Fd27_0 Sz23)) ?_
 refine g_val (!(((!r2) || (!r3)) || (!r4))) (gy_f rfl) (fun hg => x_ld (p := Pq aa) (v := ac) (gd_of (c := !(((!r2) || (!r3)) || (!r4))) hg (Pq aa)) (ldb_sc Sc23 (H.bl 0) rfl)) ?_
 refine g_val (!(((!r2) || (!r3)) || (!r4))) (gy_f rfl) (fun hg => x_mv (v := .func (.func 74) #[] #[]) rfl) ?_
 obtain ⟨r5, a7, hM⟩ := M.e_bind hM
 refine t_gcall (!(((!r2) || (!r3)) || (!r4))) (gy_f rfl) cf75 (B r5) (fun _ => [ac, .func (.func 74) #[] #[]]) (fun hg => lst2 (gd_of (c := !(((!r2) || (!r3)) || (!r4))) hg (ac)) (gd_of (c := !(((!r2) || (!r3)) || (!r4))) hg (.func (.func 74) #[] #[]))) H (fun hg => (zdn s_Sections (fun ae => zbu ae) (aD.app _) aj ⟨74, [], rfl, cf74, fun am aR aS au ae aT av aG aw ax => by obtain ⟨bA, rfl, a8⟩ := Sect_arg aw; exact (zcO ae aG a8 ax am (St.refl av)).mono fun au am ⟨aU, ay, az, aA⟩ => by subst ay; exact ⟨az, aA⟩⟩ (M.e_opt a7 hg) _ (H.give (A := []) rfl)).mono fun v_ w_ ⟨y_, ab, ap, H_⟩ => by subst ab; exact ⟨ap, H.via H_⟩) ?_
 intro bB H
 refine g_val (!(((!r2) || (!r3)) || (!r4))) (gy_f rfl) (fun hg => x_not (b := r5) (gd_of (c := !(((!r2) || (!r3)) || (!r4))) hg (B r5))) ?_
 refine s_val (x_por (b := (((!r2) || (!r3)) || (!r4))) (r := !r5) rfl rfl (fun hb => gd_of (c := !(((!r2) || (!r3)) || (!r4))) (by first | exact hb | (rw [hb]; rfl) | simp_all) (B (!r5)))) ?_
 refine s_nil ?_
 refine W.cond ((((!r2) || (!r3)) || (!r4)) || (!r5)) rfl (fun aH => ?_) (fun aH => ?_)
 ·replace hM := M.e_t hM aH
  refine W.seq ?_
  refine W.region rfl ?_
  refine zA (I 3) rfl ?_
  refine s_nil ?_
  refine W.ret ?_
  have ab := M.e_pure hM
  exact ⟨_, resE_tmp rfl, ⟨3, ab, rfl, (H.pk [])⟩⟩
 replace hM := M.e_f hM aH
 refine W.skip ?_
 refine W.seq ?_
 refine W.region rfl ?_
 refine zA (I (-1)) rfl ?_
 refine s_nil ?_
 refine W.seq ?_
 refine W.seq ?_
 refine W.region rfl ?_
 refine s_val (x_fa (a := Pq aa) (v := Pq aa) rfl (fa_blk (o := 0) Fd27_0 Sz23)) ?_
 refine s_val (x_ld (p := Pq aa) (v := ac) rfl (ldb_sc Sc23 (H.bl 0) rfl)) ?_
 have bC := (aj).len_le
 refine s_val (x_lenS T23.und rfl aj) ?_
 refine zM (I 0) rfl ?_
 refine s_nil ?_
 refine W.block ?_
 obtain ⟨ba, aI, aV⟩ := M.e_bind hM
 obtain ⟨bD, aI⟩ := M.e_iter aI
 refine W.loop (fun m σ W => ∃ (last : Int) (s2 : Nat) (ρ : Env), σ = upds ρ [(1, Pq aa), (4, I last), (34, ac), (35, I (s_Sections.length : Int)), (36, I (s2 : Int))] /\ M.iterN (za3 s_Sections) m (last, s2) = some ba /\ St w W [cBlk aa [ac, ai, ag] 27] R) ?_ ?_
 ·exact ⟨_, -1, 0, _, upds_of _ _ ⟨rfl, rfl, rfl, rfl, rfl, trivial⟩, aI, H⟩
 rintro bE σ bF ⟨last, s2, ρ, rfl, aW, H⟩
 obtain ⟨bb, bc, bG, hM, aJ⟩ := M.e_iterN aW
 simp only [za3] at hM
 clear aW
 refine W.seq ?_
 refine W.region rfl ?_
 refine zC (s2 : Int) (s_Sections.length : Int) (decide ((s2 : Int) < (s_Sections.length : Int))) rfl rfl rfl ?_
 refine s_nil ?_
 refine W.seq ?_
 refine W.cond (decide ((s2 : Int) < (s_Sections.length : Int))) rfl (fun aB => ?_) (fun aB => ?_)
 ·replace hM := M.e_t hM aB
  simp only [qy1, qy2, qy3, qy4, qy5, qy6, ne_eq, qy7] at aB
  refine W.skip ?_
  refine W.seq ?_
  refine W.block ?_
  refine W.seq ?_
  refine W.region rfl ?_
  obtain ⟨bf, hM⟩ := M.e_grd hM
  simp only [Bool.and_eq_true, decide_eq_true_eq] at bf
  refine s_val (x_ix (a := ac) (b := I (s2 : Int)) (v := vat ac 2 (Int.toNat (s2 : Int))) rfl rfl (Sl.ix (α := Sect) T23.und T23.size aj (by omega) (by omega))) ?_
  obtain ⟨aq, bg, aC⟩ := Sect_atA aj (i := (s2 : Int)) (by omega) (by omega)
  replace aC : Sl _ aq (s_Sections.getD s2 default).rows := aC
  have bH := aC.len_le
  refine s_val (x_ld (p := vat ac 2 (Int.toNat (s2 : Int))) (v := .agg #[I ((s_Sections.getD s2 default).place), aq]) rfl (ld_ag Ag68 Sz68 (At.mono bg (aD.at H)))) ?_
  refine t_alloc (cs := [I 0, .slice none 0 0]) H Al68 rfl ?_
  intro ao bI H
  refine t_sw 0 0 [I ((s_Sections.getD s2 default).place), aq] (.agg #[I ((s_Sections.getD s2 default).place), aq]) H rfl rfl Sz68 rfl rfl rfl (by simp only [List.all_cons, List.all_nil, Bool.true_and, Bool.and_true, Sl.oc aC]; try rfl) ?_
  intro bJ H
  refine s_nil ?_
  refine W.seq ?_
  refine W.seq ?_
  refine W.region rfl ?_
  refine s_val (x_ld (p := Pq ao) (v := .agg #[I ((s_Sections.getD s2 default).place), aq]) rfl (ldb_ag (ds := [I ((s_Sections.getD s2 default).place), aq]) Ag68 Sz68 (H.bl 0) rfl rfl)) ?_
  obtain ⟨bK, bh, hM⟩ := M.e_bind hM
  refine s_call cf76 [.agg #[I ((s_Sections.getD s2 default).place), aq]] rfl (zc1 (s_Sections.getD s2 default) (aD.app _) aC bh _ (H.gt 2)) ?_
  rintro vq bL ⟨r6, bi, hvq, ak⟩
  subst bi
  subst vq
  try dsimp only at hM
  replace H := H.bk ak
  clear ak
  refine s_val (x_not (b := r6) rfl) ?_
  refine zM (B (!r6)) rfl ?_
  refine g_val (!(!r6)) (gy_f rfl) (fun hg => x_fa (a := Pq ao) (v := Pq ao) rfl (fa_blk (o := 0) Fd68_0 Sz3)) ?_
  refine g_val (!(!r6)) (gy_f rfl) (fun hg => x_ld (p := Pq ao) (v := I ((s_Sections.getD s2 default).place)) (gd_of (c := !(!r6)) hg (Pq ao)) (ldb_sc Sc3 (H.bl 0) rfl)) ?_
  refine g_val (!(!r6)) (gy_f rfl) (fun hg => x_mv (v := I last) rfl) ?_
  refine g_val (!(!r6)) (gy_f rfl) (fun hg => x_cmp (kd := .i64) (a := (s_Sections.getD s2 default).place) (b := last) (r := decide (((s_Sections.getD s2 default).place) <= last)) (gd_of (c := !(!r6)) hg (I ((s_Sections.getD s2 default).place))) (gd_of (c := !(!r6)) hg (I last)) rfl) ?_
  refine s_val (x_por (b := !r6) (r := decide (((s_Sections.getD s2 default).place) <= last)) rfl rfl (fun hb => gd_of (c := !(!r6)) (by first | exact hb | (rw [hb]; rfl) | simp_all) (B (decide (((s_Sections.getD s2 default).place) <= last))))) ?_
  refine s_nil ?_
  refine W.cond ((!r6) || (decide (((s_Sections.getD s2 default).place) <= last))) rfl (fun aK => ?_) (fun aK => ?_)
  ·replace hM := M.e_t hM aK
   refine W.seq ?_
   refine W.region rfl ?_
   refine zA (I 70) rfl ?_
   refine s_nil ?_
   refine W.ret ?_
   have bj := M.e_inr hM aJ
   subst bj
   replace hM := aV
   try dsimp only at hM
   have ab := M.e_pure hM
   exact ⟨_, resE_tmp rfl, ⟨70, ab, rfl, (H.pk [])⟩⟩
  replace hM := M.e_f hM aK
  refine W.skip ?_
  refine W.region rfl ?_
  refine s_val (x_fa (a := Pq ao) (v := Pq ao) rfl (fa_blk (o := 0) Fd68_0 Sz3)) ?_
  refine s_val (x_ld (p := Pq ao) (v := I ((s_Sections.getD s2 default).place)) rfl (ldb_sc Sc3 (H.bl 0) rfl)) ?_
  refine zA (I ((s_Sections.getD s2 default).place)) rfl ?_
  refine s_nil ?_
  refine W.region rfl ?_
  refine zR (s2 : Int) 1 ((s2 : Int) + 1) rfl rfl rfl (by omega) ?_
  refine zM (I ((s2 : Int) + 1)) rfl ?_
  refine s_nil ?_
  exact ⟨bb, bc, (s_Sections.getD s2 default).place, s2 + 1, _, upds_of _ _ ⟨rfl, rfl, rfl, rfl, rfl, trivial⟩, M.e_inl hM aJ, (H.pk [1])⟩
 replace hM := M.e_f hM aB
 simp only [qy1, qy2, qy3, qy4, qy5, qy6, ne_eq, qy7] at aB
 refine W.exit ?_
 have bm := M.e_inr hM aJ
 subst bm
 replace hM := aV
 try dsimp only at hM
 refine W.seq ?_
 refine W.seq ?_
 refine W.region rfl ?_
 refine s_val (x_fa (a := Pq aa) (v := Oq aa 1) rfl (fa_blk (o := 0) Fd27_1 Sz24)) ?_
 refine s_val (x_ld (p := Oq aa 1) (v := ai) rfl (ldb_sc Sc24 (H.bl 0) rfl)) ?_
 obtain ⟨bM, bn, hM⟩ := M.e_bind hM
 refine s_call cf77 [ai, .func (.func 78) #[] #[]] rfl (zda s_Marks (fun ae => za4 ae) (aP.app _) aE ⟨78, [], rfl, cf78, fun am aR aS au ae aT av aG aw ax => by obtain rfl := Mrk_arg aw; exact (zcN ae ax am (St.refl av)).mono fun au am ⟨aU, ay, az, aA⟩ => by subst ay; exact ⟨az, aA⟩⟩ bn _ (H.gt 1)) ?_
 rintro vq bN ⟨r7, bo, hvq, ak⟩
 subst bo
 subst vq
 try dsimp only at hM
 replace H := H.bk ak
 clear ak
 refine s_val (x_not (b := r7) rfl) ?_
 refine zM (B (!r7)) rfl ?_
 refine g_val (!(!r7)) (gy_f rfl) (fun hg => x_fa (a := Pq aa) (v := Oq aa 2) rfl (fa_blk (o := 0) Fd27_2 Sz25)) ?_
 refine g_val (!(!r7)) (gy_f rfl) (fun hg => x_ld (p := Oq aa 2) (v := ag) (gd_of (c := !(!r7)) hg (Oq aa 2)) (ldb_sc Sc25 (H.bl 0) rfl)) ?_
 refine g_val (!(!r7)) (gy_f rfl) (fun hg => x_mf (fs := []) (cs := [Pq aa]) rfl rfl) ?_
 obtain ⟨r8, bp, hM⟩ := M.e_bind hM
 refine t_gcall (!(!r7)) (gy_f rfl) cf79 (B r8) (fun _ => [ag, .func (.func 80) #[] #[Pq aa]]) (fun hg => lst2 (gd_of (c := !(!r7)) hg (ag)) (gd_of (c := !(!r7)) hg (.func (.func 80) #[] #[Pq aa]))) H (fun hg => (zdd s_Reaches (fun ae => zbe ae s_Sections s_Marks s_Reaches) (aQ.app _) aF ⟨80, [Pq aa], rfl, cf80, fun am aR aS au ae aT av aG aw ax => by obtain rfl := Rch_arg aw; exact (zc7 ae s_Sections s_Marks s_Reaches (Reads.app (aD.app _) _) aj (Reads.app (aP.app _) _) aE (Reads.app (aQ.app _) _) aF (Has.app (Has.here (k := 0) rfl) _) ax am (St.refl av)).mono fun au am ⟨aU, ay, az, aA⟩ => by subst ay; exact ⟨az, aA⟩⟩ (M.e_opt bp hg) _ (H.give (A := []) rfl)).mono fun v_ w_ ⟨y_, ab, ap, H_⟩ => by subst ab; exact ⟨ap, H.via H_⟩) ?_
 intro bO H
 refine g_val (!(!r7)) (gy_f rfl) (fun hg => x_not (b := r8) (gd_of (c := !(!r7)) hg (B r8))) ?_
 refine s_val (x_por (b := !r7) (r := !r8) rfl rfl (fun hb => gd_of (c := !(!r7)) (by first | exact hb | (rw [hb]; rfl) | simp_all) (B (!r8)))) ?_
 refine s_nil ?_
 refine W.cond ((!r7) || (!r8)) rfl (fun aL => ?_) (fun aL => ?_)
 ·replace hM := M.e_t hM aL
  refine W.seq ?_
  refine W.region rfl ?_
  refine zA (I 70) rfl ?_
  refine s_nil ?_
  refine W.ret ?_
  have ab := M.e_pure hM
  exact ⟨_, resE_tmp rfl, ⟨70, ab, rfl, (H.pk [])⟩⟩
 replace hM := M.e_f hM aL
 refine W.skip ?_
 refine W.seq ?_
 refine W.region rfl ?_
 refine zA (I 0) rfl ?_
 refine s_nil ?_
 refine W.ret ?_
 have ab := M.e_pure hM
 exact ⟨_, resE_tmp rfl, ⟨0, ab, rfl, (H.pk [])⟩⟩

def zal (s_Sections : List Sect) (s_Marks : List Mrk) (s_Reaches : List Rch) : M (Int ⊕ Int) :=
  M.bind (zbh s_Sections s_Marks s_Reaches) fun r2 =>
  bif r2 != 0 then (
  M.pure (.inl r2))
  else (
  M.pure (.inr 0))
theorem zax {R : List Chunk} {aj : Cells} {aa : Value} {ak : Cells} {ab : Value} {am : Cells} {ac : Value} (s_Sections : List Sect) (s_Marks : List Mrk) (s_Reaches : List Rch) (aw : Reads R aj) (ax : Sl aj aa s_Sections) (ay : Reads R ak) (az : Sl ak ab s_Marks) (aA : Reads R am) (aB : Sl am ac s_Reaches) {r : (Int ⊕ Int)} (hM : (zal s_Sections s_Marks s_Reaches).Ends r) (w : World) (H : St w w [] R) : Ret Tryz.prog 49 #[.agg #[aa, ab, ac]] w fun v w' => (∃ (y0 : Int), (.inl y0) = r /\ v = .tuple #[.pointer none, I y0] /\ St w w' [] R) ∨ (∃ (y0 : Int) (ao : Nat) (ap : Nat), (.inr y0) = r /\ v = .tuple #[Pq ao, I y0] /\ St w w' [cBlk ao [aa, ab, ac, .map (some ap)] 177, cMemI encSpt ap (zaa s_Sections s_Marks s_Reaches)] R) := by
 refine ret_of_W Tryz.func49 rfl rfl rfl ?_
 refine W.seq ?_
 refine W.region rfl ?_
 refine t_box (v := .agg #[aa, ab, ac]) (cs := [aa, ab, ac]) H rfl rfl ?_
 intro aq aE H
 refine zA (.pointer none) rfl ?_
 refine zA (I 0) rfl ?_
 refine s_nil ?_
 refine W.seq ?_
 refine W.seq ?_
 refine W.region rfl ?_
 refine s_val (x_ld (p := Pq aq) (v := .agg #[aa, ab, ac]) rfl (ldb_ag (ds := [aa, ab, ac]) Ag27 Sz27 (H.bl 0) rfl rfl)) ?_
 obtain ⟨aF, aC, hM⟩ := M.e_bind hM
 refine s_call cf26 [.agg #[aa, ab, ac]] rfl (zcK s_Sections s_Marks s_Reaches (aw.app _) ax (ay.app _) az (aA.app _) aB aC _ (H.gt 1)) ?_
 rintro vq aG ⟨r2, aD, hvq, au⟩
 subst aD
 subst vq
 try dsimp only at hM
 replace H := H.bk au
 clear au
 refine zA (I r2) rfl ?_
 refine s_nil ?_
 refine W.seq ?_
 refine W.region rfl ?_
 refine zM (I r2) rfl ?_
 refine zC r2 0 (r2 != 0) rfl rfl rfl ?_
 refine s_nil ?_
 refine W.cond (r2 != 0) rfl (fun ag => ?_) (fun ag => ?_)
 ·replace hM := M.e_t hM ag
  simp only [qy1, qy2, qy3, qy4, qy5, qy6, ne_eq, qy7] at ag
  refine W.seq ?_
  refine W.region rfl ?_
  refine zM (I r2) rfl ?_
  refine zA (.pointer none) rfl ?_
  refine zA (I r2) rfl ?_
  refine s_nil ?_
  refine W.ret ?_
  have ai := M.e_pure hM
  exact ⟨_, resE_tmp2 rfl, .inl (⟨r2, ai, rfl, (H.pk [])⟩)⟩
 replace hM := M.e_f hM ag
 simp only [qy1, qy2, qy3, qy4, qy5, qy6, ne_eq, qy7] at ag
 refine W.skip ?_
 refine W.seq ?_
 refine W.region rfl ?_
 refine s_val (x_ld (p := Pq aq) (v := .agg #[aa, ab, ac]) rfl (ldb_ag (ds := [aa, ab, ac]) Ag27 Sz27 (H.bl 0) rfl rfl)) ?_
 refine t_mkmemI encSpt (zaa s_Sections s_Marks s_Reaches) H ?_
 intro ae aH H
 refine s_val (x_bld (ps := [(0, .agg #[aa, ab, ac]), (1, .map (some ae))]) (zs := [.slice none 0 0, .slice none 0 0, .slice none 0 0, .map none]) (L' := [aa, ab, ac, .map (some ae)]) rfl Tryz.underlying177 Al177 rfl (Bd177 Tryz.underlying177) (.cons (cs := [aa, ab, ac]) rfl rfl rfl rfl rfl <| .cons (cs := [.map (some ae)]) rfl rfl rfl rfl rfl <| .nil)) ?_
 refine t_box (v := .agg #[aa, ab, ac, .map (some ae)]) (cs := [aa, ab, ac, .map (some ae)]) H rfl rfl ?_
 intro av aI H
 refine zA (Pq av) rfl ?_
 refine zA (I 0) rfl ?_
 refine s_nil ?_
 refine W.ret ?_
 have ai := M.e_pure hM
 exact ⟨_, resE_tmp2 rfl, .inr (⟨0, av, ae, ai, rfl, (H.pk [0, 1])⟩)⟩

def zcf (s_Marks : List Mrk) (marks : List Int) : (Int × Int × Nat) -> M ((Int × Int × Nat) ⊕ Int) := fun (e2, last, s2) =>
  bif decide ((s2 : Int) < (marks.length : Int)) then (
  M.grd (decide ((s2 : Int) < (marks.length : Int))) <|
  M.grd ((!(e2 == 0) || (decide ((-9223372036854775808 : Int) <= (last + 1)) && decide ((last + 1) <= (9223372036854775807 : Int))))) <|
  M.bind (M.opt (e2 == 0) (zac (marks.getD s2 0) (last + 1) ((s_Marks.length : Int) - 1)) false) fun r2 =>
  bif ((e2 == 0) && (!r2)) then (
  M.pure (.inl (2, marks.getD s2 0, s2 + 1)))
  else (
  M.pure (.inl (e2, marks.getD s2 0, s2 + 1))))
  else (
  M.pure (.inr e2))
def zaN (s_Marks : List Mrk) (marks : List Int) : (Int × Int × Nat) -> M ((Int × Int × Nat) ⊕ Int) := fun (e2, last, s2) =>
  bif decide ((s2 : Int) < (marks.length : Int)) then (
  M.grd (decide ((s2 : Int) < (marks.length : Int))) <|
  M.grd ((!(e2 == 0) || (decide ((-9223372036854775808 : Int) <= (last + 1)) && decide ((last + 1) <= (9223372036854775807 : Int))))) <|
  M.bind (M.opt (e2 == 0) (zac (marks.getD s2 0) (last + 1) ((s_Marks.length : Int) - 1)) false) fun r2 =>
  bif ((e2 == 0) && (!r2)) then (
  M.pure (.inl (2, marks.getD s2 0, s2 + 1)))
  else (
  M.pure (.inl (e2, marks.getD s2 0, s2 + 1))))
  else (
  M.pure (.inr e2))
def zaP (s_Sections : List Sect) (s_Marks : List Mrk) (s_Reaches : List Rch) (marks : List Int) : M (Int ⊕ Int) :=
  M.bind (zal s_Sections s_Marks s_Reaches) fun x_ => match x_ with
  | (.inl r1) => (
  M.bind (M.iter (zcf s_Marks marks) (r1, -1, 0)) fun e3 =>
  M.pure (.inl e3))
  | (.inr aa) => (
  M.bind (M.iter (zaN s_Marks marks) (aa, -1, 0)) fun e3 =>
  M.pure (.inr e3))
theorem zcv {R : List Chunk} {aH : Cells} {ag : Value} {aI : Cells} {aa : Value} {aJ : Cells} {ai : Value} {aK : Cells} {ae : Value} (s_Sections : List Sect) (s_Marks : List Mrk) (s_Reaches : List Rch) (marks : List Int) (aU : Reads R aH) (aV : Sl aH ag s_Sections) (aW : Reads R aI) (aq : Sl aI aa s_Marks) (aX : Reads R aJ) (aY : Sl aJ ai s_Reaches) (aL : Reads R aK) (ak : Sl aK ae marks) {r : (Int ⊕ Int)} (hM : (zaP s_Sections s_Marks s_Reaches marks).Ends r) (w : World) (H : St w w [] R) : Ret Tryz.prog 57 #[.agg #[ag, aa, ai], ae] w fun v w' => (∃ (y0 : Int), (.inl y0) = r /\ v = .tuple #[.pointer none, I y0] /\ St w w' [] R) ∨ (∃ (y0 : Int) (aM : Nat) (aN : Nat), (.inr y0) = r /\ v = .tuple #[Pq aM, I y0] /\ St w w' [cBlk aM [ag, aa, ai, .map (some aN)] 177, cMemI encSpt aN (zaa s_Sections s_Marks s_Reaches)] R) := by
 refine ret_of_W Tryz.func57 rfl rfl rfl ?_
 refine W.seq ?_
 refine W.region rfl ?_
 refine t_box (v := .agg #[ag, aa, ai]) (cs := [ag, aa, ai]) H rfl rfl ?_
 intro ac bo H
 refine zA (.pointer none) rfl ?_
 refine zA (I 0) rfl ?_
 refine s_nil ?_
 refine W.seq ?_
 refine W.region rfl ?_
 refine s_val (x_ld (p := Pq ac) (v := .agg #[ag, aa, ai]) rfl (ldb_ag (ds := [ag, aa, ai]) Ag27 Sz27 (H.bl 0) rfl rfl)) ?_
 obtain ⟨bp, aZ, hM⟩ := M.e_bind hM
 refine s_call cf49 [.agg #[ag, aa, ai]] rfl (zax s_Sections s_Marks s_Reaches (aU.app _) aV (aW.app _) aq (aX.app _) aY aZ _ (H.gt 1)) ?_
 rintro vq bq (⟨r1, a6, hvq, au⟩ | ⟨ap, aj, az, a7, hvq, au⟩)
 ·subst a6
  subst vq
  try dsimp only at hM
  replace H := H.bk au
  clear au
  refine zM (.tuple #[.pointer none, I r1]) rfl ?_
  refine zX [.pointer none, I r1] (.pointer none) rfl rfl ?_
  refine zX [.pointer none, I r1] (I r1) rfl rfl ?_
  refine zA (.pointer none) rfl ?_
  refine zA (I r1) rfl ?_
  refine s_nil ?_
  refine W.seq ?_
  refine W.region rfl ?_
  refine zA (I (-1)) rfl ?_
  refine s_nil ?_
  refine W.seq ?_
  refine W.seq ?_
  refine W.region rfl ?_
  refine zM ae rfl ?_
  have br := (ak).len_le
  refine s_val (x_lenS T28.und rfl ak) ?_
  refine zM (I 0) rfl ?_
  refine s_nil ?_
  refine W.block ?_
  obtain ⟨a8, aA, ba⟩ := M.e_bind hM
  obtain ⟨bb, aA⟩ := M.e_iter aA
  refine W.loop (fun m σ W => ∃ (e2 : Int) (last : Int) (s2 : Nat) (ρ : Env), σ = upds ρ [(2, Pq ac), (6, .pointer none), (7, I e2), (8, I last), (16, ae), (17, I (marks.length : Int)), (18, I (s2 : Int))] /\ M.iterN (zcf s_Marks marks) m (e2, last, s2) = some a8 /\ St w W [cBlk ac [ag, aa, ai] 27] R) ?_ ?_
  ·exact ⟨_, r1, -1, 0, _, upds_of _ _ ⟨rfl, rfl, rfl, rfl, rfl, rfl, rfl, trivial⟩, aA, H⟩
  rintro bt σ bu ⟨e2, last, s2, ρ, rfl, aO, H⟩
  obtain ⟨aP, aQ, bv, hM, aB⟩ := M.e_iterN aO
  simp only [zcf] at hM
  clear aO
  refine W.seq ?_
  refine W.region rfl ?_
  refine zC (s2 : Int) (marks.length : Int) (decide ((s2 : Int) < (marks.length : Int))) rfl rfl rfl ?_
  refine s_nil ?_
  refine W.seq ?_
  refine W.cond (decide ((s2 : Int) < (marks.length : Int))) rfl (fun av => ?_) (fun av => ?_)
  ·replace hM := M.e_t hM av
   simp only [qy1, qy2, qy3, qy4, qy5, qy6, ne_eq, qy7] at av
   refine W.skip ?_
   refine W.seq ?_
   refine W.block ?_
   refine W.seq ?_
   refine W.region rfl ?_
   obtain ⟨bc, hM⟩ := M.e_grd hM
   simp only [Bool.and_eq_true, decide_eq_true_eq] at bc
   refine s_val (x_ix (a := ae) (b := I (s2 : Int)) (v := vat ae 1 (Int.toNat (s2 : Int))) rfl rfl (Sl.ix (α := Int) T28.und T28.size ak (by omega) (by omega))) ?_
   refine s_val (x_ld (p := vat ae 1 (Int.toNat (s2 : Int))) (v := I (marks.getD s2 0)) rfl (ld_sc Sc3 (At.mono (Int_at ak (i := (s2 : Int)) (by omega) (by omega)) (aL.at H)))) ?_
   refine zA (I (marks.getD s2 0)) rfl ?_
   refine s_nil ?_
   refine W.seq ?_
   refine W.seq ?_
   refine W.region rfl ?_
   refine zM (I e2) rfl ?_
   refine zC e2 0 (e2 == 0) rfl rfl rfl ?_
   refine zM (B (e2 == 0)) rfl ?_
   refine g_val (e2 == 0) (gy_t rfl) (fun hg => x_mv (v := I (marks.getD s2 0)) rfl) ?_
   refine g_val (e2 == 0) (gy_t rfl) (fun hg => x_mv (v := I last) rfl) ?_
   obtain ⟨aw, hM⟩ := M.e_grd hM
   replace aw := M.imp_of aw
   simp only [Bool.and_eq_true, decide_eq_true_eq] at aw
   refine g_val (e2 == 0) (gy_t rfl) (fun hg => x_ari (a := last) (b := 1) (r := last + 1) (gd_of (c := e2 == 0) hg (I last)) rfl rfl (by have ab := aw.resolve_left (by rw [hg]; decide); first | exact ab | exact ab.1 | exact ab.2 | omega | (have am := hg; simp at am; omega))) ?_
   refine g_val (e2 == 0) (gy_t rfl) (fun hg => x_fa (a := Pq ac) (v := Oq ac 1) rfl (fa_blk (o := 0) Fd27_1 Sz24)) ?_
   refine g_val (e2 == 0) (gy_t rfl) (fun hg => x_ld (p := Oq ac 1) (v := aa) (gd_of (c := e2 == 0) hg (Oq ac 1)) (ldb_sc Sc24 (H.bl 0) rfl)) ?_
   have bw := (aq).len_le
   refine g_val (e2 == 0) (gy_t rfl) (fun hg => x_lenS T24.und (gd_of (c := e2 == 0) hg (aa)) aq) ?_
   refine g_val (e2 == 0) (gy_t rfl) (fun hg => x_ari (a := (s_Marks.length : Int)) (b := 1) (r := (s_Marks.length : Int) - 1) (gd_of (c := e2 == 0) hg (I (s_Marks.length : Int))) rfl rfl (by have ab := aw.resolve_left (by rw [hg]; decide); first | exact ab | exact ab.1 | exact ab.2 | omega | (have am := hg; simp at am; omega))) ?_
   obtain ⟨r2, bf, hM⟩ := M.e_bind hM
   refine t_gcall (e2 == 0) (gy_t rfl) cf70 (B r2) (fun _ => [I (marks.getD s2 0), I (last + 1), I ((s_Marks.length : Int) - 1)]) (fun hg => lst3 (gd_of (c := e2 == 0) hg (I (marks.getD s2 0))) (gd_of (c := e2 == 0) hg (I (last + 1))) (gd_of (c := e2 == 0) hg (I ((s_Marks.length : Int) - 1)))) H (fun hg => (zae (marks.getD s2 0) (last + 1) ((s_Marks.length : Int) - 1) (M.e_opt bf hg) _ (H.give (A := []) rfl)).mono fun v_ w_ ⟨y_, ao, aC, H_⟩ => by subst ao; exact ⟨aC, H.via H_⟩) ?_
   intro bx H
   refine g_val (e2 == 0) (gy_t rfl) (fun hg => x_not (b := r2) (gd_of (c := e2 == 0) hg (B r2))) ?_
   refine s_val (x_pand (b := e2 == 0) (r := !r2) rfl (fun hb => gd_of (c := e2 == 0) (by first | exact hb | (rw [hb]; rfl) | simp_all) (B (!r2))) rfl) ?_
   refine s_nil ?_
   refine W.cond ((e2 == 0) && (!r2)) rfl (fun aD => ?_) (fun aD => ?_)
   ·replace hM := M.e_t hM aD
    refine W.region rfl ?_
    refine zA (I 2) rfl ?_
    refine s_nil ?_
    refine W.region rfl ?_
    refine zM (I (marks.getD s2 0)) rfl ?_
    refine zA (I (marks.getD s2 0)) rfl ?_
    refine s_nil ?_
    refine W.region rfl ?_
    refine zR (s2 : Int) 1 ((s2 : Int) + 1) rfl rfl rfl (by omega) ?_
    refine zM (I ((s2 : Int) + 1)) rfl ?_
    refine s_nil ?_
    exact ⟨aP, aQ, 2, marks.getD s2 0, s2 + 1, _, upds_of _ _ ⟨rfl, rfl, rfl, rfl, rfl, rfl, rfl, trivial⟩, M.e_inl hM aB, H⟩
   replace hM := M.e_f hM aD
   refine W.skip ?_
   refine W.region rfl ?_
   refine zM (I (marks.getD s2 0)) rfl ?_
   refine zA (I (marks.getD s2 0)) rfl ?_
   refine s_nil ?_
   refine W.region rfl ?_
   refine zR (s2 : Int) 1 ((s2 : Int) + 1) rfl rfl rfl (by omega) ?_
   refine zM (I ((s2 : Int) + 1)) rfl ?_
   refine s_nil ?_
   exact ⟨aP, aQ, e2, marks.getD s2 0, s2 + 1, _, upds_of _ _ ⟨rfl, rfl, rfl, rfl, rfl, rfl, rfl, trivial⟩, M.e_inl hM aB, H⟩
  replace hM := M.e_f hM av
  simp only [qy1, qy2, qy3, qy4, qy5, qy6, ne_eq, qy7] at av
  refine W.exit ?_
  have bg := M.e_inr hM aB
  subst bg
  replace hM := ba
  try dsimp only at hM
  refine W.seq ?_
  refine W.region rfl ?_
  refine zM (.pointer none) rfl ?_
  refine zM (I e2) rfl ?_
  refine zA (.pointer none) rfl ?_
  refine zA (I e2) rfl ?_
  refine s_nil ?_
  refine W.ret ?_
  have ao := M.e_pure hM
  exact ⟨_, resE_tmp2 rfl, .inl (⟨e2, ao, rfl, (H.pk [])⟩)⟩
 subst a7
 subst vq
 try dsimp only at hM
 replace H := H.bk au
 clear au
 refine zM (.tuple #[Pq aj, I ap]) rfl ?_
 refine zX [Pq aj, I ap] (Pq aj) rfl rfl ?_
 refine zX [Pq aj, I ap] (I ap) rfl rfl ?_
 refine zA (Pq aj) rfl ?_
 refine zA (I ap) rfl ?_
 refine s_nil ?_
 refine W.seq ?_
 refine W.region rfl ?_
 refine zA (I (-1)) rfl ?_
 refine s_nil ?_
 refine W.seq ?_
 refine W.seq ?_
 refine W.region rfl ?_
 refine zM ae rfl ?_
 have bz := (ak).len_le
 refine s_val (x_lenS T28.und rfl ak) ?_
 refine zM (I 0) rfl ?_
 refine s_nil ?_
 refine W.block ?_
 obtain ⟨bh, aE, bi⟩ := M.e_bind hM
 obtain ⟨bb, aE⟩ := M.e_iter aE
 refine W.loop (fun m σ W => ∃ (e2 : Int) (last : Int) (s2 : Nat) (ρ : Env), σ = upds ρ [(2, Pq ac), (6, Pq aj), (7, I e2), (8, I last), (16, ae), (17, I (marks.length : Int)), (18, I (s2 : Int))] /\ M.iterN (zaN s_Marks marks) m (e2, last, s2) = some bh /\ St w W [cBlk aj [ag, aa, ai, .map (some az)] 177, cMemI encSpt az (zaa s_Sections s_Marks s_Reaches), cBlk ac [ag, aa, ai] 27] R) ?_ ?_
 ·exact ⟨_, ap, -1, 0, _, upds_of _ _ ⟨rfl, rfl, rfl, rfl, rfl, rfl, rfl, trivial⟩, aE, H⟩
 rintro bA σ bB ⟨e2, last, s2, ρ, rfl, aR, H⟩
 obtain ⟨aS, aT, bC, hM, aF⟩ := M.e_iterN aR
 simp only [zaN] at hM
 clear aR
 refine W.seq ?_
 refine W.region rfl ?_
 refine zC (s2 : Int) (marks.length : Int) (decide ((s2 : Int) < (marks.length : Int))) rfl rfl rfl ?_
 refine s_nil ?_
 refine W.seq ?_
 refine W.cond (decide ((s2 : Int) < (marks.length : Int))) rfl (fun ax => ?_) (fun ax => ?_)
 ·replace hM := M.e_t hM ax
  simp only [qy1, qy2, qy3, qy4, qy5, qy6, ne_eq, qy7] at ax
  refine W.skip ?_
  refine W.seq ?_
  refine W.block ?_
  refine W.seq ?_
  refine W.region rfl ?_
  obtain ⟨bj, hM⟩ := M.e_grd hM
  simp only [Bool.and_eq_true, decide_eq_true_eq] at bj
  refine s_val (x_ix (a := ae) (b := I (s2 : Int)) (v := vat ae 1 (Int.toNat (s2 : Int))) rfl rfl (Sl.ix (α := Int) T28.und T28.size ak (by omega) (by omega))) ?_
  refine s_val (x_ld (p := vat ae 1 (Int.toNat (s2 : Int))) (v := I (marks.getD s2 0)) rfl (ld_sc Sc3 (At.mono (Int_at ak (i := (s2 : Int)) (by omega) (by omega)) (aL.at H)))) ?_
  refine zA (I (marks.getD s2 0)) rfl ?_
  refine s_nil ?_
  refine W.seq ?_
  refine W.seq ?_
  refine W.region rfl ?_
  refine zM (I e2) rfl ?_
  refine zC e2 0 (e2 == 0) rfl rfl rfl ?_
  refine zM (B (e2 == 0)) rfl ?_
  refine g_val (e2 == 0) (gy_t rfl) (fun hg => x_mv (v := I (marks.getD s2 0)) rfl) ?_
  refine g_val (e2 == 0) (gy_t rfl) (fun hg => x_mv (v := I last) rfl) ?_
  obtain ⟨ay, hM⟩ := M.e_grd hM
  replace ay := M.imp_of ay
  simp only [Bool.and_eq_true, decide_eq_true_eq] at ay
  refine g_val (e2 == 0) (gy_t rfl) (fun hg => x_ari (a := last) (b := 1) (r := last + 1) (gd_of (c := e2 == 0) hg (I last)) rfl rfl (by have ab := ay.resolve_left (by rw [hg]; decide); first | exact ab | exact ab.1 | exact ab.2 | omega | (have am := hg; simp at am; omega))) ?_
  refine g_val (e2 == 0) (gy_t rfl) (fun hg => x_fa (a := Pq ac) (v := Oq ac 1) rfl (fa_blk (o := 0) Fd27_1 Sz24)) ?_
  refine g_val (e2 == 0) (gy_t rfl) (fun hg => x_ld (p := Oq ac 1) (v := aa) (gd_of (c := e2 == 0) hg (Oq ac 1)) (ldb_sc Sc24 (H.bl 2) rfl)) ?_
  have bD := (aq).len_le
  refine g_val (e2 == 0) (gy_t rfl) (fun hg => x_lenS T24.und (gd_of (c := e2 == 0) hg (aa)) aq) ?_
  refine g_val (e2 == 0) (gy_t rfl) (fun hg => x_ari (a := (s_Marks.length : Int)) (b := 1) (r := (s_Marks.length : Int) - 1) (gd_of (c := e2 == 0) hg (I (s_Marks.length : Int))) rfl rfl (by have ab := ay.resolve_left (by rw [hg]; decide); first | exact ab | exact ab.1 | exact ab.2 | omega | (have am := hg; simp at am; omega))) ?_
  obtain ⟨r2, bm, hM⟩ := M.e_bind hM
  refine t_gcall (e2 == 0) (gy_t rfl) cf70 (B r2) (fun _ => [I (marks.getD s2 0), I (last + 1), I ((s_Marks.length : Int) - 1)]) (fun hg => lst3 (gd_of (c := e2 == 0) hg (I (marks.getD s2 0))) (gd_of (c := e2 == 0) hg (I (last + 1))) (gd_of (c := e2 == 0) hg (I ((s_Marks.length : Int) - 1)))) H (fun hg => (zae (marks.getD s2 0) (last + 1) ((s_Marks.length : Int) - 1) (M.e_opt bm hg) _ (H.give (A := []) rfl)).mono fun v_ w_ ⟨y_, ao, aC, H_⟩ => by subst ao; exact ⟨aC, H.via H_⟩) ?_
  intro bE H
  refine g_val (e2 == 0) (gy_t rfl) (fun hg => x_not (b := r2) (gd_of (c := e2 == 0) hg (B r2))) ?_
  refine s_val (x_pand (b := e2 == 0) (r := !r2) rfl (fun hb => gd_of (c := e2 == 0) (by first | exact hb | (rw [hb]; rfl) | simp_all) (B (!r2))) rfl) ?_
  refine s_nil ?_
  refine W.cond ((e2 == 0) && (!r2)) rfl (fun aG => ?_) (fun aG => ?_)
  ·replace hM := M.e_t hM aG
   refine W.region rfl ?_
   refine zA (I 2) rfl ?_
   refine s_nil ?_
   refine W.region rfl ?_
   refine zM (I (marks.getD s2 0)) rfl ?_
   refine zA (I (marks.getD s2 0)) rfl ?_
   refine s_nil ?_
   refine W.region rfl ?_
   refine zR (s2 : Int) 1 ((s2 : Int) + 1) rfl rfl rfl (by omega) ?_
   refine zM (I ((s2 : Int) + 1)) rfl ?_
   refine s_nil ?_
   exact ⟨aS, aT, 2, marks.getD s2 0, s2 + 1, _, upds_of _ _ ⟨rfl, rfl, rfl, rfl, rfl, rfl, rfl, trivial⟩, M.e_inl hM aF, H⟩
  replace hM := M.e_f hM aG
  refine W.skip ?_
  refine W.region rfl ?_
  refine zM (I (marks.getD s2 0)) rfl ?_
  refine zA (I (marks.getD s2 0)) rfl ?_
  refine s_nil ?_
  refine W.region rfl ?_
  refine zR (s2 : Int) 1 ((s2 : Int) + 1) rfl rfl rfl (by omega) ?_
  refine zM (I ((s2 : Int) + 1)) rfl ?_
  refine s_nil ?_
  exact ⟨aS, aT, e2, marks.getD s2 0, s2 + 1, _, upds_of _ _ ⟨rfl, rfl, rfl, rfl, rfl, rfl, rfl, trivial⟩, M.e_inl hM aF, H⟩
 replace hM := M.e_f hM ax
 simp only [qy1, qy2, qy3, qy4, qy5, qy6, ne_eq, qy7] at ax
 refine W.exit ?_
 have bn := M.e_inr hM aF
 subst bn
 replace hM := bi
 try dsimp only at hM
 refine W.seq ?_
 refine W.region rfl ?_
 refine zM (Pq aj) rfl ?_
 refine zM (I e2) rfl ?_
 refine zA (Pq aj) rfl ?_
 refine zA (I e2) rfl ?_
 refine s_nil ?_
 refine W.ret ?_
 have ao := M.e_pure hM
 exact ⟨_, resE_tmp2 rfl, .inr (⟨e2, aj, az, ao, rfl, (H.pk [0, 1])⟩)⟩

def zcs (s_Sections : List Sect) (s_Marks : List Mrk) (s_Reaches : List Rch) (marks : List Int) (reach : Int) : M ((Int × Int × Int × Int × Bool × Int) ⊕ (Int × Int × Int × Int × Bool × Int)) :=
  M.bind (zaP s_Sections s_Marks s_Reaches marks) fun x_ => match x_ with
  | (.inl r1) => (
  M.bind (M.opt (r1 == 0) (zac reach 0 ((s_Reaches.length : Int) - 1)) false) fun r2 =>
  bif ((r1 == 0) && (!r2)) then (
  M.pure (.inl (0, 0, 0, 0, false, 2)))
  else (
  bif r1 != 0 then (
  M.pure (.inl (0, 0, 0, 0, false, r1)))
  else (
  M.fail)))
  | (.inr aa) => (
  M.bind (M.opt (aa == 0) (zac reach 0 ((s_Reaches.length : Int) - 1)) false) fun r2 =>
  bif ((aa == 0) && (!r2)) then (
  M.pure (.inl (0, 0, 0, 0, false, 2)))
  else (
  bif aa != 0 then (
  M.fail)
  else (
  M.grd (decide ((0 : Int) <= reach) && decide (reach < (s_Reaches.length : Int))) <|
  M.pure (.inr (((s_Reaches.getD (Int.toNat reach) default).up), ((s_Reaches.getD (Int.toNat reach) default).down), ((s_Reaches.getD (Int.toNat reach) default).lo), ((s_Reaches.getD (Int.toNat reach) default).hi), ((s_Reaches.getD (Int.toNat reach) default).narrow), 0)))))
theorem zdk {R : List Chunk} {az : Cells} {ai : Value} {aA : Cells} {aj : Value} {aB : Cells} {ab : Value} {aC : Cells} {ap : Value} (s_Sections : List Sect) (s_Marks : List Mrk) (s_Reaches : List Rch) (marks : List Int) (reach : Int) (aI : Reads R az) (aJ : Sl az ai s_Sections) (aK : Reads R aA) (aL : Sl aA aj s_Marks) (aD : Reads R aB) (ak : Sl aB ab s_Reaches) (aM : Reads R aC) (aN : Sl aC ap marks) {r : ((Int × Int × Int × Int × Bool × Int) ⊕ (Int × Int × Int × Int × Bool × Int))} (hM : (zcs s_Sections s_Marks s_Reaches marks reach).Ends r) (w : World) (H : St w w [] R) : Ret Tryz.prog 65 #[.agg #[ai, aj, ab], ap, I reach] w fun v w' => (∃ (y0 : Int) (y1 : Int) (y2 : Int) (y3 : Int) (y4 : Bool) (y5 : Int), (.inl (y0, y1, y2, y3, y4, y5)) = r /\ v = .tuple #[.pointer none, .agg #[I y0, I y1, I y2, I y3, B y4], I y5] /\ St w w' [] R) ∨ (∃ (y0 : Int) (y1 : Int) (y2 : Int) (y3 : Int) (y4 : Bool) (y5 : Int) (aE : Nat) (aF : Nat), (.inr (y0, y1, y2, y3, y4, y5)) = r /\ v = .tuple #[Pq aE, .agg #[I y0, I y1, I y2, I y3, B y4], I y5] /\ St w w' [cBlk aE [ai, aj, ab, .map (some aF)] 177, cMemI encSpt aF (zaa s_Sections s_Marks s_Reaches)] R) := by
 refine ret_of_W Tryz.func65 rfl rfl rfl ?_
 refine W.seq ?_
 refine W.region rfl ?_
 refine t_box (v := .agg #[ai, aj, ab]) (cs := [ai, aj, ab]) H rfl rfl ?_
 intro ac aY H
 refine zA (.pointer none) rfl ?_
 refine t_alloc (cs := [I 0, I 0, I 0, I 0, B false]) H Al58 rfl ?_
 intro aZ a6 H
 refine zA (I 0) rfl ?_
 refine s_nil ?_
 refine W.seq ?_
 refine W.region rfl ?_
 refine s_val (x_ld (p := Pq ac) (v := .agg #[ai, aj, ab]) rfl (ldb_ag (ds := [ai, aj, ab]) Ag27 Sz27 (H.bl 1) rfl rfl)) ?_
 refine zM ap rfl ?_
 obtain ⟨a7, aO, hM⟩ := M.e_bind hM
 refine s_call cf57 [.agg #[ai, aj, ab], ap] rfl (zcv s_Sections s_Marks s_Reaches marks (aI.app _) aJ (aK.app _) aL (aD.app _) ak (aM.app _) aN aO _ (H.gt 2)) ?_
 rintro vq a8 (⟨r1, aP, hvq, ao⟩ | ⟨aa, ae, av, aQ, hvq, ao⟩)
 ·subst aP
  subst vq
  try dsimp only at hM
  replace H := H.bk ao
  clear ao
  refine zM (.tuple #[.pointer none, I r1]) rfl ?_
  refine zX [.pointer none, I r1] (.pointer none) rfl rfl ?_
  refine zX [.pointer none, I r1] (I r1) rfl rfl ?_
  refine zA (.pointer none) rfl ?_
  refine zA (I r1) rfl ?_
  refine s_nil ?_
  refine W.seq ?_
  refine W.seq ?_
  refine W.region rfl ?_
  refine zM (I r1) rfl ?_
  refine zC r1 0 (r1 == 0) rfl rfl rfl ?_
  refine zM (B (r1 == 0)) rfl ?_
  refine g_val (r1 == 0) (gy_t rfl) (fun hg => x_mv (v := I reach) rfl) ?_
  refine g_val (r1 == 0) (gy_t rfl) (fun hg => x_fa (a := Pq ac) (v := Oq ac 2) rfl (fa_blk (o := 0) Fd27_2 Sz25)) ?_
  refine g_val (r1 == 0) (gy_t rfl) (fun hg => x_ld (p := Oq ac 2) (v := ab) (gd_of (c := r1 == 0) hg (Oq ac 2)) (ldb_sc Sc25 (H.bl 1) rfl)) ?_
  have ba := (ak).len_le
  refine g_val (r1 == 0) (gy_t rfl) (fun hg => x_lenS T25.und (gd_of (c := r1 == 0) hg (ab)) ak) ?_
  refine g_val (r1 == 0) (gy_t rfl) (fun hg => x_ari (a := (s_Reaches.length : Int)) (b := 1) (r := (s_Reaches.length : Int) - 1) (gd_of (c := r1 == 0) hg (I (s_Reaches.length : Int))) rfl rfl (by first | omega | (have am := hg; simp at am; omega))) ?_
  obtain ⟨r2, aR, hM⟩ := M.e_bind hM
  refine t_gcall (r1 == 0) (gy_t rfl) cf70 (B r2) (fun _ => [I reach, I 0, I ((s_Reaches.length : Int) - 1)]) (fun hg => lst3 (gd_of (c := r1 == 0) hg (I reach)) rfl (gd_of (c := r1 == 0) hg (I ((s_Reaches.length : Int) - 1)))) H (fun hg => (zae reach 0 ((s_Reaches.length : Int) - 1) (M.e_opt aR hg) _ (H.give (A := []) rfl)).mono fun v_ w_ ⟨y_, ag, aw, H_⟩ => by subst ag; exact ⟨aw, H.via H_⟩) ?_
  intro bb H
  refine g_val (r1 == 0) (gy_t rfl) (fun hg => x_not (b := r2) (gd_of (c := r1 == 0) hg (B r2))) ?_
  refine s_val (x_pand (b := r1 == 0) (r := !r2) rfl (fun hb => gd_of (c := r1 == 0) (by first | exact hb | (rw [hb]; rfl) | simp_all) (B (!r2))) rfl) ?_
  refine s_nil ?_
  refine W.cond ((r1 == 0) && (!r2)) rfl (fun ax => ?_) (fun ax => ?_)
  ·replace hM := M.e_t hM ax
   refine W.region rfl ?_
   refine zA (I 2) rfl ?_
   refine s_nil ?_
   refine W.seq ?_
   refine W.seq ?_
   refine W.region rfl ?_
   refine zM (I 2) rfl ?_
   refine zC 2 0 ((2 : Int) != 0) rfl rfl rfl ?_
   refine s_nil ?_
   refine W.cond ((2 : Int) != 0) rfl (fun aG => ?_) (fun aG => ?_)
   ·skip
    refine W.seq ?_
    refine W.region rfl ?_
    refine s_val (x_bld (ps := []) (zs := [I 0, I 0, I 0, I 0, B false]) (L' := [I 0, I 0, I 0, I 0, B false]) rfl Tryz.underlying58 Al58 rfl (Bd58 Tryz.underlying58) (.nil)) ?_
    refine zM (I 2) rfl ?_
    refine zA (.pointer none) rfl ?_
    refine t_sw 0 0 [I 0, I 0, I 0, I 0, B false] (.agg #[I 0, I 0, I 0, I 0, B false]) H rfl rfl Sz58 rfl rfl rfl rfl ?_
    intro bc H
    refine zA (I 2) rfl ?_
    refine s_nil ?_
    refine W.ret ?_
    have aS := (H.bl 0)
    have ag := M.e_pure hM
    exact ⟨_, (resE_ofn (vs := [.pointer none, .agg #[I 0, I 0, I 0, I 0, B false], I 2]) rfl rfl (.tmp (v := .pointer none) rfl <| .cell (v := .agg #[I 0, I 0, I 0, I 0, B false]) rfl (run_loadVar_ag (ds := [I 0, I 0, I 0, I 0, B false]) Ag58 Sz58 aS rfl rfl) <| .tmp (v := I 2) rfl <| .nil)), .inl (⟨0, 0, 0, 0, false, 2, ag, rfl, (H.pk [])⟩)⟩
   skip
   exact absurd aG (by decide)
  replace hM := M.e_f hM ax
  refine W.skip ?_
  refine W.seq ?_
  refine W.seq ?_
  refine W.region rfl ?_
  refine zM (I r1) rfl ?_
  refine zC r1 0 (r1 != 0) rfl rfl rfl ?_
  refine s_nil ?_
  refine W.cond (r1 != 0) rfl (fun aq => ?_) (fun aq => ?_)
  ·replace hM := M.e_t hM aq
   simp only [qy1, qy2, qy3, qy4, qy5, qy6, ne_eq, qy7] at aq
   refine W.seq ?_
   refine W.region rfl ?_
   refine s_val (x_bld (ps := []) (zs := [I 0, I 0, I 0, I 0, B false]) (L' := [I 0, I 0, I 0, I 0, B false]) rfl Tryz.underlying58 Al58 rfl (Bd58 Tryz.underlying58) (.nil)) ?_
   refine zM (I r1) rfl ?_
   refine zA (.pointer none) rfl ?_
   refine t_sw 0 0 [I 0, I 0, I 0, I 0, B false] (.agg #[I 0, I 0, I 0, I 0, B false]) H rfl rfl Sz58 rfl rfl rfl rfl ?_
   intro bf H
   refine zA (I r1) rfl ?_
   refine s_nil ?_
   refine W.ret ?_
   have aT := (H.bl 0)
   have ag := M.e_pure hM
   exact ⟨_, (resE_ofn (vs := [.pointer none, .agg #[I 0, I 0, I 0, I 0, B false], I r1]) rfl rfl (.tmp (v := .pointer none) rfl <| .cell (v := .agg #[I 0, I 0, I 0, I 0, B false]) rfl (run_loadVar_ag (ds := [I 0, I 0, I 0, I 0, B false]) Ag58 Sz58 aT rfl rfl) <| .tmp (v := I r1) rfl <| .nil)), .inl (⟨0, 0, 0, 0, false, r1, ag, rfl, (H.pk [])⟩)⟩
  replace hM := M.e_f hM aq
  exact (M.e_fail hM).elim
 subst aQ
 subst vq
 try dsimp only at hM
 replace H := H.bk ao
 clear ao
 refine zM (.tuple #[Pq ae, I aa]) rfl ?_
 refine zX [Pq ae, I aa] (Pq ae) rfl rfl ?_
 refine zX [Pq ae, I aa] (I aa) rfl rfl ?_
 refine zA (Pq ae) rfl ?_
 refine zA (I aa) rfl ?_
 refine s_nil ?_
 refine W.seq ?_
 refine W.seq ?_
 refine W.region rfl ?_
 refine zM (I aa) rfl ?_
 refine zC aa 0 (aa == 0) rfl rfl rfl ?_
 refine zM (B (aa == 0)) rfl ?_
 refine g_val (aa == 0) (gy_t rfl) (fun hg => x_mv (v := I reach) rfl) ?_
 refine g_val (aa == 0) (gy_t rfl) (fun hg => x_fa (a := Pq ac) (v := Oq ac 2) rfl (fa_blk (o := 0) Fd27_2 Sz25)) ?_
 refine g_val (aa == 0) (gy_t rfl) (fun hg => x_ld (p := Oq ac 2) (v := ab) (gd_of (c := aa == 0) hg (Oq ac 2)) (ldb_sc Sc25 (H.bl 3) rfl)) ?_
 have bg := (ak).len_le
 refine g_val (aa == 0) (gy_t rfl) (fun hg => x_lenS T25.und (gd_of (c := aa == 0) hg (ab)) ak) ?_
 refine g_val (aa == 0) (gy_t rfl) (fun hg => x_ari (a := (s_Reaches.length : Int)) (b := 1) (r := (s_Reaches.length : Int) - 1) (gd_of (c := aa == 0) hg (I (s_Reaches.length : Int))) rfl rfl (by first | omega | (have am := hg; simp at am; omega))) ?_
 obtain ⟨r2, aU, hM⟩ := M.e_bind hM
 refine t_gcall (aa == 0) (gy_t rfl) cf70 (B r2) (fun _ => [I reach, I 0, I ((s_Reaches.length : Int) - 1)]) (fun hg => lst3 (gd_of (c := aa == 0) hg (I reach)) rfl (gd_of (c := aa == 0) hg (I ((s_Reaches.length : Int) - 1)))) H (fun hg => (zae reach 0 ((s_Reaches.length : Int) - 1) (M.e_opt aU hg) _ (H.give (A := []) rfl)).mono fun v_ w_ ⟨y_, ag, aw, H_⟩ => by subst ag; exact ⟨aw, H.via H_⟩) ?_
 intro bh H
 refine g_val (aa == 0) (gy_t rfl) (fun hg => x_not (b := r2) (gd_of (c := aa == 0) hg (B r2))) ?_
 refine s_val (x_pand (b := aa == 0) (r := !r2) rfl (fun hb => gd_of (c := aa == 0) (by first | exact hb | (rw [hb]; rfl) | simp_all) (B (!r2))) rfl) ?_
 refine s_nil ?_
 refine W.cond ((aa == 0) && (!r2)) rfl (fun ay => ?_) (fun ay => ?_)
 ·replace hM := M.e_t hM ay
  refine W.region rfl ?_
  refine zA (I 2) rfl ?_
  refine s_nil ?_
  refine W.seq ?_
  refine W.seq ?_
  refine W.region rfl ?_
  refine zM (I 2) rfl ?_
  refine zC 2 0 ((2 : Int) != 0) rfl rfl rfl ?_
  refine s_nil ?_
  refine W.cond ((2 : Int) != 0) rfl (fun aH => ?_) (fun aH => ?_)
  ·skip
   refine W.seq ?_
   refine W.region rfl ?_
   refine s_val (x_bld (ps := []) (zs := [I 0, I 0, I 0, I 0, B false]) (L' := [I 0, I 0, I 0, I 0, B false]) rfl Tryz.underlying58 Al58 rfl (Bd58 Tryz.underlying58) (.nil)) ?_
   refine zM (I 2) rfl ?_
   refine zA (.pointer none) rfl ?_
   refine t_sw 2 0 [I 0, I 0, I 0, I 0, B false] (.agg #[I 0, I 0, I 0, I 0, B false]) H rfl rfl Sz58 rfl rfl rfl rfl ?_
   intro bi H
   refine zA (I 2) rfl ?_
   refine s_nil ?_
   replace H := H.pk [2]
   refine W.ret ?_
   have aV := (H.bl 0)
   have ag := M.e_pure hM
   exact ⟨_, (resE_ofn (vs := [.pointer none, .agg #[I 0, I 0, I 0, I 0, B false], I 2]) rfl rfl (.tmp (v := .pointer none) rfl <| .cell (v := .agg #[I 0, I 0, I 0, I 0, B false]) rfl (run_loadVar_ag (ds := [I 0, I 0, I 0, I 0, B false]) Ag58 Sz58 aV rfl rfl) <| .tmp (v := I 2) rfl <| .nil)), .inl (⟨0, 0, 0, 0, false, 2, ag, rfl, (H.pk [])⟩)⟩
  skip
  exact absurd aH (by decide)
 replace hM := M.e_f hM ay
 refine W.skip ?_
 refine W.seq ?_
 refine W.seq ?_
 refine W.region rfl ?_
 refine zM (I aa) rfl ?_
 refine zC aa 0 (aa != 0) rfl rfl rfl ?_
 refine s_nil ?_
 refine W.cond (aa != 0) rfl (fun au => ?_) (fun au => ?_)
 ·replace hM := M.e_t hM au
  exact (M.e_fail hM).elim
 replace hM := M.e_f hM au
 simp only [qy1, qy2, qy3, qy4, qy5, qy6, ne_eq, qy7] at au
 refine W.skip ?_
 refine W.seq ?_
 refine W.draw (fun W => St w W [cBlk ae [ai, aj, ab, .map (some av)] 177, cMemI encSpt av (zaa s_Sections s_Marks s_Reaches), cBlk ac [ai, aj, ab] 27] R) [(0, true), (1, true), (2, true), (3, true), (4, true), (5, true), (6, true), (7, false), (8, true)] mixed (by decide +kernel) rfl ?_
 intro bj am
 replace H := H.ext am
 clear am
 refine ⟨(H.pk [0, 1, 3]), ?_⟩
 refine d_q rfl (fun w' H => x_mv (v := Pq ae) rfl) ?_
 refine d_q rfl (fun w' H => x_fa (a := Pq ac) (v := Oq ac 2) rfl (fa_blk (o := 0) Fd27_2 Sz25)) ?_
 refine d_q rfl (fun w' H => x_ld (p := Oq ac 2) (v := ab) rfl (ldb_sc Sc25 (H.bl 2) rfl)) ?_
 refine d_q rfl (fun w' H => x_mv (v := I reach) rfl) ?_
 obtain ⟨aW, hM⟩ := M.e_grd hM
 simp only [Bool.and_eq_true, decide_eq_true_eq] at aW
 refine d_q rfl (fun w' H => x_ix (a := ab) (b := I reach) (v := vat ab 5 (Int.toNat reach)) rfl rfl (Sl.ix (α := Rch) T25.und T25.size ak (by omega) (by omega))) ?_
 refine d_q rfl (fun w' H => x_ld (p := vat ab 5 (Int.toNat reach)) (v := .agg #[I ((s_Reaches.getD (Int.toNat reach) default).up), I ((s_Reaches.getD (Int.toNat reach) default).down), I ((s_Reaches.getD (Int.toNat reach) default).lo), I ((s_Reaches.getD (Int.toNat reach) default).hi), B ((s_Reaches.getD (Int.toNat reach) default).narrow)]) rfl (ld_ag Ag58 Sz58 (At.mono (Rch_atA ak (i := reach) (by omega) (by omega)) (aD.at H)))) ?_
 refine d_q rfl (fun w' H => x_as (v := Pq ae) rfl) ?_
 refine d_l rfl ?_
 refine t_sw 2 0 [I ((s_Reaches.getD (Int.toNat reach) default).up), I ((s_Reaches.getD (Int.toNat reach) default).down), I ((s_Reaches.getD (Int.toNat reach) default).lo), I ((s_Reaches.getD (Int.toNat reach) default).hi), B ((s_Reaches.getD (Int.toNat reach) default).narrow)] (.agg #[I ((s_Reaches.getD (Int.toNat reach) default).up), I ((s_Reaches.getD (Int.toNat reach) default).down), I ((s_Reaches.getD (Int.toNat reach) default).lo), I ((s_Reaches.getD (Int.toNat reach) default).hi), B ((s_Reaches.getD (Int.toNat reach) default).narrow)]) H rfl rfl Sz58 rfl rfl rfl rfl ?_
 intro bm H
 refine s_nil ⟨(H.pk [0, 1, 3]), ?_⟩
 refine d_q rfl (fun w' H => x_as (v := I 0) rfl) ?_
 refine d_nil ?_
 refine W.ret ?_
 have aX := (H.bl 2)
 have ag := M.e_pure hM
 exact ⟨_, (resE_ofn (vs := [Pq ae, .agg #[I ((s_Reaches.getD (Int.toNat reach) default).up), I ((s_Reaches.getD (Int.toNat reach) default).down), I ((s_Reaches.getD (Int.toNat reach) default).lo), I ((s_Reaches.getD (Int.toNat reach) default).hi), B ((s_Reaches.getD (Int.toNat reach) default).narrow)], I 0]) rfl rfl (.tmp (v := Pq ae) rfl <| .cell (v := .agg #[I ((s_Reaches.getD (Int.toNat reach) default).up), I ((s_Reaches.getD (Int.toNat reach) default).down), I ((s_Reaches.getD (Int.toNat reach) default).lo), I ((s_Reaches.getD (Int.toNat reach) default).hi), B ((s_Reaches.getD (Int.toNat reach) default).narrow)]) rfl (run_loadVar_ag (ds := [I ((s_Reaches.getD (Int.toNat reach) default).up), I ((s_Reaches.getD (Int.toNat reach) default).down), I ((s_Reaches.getD (Int.toNat reach) default).lo), I ((s_Reaches.getD (Int.toNat reach) default).hi), B ((s_Reaches.getD (Int.toNat reach) default).narrow)]) Ag58 Sz58 aX rfl rfl) <| .tmp (v := I 0) rfl <| .nil)), .inr (⟨((s_Reaches.getD (Int.toNat reach) default).up), ((s_Reaches.getD (Int.toNat reach) default).down), ((s_Reaches.getD (Int.toNat reach) default).lo), ((s_Reaches.getD (Int.toNat reach) default).hi), ((s_Reaches.getD (Int.toNat reach) default).narrow), 0, ae, av, ag, rfl, (H.pk [0, 1])⟩)⟩

def zav (s : List Int) (f : Int -> M Bool) : Nat -> M (Nat ⊕ (Int ⊕ Unit)) := fun s2 =>
  bif decide ((s2 : Int) < (s.length : Int)) then (
  M.grd (decide ((s2 : Int) < (s.length : Int))) <|
  M.bind (f (s.getD s2 0)) fun r2 =>
  bif r2 then (
  M.pure (.inr (.inl (s2 : Int))))
  else (
  M.pure (.inl (s2 + 1))))
  else (
  M.pure (.inr (.inr ())))
def zbE (s : List Int) (f : Int -> M Bool) : M Int :=
  M.bind (M.iter (zav s f) 0) fun x_ => match x_ with
  | (.inl s3) => (
  M.pure s3)
  | (.inr (_ : Unit)) => (
  M.pure (-1))
theorem zc8 {R : List Chunk} {am : Cells} {aa : Value} {ac : Value} (s : List Int) (f : Int -> M Bool) (aq : Reads R am) (ae : Sl am aa s) (au : FnM Tryz.prog R ac f) {r : Int} (hM : (zbE s f).Ends r) (w : World) (H : St w w [] R) : Ret Tryz.prog 144 #[aa, ac] w fun v w' => ∃ (y0 : Int), y0 = r /\ v = I y0 /\ St w w' [] R := by
 refine ret_of_W Tryz.func144 rfl rfl rfl ?_
 refine W.seq ?_
 refine W.region rfl ?_
 refine zA (I 0) rfl ?_
 refine s_nil ?_
 refine W.seq ?_
 refine W.seq ?_
 refine W.region rfl ?_
 refine zM aa rfl ?_
 have aC := (ae).len_le
 refine s_val (x_lenS T28.und rfl ae) ?_
 refine zM (I 0) rfl ?_
 refine s_nil ?_
 refine W.block ?_
 obtain ⟨av, ag, ao⟩ := M.e_bind hM
 obtain ⟨aD, ag⟩ := M.e_iter ag
 refine W.loop (fun m σ W => ∃ (s2 : Nat) (ρ : Env), σ = upds ρ [(0, aa), (1, ac), (7, I (s.length : Int)), (8, I (s2 : Int))] /\ M.iterN (zav s f) m s2 = some av /\ St w W [] R) ?_ ?_
 ·exact ⟨_, 0, _, upds_of _ _ ⟨rfl, rfl, rfl, rfl, trivial⟩, ag, H⟩
 rintro aE σ aF ⟨s2, ρ, rfl, ap, H⟩
 obtain ⟨aw, ax, aG, hM, ai⟩ := M.e_iterN ap
 simp only [zav] at hM
 clear ap
 refine W.seq ?_
 refine W.region rfl ?_
 refine zC (s2 : Int) (s.length : Int) (decide ((s2 : Int) < (s.length : Int))) rfl rfl rfl ?_
 refine s_nil ?_
 refine W.seq ?_
 refine W.cond (decide ((s2 : Int) < (s.length : Int))) rfl (fun ab => ?_) (fun ab => ?_)
 ·replace hM := M.e_t hM ab
  simp only [qy1, qy2, qy3, qy4, qy5, qy6, ne_eq, qy7] at ab
  refine W.skip ?_
  refine W.seq ?_
  refine W.block ?_
  refine W.seq ?_
  refine W.region rfl ?_
  refine zM (I (s2 : Int)) rfl ?_
  refine zA (I (s2 : Int)) rfl ?_
  refine s_nil ?_
  refine W.seq ?_
  refine W.region rfl ?_
  refine zM ac rfl ?_
  refine zM aa rfl ?_
  refine zM (I (s2 : Int)) rfl ?_
  obtain ⟨ay, hM⟩ := M.e_grd hM
  simp only [Bool.and_eq_true, decide_eq_true_eq] at ay
  refine s_val (x_ix (a := aa) (b := I (s2 : Int)) (v := vat aa 1 (Int.toNat (s2 : Int))) rfl rfl (Sl.ix (α := Int) T28.und T28.size ae (by omega) (by omega))) ?_
  refine s_val (x_ld (p := vat aa 1 (Int.toNat (s2 : Int))) (v := I (s.getD s2 0)) rfl (ld_sc Sc3 (At.mono (Int_at ae (i := (s2 : Int)) (by omega) (by omega)) (aq.at H)))) ?_
  obtain ⟨r2, az, hM⟩ := M.e_bind hM
  refine t_callM H au rfl rfl (s.getD s2 0) Reads.none (Arg.mkI (fun _ => none) _) az ?_
  intro aH H
  refine s_nil ?_
  refine W.cond r2 rfl (fun aj => ?_) (fun aj => ?_)
  ·replace hM := M.e_t hM aj
   refine W.seq ?_
   refine W.region rfl ?_
   refine zM (I (s2 : Int)) rfl ?_
   refine zA (I (s2 : Int)) rfl ?_
   refine s_nil ?_
   refine W.ret ?_
   have aA := M.e_inr hM ai
   subst aA
   replace hM := ao
   try dsimp only at hM
   have ak := M.e_pure hM
   exact ⟨_, resE_tmp rfl, ⟨(s2 : Int), ak, rfl, H⟩⟩
  replace hM := M.e_f hM aj
  refine W.skip ?_
  refine W.region rfl ?_
  refine zR (s2 : Int) 1 ((s2 : Int) + 1) rfl rfl rfl (by omega) ?_
  refine zM (I ((s2 : Int) + 1)) rfl ?_
  refine s_nil ?_
  exact ⟨aw, ax, s2 + 1, _, upds_of _ _ ⟨rfl, rfl, rfl, rfl, trivial⟩, M.e_inl hM ai, H⟩
 replace hM := M.e_f hM ab
 simp only [qy1, qy2, qy3, qy4, qy5, qy6, ne_eq, qy7] at ab
 refine W.exit ?_
 have aB := M.e_inr hM ai
 subst aB
 replace hM := ao
 try dsimp only at hM
 refine W.seq ?_
 refine W.region rfl ?_
 refine zA (I (-1)) rfl ?_
 refine s_nil ?_
 refine W.ret ?_
 have ak := M.e_pure hM
 exact ⟨_, resE_tmp rfl, ⟨(-1), ak, rfl, H⟩⟩

def zbk (s : List Int) (f : Int -> M Bool) : M Bool :=
  M.bind (zbE s f) fun r2 =>
  M.pure (decide (0 <= r2))
theorem zcQ {R : List Chunk} {ac : Cells} {aa : Value} {ab : Value} (s : List Int) (f : Int -> M Bool) (ag : Reads R ac) (ai : Sl ac aa s) (aj : FnM Tryz.prog R ab f) {r : Bool} (hM : (zbk s f).Ends r) (w : World) (H : St w w [] R) : Ret Tryz.prog 132 #[aa, ab] w fun v w' => ∃ (y0 : Bool), y0 = r /\ v = B y0 /\ St w w' [] R := by
 refine ret_of_W Tryz.func132 rfl rfl rfl ?_
 refine W.seq ?_
 refine W.region rfl ?_
 refine zA (B false) rfl ?_
 refine s_nil ?_
 refine W.seq ?_
 refine W.region rfl ?_
 refine zM aa rfl ?_
 refine zM ab rfl ?_
 obtain ⟨ap, ak, hM⟩ := M.e_bind hM
 refine s_call cf144 [aa, ab] rfl (zc8 s f (ag.app _) ai (aj.app _) ak _ (H.gt 0)) ?_
 rintro vq aq ⟨r2, am, hvq, ae⟩
 subst am
 subst vq
 try dsimp only at hM
 replace H := H.bk ae
 clear ae
 refine zC r2 0 (decide (0 <= r2)) rfl rfl rfl ?_
 refine zA (B (decide (0 <= r2))) rfl ?_
 refine s_nil ?_
 refine W.ret ?_
 have ao := M.e_pure hM
 exact ⟨_, resE_tmp rfl, ⟨(decide (0 <= r2)), ao, rfl, H⟩⟩

def zaV (x : Int) (aa : Int -> M Bool) : M Bool :=
  M.bind (aa x) fun r2 =>
  M.pure (!r2)
theorem zdh {R : List Chunk} {aa : Nat} {ab : Value} (x : Int) (ac : Int -> M Bool) (ae : FnM Tryz.prog R ab ac) (ag : Has R (cBlk aa [ab] 157)) {r : Bool} (hM : (zaV x ac).Ends r) (w : World) (H : St w w [] R) : Ret Tryz.prog 133 #[I x, Pq aa] w fun v w' => ∃ (y0 : Bool), y0 = r /\ v = B y0 /\ St w w' [] R := by
 refine ret_of_W Tryz.func133 rfl rfl rfl ?_
 refine W.seq ?_
 refine W.region rfl ?_
 refine zA (B false) rfl ?_
 refine s_nil ?_
 refine W.seq ?_
 refine W.region rfl ?_
 refine s_val (x_ld (p := Pq aa) (v := ab) rfl (ldb_sc Sc157 (ag.blk H) rfl)) ?_
 refine zM (I x) rfl ?_
 obtain ⟨r2, ai, hM⟩ := M.e_bind hM
 refine t_callM H ae rfl rfl x Reads.none (Arg.mkI (fun _ => none) _) ai ?_
 intro ak H
 refine s_val (x_not (b := r2) rfl) ?_
 refine zA (B (!r2)) rfl ?_
 refine s_nil ?_
 refine W.ret ?_
 have aj := M.e_pure hM
 exact ⟨_, resE_tmp rfl, ⟨(!r2), aj, rfl, H⟩⟩

def zak (l : List Int) (so : Int -> M Bool) : M Bool :=
  M.bind (zbk l (fun aa => zaV aa so)) fun r2 =>
  M.pure (!r2)
theorem zbz {R : List Chunk} {ag : Cells} {aa : Value} {ab : Value} (l : List Int) (so : Int -> M Bool) (am : Reads R ag) (ao : Sl ag aa l) (ai : FnM Tryz.prog R ab so) {r : Bool} (hM : (zak l so).Ends r) (w : World) (H : St w w [] R) : Ret Tryz.prog 99 #[aa, ab] w fun v w' => ∃ (y0 : Bool), y0 = r /\ v = B y0 /\ St w w' [] R := by
 refine ret_of_W Tryz.func99 rfl rfl rfl ?_
 refine W.seq ?_
 refine W.region rfl ?_
 refine t_box (v := ab) (cs := [ab]) H rfl (FnM.cells ai) ?_
 intro ac aC H
 refine zA (B false) rfl ?_
 refine s_nil ?_
 refine W.seq ?_
 refine W.region rfl ?_
 refine zM aa rfl ?_
 refine s_val (x_mf (fs := []) (cs := [Pq ac]) rfl rfl) ?_
 obtain ⟨aD, ap, hM⟩ := M.e_bind hM
 refine s_call cf132 [aa, .func (.func 133) #[] #[Pq ac]] rfl (zcQ l (fun ae => zaV ae so) (am.app _) ao ⟨133, [Pq ac], rfl, cf133, fun aj aE aF aq ae aG au aH av aw => by obtain rfl := Arg.int av; exact (zdh ae so (FnM.app (ai.app _) _) (Has.app (Has.here (k := 0) rfl) _) aw aj (St.refl au)).mono fun aq aj ⟨aI, ax, ay, az⟩ => by subst ax; exact ⟨ay, az⟩⟩ ap _ (H.gt 1)) ?_
 rintro vq aJ ⟨r2, aA, hvq, ak⟩
 subst aA
 subst vq
 try dsimp only at hM
 replace H := H.bk ak
 clear ak
 refine s_val (x_not (b := r2) rfl) ?_
 refine zA (B (!r2)) rfl ?_
 refine s_nil ?_
 refine W.ret ?_
 have aB := M.e_pure hM
 exact ⟨_, resE_tmp rfl, ⟨(!r2), aB, rfl, (H.pk [])⟩⟩

def zaf (ab : List Sect) (aa : List Mrk) (ac : List Rch) (a : Int) (b : Int) : M Bool :=
  M.grd (decide ((0 : Int) <= a) && decide (a < (aa.length : Int))) <|
  M.grd (decide ((0 : Int) <= b) && decide (b < (aa.length : Int))) <|
  M.pure ((decide (((aa.getD (Int.toNat a) default).place) <= ((aa.getD (Int.toNat b) default).place))) && (decide (((aa.getD (Int.toNat a) default).hi) < ((aa.getD (Int.toNat b) default).lo))))
theorem zau {R : List Chunk} {ab : Nat} {ak : Cells} {am : Value} {ao : Cells} {ac : Value} {ap : Cells} {aq : Value} {aw : Nat} (au : List Sect) (aa : List Mrk) (av : List Rch) (a : Int) (b : Int) (aA : Reads R ak) (aB : Sl ak am au) (ai : Reads R ao) (ag : Sl ao ac aa) (aC : Reads R ap) (aD : Sl ap aq av) (aj : Has R (cBlk ab [am, ac, aq, .map (some aw)] 177)) {r : Bool} (hM : (zaf au aa av a b).Ends r) (w : World) (H : St w w [] R) : Ret Tryz.prog 51 #[Pq ab, I a, I b] w fun v w' => ∃ (y0 : Bool), y0 = r /\ v = B y0 /\ St w w' [] R := by
 refine ret_of_W Tryz.func51 rfl rfl rfl ?_
 refine W.seq ?_
 refine W.region rfl ?_
 refine zA (B false) rfl ?_
 refine s_nil ?_
 refine W.seq ?_
 refine W.draw (fun W => St w W [] R) [(0, true), (1, true), (2, true), (3, true), (4, true), (5, true), (6, true), (7, true), (8, true), (9, true), (10, true), (11, true), (12, true), (13, true), (14, true), (15, true), (16, true), (17, true), (18, true), (19, true), (20, true), (21, true), (22, true), (23, true), (24, true), (25, true), (26, true), (27, true), (28, true), (29, true), (30, true), (31, true), (32, true), (33, true), (34, true), (35, true), (36, true), (37, true), (38, true), (39, true), (40, true), (41, true), (42, true)] mixed (by decide +kernel) rfl ?_
 intro aE ae
 replace H := H.ext ae
 clear ae
 refine ⟨(H.pk []), ?_⟩
 refine d_q rfl (fun w' H => x_mv (v := Pq ab) rfl) ?_
 refine d_q rfl (fun w' H => x_nc (a := ⟨ab, 0, none⟩) rfl) ?_
 refine d_q rfl (fun w' H => x_fa (a := Pq ab) (v := Pq ab) rfl (fa_blk (o := 0) Fd177_0 Sz27)) ?_
 refine d_q rfl (fun w' H => x_fa (a := Pq ab) (v := Oq ab 1) rfl (fa_blk (o := 0) Fd27_1 Sz24)) ?_
 refine d_q rfl (fun w' H => x_ld (p := Oq ab 1) (v := ac) rfl (ldb_sc Sc24 (aj.blk H) rfl)) ?_
 refine d_q rfl (fun w' H => x_mv (v := I a) rfl) ?_
 obtain ⟨ax, hM⟩ := M.e_grd hM
 simp only [Bool.and_eq_true, decide_eq_true_eq] at ax
 refine d_q rfl (fun w' H => x_ix (a := ac) (b := I a) (v := vat ac 3 (Int.toNat a)) rfl rfl (Sl.ix (α := Mrk) T24.und T24.size ag (by omega) (by omega))) ?_
 refine d_q rfl (fun w' H => x_fa (a := vat ac 3 (Int.toNat a)) (v := fat (vat ac 3 (Int.toNat a)) 0) rfl (fa_pl Fd70_0 Sz3 (Sl.pl (i := a) ag (by omega) (by omega)))) ?_
 refine d_q rfl (fun w' H => x_ld (p := fat (vat ac 3 (Int.toNat a)) 0) (v := I ((aa.getD (Int.toNat a) default).place)) rfl (ld_sc Sc3 (At.mono (Mrk_at0 ag (i := a) (by omega) (by omega)) (ai.at H)))) ?_
 refine d_q rfl (fun w' H => x_mv (v := Pq ab) rfl) ?_
 refine d_q rfl (fun w' H => x_nc (a := ⟨ab, 0, none⟩) rfl) ?_
 refine d_q rfl (fun w' H => x_fa (a := Pq ab) (v := Pq ab) rfl (fa_blk (o := 0) Fd177_0 Sz27)) ?_
 refine d_q rfl (fun w' H => x_fa (a := Pq ab) (v := Oq ab 1) rfl (fa_blk (o := 0) Fd27_1 Sz24)) ?_
 refine d_q rfl (fun w' H => x_ld (p := Oq ab 1) (v := ac) rfl (ldb_sc Sc24 (aj.blk H) rfl)) ?_
 refine d_q rfl (fun w' H => x_mv (v := I b) rfl) ?_
 obtain ⟨ay, hM⟩ := M.e_grd hM
 simp only [Bool.and_eq_true, decide_eq_true_eq] at ay
 refine d_q rfl (fun w' H => x_ix (a := ac) (b := I b) (v := vat ac 3 (Int.toNat b)) rfl rfl (Sl.ix (α := Mrk) T24.und T24.size ag (by omega) (by omega))) ?_
 refine d_q rfl (fun w' H => x_fa (a := vat ac 3 (Int.toNat b)) (v := fat (vat ac 3 (Int.toNat b)) 0) rfl (fa_pl Fd70_0 Sz3 (Sl.pl (i := b) ag (by omega) (by omega)))) ?_
 refine d_q rfl (fun w' H => x_ld (p := fat (vat ac 3 (Int.toNat b)) 0) (v := I ((aa.getD (Int.toNat b) default).place)) rfl (ld_sc Sc3 (At.mono (Mrk_at0 ag (i := b) (by omega) (by omega)) (ai.at H)))) ?_
 refine d_q rfl (fun w' H => x_cmp (kd := .i64) (a := (aa.getD (Int.toNat a) default).place) (b := (aa.getD (Int.toNat b) default).place) (r := decide (((aa.getD (Int.toNat a) default).place) <= ((aa.getD (Int.toNat b) default).place))) rfl rfl rfl) ?_
 refine d_q rfl (fun w' H => x_mv (v := B (decide (((aa.getD (Int.toNat a) default).place) <= ((aa.getD (Int.toNat b) default).place)))) rfl) ?_
 refine d_qg (decide (((aa.getD (Int.toNat a) default).place) <= ((aa.getD (Int.toNat b) default).place))) rfl (gy_t rfl) (fun hg => (fun w' H => x_mv (v := Pq ab) rfl)) ?_
 refine d_qg (decide (((aa.getD (Int.toNat a) default).place) <= ((aa.getD (Int.toNat b) default).place))) rfl (gy_t rfl) (fun hg => (fun w' H => x_nc (a := ⟨ab, 0, none⟩) (gd_of (c := decide (((aa.getD (Int.toNat a) default).place) <= ((aa.getD (Int.toNat b) default).place))) hg (Pq ab)))) ?_
 refine d_qg (decide (((aa.getD (Int.toNat a) default).place) <= ((aa.getD (Int.toNat b) default).place))) rfl (gy_t rfl) (fun hg => (fun w' H => x_fa (a := Pq ab) (v := Pq ab) (gd_of (c := decide (((aa.getD (Int.toNat a) default).place) <= ((aa.getD (Int.toNat b) default).place))) hg (Pq ab)) (fa_blk (o := 0) Fd177_0 Sz27))) ?_
 refine d_qg (decide (((aa.getD (Int.toNat a) default).place) <= ((aa.getD (Int.toNat b) default).place))) rfl (gy_t rfl) (fun hg => (fun w' H => x_fa (a := Pq ab) (v := Oq ab 1) (gd_of (c := decide (((aa.getD (Int.toNat a) default).place) <= ((aa.getD (Int.toNat b) default).place))) hg (Pq ab)) (fa_blk (o := 0) Fd27_1 Sz24))) ?_
 refine d_qg (decide (((aa.getD (Int.toNat a) default).place) <= ((aa.getD (Int.toNat b) default).place))) rfl (gy_t rfl) (fun hg => (fun w' H => x_ld (p := Oq ab 1) (v := ac) (gd_of (c := decide (((aa.getD (Int.toNat a) default).place) <= ((aa.getD (Int.toNat b) default).place))) hg (Oq ab 1)) (ldb_sc Sc24 (aj.blk H) rfl))) ?_
 refine d_qg (decide (((aa.getD (Int.toNat a) default).place) <= ((aa.getD (Int.toNat b) default).place))) rfl (gy_t rfl) (fun hg => (fun w' H => x_mv (v := I a) rfl)) ?_
 refine d_qg (decide (((aa.getD (Int.toNat a) default).place) <= ((aa.getD (Int.toNat b) default).place))) rfl (gy_t rfl) (fun hg => (fun w' H => x_ix (a := ac) (b := I a) (v := vat ac 3 (Int.toNat a)) (gd_of (c := decide (((aa.getD (Int.toNat a) default).place) <= ((aa.getD (Int.toNat b) default).place))) hg (ac)) (gd_of (c := decide (((aa.getD (Int.toNat a) default).place) <= ((aa.getD (Int.toNat b) default).place))) hg (I a)) (Sl.ix (α := Mrk) T24.und T24.size ag (by first | omega | (have ae := hg; simp at ae; omega)) (by first | omega | (have ae := hg; simp at ae; omega))))) ?_
 refine d_qg (decide (((aa.getD (Int.toNat a) default).place) <= ((aa.getD (Int.toNat b) default).place))) rfl (gy_t rfl) (fun hg => (fun w' H => x_fa (a := vat ac 3 (Int.toNat a)) (v := fat (vat ac 3 (Int.toNat a)) 1) (gd_of (c := decide (((aa.getD (Int.toNat a) default).place) <= ((aa.getD (Int.toNat b) default).place))) hg (vat ac 3 (Int.toNat a))) (fa_pl Fd70_1 Sz54 (Sl.pl (i := a) ag (by first | omega | (have ae := hg; simp at ae; omega)) (by first | omega | (have ae := hg; simp at ae; omega)))))) ?_
 refine d_qg (decide (((aa.getD (Int.toNat a) default).place) <= ((aa.getD (Int.toNat b) default).place))) rfl (gy_t rfl) (fun hg => (fun w' H => x_fa (a := fat (vat ac 3 (Int.toNat a)) 1) (v := fat (vat ac 3 (Int.toNat a)) 2) (gd_of (c := decide (((aa.getD (Int.toNat a) default).place) <= ((aa.getD (Int.toNat b) default).place))) hg (fat (vat ac 3 (Int.toNat a)) 1)) (fa_pl2 (a := 1) (c := 2) Fd54_1 Sz3 (Sl.pl (i := a) ag (by first | omega | (have ae := hg; simp at ae; omega)) (by first | omega | (have ae := hg; simp at ae; omega))) rfl))) ?_
 refine d_qg (decide (((aa.getD (Int.toNat a) default).place) <= ((aa.getD (Int.toNat b) default).place))) rfl (gy_t rfl) (fun hg => (fun w' H => x_ld (p := fat (vat ac 3 (Int.toNat a)) 2) (v := I ((aa.getD (Int.toNat a) default).hi)) (gd_of (c := decide (((aa.getD (Int.toNat a) default).place) <= ((aa.getD (Int.toNat b) default).place))) hg (fat (vat ac 3 (Int.toNat a)) 2)) (ld_sc Sc3 (At.mono (Mrk_at2 ag (i := a) (by first | omega | (have ae := hg; simp at ae; omega)) (by first | omega | (have ae := hg; simp at ae; omega))) (ai.at H))))) ?_
 refine d_qg (decide (((aa.getD (Int.toNat a) default).place) <= ((aa.getD (Int.toNat b) default).place))) rfl (gy_t rfl) (fun hg => (fun w' H => x_mv (v := Pq ab) rfl)) ?_
 refine d_qg (decide (((aa.getD (Int.toNat a) default).place) <= ((aa.getD (Int.toNat b) default).place))) rfl (gy_t rfl) (fun hg => (fun w' H => x_nc (a := ⟨ab, 0, none⟩) (gd_of (c := decide (((aa.getD (Int.toNat a) default).place) <= ((aa.getD (Int.toNat b) default).place))) hg (Pq ab)))) ?_
 refine d_qg (decide (((aa.getD (Int.toNat a) default).place) <= ((aa.getD (Int.toNat b) default).place))) rfl (gy_t rfl) (fun hg => (fun w' H => x_fa (a := Pq ab) (v := Pq ab) (gd_of (c := decide (((aa.getD (Int.toNat a) default).place) <= ((aa.getD (Int.toNat b) default).place))) hg (Pq ab)) (fa_blk (o := 0) Fd177_0 Sz27))) ?_
 refine d_qg (decide (((aa.getD (Int.toNat a) default).place) <= ((aa.getD (Int.toNat b) default).place))) rfl (gy_t rfl) (fun hg => (fun w' H => x_fa (a := Pq ab) (v := Oq ab 1) (gd_of (c := decide (((aa.getD (Int.toNat a) default).place) <= ((aa.getD (Int.toNat b) default).place))) hg (Pq ab)) (fa_blk (o := 0) Fd27_1 Sz24))) ?_
 refine d_qg (decide (((aa.getD (Int.toNat a) default).place) <= ((aa.getD (Int.toNat b) default).place))) rfl (gy_t rfl) (fun hg => (fun w' H => x_ld (p := Oq ab 1) (v := ac) (gd_of (c := decide (((aa.getD (Int.toNat a) default).place) <= ((aa.getD (Int.toNat b) default).place))) hg (Oq ab 1)) (ldb_sc Sc24 (aj.blk H) rfl))) ?_
 refine d_qg (decide (((aa.getD (Int.toNat a) default).place) <= ((aa.getD (Int.toNat b) default).place))) rfl (gy_t rfl) (fun hg => (fun w' H => x_mv (v := I b) rfl)) ?_
 refine d_qg (decide (((aa.getD (Int.toNat a) default).place) <= ((aa.getD (Int.toNat b) default).place))) rfl (gy_t rfl) (fun hg => (fun w' H => x_ix (a := ac) (b := I b) (v := vat ac 3 (Int.toNat b)) (gd_of (c := decide (((aa.getD (Int.toNat a) default).place) <= ((aa.getD (Int.toNat b) default).place))) hg (ac)) (gd_of (c := decide (((aa.getD (Int.toNat a) default).place) <= ((aa.getD (Int.toNat b) default).place))) hg (I b)) (Sl.ix (α := Mrk) T24.und T24.size ag (by first | omega | (have ae := hg; simp at ae; omega)) (by first | omega | (have ae := hg; simp at ae; omega))))) ?_
 refine d_qg (decide (((aa.getD (Int.toNat a) default).place) <= ((aa.getD (Int.toNat b) default).place))) rfl (gy_t rfl) (fun hg => (fun w' H => x_fa (a := vat ac 3 (Int.toNat b)) (v := fat (vat ac 3 (Int.toNat b)) 1) (gd_of (c := decide (((aa.getD (Int.toNat a) default).place) <= ((aa.getD (Int.toNat b) default).place))) hg (vat ac 3 (Int.toNat b))) (fa_pl Fd70_1 Sz54 (Sl.pl (i := b) ag (by first | omega | (have ae := hg; simp at ae; omega)) (by first | omega | (have ae := hg; simp at ae; omega)))))) ?_
 refine d_qg (decide (((aa.getD (Int.toNat a) default).place) <= ((aa.getD (Int.toNat b) default).place))) rfl (gy_t rfl) (fun hg => (fun w' H => x_fa (a := fat (vat ac 3 (Int.toNat b)) 1) (v := fat (vat ac 3 (Int.toNat b)) 1) (gd_of (c := decide (((aa.getD (Int.toNat a) default).place) <= ((aa.getD (Int.toNat b) default).place))) hg (fat (vat ac 3 (Int.toNat b)) 1)) (fa_pl2 (a := 1) (c := 1) Fd54_0 Sz3 (Sl.pl (i := b) ag (by first | omega | (have ae := hg; simp at ae; omega)) (by first | omega | (have ae := hg; simp at ae; omega))) rfl))) ?_
 refine d_qg (decide (((aa.getD (Int.toNat a) default).place) <= ((aa.getD (Int.toNat b) default).place))) rfl (gy_t rfl) (fun hg => (fun w' H => x_ld (p := fat (vat ac 3 (Int.toNat b)) 1) (v := I ((aa.getD (Int.toNat b) default).lo)) (gd_of (c := decide (((aa.getD (Int.toNat a) default).place) <= ((aa.getD (Int.toNat b) default).place))) hg (fat (vat ac 3 (Int.toNat b)) 1)) (ld_sc Sc3 (At.mono (Mrk_at1 ag (i := b) (by first | omega | (have ae := hg; simp at ae; omega)) (by first | omega | (have ae := hg; simp at ae; omega))) (ai.at H))))) ?_
 refine d_qg (decide (((aa.getD (Int.toNat a) default).place) <= ((aa.getD (Int.toNat b) default).place))) rfl (gy_t rfl) (fun hg => (fun w' H => x_cmp (kd := .i64) (a := (aa.getD (Int.toNat a) default).hi) (b := (aa.getD (Int.toNat b) default).lo) (r := decide (((aa.getD (Int.toNat a) default).hi) < ((aa.getD (Int.toNat b) default).lo))) (gd_of (c := decide (((aa.getD (Int.toNat a) default).place) <= ((aa.getD (Int.toNat b) default).place))) hg (I ((aa.getD (Int.toNat a) default).hi))) (gd_of (c := decide (((aa.getD (Int.toNat a) default).place) <= ((aa.getD (Int.toNat b) default).place))) hg (I ((aa.getD (Int.toNat b) default).lo))) rfl)) ?_
 refine d_q rfl (fun w' H => x_pand (b := decide (((aa.getD (Int.toNat a) default).place) <= ((aa.getD (Int.toNat b) default).place))) (r := decide (((aa.getD (Int.toNat a) default).hi) < ((aa.getD (Int.toNat b) default).lo))) rfl (fun hb => gd_of (c := decide (((aa.getD (Int.toNat a) default).place) <= ((aa.getD (Int.toNat b) default).place))) (by first | exact hb | (rw [hb]; rfl) | simp_all) (B (decide (((aa.getD (Int.toNat a) default).hi) < ((aa.getD (Int.toNat b) default).lo))))) rfl) ?_
 refine d_q rfl (fun w' H => x_as (v := B ((decide (((aa.getD (Int.toNat a) default).place) <= ((aa.getD (Int.toNat b) default).place))) && (decide (((aa.getD (Int.toNat a) default).hi) < ((aa.getD (Int.toNat b) default).lo))))) rfl) ?_
 refine d_nil ?_
 refine W.ret ?_
 have az := M.e_pure hM
 exact ⟨_, resE_tmp rfl, ⟨((decide (((aa.getD (Int.toNat a) default).place) <= ((aa.getD (Int.toNat b) default).place))) && (decide (((aa.getD (Int.toNat a) default).hi) < ((aa.getD (Int.toNat b) default).lo)))), az, rfl, H⟩⟩

def zaw (b : Int) (aa : List Sect) (ab : List Mrk) (ac : List Rch) (ae : Int) : M Bool :=
  M.bind (zaf aa ab ac ae b) fun r2 =>
  M.pure (!r2)
theorem zcH {R : List Chunk} {ac : Nat} {ab : Nat} {ak : Cells} {am : Value} {ao : Cells} {ap : Value} {aq : Cells} {au : Value} {aw : Nat} {ae : Nat} (b : Int) (ag : List Sect) (ai : List Mrk) (aj : List Rch) (aa : Int) (ax : Reads R ak) (ay : Sl ak am ag) (az : Reads R ao) (aA : Sl ao ap ai) (aB : Reads R aq) (aC : Sl aq au aj) (aD : Has R (cBlk ab [am, ap, au, .map (some aw)] 177)) (aE : Has R (cBlk ac [Pq ab] 112)) (aF : Has R (cBlk ae [I aa] 3)) {r : Bool} (hM : (zaw b ag ai aj aa).Ends r) (w : World) (H : St w w [] R) : Ret Tryz.prog 105 #[I b, Pq ac, Pq ae] w fun v w' => ∃ (y0 : Bool), y0 = r /\ v = B y0 /\ St w w' [] R := by
 refine ret_of_W Tryz.func105 rfl rfl rfl ?_
 refine W.seq ?_
 refine W.region rfl ?_
 refine zA (B false) rfl ?_
 refine s_nil ?_
 refine W.seq ?_
 refine W.region rfl ?_
 refine s_val (x_ld (p := Pq ac) (v := Pq ab) rfl (ldb_sc Sc112 (aE.blk H) rfl)) ?_
 refine s_val (x_ld (p := Pq ae) (v := I aa) rfl (ldb_sc Sc3 (aF.blk H) rfl)) ?_
 refine zM (I b) rfl ?_
 obtain ⟨aJ, aG, hM⟩ := M.e_bind hM
 refine s_call cf51 [Pq ab, I aa, I b] rfl (zau ag ai aj aa b (ax.app _) ay (az.app _) aA (aB.app _) aC (aD.app _) aG _ (H.gt 0)) ?_
 rintro vq aK ⟨r2, aH, hvq, av⟩
 subst aH
 subst vq
 try dsimp only at hM
 replace H := H.bk av
 clear av
 refine s_val (x_not (b := r2) rfl) ?_
 refine zA (B (!r2)) rfl ?_
 refine s_nil ?_
 refine W.ret ?_
 have aI := M.e_pure hM
 exact ⟨_, resE_tmp rfl, ⟨(!r2), aI, rfl, H⟩⟩

def zaq (a : Int) (aa : List Int) (ab : List Sect) (ac : List Mrk) (ae : List Rch) : M Bool :=
  M.bind (zak aa (fun ag => zaw ag ab ac ae a)) fun r2 =>
  M.pure r2
theorem zcX {R : List Chunk} {ai : Nat} {ao : Cells} {ab : Value} {aa : Nat} {ap : Nat} {aq : Cells} {au : Value} {av : Cells} {aw : Value} {ax : Cells} {ay : Value} {aB : Nat} (a : Int) (aj : List Int) (ac : List Sect) (ae : List Mrk) (ag : List Rch) (aC : Reads R ao) (aD : Sl ao ab aj) (aE : Has R (cBlk ai [ab] 28)) (aF : Reads R aq) (aG : Sl aq au ac) (aH : Reads R av) (aI : Sl av aw ae) (aJ : Reads R ax) (aK : Sl ax ay ag) (aL : Has R (cBlk ap [au, aw, ay, .map (some aB)] 177)) (aM : Has R (cBlk aa [Pq ap] 112)) {r : Bool} (hM : (zaq a aj ac ae ag).Ends r) (w : World) (H : St w w [] R) : Ret Tryz.prog 104 #[I a, Pq ai, Pq aa] w fun v w' => ∃ (y0 : Bool), y0 = r /\ v = B y0 /\ St w w' [] R := by
 refine ret_of_W Tryz.func104 rfl rfl rfl ?_
 refine W.seq ?_
 refine W.region rfl ?_
 refine t_box (v := I a) (cs := [I a]) H rfl rfl ?_
 intro ak aX H
 refine zA (B false) rfl ?_
 refine s_nil ?_
 refine W.seq ?_
 refine W.region rfl ?_
 refine s_val (x_ld (p := Pq ai) (v := ab) rfl (ldb_sc Sc28 (aE.blk H) rfl)) ?_
 refine s_val (x_mf (fs := []) (cs := [Pq aa, Pq ak]) rfl rfl) ?_
 obtain ⟨aY, aN, hM⟩ := M.e_bind hM
 refine s_call cf99 [ab, .func (.func 105) #[] #[Pq aa, Pq ak]] rfl (zbz aj (fun am => zaw am ac ae ag a) (aC.app _) aD ⟨105, [Pq aa, Pq ak], rfl, cf105, fun az aZ a6 aO am a7 aP a8 aQ aR => by obtain rfl := Arg.int aQ; exact (zcH am ac ae ag a (Reads.app (aF.app _) _) aG (Reads.app (aH.app _) _) aI (Reads.app (aJ.app _) _) aK (Has.app (aL.app _) _) (Has.app (aM.app _) _) (Has.app (Has.here (k := 0) rfl) _) aR az (St.refl aP)).mono fun aO az ⟨ba, aS, aT, aU⟩ => by subst aS; exact ⟨aT, aU⟩⟩ aN _ (H.gt 1)) ?_
 rintro vq bb ⟨r2, aV, hvq, aA⟩
 subst aV
 subst vq
 try dsimp only at hM
 replace H := H.bk aA
 clear aA
 refine zA (B r2) rfl ?_
 refine s_nil ?_
 refine W.ret ?_
 have aW := M.e_pure hM
 exact ⟨_, resE_tmp rfl, ⟨r2, aW, rfl, (H.pk [])⟩⟩

def zat (aa : List Sect) (ab : List Mrk) (ac : List Rch) (marks : List Int) : M Bool :=
  M.bind (zak marks (fun ae => zaq ae marks aa ab ac)) fun r2 =>
  M.pure r2
theorem zcu {R : List Chunk} {ab : Nat} {ao : Cells} {ap : Value} {aq : Cells} {au : Value} {av : Cells} {aw : Value} {aB : Nat} {ax : Cells} {aa : Value} (ac : List Sect) (ae : List Mrk) (ag : List Rch) (marks : List Int) (aC : Reads R ao) (aD : Sl ao ap ac) (aE : Reads R aq) (aF : Sl aq au ae) (aG : Reads R av) (aH : Sl av aw ag) (aI : Has R (cBlk ab [ap, au, aw, .map (some aB)] 177)) (ay : Reads R ax) (aj : Sl ax aa marks) {r : Bool} (hM : (zat ac ae ag marks).Ends r) (w : World) (H : St w w [] R) : Ret Tryz.prog 58 #[Pq ab, aa] w fun v w' => ∃ (y0 : Bool), y0 = r /\ v = B y0 /\ St w w' [] R := by
 refine ret_of_W Tryz.func58 rfl rfl rfl ?_
 refine W.seq ?_
 refine W.region rfl ?_
 refine t_box (v := Pq ab) (cs := [Pq ab]) H rfl rfl ?_
 intro ak aT H
 refine t_box (v := aa) (cs := [aa]) H rfl (Sl.cells aj) ?_
 intro ai aU H
 refine zA (B false) rfl ?_
 refine s_nil ?_
 refine W.seq ?_
 refine W.region rfl ?_
 refine s_val (x_ld (p := Pq ai) (v := aa) rfl (ldb_sc Sc28 (H.bl 0) rfl)) ?_
 refine s_val (x_mf (fs := []) (cs := [Pq ai, Pq ak]) rfl rfl) ?_
 obtain ⟨aV, aJ, hM⟩ := M.e_bind hM
 refine s_call cf99 [aa, .func (.func 104) #[] #[Pq ai, Pq ak]] rfl (zbz marks (fun am => zaq am marks ac ae ag) (ay.app _) aj ⟨104, [Pq ai, Pq ak], rfl, cf104, fun az aW aX aK am aY aL aZ aM aN => by obtain rfl := Arg.int aM; exact (zcX am marks ac ae ag (Reads.app (ay.app _) _) aj (Has.app (Has.here (k := 0) rfl) _) (Reads.app (aC.app _) _) aD (Reads.app (aE.app _) _) aF (Reads.app (aG.app _) _) aH (Has.app (aI.app _) _) (Has.app (Has.here (k := 1) rfl) _) aN az (St.refl aL)).mono fun aK az ⟨a6, aO, aP, aQ⟩ => by subst aO; exact ⟨aP, aQ⟩⟩ aJ _ (H.gt 2)) ?_
 rintro vq a7 ⟨r2, aR, hvq, aA⟩
 subst aR
 subst vq
 try dsimp only at hM
 replace H := H.bk aA
 clear aA
 refine zA (B r2) rfl ?_
 refine s_nil ?_
 replace H := H.pk []
 refine W.ret ?_
 have aS := M.e_pure hM
 exact ⟨_, resE_tmp rfl, ⟨r2, aS, rfl, H⟩⟩

def zbX (s_Sections : List Sect) (s_Marks : List Mrk) (s_Reaches : List Rch) (marks : List Int) (reach : Int) : M (Int × Int × Int) :=
  M.bind (zcs s_Sections s_Marks s_Reaches marks reach) fun x_ => match x_ with
  | (.inl (aj, ak, am, ao, ap, r2)) => (
  bif r2 != 0 then (
  M.pure (0, 0, r2))
  else (
  M.fail))
  | (.inr (aa, ab, ac, ae, ag, ai)) => (
  bif ai != 0 then (
  M.fail)
  else (
  M.bind (zat s_Sections s_Marks s_Reaches marks) fun r3 =>
  bif !r3 then (
  M.pure (0, 0, 7))
  else (
  M.bind (zcr s_Sections s_Marks s_Reaches marks (⟨(aa : Int), (ab : Int), (ac : Int), (ae : Int), ag⟩ : Rch)) fun (r0, r1) =>
  M.pure (r0, r1, 0))))
theorem zcE {R : List Chunk} {aL : Cells} {ao : Value} {aM : Cells} {ap : Value} {aN : Cells} {aq : Value} {aO : Cells} {am : Value} (s_Sections : List Sect) (s_Marks : List Mrk) (s_Reaches : List Rch) (marks : List Int) (reach : Int) (aC : Reads R aL) (aD : Sl aL ao s_Sections) (aE : Reads R aM) (aF : Sl aM ap s_Marks) (aG : Reads R aN) (aH : Sl aN aq s_Reaches) (aI : Reads R aO) (aJ : Sl aO am marks) {r : (Int × Int × Int)} (hM : (zbX s_Sections s_Marks s_Reaches marks reach).Ends r) (w : World) (H : St w w [] R) : Ret Tryz.prog 20 #[.agg #[ao, ap, aq], am, I reach] w fun v w' => ∃ (y0 : Int) (y1 : Int) (y2 : Int), (y0, y1, y2) = r /\ v = .tuple #[.agg #[I y0, I y1], I y2] /\ St w w' [] R := by
 refine ret_of_W Tryz.func20 rfl rfl rfl ?_
 refine W.seq ?_
 refine W.region rfl ?_
 refine t_box (v := .agg #[ao, ap, aq]) (cs := [ao, ap, aq]) H rfl rfl ?_
 intro aQ a7 H
 refine t_alloc (cs := [I 0, I 0]) H Al54 rfl ?_
 intro a8 ba H
 refine zA (I 0) rfl ?_
 refine s_nil ?_
 refine W.seq ?_
 refine W.region rfl ?_
 refine s_val (x_ld (p := Pq aQ) (v := .agg #[ao, ap, aq]) rfl (ldb_ag (ds := [ao, ap, aq]) Ag27 Sz27 (H.bl 1) rfl rfl)) ?_
 refine zM am rfl ?_
 refine zM (I reach) rfl ?_
 obtain ⟨bb, aR, hM⟩ := M.e_bind hM
 refine s_call cf65 [.agg #[ao, ap, aq], am, I reach] rfl (zdk s_Sections s_Marks s_Reaches marks reach (aC.app _) aD (aE.app _) aF (aG.app _) aH (aI.app _) aJ aR _ (H.gt 2)) ?_
 rintro vq bc (⟨au, av, aw, ax, ay, r2, aS, hvq, aa⟩ | ⟨ab, ac, ae, ag, ai, aj, ak, bf, aT, hvq, aa⟩)
 ·subst aS
  subst vq
  try dsimp only at hM
  replace H := H.bk aa
  clear aa
  refine zM (.tuple #[.pointer none, .agg #[I au, I av, I aw, I ax, B ay], I r2]) rfl ?_
  refine zX [.pointer none, .agg #[I au, I av, I aw, I ax, B ay], I r2] (.pointer none) rfl rfl ?_
  refine zX [.pointer none, .agg #[I au, I av, I aw, I ax, B ay], I r2] (.agg #[I au, I av, I aw, I ax, B ay]) rfl rfl ?_
  refine zX [.pointer none, .agg #[I au, I av, I aw, I ax, B ay], I r2] (I r2) rfl rfl ?_
  refine t_alloc (cs := [I 0, I 0, I 0, I 0, B false]) H Al58 rfl ?_
  intro aP bg H
  refine zA (.pointer none) rfl ?_
  refine t_sw 0 0 [I au, I av, I aw, I ax, B ay] (.agg #[I au, I av, I aw, I ax, B ay]) H rfl rfl Sz58 rfl rfl rfl rfl ?_
  intro bh H
  refine zA (I r2) rfl ?_
  refine s_nil ?_
  refine W.seq ?_
  refine W.block ?_
  refine W.seq ?_
  refine W.region rfl ?_
  refine zM (I r2) rfl ?_
  refine zC r2 0 (r2 != 0) rfl rfl rfl ?_
  refine zA (B (r2 != 0)) rfl ?_
  refine s_nil ?_
  refine W.cond (r2 != 0) rfl (fun aA => ?_) (fun aA => ?_)
  ·replace hM := M.e_t hM aA
   simp only [qy1, qy2, qy3, qy4, qy5, qy6, ne_eq, qy7] at aA
   refine W.seq ?_
   refine W.region rfl ?_
   refine s_val (x_bld (ps := []) (zs := [I 0, I 0]) (L' := [I 0, I 0]) rfl Tryz.underlying54 Al54 rfl (Bd54 Tryz.underlying54) (.nil)) ?_
   refine zM (I r2) rfl ?_
   refine t_sw 1 0 [I 0, I 0] (.agg #[I 0, I 0]) H rfl rfl Sz54 rfl rfl rfl rfl ?_
   intro bi H
   refine zA (I r2) rfl ?_
   refine s_nil ?_
   replace H := H.pk [1]
   refine W.ret ?_
   have aU := (H.bl 0)
   have az := M.e_pure hM
   exact ⟨_, (resE_ofn (vs := [.agg #[I 0, I 0], I r2]) rfl rfl (.cell (v := .agg #[I 0, I 0]) rfl (run_loadVar_ag (ds := [I 0, I 0]) Ag54 Sz54 aU rfl rfl) <| .tmp (v := I r2) rfl <| .nil)), ⟨0, 0, r2, az, rfl, (H.pk [])⟩⟩
  replace hM := M.e_f hM aA
  exact (M.e_fail hM).elim
 subst aT
 subst vq
 try dsimp only at hM
 replace H := H.bk aa
 clear aa
 refine zM (.tuple #[Pq ak, .agg #[I ab, I ac, I ae, I ag, B ai], I aj]) rfl ?_
 refine zX [Pq ak, .agg #[I ab, I ac, I ae, I ag, B ai], I aj] (Pq ak) rfl rfl ?_
 refine zX [Pq ak, .agg #[I ab, I ac, I ae, I ag, B ai], I aj] (.agg #[I ab, I ac, I ae, I ag, B ai]) rfl rfl ?_
 refine zX [Pq ak, .agg #[I ab, I ac, I ae, I ag, B ai], I aj] (I aj) rfl rfl ?_
 refine t_alloc (cs := [I 0, I 0, I 0, I 0, B false]) H Al58 rfl ?_
 intro aP bj H
 refine zA (Pq ak) rfl ?_
 refine t_sw 0 0 [I ab, I ac, I ae, I ag, B ai] (.agg #[I ab, I ac, I ae, I ag, B ai]) H rfl rfl Sz58 rfl rfl rfl rfl ?_
 intro bm H
 refine zA (I aj) rfl ?_
 refine s_nil ?_
 refine W.seq ?_
 refine W.block ?_
 refine W.seq ?_
 refine W.region rfl ?_
 refine zM (I aj) rfl ?_
 refine zC aj 0 (aj != 0) rfl rfl rfl ?_
 refine zA (B (aj != 0)) rfl ?_
 refine s_nil ?_
 refine W.cond (aj != 0) rfl (fun aB => ?_) (fun aB => ?_)
 ·replace hM := M.e_t hM aB
  exact (M.e_fail hM).elim
 replace hM := M.e_f hM aB
 simp only [qy1, qy2, qy3, qy4, qy5, qy6, ne_eq, qy7] at aB
 refine W.seq ?_
 refine W.region rfl ?_
 refine zM (Pq ak) rfl ?_
 refine zM am rfl ?_
 obtain ⟨bn, aV, hM⟩ := M.e_bind hM
 refine s_call cf58 [Pq ak, am] rfl (zcu s_Sections s_Marks s_Reaches marks (aC.app _) aD (aE.app _) aF (aG.app _) aH (Has.here (k := 1) rfl) (aI.app _) aJ aV _ (H.gt 5)) ?_
 rintro vq bo ⟨r3, aW, hvq, aa⟩
 subst aW
 subst vq
 try dsimp only at hM
 replace H := H.bk aa
 clear aa
 refine s_val (x_not (b := r3) rfl) ?_
 refine zA (B (!r3)) rfl ?_
 refine s_nil ?_
 refine W.cond (!r3) rfl (fun aK => ?_) (fun aK => ?_)
 ·replace hM := M.e_t hM aK
  refine W.seq ?_
  refine W.region rfl ?_
  refine s_val (x_bld (ps := []) (zs := [I 0, I 0]) (L' := [I 0, I 0]) rfl Tryz.underlying54 Al54 rfl (Bd54 Tryz.underlying54) (.nil)) ?_
  refine t_sw 3 0 [I 0, I 0] (.agg #[I 0, I 0]) H rfl rfl Sz54 rfl rfl rfl rfl ?_
  intro bp H
  refine zA (I 7) rfl ?_
  refine s_nil ?_
  replace H := H.pk [3]
  refine W.ret ?_
  have aX := (H.bl 0)
  have az := M.e_pure hM
  exact ⟨_, (resE_ofn (vs := [.agg #[I 0, I 0], I 7]) rfl rfl (.cell (v := .agg #[I 0, I 0]) rfl (run_loadVar_ag (ds := [I 0, I 0]) Ag54 Sz54 aX rfl rfl) <| .tmp (v := I 7) rfl <| .nil)), ⟨0, 0, 7, az, rfl, (H.pk [])⟩⟩
 replace hM := M.e_f hM aK
 refine W.skip ?_
 refine W.seq ?_
 refine W.region rfl ?_
 refine zM (Pq ak) rfl ?_
 refine zM am rfl ?_
 refine s_val (x_ld (p := Pq aP) (v := .agg #[I ab, I ac, I ae, I ag, B ai]) rfl (ldb_ag (ds := [I ab, I ac, I ae, I ag, B ai]) Ag58 Sz58 (H.bl 0) rfl rfl)) ?_
 obtain ⟨bq, aY, hM⟩ := M.e_bind hM
 refine s_call cf66 [Pq ak, am, .agg #[I ab, I ac, I ae, I ag, B ai]] rfl (zcZ s_Sections s_Marks s_Reaches marks (⟨(ab : Int), (ac : Int), (ae : Int), (ag : Int), ai⟩ : Rch) (aC.app _) aD (aE.app _) aF (aG.app _) aH (Has.here (k := 1) rfl) (aI.app _) aJ aY _ ((H.pk [2, 0, 1, 3, 4]).gt 4)) ?_
 rintro vq br ⟨r0, r1, aZ, hvq, aa⟩
 subst aZ
 subst vq
 try dsimp only at hM
 replace H := H.pk [2, 0, 1, 3, 4] |>.bk aa
 clear aa
 refine t_sw 3 0 [I r0, I r1] (.agg #[I r0, I r1]) H rfl rfl Sz54 rfl rfl rfl rfl ?_
 intro bt H
 refine zA (I 0) rfl ?_
 refine s_nil ?_
 replace H := H.pk [3]
 refine W.ret ?_
 have a6 := (H.bl 0)
 have az := M.e_pure hM
 exact ⟨_, (resE_ofn (vs := [.agg #[I r0, I r1], I 0]) rfl rfl (.cell (v := .agg #[I r0, I r1]) rfl (run_loadVar_ag (ds := [I r0, I r1]) Ag54 Sz54 a6 rfl rfl) <| .tmp (v := I 0) rfl <| .nil)), ⟨r0, r1, 0, az, rfl, (H.pk [])⟩⟩

def zcz (c : Cas) (r_ : Rch) : M Bool :=
  M.bind (zac c.up 0 2000) fun r2 =>
  M.bind (M.opt r2 (zac c.down 0 c.up) false) fun r3 =>
  M.bind (M.opt (r2 && r3) (zac c.roughup r_.lo r_.hi) false) fun r4 =>
  M.bind (M.opt ((r2 && r3) && r4) (zac c.roughdown r_.lo r_.hi) false) fun r5 =>
  M.pure (((r2 && r3) && r4) && r5)
theorem zcP {R : List Chunk}  (c : Cas) (r_ : Rch)  {r : Bool} (hM : (zcz c r_).Ends r) (w : World) (H : St w w [] R) : Ret Tryz.prog 71 #[.agg #[I c.up, I c.down, I c.roughup, I c.roughdown], .agg #[I r_.up, I r_.down, I r_.lo, I r_.hi, B r_.narrow]] w fun v w' => ∃ (y0 : Bool), y0 = r /\ v = B y0 /\ St w w' [] R := by
 refine ret_of_W Tryz.func71 rfl rfl rfl ?_
 refine W.seq ?_
 refine W.region rfl ?_
 refine t_box (v := .agg #[I c.up, I c.down, I c.roughup, I c.roughdown]) (cs := [I c.up, I c.down, I c.roughup, I c.roughdown]) H rfl rfl ?_
 intro ab ap H
 refine t_box (v := .agg #[I r_.up, I r_.down, I r_.lo, I r_.hi, B r_.narrow]) (cs := [I r_.up, I r_.down, I r_.lo, I r_.hi, B r_.narrow]) H rfl rfl ?_
 intro aa aq H
 refine zA (B false) rfl ?_
 refine s_nil ?_
 refine W.seq ?_
 refine W.region rfl ?_
 refine s_val (x_fa (a := Pq ab) (v := Pq ab) rfl (fa_blk (o := 0) Fd61_0 Sz3)) ?_
 refine s_val (x_ld (p := Pq ab) (v := I c.up) rfl (ldb_sc Sc3 (H.bl 1) rfl)) ?_
 obtain ⟨au, ai, hM⟩ := M.e_bind hM
 refine s_call cf70 [I c.up, I 0, I 2000] rfl (zae c.up 0 2000 ai _ (H.gt 2)) ?_
 rintro vq av ⟨r2, aj, hvq, ag⟩
 subst aj
 subst vq
 try dsimp only at hM
 replace H := H.bk ag
 clear ag
 refine zM (B r2) rfl ?_
 refine g_val r2 (gy_t rfl) (fun hg => x_fa (a := Pq ab) (v := Oq ab 1) rfl (fa_blk (o := 0) Fd61_1 Sz3)) ?_
 refine g_val r2 (gy_t rfl) (fun hg => x_ld (p := Oq ab 1) (v := I c.down) (gd_of (c := r2) hg (Oq ab 1)) (ldb_sc Sc3 (H.bl 1) rfl)) ?_
 refine g_val r2 (gy_t rfl) (fun hg => x_fa (a := Pq ab) (v := Pq ab) rfl (fa_blk (o := 0) Fd61_0 Sz3)) ?_
 refine g_val r2 (gy_t rfl) (fun hg => x_ld (p := Pq ab) (v := I c.up) (gd_of (c := r2) hg (Pq ab)) (ldb_sc Sc3 (H.bl 1) rfl)) ?_
 obtain ⟨r3, ak, hM⟩ := M.e_bind hM
 refine t_gcall r2 (gy_t rfl) cf70 (B r3) (fun _ => [I c.down, I 0, I c.up]) (fun hg => lst3 (gd_of (c := r2) hg (I c.down)) rfl (gd_of (c := r2) hg (I c.up))) H (fun hg => (zae c.down 0 c.up (M.e_opt ak hg) _ (H.give (A := []) rfl)).mono fun v_ w_ ⟨y_, ac, ae, H_⟩ => by subst ac; exact ⟨ae, H.via H_⟩) ?_
 intro aw H
 refine s_val (x_pand (b := r2) (r := r3) rfl (fun hb => gd_of (c := r2) (by first | exact hb | (rw [hb]; rfl) | simp_all) (B r3)) rfl) ?_
 refine zM (B (r2 && r3)) rfl ?_
 refine g_val (r2 && r3) (gy_t rfl) (fun hg => x_fa (a := Pq ab) (v := Oq ab 2) rfl (fa_blk (o := 0) Fd61_2 Sz3)) ?_
 refine g_val (r2 && r3) (gy_t rfl) (fun hg => x_ld (p := Oq ab 2) (v := I c.roughup) (gd_of (c := (r2 && r3)) hg (Oq ab 2)) (ldb_sc Sc3 (H.bl 1) rfl)) ?_
 refine g_val (r2 && r3) (gy_t rfl) (fun hg => x_fa (a := Pq aa) (v := Oq aa 2) rfl (fa_blk (o := 0) Fd58_2 Sz54)) ?_
 refine g_val (r2 && r3) (gy_t rfl) (fun hg => x_fa (a := Oq aa 2) (v := Oq aa 2) (gd_of (c := (r2 && r3)) hg (Oq aa 2)) (fa_blk (o := 2) Fd54_0 Sz3)) ?_
 refine g_val (r2 && r3) (gy_t rfl) (fun hg => x_ld (p := Oq aa 2) (v := I r_.lo) (gd_of (c := (r2 && r3)) hg (Oq aa 2)) (ldb_sc Sc3 (H.bl 0) rfl)) ?_
 refine g_val (r2 && r3) (gy_t rfl) (fun hg => x_fa (a := Pq aa) (v := Oq aa 2) rfl (fa_blk (o := 0) Fd58_2 Sz54)) ?_
 refine g_val (r2 && r3) (gy_t rfl) (fun hg => x_fa (a := Oq aa 2) (v := Oq aa 3) (gd_of (c := (r2 && r3)) hg (Oq aa 2)) (fa_blk (o := 2) Fd54_1 Sz3)) ?_
 refine g_val (r2 && r3) (gy_t rfl) (fun hg => x_ld (p := Oq aa 3) (v := I r_.hi) (gd_of (c := (r2 && r3)) hg (Oq aa 3)) (ldb_sc Sc3 (H.bl 0) rfl)) ?_
 obtain ⟨r4, am, hM⟩ := M.e_bind hM
 refine t_gcall (r2 && r3) (gy_t rfl) cf70 (B r4) (fun _ => [I c.roughup, I r_.lo, I r_.hi]) (fun hg => lst3 (gd_of (c := (r2 && r3)) hg (I c.roughup)) (gd_of (c := (r2 && r3)) hg (I r_.lo)) (gd_of (c := (r2 && r3)) hg (I r_.hi))) H (fun hg => (zae c.roughup r_.lo r_.hi (M.e_opt am hg) _ (H.give (A := []) rfl)).mono fun v_ w_ ⟨y_, ac, ae, H_⟩ => by subst ac; exact ⟨ae, H.via H_⟩) ?_
 intro ax H
 refine s_val (x_pand (b := (r2 && r3)) (r := r4) rfl (fun hb => gd_of (c := (r2 && r3)) (by first | exact hb | (rw [hb]; rfl) | simp_all) (B r4)) rfl) ?_
 refine zM (B ((r2 && r3) && r4)) rfl ?_
 refine g_val ((r2 && r3) && r4) (gy_t rfl) (fun hg => x_fa (a := Pq ab) (v := Oq ab 3) rfl (fa_blk (o := 0) Fd61_3 Sz3)) ?_
 refine g_val ((r2 && r3) && r4) (gy_t rfl) (fun hg => x_ld (p := Oq ab 3) (v := I c.roughdown) (gd_of (c := ((r2 && r3) && r4)) hg (Oq ab 3)) (ldb_sc Sc3 (H.bl 1) rfl)) ?_
 refine g_val ((r2 && r3) && r4) (gy_t rfl) (fun hg => x_fa (a := Pq aa) (v := Oq aa 2) rfl (fa_blk (o := 0) Fd58_2 Sz54)) ?_
 refine g_val ((r2 && r3) && r4) (gy_t rfl) (fun hg => x_fa (a := Oq aa 2) (v := Oq aa 2) (gd_of (c := ((r2 && r3) && r4)) hg (Oq aa 2)) (fa_blk (o := 2) Fd54_0 Sz3)) ?_
 refine g_val ((r2 && r3) && r4) (gy_t rfl) (fun hg => x_ld (p := Oq aa 2) (v := I r_.lo) (gd_of (c := ((r2 && r3) && r4)) hg (Oq aa 2)) (ldb_sc Sc3 (H.bl 0) rfl)) ?_
 refine g_val ((r2 && r3) && r4) (gy_t rfl) (fun hg => x_fa (a := Pq aa) (v := Oq aa 2) rfl (fa_blk (o := 0) Fd58_2 Sz54)) ?_
 refine g_val ((r2 && r3) && r4) (gy_t rfl) (fun hg => x_fa (a := Oq aa 2) (v := Oq aa 3) (gd_of (c := ((r2 && r3) && r4)) hg (Oq aa 2)) (fa_blk (o := 2) Fd54_1 Sz3)) ?_
 refine g_val ((r2 && r3) && r4) (gy_t rfl) (fun hg => x_ld (p := Oq aa 3) (v := I r_.hi) (gd_of (c := ((r2 && r3) && r4)) hg (Oq aa 3)) (ldb_sc Sc3 (H.bl 0) rfl)) ?_
 obtain ⟨r5, ao, hM⟩ := M.e_bind hM
 refine t_gcall ((r2 && r3) && r4) (gy_t rfl) cf70 (B r5) (fun _ => [I c.roughdown, I r_.lo, I r_.hi]) (fun hg => lst3 (gd_of (c := ((r2 && r3) && r4)) hg (I c.roughdown)) (gd_of (c := ((r2 && r3) && r4)) hg (I r_.lo)) (gd_of (c := ((r2 && r3) && r4)) hg (I r_.hi))) H (fun hg => (zae c.roughdown r_.lo r_.hi (M.e_opt ao hg) _ (H.give (A := []) rfl)).mono fun v_ w_ ⟨y_, ac, ae, H_⟩ => by subst ac; exact ⟨ae, H.via H_⟩) ?_
 intro ay H
 refine s_val (x_pand (b := ((r2 && r3) && r4)) (r := r5) rfl (fun hb => gd_of (c := ((r2 && r3) && r4)) (by first | exact hb | (rw [hb]; rfl) | simp_all) (B r5)) rfl) ?_
 refine zA (B (((r2 && r3) && r4) && r5)) rfl ?_
 refine s_nil ?_
 replace H := H.pk []
 refine W.ret ?_
 have ac := M.e_pure hM
 exact ⟨_, resE_tmp rfl, ⟨(((r2 && r3) && r4) && r5), ac, rfl, H⟩⟩

def zci (s_Sections : List Sect) (s_Marks : List Mrk) (s_Reaches : List Rch) (reach : Int) (c : Cas) : M (Int × Int) :=
  M.bind (zal s_Sections s_Marks s_Reaches) fun x_ => match x_ with
  | (.inl r1) => (
  bif r1 != 0 then (
  M.pure (0, r1))
  else (
  M.fail))
  | (.inr aa) => (
  bif aa != 0 then (
  M.fail)
  else (
  M.bind (zac reach 0 ((s_Reaches.length : Int) - 1)) fun r2 =>
  bif !r2 then (
  M.pure (0, 2))
  else (
  M.grd (decide ((0 : Int) <= reach) && decide (reach < (s_Reaches.length : Int))) <|
  M.bind (zcz c (s_Reaches.getD (Int.toNat reach) default)) fun r3 =>
  bif !r3 then (
  M.pure (0, 4))
  else (
  M.bind (zbi s_Sections s_Marks s_Reaches (s_Reaches.getD (Int.toNat reach) default) c) fun r4 =>
  M.pure (r4, 0)))))
theorem zdc {R : List Chunk} {az : Cells} {ae : Value} {aA : Cells} {ag : Value} {aB : Cells} {aa : Value} (s_Sections : List Sect) (s_Marks : List Mrk) (s_Reaches : List Rch) (reach : Int) (c : Cas) (aC : Reads R az) (aD : Sl az ae s_Sections) (aE : Reads R aA) (aF : Sl aA ag s_Marks) (ap : Reads R aB) (ak : Sl aB aa s_Reaches) {r : (Int × Int)} (hM : (zci s_Sections s_Marks s_Reaches reach c).Ends r) (w : World) (H : St w w [] R) : Ret Tryz.prog 22 #[.agg #[ae, ag, aa], I reach, .agg #[I c.up, I c.down, I c.roughup, I c.roughdown]] w fun v w' => ∃ (y0 : Int) (y1 : Int), (y0, y1) = r /\ v = .tuple #[I y0, I y1] /\ St w w' [] R := by
 refine ret_of_W Tryz.func22 rfl rfl rfl ?_
 refine W.seq ?_
 refine W.region rfl ?_
 refine t_box (v := .agg #[ae, ag, aa]) (cs := [ae, ag, aa]) H rfl rfl ?_
 intro ac aQ H
 refine t_box (v := .agg #[I c.up, I c.down, I c.roughup, I c.roughdown]) (cs := [I c.up, I c.down, I c.roughup, I c.roughdown]) H rfl rfl ?_
 intro aq aR H
 refine zA (I 0) rfl ?_
 refine zA (I 0) rfl ?_
 refine s_nil ?_
 refine W.seq ?_
 refine W.region rfl ?_
 refine s_val (x_ld (p := Pq ac) (v := .agg #[ae, ag, aa]) rfl (ldb_ag (ds := [ae, ag, aa]) Ag27 Sz27 (H.bl 1) rfl rfl)) ?_
 obtain ⟨aS, aG, hM⟩ := M.e_bind hM
 refine s_call cf49 [.agg #[ae, ag, aa]] rfl (zax s_Sections s_Marks s_Reaches (aC.app _) aD (aE.app _) aF (ap.app _) ak aG _ (H.gt 2)) ?_
 rintro vq aT (⟨r1, aH, hvq, ab⟩ | ⟨ai, aj, aw, aI, hvq, ab⟩)
 ·subst aH
  subst vq
  try dsimp only at hM
  replace H := H.bk ab
  clear ab
  refine zM (.tuple #[.pointer none, I r1]) rfl ?_
  refine zX [.pointer none, I r1] (.pointer none) rfl rfl ?_
  refine zX [.pointer none, I r1] (I r1) rfl rfl ?_
  refine zA (.pointer none) rfl ?_
  refine zA (I r1) rfl ?_
  refine s_nil ?_
  refine W.seq ?_
  refine W.block ?_
  refine W.seq ?_
  refine W.region rfl ?_
  refine zM (I r1) rfl ?_
  refine zC r1 0 (r1 != 0) rfl rfl rfl ?_
  refine zA (B (r1 != 0)) rfl ?_
  refine s_nil ?_
  refine W.cond (r1 != 0) rfl (fun au => ?_) (fun au => ?_)
  ·replace hM := M.e_t hM au
   simp only [qy1, qy2, qy3, qy4, qy5, qy6, ne_eq, qy7] at au
   refine W.seq ?_
   refine W.region rfl ?_
   refine zM (I r1) rfl ?_
   refine zA (I 0) rfl ?_
   refine zA (I r1) rfl ?_
   refine s_nil ?_
   replace H := H.pk []
   refine W.ret ?_
   have am := M.e_pure hM
   exact ⟨_, resE_tmp2 rfl, ⟨0, r1, am, rfl, H⟩⟩
  replace hM := M.e_f hM au
  exact (M.e_fail hM).elim
 subst aI
 subst vq
 try dsimp only at hM
 replace H := H.bk ab
 clear ab
 refine zM (.tuple #[Pq aj, I ai]) rfl ?_
 refine zX [Pq aj, I ai] (Pq aj) rfl rfl ?_
 refine zX [Pq aj, I ai] (I ai) rfl rfl ?_
 refine zA (Pq aj) rfl ?_
 refine zA (I ai) rfl ?_
 refine s_nil ?_
 refine W.seq ?_
 refine W.block ?_
 refine W.seq ?_
 refine W.region rfl ?_
 refine zM (I ai) rfl ?_
 refine zC ai 0 (ai != 0) rfl rfl rfl ?_
 refine zA (B (ai != 0)) rfl ?_
 refine s_nil ?_
 refine W.cond (ai != 0) rfl (fun av => ?_) (fun av => ?_)
 ·replace hM := M.e_t hM av
  exact (M.e_fail hM).elim
 replace hM := M.e_f hM av
 simp only [qy1, qy2, qy3, qy4, qy5, qy6, ne_eq, qy7] at av
 refine W.seq ?_
 refine W.region rfl ?_
 refine zM (I reach) rfl ?_
 refine s_val (x_fa (a := Pq ac) (v := Oq ac 2) rfl (fa_blk (o := 0) Fd27_2 Sz25)) ?_
 refine s_val (x_ld (p := Oq ac 2) (v := aa) rfl (ldb_sc Sc25 (H.bl 3) rfl)) ?_
 have aU := (ak).len_le
 refine s_val (x_lenS T25.und rfl ak) ?_
 refine zR (s_Reaches.length : Int) 1 ((s_Reaches.length : Int) - 1) rfl rfl rfl (by omega) ?_
 obtain ⟨aV, aJ, hM⟩ := M.e_bind hM
 refine s_call cf70 [I reach, I 0, I ((s_Reaches.length : Int) - 1)] rfl (zae reach 0 ((s_Reaches.length : Int) - 1) aJ _ (H.gt 4)) ?_
 rintro vq aW ⟨r2, aK, hvq, ab⟩
 subst aK
 subst vq
 try dsimp only at hM
 replace H := H.bk ab
 clear ab
 refine s_val (x_not (b := r2) rfl) ?_
 refine zA (B (!r2)) rfl ?_
 refine s_nil ?_
 refine W.cond (!r2) rfl (fun ax => ?_) (fun ax => ?_)
 ·replace hM := M.e_t hM ax
  refine W.seq ?_
  refine W.region rfl ?_
  refine zA (I 0) rfl ?_
  refine zA (I 2) rfl ?_
  refine s_nil ?_
  replace H := H.pk []
  refine W.ret ?_
  have am := M.e_pure hM
  exact ⟨_, resE_tmp2 rfl, ⟨0, 2, am, rfl, H⟩⟩
 replace hM := M.e_f hM ax
 refine W.seq ?_
 refine W.draw (fun W => St w W [cBlk aj [ae, ag, aa, .map (some aw)] 177, cMemI encSpt aw (zaa s_Sections s_Marks s_Reaches), cBlk aq [I c.up, I c.down, I c.roughup, I c.roughdown] 61, cBlk ac [ae, ag, aa] 27] R) [(0, true), (1, true), (2, true), (3, true), (4, true), (5, true), (6, false), (7, true), (8, true)] mixed (by decide +kernel) rfl ?_
 intro aX ao
 replace H := H.ext ao
 clear ao
 refine ⟨(H.pk [0, 1, 2, 3]), ?_⟩
 refine d_q rfl (fun w' H => x_ld (p := Pq aq) (v := .agg #[I c.up, I c.down, I c.roughup, I c.roughdown]) rfl (ldb_ag (ds := [I c.up, I c.down, I c.roughup, I c.roughdown]) Ag61 Sz61 (H.bl 2) rfl rfl)) ?_
 refine d_q rfl (fun w' H => x_fa (a := Pq ac) (v := Oq ac 2) rfl (fa_blk (o := 0) Fd27_2 Sz25)) ?_
 refine d_q rfl (fun w' H => x_ld (p := Oq ac 2) (v := aa) rfl (ldb_sc Sc25 (H.bl 3) rfl)) ?_
 refine d_q rfl (fun w' H => x_mv (v := I reach) rfl) ?_
 obtain ⟨aL, hM⟩ := M.e_grd hM
 simp only [Bool.and_eq_true, decide_eq_true_eq] at aL
 refine d_q rfl (fun w' H => x_ix (a := aa) (b := I reach) (v := vat aa 5 (Int.toNat reach)) rfl rfl (Sl.ix (α := Rch) T25.und T25.size ak (by omega) (by omega))) ?_
 refine d_q rfl (fun w' H => x_ld (p := vat aa 5 (Int.toNat reach)) (v := .agg #[I ((s_Reaches.getD (Int.toNat reach) default).up), I ((s_Reaches.getD (Int.toNat reach) default).down), I ((s_Reaches.getD (Int.toNat reach) default).lo), I ((s_Reaches.getD (Int.toNat reach) default).hi), B ((s_Reaches.getD (Int.toNat reach) default).narrow)]) rfl (ld_ag Ag58 Sz58 (At.mono (Rch_atA ak (i := reach) (by omega) (by omega)) (ap.at H)))) ?_
 refine d_l rfl ?_
 obtain ⟨aY, aM, hM⟩ := M.e_bind hM
 refine s_call cf71 [.agg #[I c.up, I c.down, I c.roughup, I c.roughdown], .agg #[I ((s_Reaches.getD (Int.toNat reach) default).up), I ((s_Reaches.getD (Int.toNat reach) default).down), I ((s_Reaches.getD (Int.toNat reach) default).lo), I ((s_Reaches.getD (Int.toNat reach) default).hi), B ((s_Reaches.getD (Int.toNat reach) default).narrow)]] rfl (zcP c (s_Reaches.getD (Int.toNat reach) default) aM _ (H.gt 4)) ?_
 rintro vq aZ ⟨r3, aN, hvq, ab⟩
 subst aN
 subst vq
 try dsimp only at hM
 replace H := H.bk ab
 clear ab
 refine s_nil ⟨(H.pk [0, 1, 2, 3]), ?_⟩
 refine d_q rfl (fun w' H => x_not (b := r3) rfl) ?_
 refine d_q rfl (fun w' H => x_as (v := B (!r3)) rfl) ?_
 refine d_nil ?_
 refine W.cond (!r3) rfl (fun ay => ?_) (fun ay => ?_)
 ·replace hM := M.e_t hM ay
  refine W.seq ?_
  refine W.region rfl ?_
  refine zA (I 0) rfl ?_
  refine zA (I 4) rfl ?_
  refine s_nil ?_
  replace H := H.pk []
  refine W.ret ?_
  have am := M.e_pure hM
  exact ⟨_, resE_tmp2 rfl, ⟨0, 4, am, rfl, H⟩⟩
 replace hM := M.e_f hM ay
 refine W.skip ?_
 refine W.seq ?_
 refine W.draw (fun W => St w W [cBlk aj [ae, ag, aa, .map (some aw)] 177, cBlk aq [I c.up, I c.down, I c.roughup, I c.roughdown] 61, cBlk ac [ae, ag, aa] 27] R) [(0, true), (1, true), (2, true), (3, true), (4, true), (5, true), (6, true), (7, false), (8, true), (9, true)] mixed (by decide +kernel) rfl ?_
 intro a6 ao
 replace H := H.ext ao
 clear ao
 refine ⟨(H.pk [0, 2, 3]), ?_⟩
 refine d_q rfl (fun w' H => x_mv (v := Pq aj) rfl) ?_
 refine d_q rfl (fun w' H => x_fa (a := Pq ac) (v := Oq ac 2) rfl (fa_blk (o := 0) Fd27_2 Sz25)) ?_
 refine d_q rfl (fun w' H => x_ld (p := Oq ac 2) (v := aa) rfl (ldb_sc Sc25 (H.bl 2) rfl)) ?_
 refine d_q rfl (fun w' H => x_mv (v := I reach) rfl) ?_
 refine d_q rfl (fun w' H => x_ix (a := aa) (b := I reach) (v := vat aa 5 (Int.toNat reach)) rfl rfl (Sl.ix (α := Rch) T25.und T25.size ak (by omega) (by omega))) ?_
 refine d_q rfl (fun w' H => x_ld (p := vat aa 5 (Int.toNat reach)) (v := .agg #[I ((s_Reaches.getD (Int.toNat reach) default).up), I ((s_Reaches.getD (Int.toNat reach) default).down), I ((s_Reaches.getD (Int.toNat reach) default).lo), I ((s_Reaches.getD (Int.toNat reach) default).hi), B ((s_Reaches.getD (Int.toNat reach) default).narrow)]) rfl (ld_ag Ag58 Sz58 (At.mono (Rch_atA ak (i := reach) (by omega) (by omega)) (ap.at H)))) ?_
 refine d_q rfl (fun w' H => x_ld (p := Pq aq) (v := .agg #[I c.up, I c.down, I c.roughup, I c.roughdown]) rfl (ldb_ag (ds := [I c.up, I c.down, I c.roughup, I c.roughdown]) Ag61 Sz61 (H.bl 1) rfl rfl)) ?_
 refine d_l rfl ?_
 obtain ⟨a7, aO, hM⟩ := M.e_bind hM
 refine s_call cf72 [Pq aj, .agg #[I ((s_Reaches.getD (Int.toNat reach) default).up), I ((s_Reaches.getD (Int.toNat reach) default).down), I ((s_Reaches.getD (Int.toNat reach) default).lo), I ((s_Reaches.getD (Int.toNat reach) default).hi), B ((s_Reaches.getD (Int.toNat reach) default).narrow)], .agg #[I c.up, I c.down, I c.roughup, I c.roughdown]] rfl (zcg s_Sections s_Marks s_Reaches (s_Reaches.getD (Int.toNat reach) default) c (aC.app _) aD (aE.app _) aF (ap.app _) ak (Has.here (k := 0) rfl) aO _ ((H.pk [1, 0, 2, 3]).gt 3)) ?_
 rintro vq a8 ⟨r4, aP, hvq, ab⟩
 subst aP
 subst vq
 try dsimp only at hM
 replace H := H.pk [1, 0, 2, 3] |>.bk ab
 clear ab
 refine s_nil ⟨(H.pk [1, 2, 3]), ?_⟩
 refine d_q rfl (fun w' H => x_as (v := I r4) rfl) ?_
 refine d_q rfl (fun w' H => x_as (v := I 0) rfl) ?_
 refine d_nil ?_
 replace H := H.pk []
 refine W.ret ?_
 have am := M.e_pure hM
 exact ⟨_, resE_tmp2 rfl, ⟨r4, 0, am, rfl, H⟩⟩

def zbc (s_Sections : List Sect) (s_Marks : List Mrk) (s_Reaches : List Rch) (marks : List Int) : (Nat × (List Span)) -> M ((Nat × (List Span)) ⊕ ((List Span) × (List Span))) := fun (s2, l) =>
  bif decide ((s2 : Int) < (s_Sections.length : Int)) then (
  M.bind (zao s_Sections s_Marks s_Reaches marks (s2 : Int)) fun (r0, aa) =>
  M.grd (decide ((l.length + ([(⟨(r0 : Int), (aa : Int)⟩ : Span)]).length) * 16 <= 140737488355328)) <|
  M.pure (.inl (s2 + 1, l ++ ([(⟨(r0 : Int), (aa : Int)⟩ : Span)]))))
  else (
  M.pure (.inr (l, l)))
def zan (s_Sections : List Sect) (s_Marks : List Mrk) (s_Reaches : List Rch) (marks : List Int) : M ((List Span) × Int) :=
  M.bind (zaP s_Sections s_Marks s_Reaches marks) fun x_ => match x_ with
  | (.inl r1) => (
  bif r1 != 0 then (
  M.pure (([]), r1))
  else (
  M.fail))
  | (.inr aa) => (
  bif aa != 0 then (
  M.fail)
  else (
  M.bind (zat s_Sections s_Marks s_Reaches marks) fun r2 =>
  bif !r2 then (
  M.pure (([]), 7))
  else (
  M.bind (M.iter (zbc s_Sections s_Marks s_Reaches marks) (0, [])) fun (l2, l3) =>
  M.pure (l3, 0))))
theorem zbT {R : List Chunk} {aG : Cells} {ac : Value} {aH : Cells} {ag : Value} {aI : Cells} {ai : Value} {aJ : Cells} {aj : Value} (s_Sections : List Sect) (s_Marks : List Mrk) (s_Reaches : List Rch) (marks : List Int) (ax : Reads R aG) (ao : Sl aG ac s_Sections) (ay : Reads R aH) (az : Sl aH ag s_Marks) (aA : Reads R aI) (aB : Sl aI ai s_Reaches) (aC : Reads R aJ) (aD : Sl aJ aj marks) {r : ((List Span) × Int)} (hM : (zan s_Sections s_Marks s_Reaches marks).Ends r) (w : World) (H : St w w [] R) : Ret Tryz.prog 13 #[.agg #[ac, ag, ai], aj] w fun v w' => ∃ (y0 : List Span) (y1 : Int) (u0 : Value), (y0, y1) = r /\ v = .tuple #[u0, I y1] /\ St w w' [cOwn (α := Span) 54 u0 y0] R := by
 refine ret_of_W Tryz.func13 rfl rfl rfl ?_
 refine W.seq ?_
 refine W.region rfl ?_
 refine t_box (v := .agg #[ac, ag, ai]) (cs := [ac, ag, ai]) H rfl rfl ?_
 intro ap a8 H
 refine zA (.slice none 0 0) rfl ?_
 refine zA (I 0) rfl ?_
 refine s_nil ?_
 refine W.seq ?_
 refine W.region rfl ?_
 refine s_val (x_ld (p := Pq ap) (v := .agg #[ac, ag, ai]) rfl (ldb_ag (ds := [ac, ag, ai]) Ag27 Sz27 (H.bl 0) rfl rfl)) ?_
 refine zM aj rfl ?_
 obtain ⟨ba, aO, hM⟩ := M.e_bind hM
 refine s_call cf57 [.agg #[ac, ag, ai], aj] rfl (zcv s_Sections s_Marks s_Reaches marks (ax.app _) ao (ay.app _) az (aA.app _) aB (aC.app _) aD aO _ (H.gt 1)) ?_
 rintro vq bb (⟨r1, aP, hvq, aa⟩ | ⟨ae, ab, aK, aQ, hvq, aa⟩)
 ·subst aP
  subst vq
  try dsimp only at hM
  replace H := H.bk aa
  clear aa
  refine zM (.tuple #[.pointer none, I r1]) rfl ?_
  refine zX [.pointer none, I r1] (.pointer none) rfl rfl ?_
  refine zX [.pointer none, I r1] (I r1) rfl rfl ?_
  refine zA (.pointer none) rfl ?_
  refine zA (I r1) rfl ?_
  refine s_nil ?_
  refine W.seq ?_
  refine W.block ?_
  refine W.seq ?_
  refine W.region rfl ?_
  refine zM (I r1) rfl ?_
  refine zC r1 0 (r1 != 0) rfl rfl rfl ?_
  refine zA (B (r1 != 0)) rfl ?_
  refine s_nil ?_
  refine W.cond (r1 != 0) rfl (fun av => ?_) (fun av => ?_)
  ·replace hM := M.e_t hM av
   simp only [qy1, qy2, qy3, qy4, qy5, qy6, ne_eq, qy7] at av
   refine W.seq ?_
   refine W.region rfl ?_
   refine zM (I r1) rfl ?_
   refine zA (.slice none 0 0) rfl ?_
   refine zA (I r1) rfl ?_
   refine s_nil ?_
   refine W.ret ?_
   have aq := M.e_pure hM
   replace H := H.nilOwn (α := Span) 54
   exact ⟨_, resE_tmp2 rfl, ⟨([]), r1, (.slice none 0 0), aq, rfl, (H.pk [0])⟩⟩
  replace hM := M.e_f hM av
  exact (M.e_fail hM).elim
 subst aQ
 subst vq
 try dsimp only at hM
 replace H := H.bk aa
 clear aa
 refine zM (.tuple #[Pq ab, I ae]) rfl ?_
 refine zX [Pq ab, I ae] (Pq ab) rfl rfl ?_
 refine zX [Pq ab, I ae] (I ae) rfl rfl ?_
 refine zA (Pq ab) rfl ?_
 refine zA (I ae) rfl ?_
 refine s_nil ?_
 refine W.seq ?_
 refine W.block ?_
 refine W.seq ?_
 refine W.region rfl ?_
 refine zM (I ae) rfl ?_
 refine zC ae 0 (ae != 0) rfl rfl rfl ?_
 refine zA (B (ae != 0)) rfl ?_
 refine s_nil ?_
 refine W.cond (ae != 0) rfl (fun aw => ?_) (fun aw => ?_)
 ·replace hM := M.e_t hM aw
  exact (M.e_fail hM).elim
 replace hM := M.e_f hM aw
 simp only [qy1, qy2, qy3, qy4, qy5, qy6, ne_eq, qy7] at aw
 refine W.seq ?_
 refine W.region rfl ?_
 refine zM (Pq ab) rfl ?_
 refine zM aj rfl ?_
 obtain ⟨bc, aR, hM⟩ := M.e_bind hM
 refine s_call cf58 [Pq ab, aj] rfl (zcu s_Sections s_Marks s_Reaches marks (ax.app _) ao (ay.app _) az (aA.app _) aB (Has.here (k := 0) rfl) (aC.app _) aD aR _ (H.gt 3)) ?_
 rintro vq bf ⟨r2, aS, hvq, aa⟩
 subst aS
 subst vq
 try dsimp only at hM
 replace H := H.bk aa
 clear aa
 refine s_val (x_not (b := r2) rfl) ?_
 refine zA (B (!r2)) rfl ?_
 refine s_nil ?_
 refine W.cond (!r2) rfl (fun aE => ?_) (fun aE => ?_)
 ·replace hM := M.e_t hM aE
  refine W.seq ?_
  refine W.region rfl ?_
  refine zA (.slice none 0 0) rfl ?_
  refine zA (I 7) rfl ?_
  refine s_nil ?_
  replace H := H.pk []
  refine W.ret ?_
  have aq := M.e_pure hM
  replace H := H.nilOwn (α := Span) 54
  exact ⟨_, resE_tmp2 rfl, ⟨([]), 7, (.slice none 0 0), aq, rfl, H⟩⟩
 replace hM := M.e_f hM aE
 refine W.skip ?_
 refine W.seq ?_
 refine W.region rfl ?_
 refine zA (.slice none 0 0) rfl ?_
 refine s_nil ?_
 refine W.seq ?_
 refine W.seq ?_
 refine W.region rfl ?_
 refine s_val (x_fa (a := Pq ap) (v := Pq ap) rfl (fa_blk (o := 0) Fd27_0 Sz23)) ?_
 refine s_val (x_ld (p := Pq ap) (v := ac) rfl (ldb_sc Sc23 (H.bl 2) rfl)) ?_
 have bg := (ao).len_le
 refine s_val (x_lenS T23.und rfl ao) ?_
 refine zM (I 0) rfl ?_
 refine s_nil ?_
 refine W.block ?_
 replace H := H.nilOwn (α := Span) 54
 obtain ⟨aT, aF, aU⟩ := M.e_bind hM
 obtain ⟨bh, aF⟩ := M.e_iter aF
 refine W.loop (fun m σ W => ∃ (s2 : Nat) (l : List Span) (ak : Value) (ρ : Env), σ = upds ρ [(1, aj), (6, Pq ab), (8, ak), (27, I (s_Sections.length : Int)), (28, I (s2 : Int))] /\ M.iterN (zbc s_Sections s_Marks s_Reaches marks) m (s2, l) = some aT /\ St w W [cOwn (α := Span) 54 ak l, cBlk ab [ac, ag, ai, .map (some aK)] 177, cMemI encSpt aK (zaa s_Sections s_Marks s_Reaches), cBlk ap [ac, ag, ai] 27] R) ?_ ?_
 ·exact ⟨_, 0, [], (.slice none 0 0), _, upds_of _ _ ⟨rfl, rfl, rfl, rfl, rfl, trivial⟩, aF, H⟩
 rintro bi σ bj ⟨s2, l, ak, ρ, rfl, aL, H⟩
 obtain ⟨aV, aW, bm, hM, aM⟩ := M.e_iterN aL
 simp only [zbc] at hM
 clear aL
 refine W.seq ?_
 refine W.region rfl ?_
 refine zC (s2 : Int) (s_Sections.length : Int) (decide ((s2 : Int) < (s_Sections.length : Int))) rfl rfl rfl ?_
 refine s_nil ?_
 refine W.seq ?_
 refine W.cond (decide ((s2 : Int) < (s_Sections.length : Int))) rfl (fun au => ?_) (fun au => ?_)
 ·replace hM := M.e_t hM au
  simp only [qy1, qy2, qy3, qy4, qy5, qy6, ne_eq, qy7] at au
  refine W.skip ?_
  refine W.seq ?_
  refine W.block ?_
  refine W.seq ?_
  refine W.region rfl ?_
  refine zM (I (s2 : Int)) rfl ?_
  refine zA (I (s2 : Int)) rfl ?_
  refine s_nil ?_
  refine W.region rfl ?_
  refine zM ak rfl ?_
  refine zM (Pq ab) rfl ?_
  refine zM aj rfl ?_
  refine zM (I (s2 : Int)) rfl ?_
  obtain ⟨bn, aX, hM⟩ := M.e_bind hM
  refine s_call cf59 [Pq ab, aj, I (s2 : Int)] rfl (za7 s_Sections s_Marks s_Reaches marks (s2 : Int) (ax.app _) ao (ay.app _) az (aA.app _) aB (Has.here (k := 1) rfl) (aC.app _) aD aX _ (H.gt 4)) ?_
  rintro vq bo ⟨r0, am, aY, hvq, aa⟩
  subst aY
  subst vq
  try dsimp only at hM
  replace H := H.bk aa
  clear aa
  refine t_bs (α := Span) T43 [.agg #[I r0, I am]] [(⟨(r0 : Int), (am : Int)⟩ : Span)] H rfl (.cons rfl (Flat.rep_enc _ (⟨(r0 : Int), (am : Int)⟩ : Span)) <| .nil) rfl rfl rfl ?_
  intro aZ bp H
  obtain ⟨a6, hM⟩ := M.e_grd hM
  simp only [Bool.and_eq_true, decide_eq_true_eq] at a6
  refine t_app (α := Span) (k := 1) (l := l) (l2 := [(⟨(r0 : Int), (am : Int)⟩ : Span)]) (l' := l ++ ([(⟨(r0 : Int), (am : Int)⟩ : Span)])) (vy := aZ) T43 rfl H rfl rfl rfl (H.os 0) (H.ol 0) (rfl) (by first | omega | (simp only [List.length_nil] at *; omega)) ?_
  intro aN bq H
  replace H := H.nf
  refine zA aN rfl ?_
  refine s_nil ?_
  refine W.region rfl ?_
  refine zR (s2 : Int) 1 ((s2 : Int) + 1) rfl rfl rfl (by omega) ?_
  refine zM (I ((s2 : Int) + 1)) rfl ?_
  refine s_nil ?_
  exact ⟨aV, aW, s2 + 1, l ++ ([(⟨(r0 : Int), (am : Int)⟩ : Span)]), aN, _, upds_of _ _ ⟨rfl, rfl, rfl, rfl, rfl, trivial⟩, M.e_inl hM aM, (H.pk [1, 2, 3, 4])⟩
 replace hM := M.e_f hM au
 simp only [qy1, qy2, qy3, qy4, qy5, qy6, ne_eq, qy7] at au
 refine W.exit ?_
 have a7 := M.e_inr hM aM
 subst a7
 replace hM := aU
 try dsimp only at hM
 replace H := H.pk [0]
 refine W.seq ?_
 refine W.region rfl ?_
 refine zM ak rfl ?_
 refine zA ak rfl ?_
 refine zA (I 0) rfl ?_
 refine s_nil ?_
 refine W.ret ?_
 have aq := M.e_pure hM
 exact ⟨_, resE_tmp2 rfl, ⟨l, 0, ak, aq, rfl, H⟩⟩

end Go.Proofs.YtlemgioaakecpaaGreat
end
section
set_option maxRecDepth 100000
set_option maxHeartbeats 16000000
namespace Go.Proofs.YtlemgioaakecpaaGreat
open Go Go.Nm
def zck (s_Sections : List Sect) (s_Marks : List Mrk) (s_Reaches : List Rch) (a : Int) (b : Int) : M (Bool × Int) :=
  M.bind (zal s_Sections s_Marks s_Reaches) fun x_ => match x_ with
  | (.inl r1) => (
  bif r1 != 0 then (
  M.pure (false, r1))
  else (
  M.fail))
  | (.inr aa) => (
  bif aa != 0 then (
  M.fail)
  else (
  M.bind (zac a 0 ((s_Marks.length : Int) - 1)) fun r2 =>
  M.bind (M.opt (!(!r2)) (zac b 0 ((s_Marks.length : Int) - 1)) false) fun r3 =>
  bif ((!r2) || (!r3)) then (
  M.pure (false, 2))
  else (
  M.bind (zaf s_Sections s_Marks s_Reaches a b) fun r4 =>
  M.bind (M.opt (!r4) (zaf s_Sections s_Marks s_Reaches b a) false) fun r5 =>
  M.pure ((r4 || r5), 0))))
theorem zcU {R : List Chunk} {aA : Cells} {aj : Value} {aB : Cells} {ab : Value} {aC : Cells} {ak : Value} (s_Sections : List Sect) (s_Marks : List Mrk) (s_Reaches : List Rch) (a : Int) (b : Int) (aq : Reads R aA) (au : Sl aA aj s_Sections) (av : Reads R aB) (am : Sl aB ab s_Marks) (aw : Reads R aC) (ax : Sl aC ak s_Reaches) {r : (Bool × Int)} (hM : (zck s_Sections s_Marks s_Reaches a b).Ends r) (w : World) (H : St w w [] R) : Ret Tryz.prog 30 #[.agg #[aj, ab, ak], I a, I b] w fun v w' => ∃ (y0 : Bool) (y1 : Int), (y0, y1) = r /\ v = .tuple #[B y0, I y1] /\ St w w' [] R := by
 refine ret_of_W Tryz.func30 rfl rfl rfl ?_
 refine W.seq ?_
 refine W.region rfl ?_
 refine t_box (v := .agg #[aj, ab, ak]) (cs := [aj, ab, ak]) H rfl rfl ?_
 intro ai aN H
 refine zA (B false) rfl ?_
 refine zA (I 0) rfl ?_
 refine s_nil ?_
 refine W.seq ?_
 refine W.region rfl ?_
 refine s_val (x_ld (p := Pq ai) (v := .agg #[aj, ab, ak]) rfl (ldb_ag (ds := [aj, ab, ak]) Ag27 Sz27 (H.bl 0) rfl rfl)) ?_
 obtain ⟨aO, aD, hM⟩ := M.e_bind hM
 refine s_call cf49 [.agg #[aj, ab, ak]] rfl (zax s_Sections s_Marks s_Reaches (aq.app _) au (av.app _) am (aw.app _) ax aD _ (H.gt 1)) ?_
 rintro vq aP (⟨r1, aE, hvq, aa⟩ | ⟨ac, ae, aQ, aF, hvq, aa⟩)
 ·subst aE
  subst vq
  try dsimp only at hM
  replace H := H.bk aa
  clear aa
  refine zM (.tuple #[.pointer none, I r1]) rfl ?_
  refine zX [.pointer none, I r1] (.pointer none) rfl rfl ?_
  refine zX [.pointer none, I r1] (I r1) rfl rfl ?_
  refine zA (.pointer none) rfl ?_
  refine zA (I r1) rfl ?_
  refine s_nil ?_
  refine W.seq ?_
  refine W.block ?_
  refine W.seq ?_
  refine W.region rfl ?_
  refine zM (I r1) rfl ?_
  refine zC r1 0 (r1 != 0) rfl rfl rfl ?_
  refine zA (B (r1 != 0)) rfl ?_
  refine s_nil ?_
  refine W.cond (r1 != 0) rfl (fun ao => ?_) (fun ao => ?_)
  ·replace hM := M.e_t hM ao
   simp only [qy1, qy2, qy3, qy4, qy5, qy6, ne_eq, qy7] at ao
   refine W.seq ?_
   refine W.region rfl ?_
   refine zM (I r1) rfl ?_
   refine zA (B false) rfl ?_
   refine zA (I r1) rfl ?_
   refine s_nil ?_
   refine W.ret ?_
   have ag := M.e_pure hM
   exact ⟨_, resE_tmp2 rfl, ⟨false, r1, ag, rfl, (H.pk [])⟩⟩
  replace hM := M.e_f hM ao
  exact (M.e_fail hM).elim
 subst aF
 subst vq
 try dsimp only at hM
 replace H := H.bk aa
 clear aa
 refine zM (.tuple #[Pq ae, I ac]) rfl ?_
 refine zX [Pq ae, I ac] (Pq ae) rfl rfl ?_
 refine zX [Pq ae, I ac] (I ac) rfl rfl ?_
 refine zA (Pq ae) rfl ?_
 refine zA (I ac) rfl ?_
 refine s_nil ?_
 refine W.seq ?_
 refine W.block ?_
 refine W.seq ?_
 refine W.region rfl ?_
 refine zM (I ac) rfl ?_
 refine zC ac 0 (ac != 0) rfl rfl rfl ?_
 refine zA (B (ac != 0)) rfl ?_
 refine s_nil ?_
 refine W.cond (ac != 0) rfl (fun ap => ?_) (fun ap => ?_)
 ·replace hM := M.e_t hM ap
  exact (M.e_fail hM).elim
 replace hM := M.e_f hM ap
 simp only [qy1, qy2, qy3, qy4, qy5, qy6, ne_eq, qy7] at ap
 refine W.seq ?_
 refine W.region rfl ?_
 refine zM (I a) rfl ?_
 refine s_val (x_fa (a := Pq ai) (v := Oq ai 1) rfl (fa_blk (o := 0) Fd27_1 Sz24)) ?_
 refine s_val (x_ld (p := Oq ai 1) (v := ab) rfl (ldb_sc Sc24 (H.bl 2) rfl)) ?_
 have aR := (am).len_le
 refine s_val (x_lenS T24.und rfl am) ?_
 refine zR (s_Marks.length : Int) 1 ((s_Marks.length : Int) - 1) rfl rfl rfl (by omega) ?_
 obtain ⟨aS, aG, hM⟩ := M.e_bind hM
 refine s_call cf70 [I a, I 0, I ((s_Marks.length : Int) - 1)] rfl (zae a 0 ((s_Marks.length : Int) - 1) aG _ (H.gt 3)) ?_
 rintro vq aT ⟨r2, aH, hvq, aa⟩
 subst aH
 subst vq
 try dsimp only at hM
 replace H := H.bk aa
 clear aa
 refine s_val (x_not (b := r2) rfl) ?_
 refine zM (B (!r2)) rfl ?_
 refine g_val (!(!r2)) (gy_f rfl) (fun hg => x_mv (v := I b) rfl) ?_
 refine g_val (!(!r2)) (gy_f rfl) (fun hg => x_fa (a := Pq ai) (v := Oq ai 1) rfl (fa_blk (o := 0) Fd27_1 Sz24)) ?_
 refine g_val (!(!r2)) (gy_f rfl) (fun hg => x_ld (p := Oq ai 1) (v := ab) (gd_of (c := !(!r2)) hg (Oq ai 1)) (ldb_sc Sc24 (H.bl 2) rfl)) ?_
 have aU := (am).len_le
 refine g_val (!(!r2)) (gy_f rfl) (fun hg => x_lenS T24.und (gd_of (c := !(!r2)) hg (ab)) am) ?_
 refine g_val (!(!r2)) (gy_f rfl) (fun hg => x_ari (a := (s_Marks.length : Int)) (b := 1) (r := (s_Marks.length : Int) - 1) (gd_of (c := !(!r2)) hg (I (s_Marks.length : Int))) rfl rfl (by first | omega | (have aI := hg; simp at aI; omega))) ?_
 obtain ⟨r3, aJ, hM⟩ := M.e_bind hM
 refine t_gcall (!(!r2)) (gy_f rfl) cf70 (B r3) (fun _ => [I b, I 0, I ((s_Marks.length : Int) - 1)]) (fun hg => lst3 (gd_of (c := !(!r2)) hg (I b)) rfl (gd_of (c := !(!r2)) hg (I ((s_Marks.length : Int) - 1)))) H (fun hg => (zae b 0 ((s_Marks.length : Int) - 1) (M.e_opt aJ hg) _ (H.give (A := []) rfl)).mono fun v_ w_ ⟨y_, ag, ay, H_⟩ => by subst ag; exact ⟨ay, H.via H_⟩) ?_
 intro aV H
 refine g_val (!(!r2)) (gy_f rfl) (fun hg => x_not (b := r3) (gd_of (c := !(!r2)) hg (B r3))) ?_
 refine s_val (x_por (b := !r2) (r := !r3) rfl rfl (fun hb => gd_of (c := !(!r2)) (by first | exact hb | (rw [hb]; rfl) | simp_all) (B (!r3)))) ?_
 refine zA (B ((!r2) || (!r3))) rfl ?_
 refine s_nil ?_
 refine W.cond ((!r2) || (!r3)) rfl (fun az => ?_) (fun az => ?_)
 ·replace hM := M.e_t hM az
  refine W.seq ?_
  refine W.region rfl ?_
  refine zA (B false) rfl ?_
  refine zA (I 2) rfl ?_
  refine s_nil ?_
  replace H := H.pk []
  refine W.ret ?_
  have ag := M.e_pure hM
  exact ⟨_, resE_tmp2 rfl, ⟨false, 2, ag, rfl, H⟩⟩
 replace hM := M.e_f hM az
 refine W.skip ?_
 refine W.seq ?_
 refine W.region rfl ?_
 refine zM (Pq ae) rfl ?_
 refine zM (I a) rfl ?_
 refine zM (I b) rfl ?_
 obtain ⟨aW, aK, hM⟩ := M.e_bind hM
 refine s_call cf51 [Pq ae, I a, I b] rfl (zau s_Sections s_Marks s_Reaches a b (aq.app _) au (av.app _) am (aw.app _) ax (Has.here (k := 0) rfl) aK _ (H.gt 3)) ?_
 rintro vq aX ⟨r4, aL, hvq, aa⟩
 subst aL
 subst vq
 try dsimp only at hM
 replace H := H.bk aa
 clear aa
 refine zM (B r4) rfl ?_
 refine g_val (!r4) (gy_f rfl) (fun hg => x_mv (v := Pq ae) rfl) ?_
 refine g_val (!r4) (gy_f rfl) (fun hg => x_mv (v := I b) rfl) ?_
 refine g_val (!r4) (gy_f rfl) (fun hg => x_mv (v := I a) rfl) ?_
 obtain ⟨r5, aM, hM⟩ := M.e_bind hM
 refine t_gcall (!r4) (gy_f rfl) cf51 (B r5) (fun _ => [Pq ae, I b, I a]) (fun hg => lst3 (gd_of (c := !r4) hg (Pq ae)) (gd_of (c := !r4) hg (I b)) (gd_of (c := !r4) hg (I a))) H (fun hg => (zau s_Sections s_Marks s_Reaches b a (aq.app _) au (av.app _) am (aw.app _) ax (Has.here (k := 0) rfl) (M.e_opt aM hg) _ (H.give (A := []) rfl)).mono fun v_ w_ ⟨y_, ag, ay, H_⟩ => by subst ag; exact ⟨ay, H.via H_⟩) ?_
 intro aY H
 refine s_val (x_por (b := r4) (r := r5) rfl rfl (fun hb => gd_of (c := !r4) (by first | exact hb | (rw [hb]; rfl) | simp_all) (B r5))) ?_
 refine zA (B (r4 || r5)) rfl ?_
 refine zA (I 0) rfl ?_
 refine s_nil ?_
 replace H := H.pk []
 refine W.ret ?_
 have ag := M.e_pure hM
 exact ⟨_, resE_tmp2 rfl, ⟨(r4 || r5), 0, ag, rfl, H⟩⟩

end Go.Proofs.YtlemgioaakecpaaGreat
end
namespace Go.Nm
namespace Fl
/-- Sections that are right. -/
structure Secs (S : List Sect) : Prop where
  n : 2 <= S.length /\ S.length <= 6
  rows : ∀ i, i < S.length -> Rows (S.getD i default).rows /\ 2 <= (S.getD i default).rows.length /\ (S.getD i default).rows.length <= 8
  place : ∀ i, i < S.length -> 0 <= (S.getD i default).place /\ (S.getD i default).place <= 10000
  up : ∀ i j, i < j -> j < S.length -> (S.getD i default).place < (S.getD j default).place
structure Rok (S : List Sect) (r : Rch) : Prop where
  u0 : 0 <= r.up
  ud : r.up < r.down
  d1 : r.down < S.length
  l1 : 1 <= r.lo
  lh : r.lo <= r.hi
  h4 : r.hi <= 400
structure Mok (m : Mrk) : Prop where
  p0 : 0 <= m.place
  p1 : m.place <= 10000
  l0 : 0 <= m.lo
  lh : m.lo <= m.hi
  h2 : m.hi <= 2000
structure Site (S : List Sect) (M : List Mrk) (R : List Rch) : Prop where
  s : Secs S
  m : 1 <= M.length /\ M.length <= 16
  r : 1 <= R.length /\ R.length <= 6
  mks : ∀ x ∈ M, Mok x
  rks : ∀ x ∈ R, Rok S x
/-- A case that lies in bounds. -/
structure Cok (c : Cas) : Prop where
  d0 : 0 <= c.down
  du : c.down <= c.up
  u2 : c.up <= 2000
  r1 : 1 <= c.roughup
  r2 : 1 <= c.roughdown
  r3 : c.roughup <= 400
  r4 : c.roughdown <= 400
section
variable {S : List Sect} {r : Rch}
theorem Rok.iu (h : Rok S r) : Int.toNat r.up < S.length := by have := h.u0; have := h.ud; have := h.d1; omega
theorem Rok.id (h : Rok S r) : Int.toNat r.down < S.length := by have := h.u0; have := h.ud; have := h.d1; omega
theorem far (hS : Secs S) (h : Rok S r) : 1 <= (S.getD (Int.toNat r.down) default).place - (S.getD (Int.toNat r.up) default).place /\ (S.getD (Int.toNat r.down) default).place - (S.getD (Int.toNat r.up) default).place <= 10000 := by
  have h1 := hS.up (Int.toNat r.up) (Int.toNat r.down) (by have := h.u0; have := h.ud; omega) h.id
  have h2 := hS.place _ h.id
  have h3 := hS.place _ h.iu
  omega
end
def stLo (M : List Mrk) (ms : List Int) (p : Int) : Int := ms.foldl (fun a k => if p <= (M.getD (Int.toNat k) default).place then max a (M.getD (Int.toNat k) default).lo else a) 0
def stHi (M : List Mrk) (ms : List Int) (p : Int) : Int := ms.foldl (fun a k => if (M.getD (Int.toNat k) default).place <= p then min a (M.getD (Int.toNat k) default).hi else a) 2000
end Fl
end Go.Nm
namespace Go.Proofs.YtlemgioaakecpaaGreat
open Go Go.Nm
theorem least_ends (a b : Int) : (zaB a [b]).Ends (min a b) := by
  unfold zaB
  refine M.i_bind (M.i_next (s' := (min a b, 1)) ?_ (M.i_stop ?_)) M.i_pure
  · simp only [za5]
    exact M.i_t (by simp) (M.i_grd (by simp) M.i_pure)
  · simp only [za5]
    exact M.i_f (by simp) M.i_pure
theorem stages_ends {S : List Sect} {M' : List Mrk} {R' : List Rch} {ms : List Int} {i : Int} (hm : ∀ k ∈ ms, 0 <= k /\ k < M'.length) (h0 : 0 <= i) (h1 : i < S.length) :
    (zao S M' R' ms i).Ends (Fl.stLo M' ms (S.getD (Int.toNat i) default).place, Fl.stHi M' ms (S.getD (Int.toNat i) default).place) := by
  unfold zao
  refine M.i_bind (a := (Fl.stLo M' ms (S.getD (Int.toNat i) default).place, Fl.stHi M' ms (S.getD (Int.toNat i) default).place)) ?_ M.i_pure
  refine M.i_for (fun j => (Fl.stLo M' (ms.take j) (S.getD (Int.toNat i) default).place, Fl.stHi M' (ms.take j) (S.getD (Int.toNat i) default).place, j)) ms.length (fun j hj => ?_) ?_
  · have hk := hm (ms.getD j 0) (by rw [getD_el ms hj]; exact List.getElem_mem hj)
    simp only [zaZ]
    refine M.i_t (decide_eq_true (by omega)) (M.i_grd (decide_eq_true (by omega)) (M.i_grd (gA2 hk.1 hk.2) (M.i_grd (gA2 h0 h1) ?_)))
    have el : Fl.stLo M' (ms.take (j + 1)) (S.getD (Int.toNat i) default).place = if (S.getD (Int.toNat i) default).place <= (M'.getD (Int.toNat (ms.getD j 0)) default).place then max (Fl.stLo M' (ms.take j) (S.getD (Int.toNat i) default).place) (M'.getD (Int.toNat (ms.getD j 0)) default).lo else Fl.stLo M' (ms.take j) (S.getD (Int.toNat i) default).place := by
      rw [← take_succ_D ms j hj 0]
      unfold Fl.stLo
      rw [List.foldl_append]
      rfl
    have eh : Fl.stHi M' (ms.take (j + 1)) (S.getD (Int.toNat i) default).place = if (M'.getD (Int.toNat (ms.getD j 0)) default).place <= (S.getD (Int.toNat i) default).place then min (Fl.stHi M' (ms.take j) (S.getD (Int.toNat i) default).place) (M'.getD (Int.toNat (ms.getD j 0)) default).hi else Fl.stHi M' (ms.take j) (S.getD (Int.toNat i) default).place := by
      rw [← take_succ_D ms j hj 0]
      unfold Fl.stHi
      rw [List.foldl_append]
      rfl
    rw [el, eh]
    refine M.i_if (fun hc => ?_) (fun hc => ?_)
    · have hc := of_decide_eq_true hc
      rw [if_pos hc]
      refine M.i_bind (least_ends _ _) (M.i_if (fun hd => ?_) (fun hd => ?_))
      · rw [if_pos (of_decide_eq_true hd)]; exact M.i_pure
      · rw [if_neg (of_decide_eq_false hd)]; exact M.i_pure
    · have hc := of_decide_eq_false hc
      rw [if_neg hc]
      refine M.i_if (fun hd => ?_) (fun hd => ?_)
      · rw [if_pos (of_decide_eq_true hd)]; exact M.i_pure
      · rw [if_neg (of_decide_eq_false hd)]; exact M.i_pure
  · simp only [zaZ]
    rw [List.take_length]
    exact M.i_f (decide_eq_false (by omega)) M.i_pure
end Go.Proofs.YtlemgioaakecpaaGreat
namespace Go.Nm
namespace Fl
section
variable {M : List Mrk} {p : Int}
theorem lo_fold : ∀ (ms : List Int) (a : Int), a <= ms.foldl (fun a k => if p <= (M.getD (Int.toNat k) default).place then max a (M.getD (Int.toNat k) default).lo else a) a ∧
    (∀ k ∈ ms, p <= (M.getD (Int.toNat k) default).place -> (M.getD (Int.toNat k) default).lo <= ms.foldl (fun a k => if p <= (M.getD (Int.toNat k) default).place then max a (M.getD (Int.toNat k) default).lo else a) a) ∧
    (ms.foldl (fun a k => if p <= (M.getD (Int.toNat k) default).place then max a (M.getD (Int.toNat k) default).lo else a) a = a ∨ ∃ k ∈ ms, p <= (M.getD (Int.toNat k) default).place /\ ms.foldl (fun a k => if p <= (M.getD (Int.toNat k) default).place then max a (M.getD (Int.toNat k) default).lo else a) a = (M.getD (Int.toNat k) default).lo)
  | [], a => ⟨Int.le_refl _, fun k hk => (List.not_mem_nil hk).elim, .inl rfl⟩
  | k :: ms, a => by
    rw [List.foldl_cons]
    obtain ⟨h1, h2, h3⟩ := lo_fold ms (if p <= (M.getD (Int.toNat k) default).place then max a (M.getD (Int.toNat k) default).lo else a)
    by_cases hp : p <= (M.getD (Int.toNat k) default).place
    · rw [if_pos hp] at h1 h2 h3 ⊢
      refine ⟨by omega, fun j hj hpj => ?_, ?_⟩
      · rcases List.mem_cons.1 hj with rfl | hj
        · omega
        · exact h2 j hj hpj
      · rcases h3 with h3 | ⟨j, hj, hpj, e⟩
        · rcases Int.le_total (M.getD (Int.toNat k) default).lo a with e | e
          · left; omega
          · right; exact ⟨k, by simp, hp, by omega⟩
        · right; exact ⟨j, by simp [hj], hpj, e⟩
    · rw [if_neg hp] at h1 h2 h3 ⊢
      refine ⟨h1, fun j hj hpj => ?_, ?_⟩
      · rcases List.mem_cons.1 hj with rfl | hj
        · exact absurd hpj hp
        · exact h2 j hj hpj
      · rcases h3 with h3 | ⟨j, hj, hpj, e⟩
        · exact .inl h3
        · right; exact ⟨j, by simp [hj], hpj, e⟩
theorem hi_fold : ∀ (ms : List Int) (a : Int), ms.foldl (fun a k => if (M.getD (Int.toNat k) default).place <= p then min a (M.getD (Int.toNat k) default).hi else a) a <= a ∧
    (∀ k ∈ ms, (M.getD (Int.toNat k) default).place <= p -> ms.foldl (fun a k => if (M.getD (Int.toNat k) default).place <= p then min a (M.getD (Int.toNat k) default).hi else a) a <= (M.getD (Int.toNat k) default).hi) ∧
    (ms.foldl (fun a k => if (M.getD (Int.toNat k) default).place <= p then min a (M.getD (Int.toNat k) default).hi else a) a = a ∨ ∃ k ∈ ms, (M.getD (Int.toNat k) default).place <= p /\ ms.foldl (fun a k => if (M.getD (Int.toNat k) default).place <= p then min a (M.getD (Int.toNat k) default).hi else a) a = (M.getD (Int.toNat k) default).hi)
  | [], a => ⟨Int.le_refl _, fun k hk => (List.not_mem_nil hk).elim, .inl rfl⟩
  | k :: ms, a => by
    rw [List.foldl_cons]
    obtain ⟨h1, h2, h3⟩ := hi_fold ms (if (M.getD (Int.toNat k) default).place <= p then min a (M.getD (Int.toNat k) default).hi else a)
    by_cases hp : (M.getD (Int.toNat k) default).place <= p
    · rw [if_pos hp] at h1 h2 h3 ⊢
      refine ⟨by omega, fun j hj hpj => ?_, ?_⟩
      · rcases List.mem_cons.1 hj with rfl | hj
        · omega
        · exact h2 j hj hpj
      · rcases h3 with h3 | ⟨j, hj, hpj, e⟩
        · rcases Int.le_total a (M.getD (Int.toNat k) default).hi with e | e
          · left; omega
          · right; exact ⟨k, by simp, hp, by omega⟩
        · right; exact ⟨j, by simp [hj], hpj, e⟩
    · rw [if_neg hp] at h1 h2 h3 ⊢
      refine ⟨h1, fun j hj hpj => ?_, ?_⟩
      · rcases List.mem_cons.1 hj with rfl | hj
        · exact absurd hpj hp
        · exact h2 j hj hpj
      · rcases h3 with h3 | ⟨j, hj, hpj, e⟩
        · exact .inl h3
        · right; exact ⟨j, by simp [hj], hpj, e⟩
theorem stLo_ex (ms : List Int) : stLo M ms p = 0 ∨ ∃ k ∈ ms, p <= (M.getD (Int.toNat k) default).place /\ stLo M ms p = (M.getD (Int.toNat k) default).lo := (lo_fold ms 0).2.2
theorem stHi_ex (ms : List Int) : stHi M ms p = 2000 ∨ ∃ k ∈ ms, (M.getD (Int.toNat k) default).place <= p /\ stHi M ms p = (M.getD (Int.toNat k) default).hi := (hi_fold ms 2000).2.2
end
/-- Marks that are true together. -/
def Tog (M : List Mrk) (ms : List Int) : Prop := ∀ a ∈ ms, ∀ b ∈ ms, ¬((M.getD (Int.toNat a) default).place <= (M.getD (Int.toNat b) default).place /\ (M.getD (Int.toNat a) default).hi < (M.getD (Int.toNat b) default).lo)
def Ixs (M : List Mrk) (ms : List Int) : Prop := ∀ k ∈ ms, 0 <= k /\ k < M.length
theorem Ixs.mok {M : List Mrk} {ms : List Int} (hk : ∀ x ∈ M, Mok x) (h : Ixs M ms) {k : Int} (hm : k ∈ ms) : Mok (M.getD (Int.toNat k) default) := by
  have := h k hm
  have hl : Int.toNat k < M.length := by omega
  rw [getD_el M hl]
  exact hk _ (List.getElem_mem hl)
/-- What lies further up is bounded by no less from above. -/
theorem st_le {M : List Mrk} {ms : List Int} (hk : ∀ x ∈ M, Mok x) (h : Ixs M ms) (ht : Tog M ms) {p q : Int} (hpq : q <= p) : stLo M ms p <= stHi M ms q := by
  rcases stLo_ex (M := M) (p := p) ms with e | ⟨a, ha, hpa, e⟩ <;> rcases stHi_ex (M := M) (p := q) ms with e' | ⟨b, hb, hpb, e'⟩
  · omega
  · have k1 := (h.mok hk hb).lh
    have k2 := (h.mok hk hb).l0
    omega
  · have := (h.mok hk ha).lh
    have := (h.mok hk ha).h2
    omega
  · have := ht b hb a ha
    rw [e, e']
    rcases Int.lt_or_le (M.getD (Int.toNat b) default).hi (M.getD (Int.toNat a) default).lo with k | k
    · exact absurd ⟨by omega, k⟩ this
    · exact k
section
variable (S : List Sect) (M : List Mrk) (ms : List Int) (r : Rch)
def pu : Int := (S.getD (Int.toNat r.up) default).place
def pd : Int := (S.getD (Int.toNat r.down) default).place
/-- The lower stages that there can be. -/
def Dn (x : Int) : Prop := stLo M ms (pd S r) <= x /\ x <= min (stHi M ms (pd S r)) (stHi M ms (pu S r))
def lc (x : Int) : Cas := ⟨max (stLo M ms (pu S r)) x, x, r.hi, r.hi⟩
def hc (x : Int) : Cas := ⟨stHi M ms (pu S r), x, r.lo, r.lo⟩
end
section
variable {S : List Sect} {M : List Mrk} {ms : List Int} {r : Rch}
theorem pu_pd (hS : Secs S) (hr : Rok S r) : pu S r < pd S r := by
  have := far hS hr
  unfold pu pd
  omega
theorem Dn.ne (hS : Secs S) (hr : Rok S r) (hk : ∀ x ∈ M, Mok x) (h : Ixs M ms) (ht : Tog M ms) : Dn S M ms r (stLo M ms (pd S r)) := by
  have h1 := st_le hk h ht (Int.le_refl (pd S r))
  have h2 := st_le hk h ht (Int.le_of_lt (pu_pd hS hr))
  exact ⟨Int.le_refl _, by omega⟩
end
end Fl
end Go.Nm
namespace Go.Proofs.YtlemgioaakecpaaGreat
open Go Go.Nm
section
variable {S : List Sect} {M' : List Mrk} {R' : List Rch} {ms : List Int} {r : Rch}
end
end Go.Proofs.YtlemgioaakecpaaGreat
namespace Go.Nm
namespace Fl
theorem Rows.cle {l : List FRow} (h : Rows l) {i j : Nat} (hij : i <= j) (hj : j < l.length) : (l.getD i default).carry <= (l.getD j default).carry := by
  induction j with
  | zero => rw [show i = 0 by omega]; exact Int.le_refl _
  | succ j ih =>
    rcases Nat.lt_or_eq_of_le hij with e | rfl
    · have := ih (by omega) (by omega)
      have := h.cm j hj
      omega
    · exact Int.le_refl _
/-- Marks, one behind the other. -/
def Inc (M : List Mrk) (ms : List Int) : Prop := ms.Pairwise (· < ·) /\ Ixs M ms
end Fl
end Go.Nm
namespace Go.Proofs.YtlemgioaakecpaaGreat
open Go Go.Nm
theorem in_true {n a b : Int} (h1 : a <= n) (h2 : n <= b) : (zac n a b).Ends true := by
  have : (zac n a b).Ends (decide (a <= n) && decide (n <= b)) := M.i_pure
  rwa [gA2 h1 h2] at this
theorem every_sect (l : List Sect) (so : Sect -> M Bool) (h : ∀ t ∈ l, (so t).Ends true) : (zbG l so).Ends true := by
  unfold zbG zb8 zcd
  refine M.i_bind (a := false) (M.i_bind (a := -1) (M.i_bind (a := (.inr () : Int ⊕ Unit)) ?_ M.i_pure) M.i_pure) M.i_pure
  refine M.i_for (fun i => i) l.length (fun i hi => ?_) ?_
  · simp only [zaO]
    have hm : l.getD i default ∈ l := by rw [getD_el l hi]; exact List.getElem_mem hi
    refine M.i_t (decide_eq_true (by omega)) (M.i_grd (decide_eq_true (by omega)) (M.i_bind (a := false) ?_ (M.i_f rfl M.i_pure)))
    unfold zbg
    exact M.i_bind (h _ hm) M.i_pure
  · simp only [zaO]
    exact M.i_f (decide_eq_false (by omega)) M.i_pure
theorem every_mark (l : List Mrk) (so : Mrk -> M Bool) (h : ∀ t ∈ l, (so t).Ends true) : (zbp l so).Ends true := by
  unfold zbp zbP zb0
  refine M.i_bind (a := false) (M.i_bind (a := -1) (M.i_bind (a := (.inr () : Int ⊕ Unit)) ?_ M.i_pure) M.i_pure) M.i_pure
  refine M.i_for (fun i => i) l.length (fun i hi => ?_) ?_
  · simp only [za0]
    have hm : l.getD i default ∈ l := by rw [getD_el l hi]; exact List.getElem_mem hi
    refine M.i_t (decide_eq_true (by omega)) (M.i_grd (decide_eq_true (by omega)) (M.i_bind (a := false) ?_ (M.i_f rfl M.i_pure)))
    unfold zbm
    exact M.i_bind (h _ hm) M.i_pure
  · simp only [za0]
    exact M.i_f (decide_eq_false (by omega)) M.i_pure
theorem every_reach (l : List Rch) (so : Rch -> M Bool) (h : ∀ t ∈ l, (so t).Ends true) : (zbo l so).Ends true := by
  unfold zbo zbO zb7
  refine M.i_bind (a := false) (M.i_bind (a := -1) (M.i_bind (a := (.inr () : Int ⊕ Unit)) ?_ M.i_pure) M.i_pure) M.i_pure
  refine M.i_for (fun i => i) l.length (fun i hi => ?_) ?_
  · simp only [zaU]
    have hm : l.getD i default ∈ l := by rw [getD_el l hi]; exact List.getElem_mem hi
    refine M.i_t (decide_eq_true (by omega)) (M.i_grd (decide_eq_true (by omega)) (M.i_bind (a := false) ?_ (M.i_f rfl M.i_pure)))
    unfold zbx
    exact M.i_bind (h _ hm) M.i_pure
  · simp only [zaU]
    exact M.i_f (decide_eq_false (by omega)) M.i_pure
theorem every_int (l : List Int) (so : Int -> M Bool) (h : ∀ t ∈ l, (so t).Ends true) : (zak l so).Ends true := by
  unfold zak zbk zbE
  refine M.i_bind (a := false) (M.i_bind (a := -1) (M.i_bind (a := (.inr () : Int ⊕ Unit)) ?_ M.i_pure) M.i_pure) M.i_pure
  refine M.i_for (fun i => i) l.length (fun i hi => ?_) ?_
  · simp only [zav]
    have hm : l.getD i 0 ∈ l := by rw [getD_el l hi]; exact List.getElem_mem hi
    refine M.i_t (decide_eq_true (by omega)) (M.i_grd (decide_eq_true (by omega)) (M.i_bind (a := false) ?_ (M.i_f rfl M.i_pure)))
    unfold zaV
    exact M.i_bind (h _ hm) M.i_pure
  · simp only [zav]
    exact M.i_f (decide_eq_false (by omega)) M.i_pure
theorem sright_ends {x : Sect} (hr : Fl.Rows x.rows) (h0 : 0 <= x.place) (h1 : x.place <= 10000) : (zbK x).Ends true := by
  refine M.Out.ends ?_
  unfold zbK
  refine M.o_bind (P := fun z => match z with | .inl _ => False | .inr (_ : Int × Int) => True) ?_ ?_
  · refine M.o_for x.rows.length (fun i (s : Int × Int × Nat) => s.2.2 = i /\ -1 <= s.1 /\ s.1 <= 2000 /\ (∀ j, i <= j -> j < x.rows.length -> s.1 < (x.rows.getD j default).stage) /\ ∀ j, i <= j -> j < x.rows.length -> s.2.1 <= (x.rows.getD j default).carry) ?_ ?_ (s := (-1, 0, 0)) ⟨rfl, by decide, by decide, fun j _ hj => by have := hr.el j hj; dsimp only; omega, fun j _ hj => by have := hr.el j hj; dsimp only; omega⟩
    · rintro i ⟨a, b, _⟩ hi ⟨rfl, h2, h3, h4, h5⟩
      dsimp only at hi h2 h3 h4 h5 ⊢
      have e := hr.el _ hi
      have k1 := h4 _ (Nat.le_refl _) hi
      have k2 := h5 _ (Nat.le_refl _) hi
      simp only [zbb]
      refine M.o_t (decide_eq_true (by omega)) (M.o_grd (decide_eq_true (by omega)) (M.o_grd (gA2 (by omega) (by omega)) (M.o_bindE (in_true (by omega) (by omega)) (M.o_bindE (M.i_opt (fun _ => in_true (by omega) (by omega)) (fun h => by cases h)) (M.o_f rfl (M.o_pure ⟨rfl, by dsimp only; omega, by dsimp only; omega, fun j hj hj' => hr.lt hj hj', fun j hj hj' => hr.cle (by omega) hj'⟩))))))
    · rintro ⟨a, b, _⟩ ⟨rfl, _⟩
      simp only [zbb]
      exact M.o_f (decide_eq_false (by omega)) (M.o_pure trivial)
  · intro z hz
    cases z with
    | inl _ => exact hz.elim
    | inr _ => exact M.o_bindE (in_true h0 h1) (M.o_pure rfl)
theorem mright_ends {m : Mrk} (h : Fl.Mok m) : (za4 m).Ends true := by
  obtain ⟨h1, h2, h3, h4, h5⟩ := h
  unfold za4 za1
  exact M.i_bind (in_true h1 h2) (M.i_bind (M.i_opt (fun _ => M.i_bind (in_true h3 (by dsimp only; omega)) (M.i_bind (M.i_opt (fun _ => in_true h4 h5) (fun h => by cases h)) M.i_pure)) (fun h => by cases h)) M.i_pure)
theorem rright_ends {S : List Sect} {r : Rch} (hn : S.length <= 6) (h : Fl.Rok S r) : (zbC r (S.length : Int)).Ends true := by
  obtain ⟨h1, h2, h3, h4, h5, h6⟩ := h
  unfold zbC za1
  refine M.i_grd (gA2 (by omega) (by omega)) (M.i_bind (in_true h1 (by omega)) (M.i_grd (gOr2 (by omega) (by omega)) (M.i_bind (M.i_opt (fun _ => in_true (by omega) (by omega)) (fun h => by cases h)) (M.i_bind (M.i_opt (fun _ => M.i_bind (in_true h4 (by dsimp only; omega)) (M.i_bind (M.i_opt (fun _ => in_true h5 h6) (fun h => by cases h)) M.i_pure)) (fun h => by cases h)) M.i_pure))))
section
variable {S : List Sect} {M' : List Mrk} {R' : List Rch} {ms : List Int} {r : Rch}
theorem check_ends (h : Fl.Site S M' R') : (zbh S M' R').Ends 0 := by
  obtain ⟨hS, hm, hr, hmk, hrk⟩ := h
  obtain ⟨hn, hrows, hpl, hup⟩ := hS
  unfold zbh
  refine M.i_bind (in_true (by omega) (by omega)) (M.i_bind (M.i_opt (fun _ => in_true (by omega) (by omega)) (fun h => by cases h)) (M.i_bind (M.i_opt (fun _ => in_true (by omega) (by omega)) (fun h => by cases h)) (M.i_bind (M.i_opt (fun _ => every_sect _ _ fun x hx => ?_) (fun h => by cases h)) (M.i_f rfl ?_))))
  · obtain ⟨i, hi, rfl⟩ := mem_getD hx default
    unfold zbu
    have := hrows i hi
    exact M.i_bind (in_true (by omega) (by omega)) M.i_pure
  · refine M.Out.ends (M.o_bind (P := fun z => match z with | .inl _ => False | .inr (_ : Unit) => True) ?_ ?_)
    · refine M.o_for S.length (fun i (s : Int × Nat) => s.2 = i /\ ∀ j, i <= j -> j < S.length -> s.1 < (S.getD j default).place) ?_ ?_ (s := (-1, 0)) ⟨rfl, fun j _ hj => by have := hpl j hj; dsimp only; omega⟩
      · rintro i ⟨a, _⟩ hi ⟨rfl, h2⟩
        dsimp only at hi h2 ⊢
        have e := hpl _ hi
        have k1 := h2 _ (Nat.le_refl _) hi
        simp only [za3]
        exact M.o_t (decide_eq_true (by omega)) (M.o_grd (decide_eq_true (by omega)) (M.o_bindE (sright_ends (hrows _ hi).1 e.1 e.2) (M.o_f (decide_eq_false (p := (S.getD _ default).place <= a) (by omega)) (M.o_pure ⟨rfl, fun j hj hj' => hup _ _ hj hj'⟩))))
      · rintro ⟨a, _⟩ ⟨rfl, _⟩
        simp only [za3]
        exact M.o_f (decide_eq_false (by omega)) (M.o_pure trivial)
    · intro z hz
      cases z with
      | inl _ => exact hz.elim
      | inr _ =>
        refine M.o_bindE (every_mark _ _ fun x hx => mright_ends (hmk x hx)) (M.o_bindE (M.i_opt (fun _ => every_reach _ _ fun x hx => ?_) (fun h => by cases h)) (M.o_f rfl (M.o_pure rfl)))
        unfold zbe
        exact M.i_bind (rright_ends hn.2 (hrk x hx)) M.i_pure
theorem opened_ends (h : Fl.Site S M' R') : (zal S M' R').Ends (.inr 0) := by
  unfold zal
  exact M.i_bind (check_ends h) (M.i_f rfl M.i_pure)
theorem chosen_ends (h : Fl.Site S M' R') (hc : Fl.Inc M' ms) : (zaP S M' R' ms).Ends (.inr 0) := by
  unfold zaP
  refine M.i_bind (opened_ends h) (M.i_bind (a := 0) (M.Out.ends ?_) M.i_pure)
  have hm := h.m
  refine M.o_for ms.length (fun i (s : Int × Int × Nat) => s.1 = 0 /\ s.2.2 = i /\ -1 <= s.2.1 /\ s.2.1 <= 16 /\ ∀ j, i <= j -> j < ms.length -> s.2.1 < ms.getD j 0) ?_ ?_ (s := (0, -1, 0)) ⟨rfl, rfl, by decide, by decide, fun j _ hj => by have := hc.2 (ms.getD j 0) (by rw [getD_el ms hj]; exact List.getElem_mem hj); dsimp only; omega⟩
  · rintro i ⟨_, a, _⟩ hi ⟨rfl, rfl, h2, h3, h4⟩
    dsimp only at hi h2 h3 h4 ⊢
    have e := hc.2 (ms.getD _ 0) (by rw [getD_el ms hi]; exact List.getElem_mem hi)
    have k1 := h4 _ (Nat.le_refl _) hi
    simp only [zaN]
    refine M.o_t (decide_eq_true (by omega)) (M.o_grd (decide_eq_true (by omega)) (M.o_grd (gOr2 (by omega) (by omega)) (M.o_bindE (M.i_opt (fun _ => in_true (by omega) (by omega)) (fun h => by cases h)) (M.o_f rfl (M.o_pure ⟨rfl, rfl, by dsimp only; omega, by dsimp only; omega, fun j hj hj' => ?_⟩)))))
    rw [getD_el ms hi, getD_el ms hj']
    exact List.pairwise_iff_getElem.1 hc.1 _ _ hi hj' hj
  · rintro ⟨_, a, _⟩ ⟨rfl, rfl, _⟩
    simp only [zaN]
    exact M.o_f (decide_eq_false (by omega)) (M.o_pure rfl)
theorem ahead_ends {a b : Int} (ha : 0 <= a /\ a < M'.length) (hb : 0 <= b /\ b < M'.length) :
    (zaf S M' R' a b).Ends (decide ((M'.getD (Int.toNat a) default).place <= (M'.getD (Int.toNat b) default).place) && decide ((M'.getD (Int.toNat a) default).hi < (M'.getD (Int.toNat b) default).lo)) := by
  unfold zaf
  exact M.i_grd (gA2 ha.1 ha.2) (M.i_grd (gA2 hb.1 hb.2) M.i_pure)
theorem ahead_false {a b : Int} (hx : Fl.Ixs M' ms) (ht : Fl.Tog M' ms) (ha : a ∈ ms) (hb : b ∈ ms) : (zaf S M' R' a b).Ends false := by
  have := ahead_ends (S := S) (R' := R') (hx a ha) (hx b hb)
  rwa [show (decide ((M'.getD (Int.toNat a) default).place <= (M'.getD (Int.toNat b) default).place) && decide ((M'.getD (Int.toNat a) default).hi < (M'.getD (Int.toNat b) default).lo)) = false by
    rw [Bool.and_eq_false_iff, decide_eq_false_iff_not, decide_eq_false_iff_not]
    have := ht a ha b hb
    omega] at this
theorem together_ends (hx : Fl.Ixs M' ms) (ht : Fl.Tog M' ms) : (zat S M' R' ms).Ends true := by
  unfold zat
  refine M.i_bind (every_int _ _ fun a ha => ?_) M.i_pure
  unfold zaq
  refine M.i_bind (every_int _ _ fun b hb => ?_) M.i_pure
  unfold zaw
  exact M.i_bind (ahead_false hx ht ha hb) M.i_pure
end
end Go.Proofs.YtlemgioaakecpaaGreat
namespace Go.Nm
namespace Fl
def surf (S : List Sect) (M : List Mrk) (ms : List Int) : List Span := (List.range S.length).map fun i => ⟨stLo M ms (S.getD i default).place, stHi M ms (S.getD i default).place⟩
end Fl
end Go.Nm
namespace Go.Proofs.YtlemgioaakecpaaGreat
open Go Go.Nm
section
variable {S : List Sect} {M' : List Mrk} {R' : List Rch} {ms : List Int} {r : Rch}
theorem Surface_ends (h : Fl.Site S M' R') (hc : Fl.Inc M' ms) (ht : Fl.Tog M' ms) : (zan S M' R' ms).Ends (Fl.surf S M' ms, 0) := by
  have hn := h.s.n
  unfold zan
  refine M.i_bind (chosen_ends h hc) (M.i_f rfl (M.i_bind (together_ends hc.2 ht) (M.i_f rfl (M.i_bind (a := (Fl.surf S M' ms, Fl.surf S M' ms)) ?_ M.i_pure))))
  refine M.i_for (fun i => (i, (List.range i).map fun i => (⟨Fl.stLo M' ms (S.getD i default).place, Fl.stHi M' ms (S.getD i default).place⟩ : Span))) S.length (fun i hi => ?_) ?_
  · simp only [zbc]
    refine M.i_t (decide_eq_true (by omega)) (M.i_bind (stages_ends hc.2 (by omega) (by omega)) (M.i_grd (decide_eq_true ?_) ?_))
    · simp; omega
    · rw [List.range_succ, List.map_append, Int.toNat_natCast]
      exact M.i_pure
  · simp only [zbc]
    exact M.i_f (decide_eq_false (by omega)) M.i_pure
end
end Go.Proofs.YtlemgioaakecpaaGreat
namespace Go.Nm
namespace Fl
theorem Rows.snoc : ∀ {l : List FRow} {a : FRow}, Rows l -> (∀ e ∈ l, e.stage < a.stage /\ e.carry <= a.carry) -> 0 <= a.stage -> a.stage <= 2000 -> 0 <= a.carry -> a.carry <= 100000 -> Rows (l ++ [a])
  | [], _, _, _, h1, h2, h3, h4 => ⟨h1, h2, h3, h4⟩
  | [b], a, h, he, h1, h2, h3, h4 => by
    have := he b (by simp)
    exact ⟨h.1, this.1, h.2.2.1, this.2, h1, h2, h3, h4⟩
  | b :: c :: r, a, h, he, h1, h2, h3, h4 => by
    obtain ⟨k1, k2, k3, k4, k5⟩ := h
    exact ⟨k1, k2, k3, k4, k5.snoc (fun e hh => he e (by simp [List.mem_cons.1 hh])) h1 h2 h3 h4⟩
/-- A site with what really was: stages that fall downstream, marks about them, and roughness that is allowed. -/
structure Truth (S : List Sect) (M : List Mrk) (R : List Rch) (t ro : List Int) : Prop where
  site : Site S M R
  m8 : M.length <= 8
  tl : t.length = S.length
  rl : ro.length = S.length
  tr : ∀ i, i < S.length -> 0 <= t.getD i 0 /\ t.getD i 0 <= 2000
  td : ∀ i j, i <= j -> j < S.length -> t.getD j 0 <= t.getD i 0
  gap : ∀ i j, i < j -> j < S.length -> (S.getD i default).place + 21 <= (S.getD j default).place
  mt : ∀ m ∈ M, ∃ j, j < S.length /\ (S.getD j default).place <= m.place /\ m.place <= (S.getD j default).place + 19 /\ m.lo <= t.getD j 0 /\ t.getD j 0 <= m.hi
  ro0 : ∀ i, i < S.length -> 1 <= ro.getD i 0 /\ ro.getD i 0 <= 400
  rt : ∀ r ∈ R, r.lo <= ro.getD (Int.toNat r.up) 0 /\ r.lo <= ro.getD (Int.toNat r.down) 0 /\ ro.getD (Int.toNat r.up) 0 <= r.hi /\ ro.getD (Int.toNat r.down) 0 <= r.hi
section
variable {S : List Sect} {M : List Mrk} {R : List Rch} {t ro : List Int} {ms : List Int}
theorem Truth.no (h : Truth S M R t ro) {a b : Mrk} (ha : a ∈ M) (hb : b ∈ M) : ¬(a.place <= b.place /\ a.hi < b.lo) := by
  rintro ⟨h1, h2⟩
  obtain ⟨i, i1, i2, i3, i4, i5⟩ := h.mt a ha
  obtain ⟨j, j1, j2, j3, j4, j5⟩ := h.mt b hb
  by_cases e : i <= j
  · have := h.td i j e j1
    omega
  · have := h.gap j i (by omega) i1
    omega
theorem Truth.tog (h : Truth S M R t ro) (hx : Ixs M ms) : Tog M ms := fun a ha b hb => by
  have h1 := hx a ha
  have h2 := hx b hb
  have l1 : Int.toNat a < M.length := by omega
  have l2 : Int.toNat b < M.length := by omega
  rw [getD_el M l1, getD_el M l2]
  exact h.no (List.getElem_mem l1) (List.getElem_mem l2)
end
end Fl
end Go.Nm
