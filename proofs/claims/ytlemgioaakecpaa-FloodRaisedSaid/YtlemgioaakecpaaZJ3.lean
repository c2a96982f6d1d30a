/- Part 3 of the texts on which the proof rests. Conditions: none. -/
import Derived.Test.YtlemgioaakecpaaZJ2
set_option linter.unusedVariables false
set_option linter.unusedSimpArgs false
set_option linter.unusedSectionVars false
section
set_option maxRecDepth 100000
set_option maxHeartbeats 16000000
namespace Go.Proofs.Ytlemgioaakecpaa
open Go Go.Nm
def zau (aa : List Sect) (ab : List Mrk) (ac : List Rch) (r_ : Rch) (r0 : Int) (r2 : Bool) : (Int × Int × Int × Int × Int) -> Int -> M ((Int × Int × Int × Int × Int) ⊕ Unit) := fun (s, s2, s3, s4, s5) x =>
  bif r2 then (
  M.fail)
  else (
  M.bind (zaz aa ab ac r_ (⟨(max r0 x : Int), (x : Int), (r_.hi : Int), (r_.hi : Int)⟩ : Cas)) fun r4 =>
  M.bind (M.opt (!(decide ((⟨(s2 : Int), (s3 : Int), (s4 : Int), (s5 : Int)⟩ : Cas) = (⟨(0 : Int), (0 : Int), (0 : Int), (0 : Int)⟩ : Cas)))) (zaJ r4 s) false) fun r5 =>
  bif ((decide ((⟨(s2 : Int), (s3 : Int), (s4 : Int), (s5 : Int)⟩ : Cas) = (⟨(0 : Int), (0 : Int), (0 : Int), (0 : Int)⟩ : Cas))) || r5) then (
  M.pure (.inl (r4, max r0 x, x, r_.hi, r_.hi)))
  else (
  M.pure (.inl (s, s2, s3, s4, s5))))
def zaW (aa : List Sect) (ab : List Mrk) (ac : List Rch) (marks : List Int) (r_ : Rch) : M (Int × Int × Int × Int × Int) :=
  M.bind (zaq aa ab ac marks r_.up) fun (r0, r1) =>
  M.bind (zaq aa ab ac marks r_.down) fun (ae, ag) =>
  M.bind (zaJ 1 0) fun r2 =>
  bif !r2 then (
  M.bind (zaA ag ([(r1 : Int)])) fun r3 =>
  M.bind (za7 (⟨(ae : Int), (r3 : Int)⟩ : Span)) fun (ai, aj) =>
  M.bind (zak (M.yl (zau aa ab ac r_ r0 r2)) (.inl (0, 0, 0, 0, 0)) ai aj) fun x_ => match x_ with
  | .inl (s, s2, s3, s4, s5) => (
  M.pure (s2, s3, s4, s5, s))
  | .inr _ => M.fail)
  else (
  M.fail)
theorem zce {R : List Chunk} {ag : Nat} {aZ : Cells} {a6 : Value} {a7 : Cells} {a8 : Value} {ba : Cells} {bb : Value} {ai : Nat} {bc : Cells} {aB : Value} (ab : List Sect) (ac : List Mrk) (ae : List Rch) (marks : List Int) (r_ : Rch) (aF : Reads R aZ) (aL : Sl aZ a6 ab) (aG : Reads R a7) (aM : Sl a7 a8 ac) (aH : Reads R ba) (aN : Sl ba bb ae) (aI : Has R (cBlk ag [a6, a8, bb, .map (some ai)] 99)) (aO : Reads R bc) (aS : Sl bc aB marks) {r : (Int × Int × Int × Int × Int)} (hM : (zaW ab ac ae marks r_).Ends r) (w : World) (H : St w w [cMemI encSpt ai (zaa ab ac ae)] R) : Ret Try.prog 50 #[Pq ag, aB, .agg #[I r_.up, I r_.down, I r_.lo, I r_.hi, B r_.narrow], .agg #[.func (.func 82) #[] #[]]] w fun v w' => ∃ (y0 : Int) (y1 : Int) (y2 : Int) (y3 : Int) (y4 : Int), (y0, y1, y2, y3, y4) = r /\ v = .tuple #[.agg #[I y0, I y1, I y2, I y3], I y4] /\ St w w' [cMemI encSpt ai (zaa ab ac ae)] R := by
 refine ret_of_WD Try.func50 rfl rfl rfl ?_
 replace H : St w w [cMk ([]), cMemI encSpt ai (zaa ab ac ae)] R := H.mk0
 have bP := aL.len_le
 have bQ := aM.len_le
 have bR := aN.len_le
 have bS := aS.len_le
 unfold zaW at hM
 refine WD.seq ?_
 refine WD.of ?_
 refine W.region rfl ?_
 refine t_box (v := Pq ag) (cs := [Pq ag]) H rfl rfl ?_
 intro am bT H
 refine t_box (v := .agg #[I r_.up, I r_.down, I r_.lo, I r_.hi, B r_.narrow]) (cs := [I r_.up, I r_.down, I r_.lo, I r_.hi, B r_.narrow]) H rfl rfl ?_
 intro aa bU H
 refine t_box (v := .agg #[.func (.func 82) #[] #[]]) (cs := [.func (.func 82) #[] #[]]) H rfl rfl ?_
 intro aj bV H
 refine t_alloc (cs := [I 0, I 0, I 0, I 0]) H Al64 rfl ?_
 intro ao bW H
 refine zA (I 0) rfl ?_
 refine s_nil ?_
 refine WD.seq ?_
 refine WD.of ?_
 refine W.drawA (fun W => St w W [cBlk ao [I 0, I 0, I 0, I 0] 64, cBlk aj [.func (.func 82) #[] #[]] 123, cBlk aa [I r_.up, I r_.down, I r_.lo, I r_.hi, B r_.narrow] 56, cBlk am [Pq ag] 72, cMk ([]), cMemI encSpt ai (zaa ab ac ae)] R) [(0, true), (1, true), (2, true), (3, true), (5, true), (6, true), (7, true), (8, true), (4, false), (9, false)] [(10, 10, 44, [I 0, I 0]), (11, 11, 44, [I 0, I 0])] (.l 12 (.l 13 .nil)) 2 mixed (by decide +kernel) rfl (by intro x hx; simp only [List.mem_cons, List.not_mem_nil, or_false] at hx; rcases hx with rfl | rfl <;> first | exact ⟨_, _, _, rfl, _, Al44, rfl⟩) (by decide) (by decide) H ?_
 refine sa_q (fun ak w_ H => (St.pick H [0, 1, 2, 3, 4, 5] (by decide) rfl)) rfl rfl (fun g_ w' H => x_ld (p := Pq am) (v := Pq ag) rfl (ldb_sc Sc72 (H.bl 3) rfl)) ?_
 refine sa_q (fun ak w_ H => (St.pick H [0, 1, 2, 3, 4, 5] (by decide) rfl)) rfl rfl (fun g_ w' H => x_mv (v := aB) rfl) ?_
 refine sa_q (fun ak w_ H => (St.pick H [0, 1, 2, 3, 4, 5] (by decide) rfl)) rfl rfl (fun g_ w' H => x_fa (a := Pq aa) (v := Pq aa) rfl (fa_blk (o := 0) Fd56_0 Sz3)) ?_
 refine sa_q (fun ak w_ H => (St.pick H [0, 1, 2, 3, 4, 5] (by decide) rfl)) rfl rfl (fun g_ w' H => x_ld (p := Pq aa) (v := I r_.up) rfl (ldb_sc Sc3 (H.bl 2) rfl)) ?_
 refine sa_q (fun ak w_ H => (St.pick H [0, 1, 2, 3, 4, 5] (by decide) rfl)) rfl rfl (fun g_ w' H => x_ld (p := Pq am) (v := Pq ag) rfl (ldb_sc Sc72 (H.bl 3) rfl)) ?_
 refine sa_q (fun ak w_ H => (St.pick H [0, 1, 2, 3, 4, 5] (by decide) rfl)) rfl rfl (fun g_ w' H => x_mv (v := aB) rfl) ?_
 refine sa_q (fun ak w_ H => (St.pick H [0, 1, 2, 3, 4, 5] (by decide) rfl)) rfl rfl (fun g_ w' H => x_fa (a := Pq aa) (v := Oq aa 1) rfl (fa_blk (o := 0) Fd56_1 Sz3)) ?_
 refine sa_q (fun ak w_ H => (St.pick H [0, 1, 2, 3, 4, 5] (by decide) rfl)) rfl rfl (fun g_ w' H => x_ld (p := Oq aa 1) (v := I r_.down) rfl (ldb_sc Sc3 (H.bl 2) rfl)) ?_
 refine sa_l (fun ak w_ H => (St.pick H [0, 1, 2, 3, 4, 5] (by decide) rfl)) rfl ?_
 intro g_ ak bh H
 replace H : St w bh (cBlk ao [I 0, I 0, I 0, I 0] 64 :: cBlk aj [.func (.func 82) #[] #[]] 123 :: cBlk aa [I r_.up, I r_.down, I r_.lo, I r_.hi, B r_.narrow] 56 :: cBlk am [Pq ag] 72 :: cMk ([]) :: cMemI encSpt ai (zaa ab ac ae) :: ak) R := H
 obtain ⟨bX, bi, hM⟩ := M.e_bind hM
 refine s_call cf31 [Pq ag, aB, I r_.up] rfl (zaM ab ac ae marks r_.up (aF.app _) aL (aG.app _) aM (aH.app _) aN (aI.app _) (aO.app _) aS bi _ (St.give (T := (cBlk ao [I 0, I 0, I 0, I 0] 64 :: cBlk aj [.func (.func 82) #[] #[]] 123 :: cBlk aa [I r_.up, I r_.down, I r_.lo, I r_.hi, B r_.narrow] 56 :: cBlk am [Pq ag] 72 :: cMk ([]) :: cMemI encSpt ai (zaa ab ac ae) :: ak)) H rfl)) ?_
 rintro vq bj ⟨r0, r1, bm, hvq, ap⟩
 subst bm
 subst vq
 try dsimp only at hM
 replace H : St w bj (cBlk ao [I 0, I 0, I 0, I 0] 64 :: cBlk aj [.func (.func 82) #[] #[]] 123 :: cBlk aa [I r_.up, I r_.down, I r_.lo, I r_.hi, B r_.narrow] 56 :: cBlk am [Pq ag] 72 :: cMk ([]) :: cMemI encSpt ai (zaa ab ac ae) :: ak) R := H.back ap rfl
 clear ap
 refine s_nil ⟨(St.pick H [0, 1, 2, 3, 4, 5] (by decide) rfl), _, [cBlk ao [I 0, I 0, I 0, I 0] 64, cBlk aj [.func (.func 82) #[] #[]] 123, cBlk aa [I r_.up, I r_.down, I r_.lo, I r_.hi, B r_.narrow] 56, cBlk am [Pq ag] 72, cMk ([]), cMemI encSpt ai (zaa ab ac ae)], mix_upd rfl, H, ?_⟩
 refine sa_l (fun ak w_ H => (St.pick H [0, 1, 2, 3, 4, 5] (by decide) rfl)) rfl ?_
 intro g_ ak bn H
 replace H : St w bn (cBlk ao [I 0, I 0, I 0, I 0] 64 :: cBlk aj [.func (.func 82) #[] #[]] 123 :: cBlk aa [I r_.up, I r_.down, I r_.lo, I r_.hi, B r_.narrow] 56 :: cBlk am [Pq ag] 72 :: cMk ([]) :: cMemI encSpt ai (zaa ab ac ae) :: ak) R := H
 obtain ⟨bY, bo, hM⟩ := M.e_bind hM
 refine s_call cf31 [Pq ag, aB, I r_.down] rfl (zaM ab ac ae marks r_.down (aF.app _) aL (aG.app _) aM (aH.app _) aN (aI.app _) (aO.app _) aS bo _ (St.give (T := (cBlk ao [I 0, I 0, I 0, I 0] 64 :: cBlk aj [.func (.func 82) #[] #[]] 123 :: cBlk aa [I r_.up, I r_.down, I r_.lo, I r_.hi, B r_.narrow] 56 :: cBlk am [Pq ag] 72 :: cMk ([]) :: cMemI encSpt ai (zaa ab ac ae) :: ak)) H rfl)) ?_
 rintro vq bp ⟨au, aw, bq, hvq, ap⟩
 subst bq
 subst vq
 try dsimp only at hM
 replace H : St w bp (cBlk ao [I 0, I 0, I 0, I 0] 64 :: cBlk aj [.func (.func 82) #[] #[]] 123 :: cBlk aa [I r_.up, I r_.down, I r_.lo, I r_.hi, B r_.narrow] 56 :: cBlk am [Pq ag] 72 :: cMk ([]) :: cMemI encSpt ai (zaa ab ac ae) :: ak) R := H.back ap rfl
 clear ap
 refine s_nil ⟨(St.pick H [0, 1, 2, 3, 4, 5] (by decide) rfl), _, [cBlk ao [I 0, I 0, I 0, I 0] 64, cBlk aj [.func (.func 82) #[] #[]] 123, cBlk aa [I r_.up, I r_.down, I r_.lo, I r_.hi, B r_.narrow] 56, cBlk am [Pq ag] 72, cMk ([]), cMemI encSpt ai (zaa ab ac ae)], mix_upd rfl, H, ?_⟩
 refine sa_nil (fun ak w_ H => (St.pick H [0, 1, 2, 3, 4, 5] (by decide) rfl)) ?_
 intro aq av br H
 replace H : St w br [cBlk ao [I 0, I 0, I 0, I 0] 64, cBlk aj [.func (.func 82) #[] #[]] 123, cBlk aa [I r_.up, I r_.down, I r_.lo, I r_.hi, B r_.narrow] 56, cBlk am [Pq ag] 72, cMk ([]), cMemI encSpt ai (zaa ab ac ae), cBlk aq [I 0, I 0] 44, cBlk av [I 0, I 0] 44] R := (H)
 refine t_l rfl ?_
 refine t_sw 6 0 [I r0, I r1] (.agg #[I r0, I r1]) H rfl rfl Sz44 rfl rfl rfl rfl ?_
 intro bZ H
 refine s_nil ⟨(St.pick H [0, 1, 2, 3, 4, 5] (by decide) rfl), ?_⟩
 refine t_l rfl ?_
 refine t_sw 7 0 [I au, I aw] (.agg #[I au, I aw]) H rfl rfl Sz44 rfl rfl rfl rfl ?_
 intro b3 H
 refine s_nil ⟨(St.pick H [0, 1, 2, 3, 4, 5] (by decide) rfl), ?_⟩
 refine t_nil ?_
 refine WD.seq ?_
 refine WD.of ?_
 refine W.drawA (fun W => St w W [cBlk ao [I 0, I 0, I 0, I 0] 64, cBlk aj [.func (.func 82) #[] #[]] 123, cBlk aa [I r_.up, I r_.down, I r_.lo, I r_.hi, B r_.narrow] 56, cBlk am [Pq ag] 72, cMk ([]), cMemI encSpt ai (zaa ab ac ae), cBlk aq [I r0, I r1] 44, cBlk av [I au, I aw] 44] R) [(0, true), (1, true), (2, true), (3, true), (4, true), (5, false)] [(6, 12, 3, [I 0]), (7, 13, 4, [B false])] (.l 8 (.l 9 .nil)) 2 mixed (by decide +kernel) rfl (by intro x hx; simp only [List.mem_cons, List.not_mem_nil, or_false] at hx; rcases hx with rfl | rfl <;> first | exact ⟨_, _, _, rfl, _, Al3, rfl⟩ | exact ⟨_, _, _, rfl, _, Al4, rfl⟩) (by decide) (by decide) H ?_
 refine sa_q (fun ak w_ H => (St.pick H [0, 1, 2, 3, 4, 5, 6, 7] (by decide) rfl)) rfl rfl (fun g_ w' H => x_fa (a := Pq aa) (v := Oq aa 2) rfl (fa_blk (o := 0) Fd56_2 Sz44)) ?_
 refine sa_q (fun ak w_ H => (St.pick H [0, 1, 2, 3, 4, 5, 6, 7] (by decide) rfl)) rfl rfl (fun g_ w' H => x_fa (a := Oq aa 2) (v := Oq aa 2) rfl (fa_blk (o := 2) Fd44_0 Sz3)) ?_
 refine sa_q (fun ak w_ H => (St.pick H [0, 1, 2, 3, 4, 5, 6, 7] (by decide) rfl)) rfl rfl (fun g_ w' H => x_ld (p := Oq aa 2) (v := I r_.lo) rfl (ldb_sc Sc3 (H.bl 2) rfl)) ?_
 refine sa_q (fun ak w_ H => (St.pick H [0, 1, 2, 3, 4, 5, 6, 7] (by decide) rfl)) rfl rfl (fun g_ w' H => x_fa (a := Pq aj) (v := Pq aj) rfl (fa_blk (o := 0) Fd123_0 Sz77)) ?_
 refine sa_q (fun ak w_ H => (St.pick H [0, 1, 2, 3, 4, 5, 6, 7] (by decide) rfl)) rfl rfl (fun g_ w' H => x_ld (p := Pq aj) (v := .func (.func 82) #[] #[]) rfl (ldb_sc Sc77 (H.bl 1) rfl)) ?_
 refine sa_l (fun ak w_ H => (St.pick H [0, 1, 2, 3, 4, 5, 6, 7] (by decide) rfl)) rfl ?_
 intro g_ ak bt H
 replace H : St w bt (cBlk ao [I 0, I 0, I 0, I 0] 64 :: cBlk aj [.func (.func 82) #[] #[]] 123 :: cBlk aa [I r_.up, I r_.down, I r_.lo, I r_.hi, B r_.narrow] 56 :: cBlk am [Pq ag] 72 :: cMk ([]) :: cMemI encSpt ai (zaa ab ac ae) :: cBlk aq [I r0, I r1] 44 :: cBlk av [I au, I aw] 44 :: ak) R := H
 obtain ⟨b4, bu, hM⟩ := M.e_bind hM
 refine s_callv (f := 82) rfl cf82 [I 1, I 0] rfl (zcE 1 0 bu _ (St.give (T := (cBlk ao [I 0, I 0, I 0, I 0] 64 :: cBlk aj [.func (.func 82) #[] #[]] 123 :: cBlk aa [I r_.up, I r_.down, I r_.lo, I r_.hi, B r_.narrow] 56 :: cBlk am [Pq ag] 72 :: cMk ([]) :: cMemI encSpt ai (zaa ab ac ae) :: cBlk aq [I r0, I r1] 44 :: cBlk av [I au, I aw] 44 :: ak)) H rfl)) ?_
 rintro vq bv ⟨r2, bw, hvq, ap⟩
 subst bw
 subst vq
 try dsimp only at hM
 replace H : St w bv (cBlk ao [I 0, I 0, I 0, I 0] 64 :: cBlk aj [.func (.func 82) #[] #[]] 123 :: cBlk aa [I r_.up, I r_.down, I r_.lo, I r_.hi, B r_.narrow] 56 :: cBlk am [Pq ag] 72 :: cMk ([]) :: cMemI encSpt ai (zaa ab ac ae) :: cBlk aq [I r0, I r1] 44 :: cBlk av [I au, I aw] 44 :: ak) R := H.back ap rfl
 clear ap
 refine s_nil ⟨(St.pick H [0, 1, 2, 3, 4, 5, 6, 7] (by decide) rfl), _, [cBlk ao [I 0, I 0, I 0, I 0] 64, cBlk aj [.func (.func 82) #[] #[]] 123, cBlk aa [I r_.up, I r_.down, I r_.lo, I r_.hi, B r_.narrow] 56, cBlk am [Pq ag] 72, cMk ([]), cMemI encSpt ai (zaa ab ac ae), cBlk aq [I r0, I r1] 44, cBlk av [I au, I aw] 44], mix_upd rfl, H, ?_⟩
 refine sa_nil (fun ak w_ H => (St.pick H [0, 1, 2, 3, 4, 5, 6, 7] (by decide) rfl)) ?_
 intro az aA bx H
 replace H : St w bx [cBlk ao [I 0, I 0, I 0, I 0] 64, cBlk aj [.func (.func 82) #[] #[]] 123, cBlk aa [I r_.up, I r_.down, I r_.lo, I r_.hi, B r_.narrow] 56, cBlk am [Pq ag] 72, cMk ([]), cMemI encSpt ai (zaa ab ac ae), cBlk aq [I r0, I r1] 44, cBlk av [I au, I aw] 44, cBlk az [I 0] 3, cBlk aA [B false] 4] R := (H)
 refine t_l rfl ?_
 refine t_sw 8 0 [I r_.lo] (I r_.lo) H rfl rfl Sz3 rfl rfl rfl rfl ?_
 intro b5 H
 refine s_nil ⟨(St.pick H [0, 1, 2, 3, 4, 5, 6, 7] (by decide) rfl), ?_⟩
 refine t_l rfl ?_
 refine t_sw 9 0 [B r2] (B r2) H rfl rfl Sz4 rfl rfl rfl rfl ?_
 intro b6 H
 refine s_nil ⟨(St.pick H [0, 1, 2, 3, 4, 5, 6, 7] (by decide) rfl), ?_⟩
 refine t_nil ?_
 refine WD.seq ?_
 refine WD.seq ?_
 refine WD.of ?_
 refine W.region rfl ?_
 refine s_val (x_ld (p := Pq aA) (v := B r2) rfl (ldb_sc Sc4 (H.bl 9) rfl)) ?_
 refine s_val (x_not (b := r2) rfl) ?_
 refine s_nil ?_
 refine WD.cond (!r2) rfl (fun aT => ?_) (fun aT => ?_)
 ·replace hM := M.e_t hM aT
  refine WD.of ?_
  refine W.region rfl ?_
  refine s_val (x_fa (a := Pq aa) (v := Oq aa 2) rfl (fa_blk (o := 0) Fd56_2 Sz44)) ?_
  refine s_val (x_fa (a := Oq aa 2) (v := Oq aa 3) rfl (fa_blk (o := 2) Fd44_1 Sz3)) ?_
  refine s_val (x_ld (p := Oq aa 3) (v := I r_.hi) rfl (ldb_sc Sc3 (H.bl 2) rfl)) ?_
  refine t_sw 8 0 [I r_.hi] (I r_.hi) H rfl rfl Sz3 rfl rfl rfl rfl ?_
  intro b7 H
  refine s_nil ?_
  refine WD.seq ?_
  refine WD.of ?_
  refine W.region rfl ?_
  refine t_alloc (cs := [I 0, I 0, I 0, I 0]) H Al64 rfl ?_
  intro ax b8 H
  refine s_nil ?_
  refine WD.seq ?_
  refine WD.of ?_
  refine W.region rfl ?_
  refine t_alloc (cs := [I 0]) H Al3 rfl ?_
  intro ay b9 H
  refine t_sw 0 0 [I 0] (I 0) H rfl rfl Sz3 rfl rfl rfl rfl ?_
  intro cb H
  refine s_nil ?_
  refine WD.seq ?_
  refine WD.seq ?_
  refine WD.of ?_
  refine W.draw (fun W => St w W [cBlk ay [I 0] 3, cBlk ax [I 0, I 0, I 0, I 0] 64, cBlk ao [I 0, I 0, I 0, I 0] 64, cBlk aj [.func (.func 82) #[] #[]] 123, cBlk aa [I r_.up, I r_.down, I r_.lo, I r_.hi, B r_.narrow] 56, cBlk am [Pq ag] 72, cMk ([]), cMemI encSpt ai (zaa ab ac ae), cBlk aq [I r0, I r1] 44, cBlk av [I au, I aw] 44, cBlk az [I r_.hi] 3, cBlk aA [B r2] 4] R) [(0, true), (1, true), (2, true), (3, true), (4, true), (5, true), (6, false), (7, false), (8, true), (9, false)] mixed (by decide +kernel) rfl ?_
  intro cc aJ
  replace H := H.ext aJ
  clear aJ
  refine ⟨(H.pk [0, 1, 2, 3, 4, 5, 6, 7, 8, 9, 10, 11]), ?_⟩
  refine d_q rfl (fun w' H => x_fa (a := Pq av) (v := Pq av) rfl (fa_blk (o := 0) Fd44_0 Sz3)) ?_
  refine d_q rfl (fun w' H => x_ld (p := Pq av) (v := I au) rfl (ldb_sc Sc3 (H.bl 9) rfl)) ?_
  refine d_q rfl (fun w' H => x_fa (a := Pq av) (v := Oq av 1) rfl (fa_blk (o := 0) Fd44_1 Sz3)) ?_
  refine d_q rfl (fun w' H => x_ld (p := Oq av 1) (v := I aw) rfl (ldb_sc Sc3 (H.bl 9) rfl)) ?_
  refine d_q rfl (fun w' H => x_fa (a := Pq aq) (v := Oq aq 1) rfl (fa_blk (o := 0) Fd44_1 Sz3)) ?_
  refine d_q rfl (fun w' H => x_ld (p := Oq aq 1) (v := I r1) rfl (ldb_sc Sc3 (H.bl 8) rfl)) ?_
  refine d_l rfl ?_
  refine t_bs (α := Int) T28 [I r1] [(r1 : Int)] H rfl (.cons rfl (Flat.rep_enc _ (r1 : Int)) <| .nil) rfl rfl rfl ?_
  intro bz cd H
  have ce := Sl.cells (H.os 0)
  have cf := Sl.oc (H.os 0)
  refine s_nil ⟨(H.pk [1, 2, 3, 4, 5, 6, 7, 8, 9, 10, 11, 12]), ?_⟩
  refine d_l rfl ?_
  obtain ⟨cg, bA, hM⟩ := M.e_bind hM
  refine s_call cf49 [I aw, bz] rfl (zb3 aw ([(r1 : Int)]) (rdo 0) (H.os 0) bA _ (H.gt 13)) ?_
  rintro vq cj ⟨r3, bB, hvq, ap⟩
  subst bB
  subst vq
  try dsimp only at hM
  replace H := H.bk ap
  clear ap
  refine s_nil ⟨(H.pk [1, 2, 3, 4, 5, 6, 7, 8, 9, 10, 11, 12]), ?_⟩
  refine d_q rfl (fun w' H => x_bld (ps := [(0, I au), (1, I r3)]) (zs := [I 0, I 0]) (L' := [I au, I r3]) rfl Try.underlying44 Al44 rfl (Bd44 Try.underlying44) (.cons (cs := [I au]) rfl rfl rfl rfl rfl <| .cons (cs := [I r3]) rfl rfl rfl rfl rfl <| .nil)) ?_
  refine d_l rfl ?_
  obtain ⟨ck, bC, hM⟩ := M.e_bind hM
  refine s_call cf37 [.agg #[I au, I r3]] rfl (zcm (⟨(au : Int), (r3 : Int)⟩ : Span) bC _ (H.gt 13)) ?_
  rintro vq cn ⟨aC, aD, aE, bD, hvq, ap⟩
  subst bD
  subst vq
  try dsimp only at hM
  replace H := H.bk ap
  clear ap
  refine s_nil ⟨(H.pk [2, 3, 4, 5, 6, 7, 8, 9, 10, 11, 12, 13]), ?_⟩
  refine d_nil ?_
  replace H := H.pk [0, 2, 3, 4, 5, 6, 7, 8, 9, 10, 12, 13]
  refine WD.block ?_
  obtain ⟨co, bE, hM⟩ := M.e_bind hM
  refine WD.range (L := [cBlk ay [I 0] 3, cBlk ax [I 0, I 0, I 0, I 0] 64, cMemI encSpt ai (zaa ab ac ae), cBlk aE [I aC, I aD] 44, cBlk ao [I 0, I 0, I 0, I 0] 64, cBlk aj [.func (.func 82) #[] #[]] 123, cBlk aa [I r_.up, I r_.down, I r_.lo, I r_.hi, B r_.narrow] 56, cBlk am [Pq ag] 72, cBlk aq [I r0, I r1] 44, cBlk az [I r_.hi] 3, cBlk aA [B r2] 4]) [Pq aE] (H.pk [7, 1, 2, 8, 0, 3, 4, 5, 6, 9, 10, 11]) rfl cf55 ?_
  intro aP aQ aU bF aV H
  have hYC : YieldC Try.prog ([cMk (aQ :: ([])), cBlk aE [I aC, I aD] 44, cBlk ao [I 0, I 0, I 0, I 0] 64, cBlk aj [.func (.func 82) #[] #[]] 123, cBlk aa [I r_.up, I r_.down, I r_.lo, I r_.hi, B r_.narrow] 56, cBlk am [Pq ag] 72, cBlk aq [I r0, I r1] 44, cBlk az [I r_.hi] 3, cBlk aA [B r2] 4] ++ R) arI (yJ aP aU (fun (s, s2, s3, s4, s5) aR => aR = [cBlk ay [I s] 3, cBlk ax [I s2, I s3, I s4, I s5] 64, cMemI encSpt ai (zaa ab ac ae)]) (fun (_ : Unit) _ => False) (fun _ => .ret)) (.func (.yield aP) #[] #[]) (M.yl (zau ab ac ae r_ r0 r2)) := by
   refine YieldC.mk aV (fun (s, s2, s3, s4, s5) aR => aR = [cBlk ay [I s] 3, cBlk ax [I s2, I s3, I s4, I s5] 64, cMemI encSpt ai (zaa ab ac ae)]) (fun (_ : Unit) _ => False) (fun _ => .ret) (zau ab ac ae r_ r0 r2) (by rintro ⟨s, s2, s3, s4, s5⟩ _ h_; obtain ⟨rfl⟩ := h_; rfl) (fun _ _ h_ => h_.elim) rfl (arI_len rfl) ?_
   intro C_ cp x W_ bG
   obtain rfl := bG
   refine W.region rfl ?_
   refine zA (I x) rfl ?_
   refine s_nil ?_
   refine ⟨rfl, rfl, ?_⟩
   intro w R aK aR s_ r bH hM H
   obtain ⟨s, s2, s3, s4, s5⟩ := s_
   obtain ⟨rfl⟩ := bH
   replace aF := aF.sub aK
   replace aG := aG.sub aK
   replace aH := aH.sub aK
   replace aI := aI.sub aK
   replace aO := aO.sub aK
   replace hM : (zau ab ac ae r_ r0 r2 (s, s2, s3, s4, s5) x).Ends r := hM
   simp only [zau] at hM
   replace H := H.pk [0, 1, 2, 4, 5, 6, 7, 8, 9, 10, 11, 3]
   refine W.block ?_
   refine W.seq ?_
   refine W.region rfl ?_
   refine s_val (x_fa (a := Pq aq) (v := Pq aq) rfl (fa_blk (o := 0) Fd44_0 Sz3)) ?_
   refine s_val (x_ld (p := Pq aq) (v := I r0) rfl (ldb_sc Sc3 (H.bl 8) rfl)) ?_
   refine zM (I x) rfl ?_
   refine s_val (x_max (kd := .i64) (a := r0) (b := x) rfl rfl) ?_
   refine zM (I x) rfl ?_
   refine s_val (x_ld (p := Pq az) (v := I r_.hi) rfl (ldb_sc Sc3 (H.bl 9) rfl)) ?_
   refine s_val (x_ld (p := Pq az) (v := I r_.hi) rfl (ldb_sc Sc3 (H.bl 9) rfl)) ?_
   refine s_val (x_bld (ps := [(0, I (max r0 x)), (1, I x), (2, I r_.hi), (3, I r_.hi)]) (zs := [I 0, I 0, I 0, I 0]) (L' := [I (max r0 x), I x, I r_.hi, I r_.hi]) rfl Try.underlying64 Al64 rfl (Bd64 Try.underlying64) (.cons (cs := [I (max r0 x)]) rfl rfl rfl rfl rfl <| .cons (cs := [I x]) rfl rfl rfl rfl rfl <| .cons (cs := [I r_.hi]) rfl rfl rfl rfl rfl <| .cons (cs := [I r_.hi]) rfl rfl rfl rfl rfl <| .nil)) ?_
   refine t_alloc (cs := [I 0, I 0, I 0, I 0]) H Al64 rfl ?_
   intro bf cq H
   refine t_sw 0 0 [I (max r0 x), I x, I r_.hi, I r_.hi] (.agg #[I (max r0 x), I x, I r_.hi, I r_.hi]) H rfl rfl Sz64 rfl rfl rfl rfl ?_
   intro cr H
   refine s_nil ?_
   refine W.seq ?_
   refine W.seq ?_
   refine W.region rfl ?_
   refine s_val (x_ld (p := Pq aA) (v := B r2) rfl (ldb_sc Sc4 (H.bl 11) rfl)) ?_
   refine s_nil ?_
   refine W.cond r2 rfl (fun aW => ?_) (fun aW => ?_)
   ·replace hM := M.e_t hM aW
    exact (M.e_fail hM).elim
   replace hM := M.e_f hM aW
   refine W.skip ?_
   refine W.seq ?_
   refine W.region rfl ?_
   refine s_val (x_ld (p := Pq am) (v := Pq ag) rfl (ldb_sc Sc72 (H.bl 8) rfl)) ?_
   refine s_val (x_ld (p := Pq aa) (v := .agg #[I r_.up, I r_.down, I r_.lo, I r_.hi, B r_.narrow]) rfl (ldb_ag (ds := [I r_.up, I r_.down, I r_.lo, I r_.hi, B r_.narrow]) Ag56 Sz56 (H.bl 7) rfl rfl)) ?_
   refine s_val (x_ld (p := Pq bf) (v := .agg #[I (max r0 x), I x, I r_.hi, I r_.hi]) rfl (ldb_ag (ds := [I (max r0 x), I x, I r_.hi, I r_.hi]) Ag64 Sz64 (H.bl 0) rfl rfl)) ?_
   obtain ⟨ct, bI, hM⟩ := M.e_bind hM
   refine s_call cf36 [Pq ag, .agg #[I r_.up, I r_.down, I r_.lo, I r_.hi, B r_.narrow], .agg #[I (max r0 x), I x, I r_.hi, I r_.hi]] rfl (zbV ab ac ae r_ (⟨(max r0 x : Int), (x : Int), (r_.hi : Int), (r_.hi : Int)⟩ : Cas) (aF.app _) aL (aG.app _) aM (aH.app _) aN (aI.app _) bI _ ((H.pk [3, 0, 1, 2, 4, 5, 6, 7, 8, 9, 10, 11, 12]).gt 12)) ?_
   rintro vq cu ⟨r4, bJ, hvq, ap⟩
   subst bJ
   subst vq
   try dsimp only at hM
   replace H := H.pk [3, 0, 1, 2, 4, 5, 6, 7, 8, 9, 10, 11, 12] |>.bk ap
   clear ap
   refine zA (I r4) rfl ?_
   refine s_nil ?_
   refine W.seq ?_
   refine W.region rfl ?_
   refine s_val (x_ld (p := Pq ax) (v := .agg #[I s2, I s3, I s4, I s5]) rfl (ldb_ag (ds := [I s2, I s3, I s4, I s5]) Ag64 Sz64 (H.bl 3) rfl rfl)) ?_
   refine s_val (x_bld (ps := []) (zs := [I 0, I 0, I 0, I 0]) (L' := [I 0, I 0, I 0, I 0]) rfl Try.underlying64 Al64 rfl (Bd64 Try.underlying64) (.nil)) ?_
   refine s_val (x_eqS (eqT64 (⟨(s2 : Int), (s3 : Int), (s4 : Int), (s5 : Int)⟩ : Cas) (⟨(0 : Int), (0 : Int), (0 : Int), (0 : Int)⟩ : Cas) _) gdT64 rfl rfl) ?_
   refine zM (B (decide ((⟨(s2 : Int), (s3 : Int), (s4 : Int), (s5 : Int)⟩ : Cas) = (⟨(0 : Int), (0 : Int), (0 : Int), (0 : Int)⟩ : Cas)))) rfl ?_
   refine g_val (!(decide ((⟨(s2 : Int), (s3 : Int), (s4 : Int), (s5 : Int)⟩ : Cas) = (⟨(0 : Int), (0 : Int), (0 : Int), (0 : Int)⟩ : Cas)))) (gy_f rfl) (fun hg => x_fa (a := Pq aj) (v := Pq aj) rfl (fa_blk (o := 0) Fd123_0 Sz77)) ?_
   refine g_val (!(decide ((⟨(s2 : Int), (s3 : Int), (s4 : Int), (s5 : Int)⟩ : Cas) = (⟨(0 : Int), (0 : Int), (0 : Int), (0 : Int)⟩ : Cas)))) (gy_f rfl) (fun hg => x_ld (p := Pq aj) (v := .func (.func 82) #[] #[]) (gd_of (c := !(decide ((⟨(s2 : Int), (s3 : Int), (s4 : Int), (s5 : Int)⟩ : Cas) = (⟨(0 : Int), (0 : Int), (0 : Int), (0 : Int)⟩ : Cas)))) hg (Pq aj)) (ldb_sc Sc77 (H.bl 6) rfl)) ?_
   refine g_val (!(decide ((⟨(s2 : Int), (s3 : Int), (s4 : Int), (s5 : Int)⟩ : Cas) = (⟨(0 : Int), (0 : Int), (0 : Int), (0 : Int)⟩ : Cas)))) (gy_f rfl) (fun hg => x_mv (v := I r4) rfl) ?_
   refine g_val (!(decide ((⟨(s2 : Int), (s3 : Int), (s4 : Int), (s5 : Int)⟩ : Cas) = (⟨(0 : Int), (0 : Int), (0 : Int), (0 : Int)⟩ : Cas)))) (gy_f rfl) (fun hg => x_ld (p := Pq ay) (v := I s) rfl (ldb_sc Sc3 (H.bl 2) rfl)) ?_
   obtain ⟨r5, bK, hM⟩ := M.e_bind hM
   refine t_gcallv (cap := []) (!(decide ((⟨(s2 : Int), (s3 : Int), (s4 : Int), (s5 : Int)⟩ : Cas) = (⟨(0 : Int), (0 : Int), (0 : Int), (0 : Int)⟩ : Cas)))) (gy_f rfl) cf82 (fun hg => (gd_of (c := !(decide ((⟨(s2 : Int), (s3 : Int), (s4 : Int), (s5 : Int)⟩ : Cas) = (⟨(0 : Int), (0 : Int), (0 : Int), (0 : Int)⟩ : Cas)))) hg (.func (.func 82) #[] #[]))) (B r5) (fun _ => [I r4, I s]) (fun hg => lst2 (gd_of (c := !(decide ((⟨(s2 : Int), (s3 : Int), (s4 : Int), (s5 : Int)⟩ : Cas) = (⟨(0 : Int), (0 : Int), (0 : Int), (0 : Int)⟩ : Cas)))) hg (I r4)) (gd_of (c := !(decide ((⟨(s2 : Int), (s3 : Int), (s4 : Int), (s5 : Int)⟩ : Cas) = (⟨(0 : Int), (0 : Int), (0 : Int), (0 : Int)⟩ : Cas)))) hg (I s))) H (fun hg => (zcE r4 s (M.e_opt bK hg) _ (H.give (A := []) rfl)).mono fun v_ w_ ⟨y_, aX, bL, H_⟩ => by subst aX; exact ⟨bL, H.via H_⟩) ?_
   intro cv H
   refine s_val (x_por (b := decide ((⟨(s2 : Int), (s3 : Int), (s4 : Int), (s5 : Int)⟩ : Cas) = (⟨(0 : Int), (0 : Int), (0 : Int), (0 : Int)⟩ : Cas))) (r := r5) rfl rfl (fun hb => gd_of (c := !(decide ((⟨(s2 : Int), (s3 : Int), (s4 : Int), (s5 : Int)⟩ : Cas) = (⟨(0 : Int), (0 : Int), (0 : Int), (0 : Int)⟩ : Cas)))) (by first | exact hb | (rw [hb]; rfl) | simp_all) (B r5))) ?_
   refine s_nil ?_
   refine W.cond ((decide ((⟨(s2 : Int), (s3 : Int), (s4 : Int), (s5 : Int)⟩ : Cas) = (⟨(0 : Int), (0 : Int), (0 : Int), (0 : Int)⟩ : Cas))) || r5) rfl (fun aY => ?_) (fun aY => ?_)
   ·replace hM := M.e_t hM aY
    refine W.region rfl ?_
    refine s_val (x_ld (p := Pq bf) (v := .agg #[I (max r0 x), I x, I r_.hi, I r_.hi]) rfl (ldb_ag (ds := [I (max r0 x), I x, I r_.hi, I r_.hi]) Ag64 Sz64 (H.bl 1) rfl rfl)) ?_
    refine zM (I r4) rfl ?_
    refine t_sw 3 0 [I (max r0 x), I x, I r_.hi, I r_.hi] (.agg #[I (max r0 x), I x, I r_.hi, I r_.hi]) H rfl rfl Sz64 rfl rfl rfl rfl ?_
    intro cw H
    refine t_sw 2 0 [I r4] (I r4) H rfl rfl Sz3 rfl rfl rfl rfl ?_
    intro cx H
    refine s_nil ?_
    exact ⟨(r4, max r0 x, x, r_.hi, r_.hi), [cBlk ay [I r4] 3, cBlk ax [I (max r0 x), I x, I r_.hi, I r_.hi] 64, cMemI encSpt ai (zaa ab ac ae)], (M.e_pure hM).symm, rfl, H.pick [2, 3, 0, 12, 4, 5, 6, 7, 8, 9, 10, 11] (by decide) rfl⟩
   replace hM := M.e_f hM aY
   refine W.skip ?_
   exact ⟨(s, s2, s3, s4, s5), [cBlk ay [I s] 3, cBlk ax [I s2, I s3, I s4, I s5] 64, cMemI encSpt ai (zaa ab ac ae)], (M.e_pure hM).symm, rfl, H.pick [2, 3, 0, 12, 4, 5, 6, 7, 8, 9, 10, 11] (by decide) rfl⟩
  replace H : St w bF (cAll (cObj aP (.loop aU) :: [cBlk ay [I 0] 3, cBlk ax [I 0, I 0, I 0, I 0] 64, cMemI encSpt ai (zaa ab ac ae)]) :: [cMk (aQ :: ([])), cBlk aE [I aC, I aD] 44, cBlk ao [I 0, I 0, I 0, I 0] 64, cBlk aj [.func (.func 82) #[] #[]] 123, cBlk aa [I r_.up, I r_.down, I r_.lo, I r_.hi, B r_.narrow] 56, cBlk am [Pq ag] 72, cBlk aq [I r0, I r1] 44, cBlk az [I r_.hi] 3, cBlk aA [B r2] 4]) R := St.bundleB (A := cObj aP (.loop aU) :: [cBlk ay [I 0] 3, cBlk ax [I 0, I 0, I 0, I 0] 64, cMemI encSpt ai (zaa ab ac ae)]) (T := [cMk (aQ :: ([])), cBlk aE [I aC, I aD] 44, cBlk ao [I 0, I 0, I 0, I 0] 64, cBlk aj [.func (.func 82) #[] #[]] 123, cBlk aa [I r_.up, I r_.down, I r_.lo, I r_.hi, B r_.narrow] 56, cBlk am [Pq ag] 72, cBlk aq [I r0, I r1] 44, cBlk az [I r_.hi] 3, cBlk aA [B r2] 4]) rfl (H.pk [0, 2, 3, 4, 1, 5, 6, 7, 8, 9, 10, 11, 12])
  refine (zcx (M.yl (zau ab ac ae r_ r0 r2)) (.inl (0, 0, 0, 0, 0)) aC aD hYC ⟨_, rfl, rfl⟩ (Has.here (k := 1) rfl) bE _ (H.gt 9)).mono ?_
  rintro vq cy ⟨bM, cz, bN, hvq, ap, bg⟩
  subst bN
  replace H := H.back ap rfl
  clear ap hYC
  rcases bM with ⟨s, s2, s3, s4, s5⟩ | _
  ·try dsimp only at hM
   obtain ⟨_, rfl, rfl⟩ := bg
   refine ⟨_, [cBlk ay [I s] 3, cBlk ax [I s2, I s3, I s4, I s5] 64, cMemI encSpt ai (zaa ab ac ae), cBlk aE [I aC, I aD] 44, cBlk ao [I 0, I 0, I 0, I 0] 64, cBlk aj [.func (.func 82) #[] #[]] 123, cBlk aa [I r_.up, I r_.down, I r_.lo, I r_.hi, B r_.narrow] 56, cBlk am [Pq ag] 72, cBlk aq [I r0, I r1] 44, cBlk az [I r_.hi] 3, cBlk aA [B r2] 4], H.unbundle.pick [0, 4, 1, 2, 3, 5, 6, 7, 8, 9, 10, 11, 12] (by decide) rfl, aV.nb, ?_⟩
   intro cA H
   rw [aV.pd]
   replace H := H.nf
   try simp only []
   replace H := H.pk [0, 1, 2, 3, 5]
   refine WD.seq ?_
   refine WD.of ?_
   refine W.draw (fun W => St w W [cMk (aQ :: ([])), cBlk ay [I s] 3, cBlk ax [I s2, I s3, I s4, I s5] 64, cMemI encSpt ai (zaa ab ac ae)] R) [(0, true), (1, true), (2, false), (3, true)] mixed (by decide +kernel) rfl ?_
   intro cB aJ
   replace H := H.ext aJ
   clear aJ
   refine ⟨(H.pk [0, 1, 2, 3]), ?_⟩
   refine d_q rfl (fun w' H => x_ld (p := Pq ax) (v := .agg #[I s2, I s3, I s4, I s5]) rfl (ldb_ag (ds := [I s2, I s3, I s4, I s5]) Ag64 Sz64 (H.bl 2) rfl rfl)) ?_
   refine d_q rfl (fun w' H => x_ld (p := Pq ay) (v := I s) rfl (ldb_sc Sc3 (H.bl 1) rfl)) ?_
   refine d_l rfl ?_
   refine t_sw 4 0 [I s2, I s3, I s4, I s5] (.agg #[I s2, I s3, I s4, I s5]) H rfl rfl Sz64 rfl rfl rfl rfl ?_
   intro cC H
   refine s_nil ⟨(H.pk [0, 1, 2, 3]), ?_⟩
   refine d_q rfl (fun w' H => x_as (v := I s) rfl) ?_
   refine d_nil ?_
   replace H := H.pk [0, 3, 4]
   refine WD.of ?_
   refine W.ret ?_
   refine bodyD_r (H.pk [0, 1, 2]) ?_
   intro cD H
   replace H := H.nf
   have bO := (H.bl 1)
   have aX := M.e_pure hM
   exact ⟨_, (resE_ofn (vs := [.agg #[I s2, I s3, I s4, I s5], I s]) rfl rfl (.cell (v := .agg #[I s2, I s3, I s4, I s5]) rfl (run_loadVar_ag (ds := [I s2, I s3, I s4, I s5]) Ag64 Sz64 bO rfl rfl) <| .tmp (v := I s) rfl <| .nil)), ⟨s2, s3, s4, s5, s, aX, rfl, (H.pk [0])⟩⟩
  obtain ⟨_, _, h_⟩ := bg; exact h_.elim
 replace hM := M.e_f hM aT
 exact (M.e_fail hM).elim

def zb0 : M Unit :=
  M.pure ()
theorem zaH {R : List Chunk}    {r : Unit} (hM : (zb0).Ends r) (w : World) (H : St w w [] R) : Ret Try.prog 52 #[] w fun v w' => () = r /\ v = .agg #[.func (.func 83) #[] #[]] /\ St w w' [] R := by
 refine ret_of_W Try.func52 rfl rfl rfl ?_
 refine W.seq ?_
 refine W.region rfl ?_
 refine t_alloc (cs := [.nilFunc]) H Al123 rfl ?_
 intro ac ae H
 refine s_nil ?_
 refine W.seq ?_
 refine W.region rfl ?_
 refine s_val (x_bld (ps := [(0, .func (.func 83) #[] #[])]) (zs := [.nilFunc]) (L' := [.func (.func 83) #[] #[]]) rfl Try.underlying123 Al123 rfl (Bd123 Try.underlying123) (.cons (cs := [.func (.func 83) #[] #[]]) rfl rfl rfl rfl rfl <| .nil)) ?_
 refine t_sw 0 0 [.func (.func 83) #[] #[]] (.agg #[.func (.func 83) #[] #[]]) H rfl rfl Sz123 rfl rfl rfl rfl ?_
 intro ag H
 refine s_nil ?_
 refine W.ret ?_
 have aa := (H.bl 0)
 have ab := M.e_pure hM
 exact ⟨_, (resE_of1 (v := .agg #[.func (.func 83) #[] #[]]) rfl (.cell (v := .agg #[.func (.func 83) #[] #[]]) rfl (run_loadVar_ag (ds := [.func (.func 83) #[] #[]]) Ag123 Sz123 aa rfl rfl) <| .nil)), ⟨ab, rfl, (H.pk [])⟩⟩

def zaR (a : Int) (b : Int) : M Bool :=
  M.pure (decide (b < a))
theorem zck {R : List Chunk}  (a : Int) (b : Int)  {r : Bool} (hM : (zaR a b).Ends r) (w : World) (H : St w w [] R) : Ret Try.prog 83 #[I a, I b] w fun v w' => ∃ (y0 : Bool), y0 = r /\ v = B y0 /\ St w w' [] R := by
 refine ret_of_W Try.func83 rfl rfl rfl ?_
 refine W.seq ?_
 refine W.region rfl ?_
 refine zA (B false) rfl ?_
 refine s_nil ?_
 refine W.seq ?_
 refine W.region rfl ?_
 refine zM (I a) rfl ?_
 refine zM (I b) rfl ?_
 refine zC a b (decide (b < a)) rfl rfl rfl ?_
 refine zA (B (decide (b < a))) rfl ?_
 refine s_nil ?_
 refine W.ret ?_
 have aa := M.e_pure hM
 exact ⟨_, resE_tmp rfl, ⟨(decide (b < a)), aa, rfl, H⟩⟩

def zat (aa : List Sect) (ab : List Mrk) (ac : List Rch) (r_ : Rch) (r1 : Int) (r2 : Bool) : (Int × Int × Int × Int × Int) -> Int -> M ((Int × Int × Int × Int × Int) ⊕ Unit) := fun (s, s2, s3, s4, s5) x =>
  bif r2 then (
  M.bind (zaz aa ab ac r_ (⟨(r1 : Int), (x : Int), (r_.lo : Int), (r_.lo : Int)⟩ : Cas)) fun r4 =>
  M.bind (M.opt (!(decide ((⟨(s2 : Int), (s3 : Int), (s4 : Int), (s5 : Int)⟩ : Cas) = (⟨(0 : Int), (0 : Int), (0 : Int), (0 : Int)⟩ : Cas)))) (zaR r4 s) false) fun r5 =>
  bif ((decide ((⟨(s2 : Int), (s3 : Int), (s4 : Int), (s5 : Int)⟩ : Cas) = (⟨(0 : Int), (0 : Int), (0 : Int), (0 : Int)⟩ : Cas))) || r5) then (
  M.pure (.inl (r4, r1, x, r_.lo, r_.lo)))
  else (
  M.pure (.inl (s, s2, s3, s4, s5))))
  else (
  M.fail)
def za6 (aa : List Sect) (ab : List Mrk) (ac : List Rch) (marks : List Int) (r_ : Rch) : M (Int × Int × Int × Int × Int) :=
  M.bind (zaq aa ab ac marks r_.up) fun (r0, r1) =>
  M.bind (zaq aa ab ac marks r_.down) fun (ae, ag) =>
  M.bind (zaR 1 0) fun r2 =>
  bif !r2 then (
  M.fail)
  else (
  M.bind (zaA ag ([(r1 : Int)])) fun r3 =>
  M.bind (za7 (⟨(ae : Int), (r3 : Int)⟩ : Span)) fun (ai, aj) =>
  M.bind (zak (M.yl (zat aa ab ac r_ r1 r2)) (.inl (0, 0, 0, 0, 0)) ai aj) fun x_ => match x_ with
  | .inl (s, s2, s3, s4, s5) => (
  M.pure (s2, s3, s4, s5, s))
  | .inr _ => M.fail)
theorem zai {R : List Chunk} {ag : Nat} {a6 : Cells} {a7 : Value} {a8 : Cells} {ba : Value} {bb : Cells} {bc : Value} {ai : Nat} {bf : Cells} {aB : Value} (aa : List Sect) (ab : List Mrk) (ac : List Rch) (marks : List Int) (r_ : Rch) (aF : Reads R a6) (aL : Sl a6 a7 aa) (aG : Reads R a8) (aM : Sl a8 ba ab) (aH : Reads R bb) (aN : Sl bb bc ac) (aI : Has R (cBlk ag [a7, ba, bc, .map (some ai)] 99)) (aO : Reads R bf) (aT : Sl bf aB marks) {r : (Int × Int × Int × Int × Int)} (hM : (za6 aa ab ac marks r_).Ends r) (w : World) (H : St w w [cMemI encSpt ai (zaa aa ab ac)] R) : Ret Try.prog 50 #[Pq ag, aB, .agg #[I r_.up, I r_.down, I r_.lo, I r_.hi, B r_.narrow], .agg #[.func (.func 83) #[] #[]]] w fun v w' => ∃ (y0 : Int) (y1 : Int) (y2 : Int) (y3 : Int) (y4 : Int), (y0, y1, y2, y3, y4) = r /\ v = .tuple #[.agg #[I y0, I y1, I y2, I y3], I y4] /\ St w w' [cMemI encSpt ai (zaa aa ab ac)] R := by
 refine ret_of_WD Try.func50 rfl rfl rfl ?_
 replace H : St w w [cMk ([]), cMemI encSpt ai (zaa aa ab ac)] R := H.mk0
 have bP := aL.len_le
 have bQ := aM.len_le
 have bR := aN.len_le
 have bS := aT.len_le
 unfold za6 at hM
 refine WD.seq ?_
 refine WD.of ?_
 refine W.region rfl ?_
 refine t_box (v := Pq ag) (cs := [Pq ag]) H rfl rfl ?_
 intro am bT H
 refine t_box (v := .agg #[I r_.up, I r_.down, I r_.lo, I r_.hi, B r_.narrow]) (cs := [I r_.up, I r_.down, I r_.lo, I r_.hi, B r_.narrow]) H rfl rfl ?_
 intro ae bU H
 refine t_box (v := .agg #[.func (.func 83) #[] #[]]) (cs := [.func (.func 83) #[] #[]]) H rfl rfl ?_
 intro aj bV H
 refine t_alloc (cs := [I 0, I 0, I 0, I 0]) H Al64 rfl ?_
 intro ao bW H
 refine zA (I 0) rfl ?_
 refine s_nil ?_
 refine WD.seq ?_
 refine WD.of ?_
 refine W.drawA (fun W => St w W [cBlk ao [I 0, I 0, I 0, I 0] 64, cBlk aj [.func (.func 83) #[] #[]] 123, cBlk ae [I r_.up, I r_.down, I r_.lo, I r_.hi, B r_.narrow] 56, cBlk am [Pq ag] 72, cMk ([]), cMemI encSpt ai (zaa aa ab ac)] R) [(0, true), (1, true), (2, true), (3, true), (5, true), (6, true), (7, true), (8, true), (4, false), (9, false)] [(10, 10, 44, [I 0, I 0]), (11, 11, 44, [I 0, I 0])] (.l 12 (.l 13 .nil)) 2 mixed (by decide +kernel) rfl (by intro x hx; simp only [List.mem_cons, List.not_mem_nil, or_false] at hx; rcases hx with rfl | rfl <;> first | exact ⟨_, _, _, rfl, _, Al44, rfl⟩) (by decide) (by decide) H ?_
 refine sa_q (fun ak w_ H => (St.pick H [0, 1, 2, 3, 4, 5] (by decide) rfl)) rfl rfl (fun g_ w' H => x_ld (p := Pq am) (v := Pq ag) rfl (ldb_sc Sc72 (H.bl 3) rfl)) ?_
 refine sa_q (fun ak w_ H => (St.pick H [0, 1, 2, 3, 4, 5] (by decide) rfl)) rfl rfl (fun g_ w' H => x_mv (v := aB) rfl) ?_
 refine sa_q (fun ak w_ H => (St.pick H [0, 1, 2, 3, 4, 5] (by decide) rfl)) rfl rfl (fun g_ w' H => x_fa (a := Pq ae) (v := Pq ae) rfl (fa_blk (o := 0) Fd56_0 Sz3)) ?_
 refine sa_q (fun ak w_ H => (St.pick H [0, 1, 2, 3, 4, 5] (by decide) rfl)) rfl rfl (fun g_ w' H => x_ld (p := Pq ae) (v := I r_.up) rfl (ldb_sc Sc3 (H.bl 2) rfl)) ?_
 refine sa_q (fun ak w_ H => (St.pick H [0, 1, 2, 3, 4, 5] (by decide) rfl)) rfl rfl (fun g_ w' H => x_ld (p := Pq am) (v := Pq ag) rfl (ldb_sc Sc72 (H.bl 3) rfl)) ?_
 refine sa_q (fun ak w_ H => (St.pick H [0, 1, 2, 3, 4, 5] (by decide) rfl)) rfl rfl (fun g_ w' H => x_mv (v := aB) rfl) ?_
 refine sa_q (fun ak w_ H => (St.pick H [0, 1, 2, 3, 4, 5] (by decide) rfl)) rfl rfl (fun g_ w' H => x_fa (a := Pq ae) (v := Oq ae 1) rfl (fa_blk (o := 0) Fd56_1 Sz3)) ?_
 refine sa_q (fun ak w_ H => (St.pick H [0, 1, 2, 3, 4, 5] (by decide) rfl)) rfl rfl (fun g_ w' H => x_ld (p := Oq ae 1) (v := I r_.down) rfl (ldb_sc Sc3 (H.bl 2) rfl)) ?_
 refine sa_l (fun ak w_ H => (St.pick H [0, 1, 2, 3, 4, 5] (by decide) rfl)) rfl ?_
 intro g_ ak bh H
 replace H : St w bh (cBlk ao [I 0, I 0, I 0, I 0] 64 :: cBlk aj [.func (.func 83) #[] #[]] 123 :: cBlk ae [I r_.up, I r_.down, I r_.lo, I r_.hi, B r_.narrow] 56 :: cBlk am [Pq ag] 72 :: cMk ([]) :: cMemI encSpt ai (zaa aa ab ac) :: ak) R := H
 obtain ⟨bX, bi, hM⟩ := M.e_bind hM
 refine s_call cf31 [Pq ag, aB, I r_.up] rfl (zaM aa ab ac marks r_.up (aF.app _) aL (aG.app _) aM (aH.app _) aN (aI.app _) (aO.app _) aT bi _ (St.give (T := (cBlk ao [I 0, I 0, I 0, I 0] 64 :: cBlk aj [.func (.func 83) #[] #[]] 123 :: cBlk ae [I r_.up, I r_.down, I r_.lo, I r_.hi, B r_.narrow] 56 :: cBlk am [Pq ag] 72 :: cMk ([]) :: cMemI encSpt ai (zaa aa ab ac) :: ak)) H rfl)) ?_
 rintro vq bj ⟨r0, r1, bm, hvq, aq⟩
 subst bm
 subst vq
 try dsimp only at hM
 replace H : St w bj (cBlk ao [I 0, I 0, I 0, I 0] 64 :: cBlk aj [.func (.func 83) #[] #[]] 123 :: cBlk ae [I r_.up, I r_.down, I r_.lo, I r_.hi, B r_.narrow] 56 :: cBlk am [Pq ag] 72 :: cMk ([]) :: cMemI encSpt ai (zaa aa ab ac) :: ak) R := H.back aq rfl
 clear aq
 refine s_nil ⟨(St.pick H [0, 1, 2, 3, 4, 5] (by decide) rfl), _, [cBlk ao [I 0, I 0, I 0, I 0] 64, cBlk aj [.func (.func 83) #[] #[]] 123, cBlk ae [I r_.up, I r_.down, I r_.lo, I r_.hi, B r_.narrow] 56, cBlk am [Pq ag] 72, cMk ([]), cMemI encSpt ai (zaa aa ab ac)], mix_upd rfl, H, ?_⟩
 refine sa_l (fun ak w_ H => (St.pick H [0, 1, 2, 3, 4, 5] (by decide) rfl)) rfl ?_
 intro g_ ak bn H
 replace H : St w bn (cBlk ao [I 0, I 0, I 0, I 0] 64 :: cBlk aj [.func (.func 83) #[] #[]] 123 :: cBlk ae [I r_.up, I r_.down, I r_.lo, I r_.hi, B r_.narrow] 56 :: cBlk am [Pq ag] 72 :: cMk ([]) :: cMemI encSpt ai (zaa aa ab ac) :: ak) R := H
 obtain ⟨bY, bo, hM⟩ := M.e_bind hM
 refine s_call cf31 [Pq ag, aB, I r_.down] rfl (zaM aa ab ac marks r_.down (aF.app _) aL (aG.app _) aM (aH.app _) aN (aI.app _) (aO.app _) aT bo _ (St.give (T := (cBlk ao [I 0, I 0, I 0, I 0] 64 :: cBlk aj [.func (.func 83) #[] #[]] 123 :: cBlk ae [I r_.up, I r_.down, I r_.lo, I r_.hi, B r_.narrow] 56 :: cBlk am [Pq ag] 72 :: cMk ([]) :: cMemI encSpt ai (zaa aa ab ac) :: ak)) H rfl)) ?_
 rintro vq bp ⟨au, aw, bq, hvq, aq⟩
 subst bq
 subst vq
 try dsimp only at hM
 replace H : St w bp (cBlk ao [I 0, I 0, I 0, I 0] 64 :: cBlk aj [.func (.func 83) #[] #[]] 123 :: cBlk ae [I r_.up, I r_.down, I r_.lo, I r_.hi, B r_.narrow] 56 :: cBlk am [Pq ag] 72 :: cMk ([]) :: cMemI encSpt ai (zaa aa ab ac) :: ak) R := H.back aq rfl
 clear aq
 refine s_nil ⟨(St.pick H [0, 1, 2, 3, 4, 5] (by decide) rfl), _, [cBlk ao [I 0, I 0, I 0, I 0] 64, cBlk aj [.func (.func 83) #[] #[]] 123, cBlk ae [I r_.up, I r_.down, I r_.lo, I r_.hi, B r_.narrow] 56, cBlk am [Pq ag] 72, cMk ([]), cMemI encSpt ai (zaa aa ab ac)], mix_upd rfl, H, ?_⟩
 refine sa_nil (fun ak w_ H => (St.pick H [0, 1, 2, 3, 4, 5] (by decide) rfl)) ?_
 intro ap av br H
 replace H : St w br [cBlk ao [I 0, I 0, I 0, I 0] 64, cBlk aj [.func (.func 83) #[] #[]] 123, cBlk ae [I r_.up, I r_.down, I r_.lo, I r_.hi, B r_.narrow] 56, cBlk am [Pq ag] 72, cMk ([]), cMemI encSpt ai (zaa aa ab ac), cBlk ap [I 0, I 0] 44, cBlk av [I 0, I 0] 44] R := (H)
 refine t_l rfl ?_
 refine t_sw 6 0 [I r0, I r1] (.agg #[I r0, I r1]) H rfl rfl Sz44 rfl rfl rfl rfl ?_
 intro bZ H
 refine s_nil ⟨(St.pick H [0, 1, 2, 3, 4, 5] (by decide) rfl), ?_⟩
 refine t_l rfl ?_
 refine t_sw 7 0 [I au, I aw] (.agg #[I au, I aw]) H rfl rfl Sz44 rfl rfl rfl rfl ?_
 intro b3 H
 refine s_nil ⟨(St.pick H [0, 1, 2, 3, 4, 5] (by decide) rfl), ?_⟩
 refine t_nil ?_
 refine WD.seq ?_
 refine WD.of ?_
 refine W.drawA (fun W => St w W [cBlk ao [I 0, I 0, I 0, I 0] 64, cBlk aj [.func (.func 83) #[] #[]] 123, cBlk ae [I r_.up, I r_.down, I r_.lo, I r_.hi, B r_.narrow] 56, cBlk am [Pq ag] 72, cMk ([]), cMemI encSpt ai (zaa aa ab ac), cBlk ap [I r0, I r1] 44, cBlk av [I au, I aw] 44] R) [(0, true), (1, true), (2, true), (3, true), (4, true), (5, false)] [(6, 12, 3, [I 0]), (7, 13, 4, [B false])] (.l 8 (.l 9 .nil)) 2 mixed (by decide +kernel) rfl (by intro x hx; simp only [List.mem_cons, List.not_mem_nil, or_false] at hx; rcases hx with rfl | rfl <;> first | exact ⟨_, _, _, rfl, _, Al3, rfl⟩ | exact ⟨_, _, _, rfl, _, Al4, rfl⟩) (by decide) (by decide) H ?_
 refine sa_q (fun ak w_ H => (St.pick H [0, 1, 2, 3, 4, 5, 6, 7] (by decide) rfl)) rfl rfl (fun g_ w' H => x_fa (a := Pq ae) (v := Oq ae 2) rfl (fa_blk (o := 0) Fd56_2 Sz44)) ?_
 refine sa_q (fun ak w_ H => (St.pick H [0, 1, 2, 3, 4, 5, 6, 7] (by decide) rfl)) rfl rfl (fun g_ w' H => x_fa (a := Oq ae 2) (v := Oq ae 2) rfl (fa_blk (o := 2) Fd44_0 Sz3)) ?_
 refine sa_q (fun ak w_ H => (St.pick H [0, 1, 2, 3, 4, 5, 6, 7] (by decide) rfl)) rfl rfl (fun g_ w' H => x_ld (p := Oq ae 2) (v := I r_.lo) rfl (ldb_sc Sc3 (H.bl 2) rfl)) ?_
 refine sa_q (fun ak w_ H => (St.pick H [0, 1, 2, 3, 4, 5, 6, 7] (by decide) rfl)) rfl rfl (fun g_ w' H => x_fa (a := Pq aj) (v := Pq aj) rfl (fa_blk (o := 0) Fd123_0 Sz77)) ?_
 refine sa_q (fun ak w_ H => (St.pick H [0, 1, 2, 3, 4, 5, 6, 7] (by decide) rfl)) rfl rfl (fun g_ w' H => x_ld (p := Pq aj) (v := .func (.func 83) #[] #[]) rfl (ldb_sc Sc77 (H.bl 1) rfl)) ?_
 refine sa_l (fun ak w_ H => (St.pick H [0, 1, 2, 3, 4, 5, 6, 7] (by decide) rfl)) rfl ?_
 intro g_ ak bt H
 replace H : St w bt (cBlk ao [I 0, I 0, I 0, I 0] 64 :: cBlk aj [.func (.func 83) #[] #[]] 123 :: cBlk ae [I r_.up, I r_.down, I r_.lo, I r_.hi, B r_.narrow] 56 :: cBlk am [Pq ag] 72 :: cMk ([]) :: cMemI encSpt ai (zaa aa ab ac) :: cBlk ap [I r0, I r1] 44 :: cBlk av [I au, I aw] 44 :: ak) R := H
 obtain ⟨b4, bu, hM⟩ := M.e_bind hM
 refine s_callv (f := 83) rfl cf83 [I 1, I 0] rfl (zck 1 0 bu _ (St.give (T := (cBlk ao [I 0, I 0, I 0, I 0] 64 :: cBlk aj [.func (.func 83) #[] #[]] 123 :: cBlk ae [I r_.up, I r_.down, I r_.lo, I r_.hi, B r_.narrow] 56 :: cBlk am [Pq ag] 72 :: cMk ([]) :: cMemI encSpt ai (zaa aa ab ac) :: cBlk ap [I r0, I r1] 44 :: cBlk av [I au, I aw] 44 :: ak)) H rfl)) ?_
 rintro vq bv ⟨r2, bw, hvq, aq⟩
 subst bw
 subst vq
 try dsimp only at hM
 replace H : St w bv (cBlk ao [I 0, I 0, I 0, I 0] 64 :: cBlk aj [.func (.func 83) #[] #[]] 123 :: cBlk ae [I r_.up, I r_.down, I r_.lo, I r_.hi, B r_.narrow] 56 :: cBlk am [Pq ag] 72 :: cMk ([]) :: cMemI encSpt ai (zaa aa ab ac) :: cBlk ap [I r0, I r1] 44 :: cBlk av [I au, I aw] 44 :: ak) R := H.back aq rfl
 clear aq
 refine s_nil ⟨(St.pick H [0, 1, 2, 3, 4, 5, 6, 7] (by decide) rfl), _, [cBlk ao [I 0, I 0, I 0, I 0] 64, cBlk aj [.func (.func 83) #[] #[]] 123, cBlk ae [I r_.up, I r_.down, I r_.lo, I r_.hi, B r_.narrow] 56, cBlk am [Pq ag] 72, cMk ([]), cMemI encSpt ai (zaa aa ab ac), cBlk ap [I r0, I r1] 44, cBlk av [I au, I aw] 44], mix_upd rfl, H, ?_⟩
 refine sa_nil (fun ak w_ H => (St.pick H [0, 1, 2, 3, 4, 5, 6, 7] (by decide) rfl)) ?_
 intro az aA bx H
 replace H : St w bx [cBlk ao [I 0, I 0, I 0, I 0] 64, cBlk aj [.func (.func 83) #[] #[]] 123, cBlk ae [I r_.up, I r_.down, I r_.lo, I r_.hi, B r_.narrow] 56, cBlk am [Pq ag] 72, cMk ([]), cMemI encSpt ai (zaa aa ab ac), cBlk ap [I r0, I r1] 44, cBlk av [I au, I aw] 44, cBlk az [I 0] 3, cBlk aA [B false] 4] R := (H)
 refine t_l rfl ?_
 refine t_sw 8 0 [I r_.lo] (I r_.lo) H rfl rfl Sz3 rfl rfl rfl rfl ?_
 intro b5 H
 refine s_nil ⟨(St.pick H [0, 1, 2, 3, 4, 5, 6, 7] (by decide) rfl), ?_⟩
 refine t_l rfl ?_
 refine t_sw 9 0 [B r2] (B r2) H rfl rfl Sz4 rfl rfl rfl rfl ?_
 intro b6 H
 refine s_nil ⟨(St.pick H [0, 1, 2, 3, 4, 5, 6, 7] (by decide) rfl), ?_⟩
 refine t_nil ?_
 refine WD.seq ?_
 refine WD.seq ?_
 refine WD.of ?_
 refine W.region rfl ?_
 refine s_val (x_ld (p := Pq aA) (v := B r2) rfl (ldb_sc Sc4 (H.bl 9) rfl)) ?_
 refine s_val (x_not (b := r2) rfl) ?_
 refine s_nil ?_
 refine WD.cond (!r2) rfl (fun aU => ?_) (fun aU => ?_)
 ·replace hM := M.e_t hM aU
  exact (M.e_fail hM).elim
 replace hM := M.e_f hM aU
 refine WD.of ?_
 refine W.skip ?_
 refine WD.seq ?_
 refine WD.of ?_
 refine W.region rfl ?_
 refine t_alloc (cs := [I 0, I 0, I 0, I 0]) H Al64 rfl ?_
 intro ax b7 H
 refine s_nil ?_
 refine WD.seq ?_
 refine WD.of ?_
 refine W.region rfl ?_
 refine t_alloc (cs := [I 0]) H Al3 rfl ?_
 intro ay b8 H
 refine t_sw 0 0 [I 0] (I 0) H rfl rfl Sz3 rfl rfl rfl rfl ?_
 intro b9 H
 refine s_nil ?_
 refine WD.seq ?_
 refine WD.seq ?_
 refine WD.of ?_
 refine W.draw (fun W => St w W [cBlk ay [I 0] 3, cBlk ax [I 0, I 0, I 0, I 0] 64, cBlk ao [I 0, I 0, I 0, I 0] 64, cBlk aj [.func (.func 83) #[] #[]] 123, cBlk ae [I r_.up, I r_.down, I r_.lo, I r_.hi, B r_.narrow] 56, cBlk am [Pq ag] 72, cMk ([]), cMemI encSpt ai (zaa aa ab ac), cBlk ap [I r0, I r1] 44, cBlk av [I au, I aw] 44, cBlk az [I r_.lo] 3, cBlk aA [B r2] 4] R) [(0, true), (1, true), (2, true), (3, true), (4, true), (5, true), (6, false), (7, false), (8, true), (9, false)] mixed (by decide +kernel) rfl ?_
 intro cb aJ
 replace H := H.ext aJ
 clear aJ
 refine ⟨(H.pk [0, 1, 2, 3, 4, 5, 6, 7, 8, 9, 10, 11]), ?_⟩
 refine d_q rfl (fun w' H => x_fa (a := Pq av) (v := Pq av) rfl (fa_blk (o := 0) Fd44_0 Sz3)) ?_
 refine d_q rfl (fun w' H => x_ld (p := Pq av) (v := I au) rfl (ldb_sc Sc3 (H.bl 9) rfl)) ?_
 refine d_q rfl (fun w' H => x_fa (a := Pq av) (v := Oq av 1) rfl (fa_blk (o := 0) Fd44_1 Sz3)) ?_
 refine d_q rfl (fun w' H => x_ld (p := Oq av 1) (v := I aw) rfl (ldb_sc Sc3 (H.bl 9) rfl)) ?_
 refine d_q rfl (fun w' H => x_fa (a := Pq ap) (v := Oq ap 1) rfl (fa_blk (o := 0) Fd44_1 Sz3)) ?_
 refine d_q rfl (fun w' H => x_ld (p := Oq ap 1) (v := I r1) rfl (ldb_sc Sc3 (H.bl 8) rfl)) ?_
 refine d_l rfl ?_
 refine t_bs (α := Int) T28 [I r1] [(r1 : Int)] H rfl (.cons rfl (Flat.rep_enc _ (r1 : Int)) <| .nil) rfl rfl rfl ?_
 intro bz cc H
 have cd := Sl.cells (H.os 0)
 have ce := Sl.oc (H.os 0)
 refine s_nil ⟨(H.pk [1, 2, 3, 4, 5, 6, 7, 8, 9, 10, 11, 12]), ?_⟩
 refine d_l rfl ?_
 obtain ⟨cf, bA, hM⟩ := M.e_bind hM
 refine s_call cf49 [I aw, bz] rfl (zb3 aw ([(r1 : Int)]) (rdo 0) (H.os 0) bA _ (H.gt 13)) ?_
 rintro vq cg ⟨r3, bB, hvq, aq⟩
 subst bB
 subst vq
 try dsimp only at hM
 replace H := H.bk aq
 clear aq
 refine s_nil ⟨(H.pk [1, 2, 3, 4, 5, 6, 7, 8, 9, 10, 11, 12]), ?_⟩
 refine d_q rfl (fun w' H => x_bld (ps := [(0, I au), (1, I r3)]) (zs := [I 0, I 0]) (L' := [I au, I r3]) rfl Try.underlying44 Al44 rfl (Bd44 Try.underlying44) (.cons (cs := [I au]) rfl rfl rfl rfl rfl <| .cons (cs := [I r3]) rfl rfl rfl rfl rfl <| .nil)) ?_
 refine d_l rfl ?_
 obtain ⟨cj, bC, hM⟩ := M.e_bind hM
 refine s_call cf37 [.agg #[I au, I r3]] rfl (zcm (⟨(au : Int), (r3 : Int)⟩ : Span) bC _ (H.gt 13)) ?_
 rintro vq ck ⟨aC, aD, aE, bD, hvq, aq⟩
 subst bD
 subst vq
 try dsimp only at hM
 replace H := H.bk aq
 clear aq
 refine s_nil ⟨(H.pk [2, 3, 4, 5, 6, 7, 8, 9, 10, 11, 12, 13]), ?_⟩
 refine d_nil ?_
 replace H := H.pk [0, 2, 3, 4, 5, 6, 7, 8, 9, 10, 12, 13]
 refine WD.block ?_
 obtain ⟨cn, bE, hM⟩ := M.e_bind hM
 refine WD.range (L := [cBlk ay [I 0] 3, cBlk ax [I 0, I 0, I 0, I 0] 64, cMemI encSpt ai (zaa aa ab ac), cBlk aE [I aC, I aD] 44, cBlk ao [I 0, I 0, I 0, I 0] 64, cBlk aj [.func (.func 83) #[] #[]] 123, cBlk ae [I r_.up, I r_.down, I r_.lo, I r_.hi, B r_.narrow] 56, cBlk am [Pq ag] 72, cBlk ap [I r0, I r1] 44, cBlk az [I r_.lo] 3, cBlk aA [B r2] 4]) [Pq aE] (H.pk [7, 1, 2, 8, 0, 3, 4, 5, 6, 9, 10, 11]) rfl cf55 ?_
 intro aP aQ aV bF aW H
 have hYC : YieldC Try.prog ([cMk (aQ :: ([])), cBlk aE [I aC, I aD] 44, cBlk ao [I 0, I 0, I 0, I 0] 64, cBlk aj [.func (.func 83) #[] #[]] 123, cBlk ae [I r_.up, I r_.down, I r_.lo, I r_.hi, B r_.narrow] 56, cBlk am [Pq ag] 72, cBlk ap [I r0, I r1] 44, cBlk az [I r_.lo] 3, cBlk aA [B r2] 4] ++ R) arI (yJ aP aV (fun (s, s2, s3, s4, s5) aR => aR = [cBlk ay [I s] 3, cBlk ax [I s2, I s3, I s4, I s5] 64, cMemI encSpt ai (zaa aa ab ac)]) (fun (_ : Unit) _ => False) (fun _ => .ret)) (.func (.yield aP) #[] #[]) (M.yl (zat aa ab ac r_ r1 r2)) := by
  refine YieldC.mk aW (fun (s, s2, s3, s4, s5) aR => aR = [cBlk ay [I s] 3, cBlk ax [I s2, I s3, I s4, I s5] 64, cMemI encSpt ai (zaa aa ab ac)]) (fun (_ : Unit) _ => False) (fun _ => .ret) (zat aa ab ac r_ r1 r2) (by rintro ⟨s, s2, s3, s4, s5⟩ _ h_; obtain ⟨rfl⟩ := h_; rfl) (fun _ _ h_ => h_.elim) rfl (arI_len rfl) ?_
  intro C_ co x W_ bG
  obtain rfl := bG
  refine W.region rfl ?_
  refine zA (I x) rfl ?_
  refine s_nil ?_
  refine ⟨rfl, rfl, ?_⟩
  intro w R aK aR s_ r bH hM H
  obtain ⟨s, s2, s3, s4, s5⟩ := s_
  obtain ⟨rfl⟩ := bH
  replace aF := aF.sub aK
  replace aG := aG.sub aK
  replace aH := aH.sub aK
  replace aI := aI.sub aK
  replace aO := aO.sub aK
  replace hM : (zat aa ab ac r_ r1 r2 (s, s2, s3, s4, s5) x).Ends r := hM
  simp only [zat] at hM
  replace H := H.pk [0, 1, 2, 4, 5, 6, 7, 8, 9, 10, 11, 3]
  refine W.block ?_
  refine W.seq ?_
  refine W.region rfl ?_
  refine s_val (x_fa (a := Pq ap) (v := Pq ap) rfl (fa_blk (o := 0) Fd44_0 Sz3)) ?_
  refine s_val (x_ld (p := Pq ap) (v := I r0) rfl (ldb_sc Sc3 (H.bl 8) rfl)) ?_
  refine zM (I x) rfl ?_
  refine s_val (x_max (kd := .i64) (a := r0) (b := x) rfl rfl) ?_
  refine zM (I x) rfl ?_
  refine s_val (x_ld (p := Pq az) (v := I r_.lo) rfl (ldb_sc Sc3 (H.bl 9) rfl)) ?_
  refine s_val (x_ld (p := Pq az) (v := I r_.lo) rfl (ldb_sc Sc3 (H.bl 9) rfl)) ?_
  refine s_val (x_bld (ps := [(0, I (max r0 x)), (1, I x), (2, I r_.lo), (3, I r_.lo)]) (zs := [I 0, I 0, I 0, I 0]) (L' := [I (max r0 x), I x, I r_.lo, I r_.lo]) rfl Try.underlying64 Al64 rfl (Bd64 Try.underlying64) (.cons (cs := [I (max r0 x)]) rfl rfl rfl rfl rfl <| .cons (cs := [I x]) rfl rfl rfl rfl rfl <| .cons (cs := [I r_.lo]) rfl rfl rfl rfl rfl <| .cons (cs := [I r_.lo]) rfl rfl rfl rfl rfl <| .nil)) ?_
  refine t_alloc (cs := [I 0, I 0, I 0, I 0]) H Al64 rfl ?_
  intro aS cp H
  refine t_sw 0 0 [I (max r0 x), I x, I r_.lo, I r_.lo] (.agg #[I (max r0 x), I x, I r_.lo, I r_.lo]) H rfl rfl Sz64 rfl rfl rfl rfl ?_
  intro cq H
  refine s_nil ?_
  refine W.seq ?_
  refine W.seq ?_
  refine W.region rfl ?_
  refine s_val (x_ld (p := Pq aA) (v := B r2) rfl (ldb_sc Sc4 (H.bl 11) rfl)) ?_
  refine s_nil ?_
  refine W.cond r2 rfl (fun aX => ?_) (fun aX => ?_)
  ·replace hM := M.e_t hM aX
   refine W.region rfl ?_
   refine s_val (x_fa (a := Pq ap) (v := Oq ap 1) rfl (fa_blk (o := 0) Fd44_1 Sz3)) ?_
   refine s_val (x_ld (p := Oq ap 1) (v := I r1) rfl (ldb_sc Sc3 (H.bl 9) rfl)) ?_
   refine s_val (x_fa (a := Pq aS) (v := Pq aS) rfl (fa_blk (o := 0) Fd64_0 Sz3)) ?_
   refine t_sw 0 0 [I r1] (I r1) H rfl rfl Sz3 rfl rfl rfl rfl ?_
   intro cr H
   refine s_nil ?_
   refine W.seq ?_
   refine W.region rfl ?_
   refine s_val (x_ld (p := Pq am) (v := Pq ag) rfl (ldb_sc Sc72 (H.bl 8) rfl)) ?_
   refine s_val (x_ld (p := Pq ae) (v := .agg #[I r_.up, I r_.down, I r_.lo, I r_.hi, B r_.narrow]) rfl (ldb_ag (ds := [I r_.up, I r_.down, I r_.lo, I r_.hi, B r_.narrow]) Ag56 Sz56 (H.bl 7) rfl rfl)) ?_
   refine s_val (x_ld (p := Pq aS) (v := .agg #[I r1, I x, I r_.lo, I r_.lo]) rfl (ldb_ag (ds := [I r1, I x, I r_.lo, I r_.lo]) Ag64 Sz64 (H.bl 0) rfl rfl)) ?_
   obtain ⟨ct, bI, hM⟩ := M.e_bind hM
   refine s_call cf36 [Pq ag, .agg #[I r_.up, I r_.down, I r_.lo, I r_.hi, B r_.narrow], .agg #[I r1, I x, I r_.lo, I r_.lo]] rfl (zbV aa ab ac r_ (⟨(r1 : Int), (x : Int), (r_.lo : Int), (r_.lo : Int)⟩ : Cas) (aF.app _) aL (aG.app _) aM (aH.app _) aN (aI.app _) bI _ ((H.pk [3, 0, 1, 2, 4, 5, 6, 7, 8, 9, 10, 11, 12]).gt 12)) ?_
   rintro vq cu ⟨r4, bJ, hvq, aq⟩
   subst bJ
   subst vq
   try dsimp only at hM
   replace H := H.pk [3, 0, 1, 2, 4, 5, 6, 7, 8, 9, 10, 11, 12] |>.bk aq
   clear aq
   refine zA (I r4) rfl ?_
   refine s_nil ?_
   refine W.seq ?_
   refine W.region rfl ?_
   refine s_val (x_ld (p := Pq ax) (v := .agg #[I s2, I s3, I s4, I s5]) rfl (ldb_ag (ds := [I s2, I s3, I s4, I s5]) Ag64 Sz64 (H.bl 3) rfl rfl)) ?_
   refine s_val (x_bld (ps := []) (zs := [I 0, I 0, I 0, I 0]) (L' := [I 0, I 0, I 0, I 0]) rfl Try.underlying64 Al64 rfl (Bd64 Try.underlying64) (.nil)) ?_
   refine s_val (x_eqS (eqT64 (⟨(s2 : Int), (s3 : Int), (s4 : Int), (s5 : Int)⟩ : Cas) (⟨(0 : Int), (0 : Int), (0 : Int), (0 : Int)⟩ : Cas) _) gdT64 rfl rfl) ?_
   refine zM (B (decide ((⟨(s2 : Int), (s3 : Int), (s4 : Int), (s5 : Int)⟩ : Cas) = (⟨(0 : Int), (0 : Int), (0 : Int), (0 : Int)⟩ : Cas)))) rfl ?_
   refine g_val (!(decide ((⟨(s2 : Int), (s3 : Int), (s4 : Int), (s5 : Int)⟩ : Cas) = (⟨(0 : Int), (0 : Int), (0 : Int), (0 : Int)⟩ : Cas)))) (gy_f rfl) (fun hg => x_fa (a := Pq aj) (v := Pq aj) rfl (fa_blk (o := 0) Fd123_0 Sz77)) ?_
   refine g_val (!(decide ((⟨(s2 : Int), (s3 : Int), (s4 : Int), (s5 : Int)⟩ : Cas) = (⟨(0 : Int), (0 : Int), (0 : Int), (0 : Int)⟩ : Cas)))) (gy_f rfl) (fun hg => x_ld (p := Pq aj) (v := .func (.func 83) #[] #[]) (gd_of (c := !(decide ((⟨(s2 : Int), (s3 : Int), (s4 : Int), (s5 : Int)⟩ : Cas) = (⟨(0 : Int), (0 : Int), (0 : Int), (0 : Int)⟩ : Cas)))) hg (Pq aj)) (ldb_sc Sc77 (H.bl 6) rfl)) ?_
   refine g_val (!(decide ((⟨(s2 : Int), (s3 : Int), (s4 : Int), (s5 : Int)⟩ : Cas) = (⟨(0 : Int), (0 : Int), (0 : Int), (0 : Int)⟩ : Cas)))) (gy_f rfl) (fun hg => x_mv (v := I r4) rfl) ?_
   refine g_val (!(decide ((⟨(s2 : Int), (s3 : Int), (s4 : Int), (s5 : Int)⟩ : Cas) = (⟨(0 : Int), (0 : Int), (0 : Int), (0 : Int)⟩ : Cas)))) (gy_f rfl) (fun hg => x_ld (p := Pq ay) (v := I s) rfl (ldb_sc Sc3 (H.bl 2) rfl)) ?_
   obtain ⟨r5, bK, hM⟩ := M.e_bind hM
   refine t_gcallv (cap := []) (!(decide ((⟨(s2 : Int), (s3 : Int), (s4 : Int), (s5 : Int)⟩ : Cas) = (⟨(0 : Int), (0 : Int), (0 : Int), (0 : Int)⟩ : Cas)))) (gy_f rfl) cf83 (fun hg => (gd_of (c := !(decide ((⟨(s2 : Int), (s3 : Int), (s4 : Int), (s5 : Int)⟩ : Cas) = (⟨(0 : Int), (0 : Int), (0 : Int), (0 : Int)⟩ : Cas)))) hg (.func (.func 83) #[] #[]))) (B r5) (fun _ => [I r4, I s]) (fun hg => lst2 (gd_of (c := !(decide ((⟨(s2 : Int), (s3 : Int), (s4 : Int), (s5 : Int)⟩ : Cas) = (⟨(0 : Int), (0 : Int), (0 : Int), (0 : Int)⟩ : Cas)))) hg (I r4)) (gd_of (c := !(decide ((⟨(s2 : Int), (s3 : Int), (s4 : Int), (s5 : Int)⟩ : Cas) = (⟨(0 : Int), (0 : Int), (0 : Int), (0 : Int)⟩ : Cas)))) hg (I s))) H (fun hg => (zck r4 s (M.e_opt bK hg) _ (H.give (A := []) rfl)).mono fun v_ w_ ⟨y_, aY, bL, H_⟩ => by subst aY; exact ⟨bL, H.via H_⟩) ?_
   intro cv H
   refine s_val (x_por (b := decide ((⟨(s2 : Int), (s3 : Int), (s4 : Int), (s5 : Int)⟩ : Cas) = (⟨(0 : Int), (0 : Int), (0 : Int), (0 : Int)⟩ : Cas))) (r := r5) rfl rfl (fun hb => gd_of (c := !(decide ((⟨(s2 : Int), (s3 : Int), (s4 : Int), (s5 : Int)⟩ : Cas) = (⟨(0 : Int), (0 : Int), (0 : Int), (0 : Int)⟩ : Cas)))) (by first | exact hb | (rw [hb]; rfl) | simp_all) (B r5))) ?_
   refine s_nil ?_
   refine W.cond ((decide ((⟨(s2 : Int), (s3 : Int), (s4 : Int), (s5 : Int)⟩ : Cas) = (⟨(0 : Int), (0 : Int), (0 : Int), (0 : Int)⟩ : Cas))) || r5) rfl (fun aZ => ?_) (fun aZ => ?_)
   ·replace hM := M.e_t hM aZ
    refine W.region rfl ?_
    refine s_val (x_ld (p := Pq aS) (v := .agg #[I r1, I x, I r_.lo, I r_.lo]) rfl (ldb_ag (ds := [I r1, I x, I r_.lo, I r_.lo]) Ag64 Sz64 (H.bl 1) rfl rfl)) ?_
    refine zM (I r4) rfl ?_
    refine t_sw 3 0 [I r1, I x, I r_.lo, I r_.lo] (.agg #[I r1, I x, I r_.lo, I r_.lo]) H rfl rfl Sz64 rfl rfl rfl rfl ?_
    intro cw H
    refine t_sw 2 0 [I r4] (I r4) H rfl rfl Sz3 rfl rfl rfl rfl ?_
    intro cx H
    refine s_nil ?_
    exact ⟨(r4, r1, x, r_.lo, r_.lo), [cBlk ay [I r4] 3, cBlk ax [I r1, I x, I r_.lo, I r_.lo] 64, cMemI encSpt ai (zaa aa ab ac)], (M.e_pure hM).symm, rfl, H.pick [2, 3, 0, 12, 4, 5, 6, 7, 8, 9, 10, 11] (by decide) rfl⟩
   replace hM := M.e_f hM aZ
   refine W.skip ?_
   exact ⟨(s, s2, s3, s4, s5), [cBlk ay [I s] 3, cBlk ax [I s2, I s3, I s4, I s5] 64, cMemI encSpt ai (zaa aa ab ac)], (M.e_pure hM).symm, rfl, H.pick [2, 3, 0, 12, 4, 5, 6, 7, 8, 9, 10, 11] (by decide) rfl⟩
  replace hM := M.e_f hM aX
  exact (M.e_fail hM).elim
 replace H : St w bF (cAll (cObj aP (.loop aV) :: [cBlk ay [I 0] 3, cBlk ax [I 0, I 0, I 0, I 0] 64, cMemI encSpt ai (zaa aa ab ac)]) :: [cMk (aQ :: ([])), cBlk aE [I aC, I aD] 44, cBlk ao [I 0, I 0, I 0, I 0] 64, cBlk aj [.func (.func 83) #[] #[]] 123, cBlk ae [I r_.up, I r_.down, I r_.lo, I r_.hi, B r_.narrow] 56, cBlk am [Pq ag] 72, cBlk ap [I r0, I r1] 44, cBlk az [I r_.lo] 3, cBlk aA [B r2] 4]) R := St.bundleB (A := cObj aP (.loop aV) :: [cBlk ay [I 0] 3, cBlk ax [I 0, I 0, I 0, I 0] 64, cMemI encSpt ai (zaa aa ab ac)]) (T := [cMk (aQ :: ([])), cBlk aE [I aC, I aD] 44, cBlk ao [I 0, I 0, I 0, I 0] 64, cBlk aj [.func (.func 83) #[] #[]] 123, cBlk ae [I r_.up, I r_.down, I r_.lo, I r_.hi, B r_.narrow] 56, cBlk am [Pq ag] 72, cBlk ap [I r0, I r1] 44, cBlk az [I r_.lo] 3, cBlk aA [B r2] 4]) rfl (H.pk [0, 2, 3, 4, 1, 5, 6, 7, 8, 9, 10, 11, 12])
 refine (zcx (M.yl (zat aa ab ac r_ r1 r2)) (.inl (0, 0, 0, 0, 0)) aC aD hYC ⟨_, rfl, rfl⟩ (Has.here (k := 1) rfl) bE _ (H.gt 9)).mono ?_
 rintro vq cy ⟨bM, cz, bN, hvq, aq, bg⟩
 subst bN
 replace H := H.back aq rfl
 clear aq hYC
 rcases bM with ⟨s, s2, s3, s4, s5⟩ | _
 ·try dsimp only at hM
  obtain ⟨_, rfl, rfl⟩ := bg
  refine ⟨_, [cBlk ay [I s] 3, cBlk ax [I s2, I s3, I s4, I s5] 64, cMemI encSpt ai (zaa aa ab ac), cBlk aE [I aC, I aD] 44, cBlk ao [I 0, I 0, I 0, I 0] 64, cBlk aj [.func (.func 83) #[] #[]] 123, cBlk ae [I r_.up, I r_.down, I r_.lo, I r_.hi, B r_.narrow] 56, cBlk am [Pq ag] 72, cBlk ap [I r0, I r1] 44, cBlk az [I r_.lo] 3, cBlk aA [B r2] 4], H.unbundle.pick [0, 4, 1, 2, 3, 5, 6, 7, 8, 9, 10, 11, 12] (by decide) rfl, aW.nb, ?_⟩
  intro cA H
  rw [aW.pd]
  replace H := H.nf
  try simp only []
  replace H := H.pk [0, 1, 2, 3, 5]
  refine WD.seq ?_
  refine WD.of ?_
  refine W.draw (fun W => St w W [cMk (aQ :: ([])), cBlk ay [I s] 3, cBlk ax [I s2, I s3, I s4, I s5] 64, cMemI encSpt ai (zaa aa ab ac)] R) [(0, true), (1, true), (2, false), (3, true)] mixed (by decide +kernel) rfl ?_
  intro cB aJ
  replace H := H.ext aJ
  clear aJ
  refine ⟨(H.pk [0, 1, 2, 3]), ?_⟩
  refine d_q rfl (fun w' H => x_ld (p := Pq ax) (v := .agg #[I s2, I s3, I s4, I s5]) rfl (ldb_ag (ds := [I s2, I s3, I s4, I s5]) Ag64 Sz64 (H.bl 2) rfl rfl)) ?_
  refine d_q rfl (fun w' H => x_ld (p := Pq ay) (v := I s) rfl (ldb_sc Sc3 (H.bl 1) rfl)) ?_
  refine d_l rfl ?_
  refine t_sw 4 0 [I s2, I s3, I s4, I s5] (.agg #[I s2, I s3, I s4, I s5]) H rfl rfl Sz64 rfl rfl rfl rfl ?_
  intro cC H
  refine s_nil ⟨(H.pk [0, 1, 2, 3]), ?_⟩
  refine d_q rfl (fun w' H => x_as (v := I s) rfl) ?_
  refine d_nil ?_
  replace H := H.pk [0, 3, 4]
  refine WD.of ?_
  refine W.ret ?_
  refine bodyD_r (H.pk [0, 1, 2]) ?_
  intro cD H
  replace H := H.nf
  have bO := (H.bl 1)
  have aY := M.e_pure hM
  exact ⟨_, (resE_ofn (vs := [.agg #[I s2, I s3, I s4, I s5], I s]) rfl rfl (.cell (v := .agg #[I s2, I s3, I s4, I s5]) rfl (run_loadVar_ag (ds := [I s2, I s3, I s4, I s5]) Ag64 Sz64 bO rfl rfl) <| .tmp (v := I s) rfl <| .nil)), ⟨s2, s3, s4, s5, s, aY, rfl, (H.pk [0])⟩⟩
 obtain ⟨_, _, h_⟩ := bg; exact h_.elim

def zbx (aa : List Sect) (ab : List Mrk) (ac : List Rch) (marks : List Int) (r_ : Rch) : M (Int × Int) :=
  M.bind (zb2) fun (_ : Unit) =>
  M.bind (zaW aa ab ac marks r_) fun (ag, ai, aj, ak, r1) =>
  M.bind (zb0) fun (_ : Unit) =>
  M.bind (za6 aa ab ac marks r_) fun (am, ao, ap, aq, ae) =>
  M.pure (r1, ae)
theorem zdc {R : List Chunk} {ap : Nat} {aN : Cells} {aO : Value} {aP : Cells} {aQ : Value} {aR : Cells} {aS : Value} {aM : Nat} {aT : Cells} {aq : Value} (av : List Sect) (aw : List Mrk) (ax : List Rch) (marks : List Int) (r_ : Rch) (ay : Reads R aN) (az : Sl aN aO av) (aA : Reads R aP) (aB : Sl aP aQ aw) (aC : Reads R aR) (aD : Sl aR aS ax) (aE : Has R (cBlk ap [aO, aQ, aS, .map (some aM)] 99)) (aF : Reads R aT) (aG : Sl aT aq marks) {r : (Int × Int)} (hM : (zbx av aw ax marks r_).Ends r) (w : World) (H : St w w [cMemI encSpt aM (zaa av aw ax)] R) : Ret Try.prog 33 #[Pq ap, aq, .agg #[I r_.up, I r_.down, I r_.lo, I r_.hi, B r_.narrow]] w fun v w' => ∃ (y0 : Int) (y1 : Int), (y0, y1) = r /\ v = .agg #[I y0, I y1] /\ St w w' [cMemI encSpt aM (zaa av aw ax)] R := by
 refine ret_of_W Try.func33 rfl rfl rfl ?_
 refine W.seq ?_
 refine W.region rfl ?_
 refine t_box (v := .agg #[I r_.up, I r_.down, I r_.lo, I r_.hi, B r_.narrow]) (cs := [I r_.up, I r_.down, I r_.lo, I r_.hi, B r_.narrow]) H rfl rfl ?_
 intro aI bU H
 refine t_alloc (cs := [I 0, I 0]) H Al44 rfl ?_
 intro aL bV H
 refine s_nil ?_
 refine W.seq ?_
 refine W.drawT (fun W => St w W [cBlk aL [I 0, I 0] 44, cBlk aI [I r_.up, I r_.down, I r_.lo, I r_.hi, B r_.narrow] 56] R) (.q 0 (.q 1 (.q 2 (.l2 3 (.l2 4 (.q 5 (.q 6 (.q 7 (.l 8 (.l 9 (.q 10 .nil)))))) 8 (.l 4 (.q 5 (.q 6 (.q 7 (.l 9 (.q 10 .nil))))))) 8 (.l 3 (.l 4 (.q 5 (.q 6 (.q 7 (.l 9 (.q 10 .nil))))))))))) mixed (by decide +kernel) rfl ?_
 intro bW aH
 replace H := H.ext aH
 clear aH
 refine ⟨(H.pk [0, 1]), ?_⟩
 refine t_q rfl (fun w' H => x_mv (v := Pq ap) rfl) ?_
 refine t_q rfl (fun w' H => x_mv (v := aq) rfl) ?_
 refine t_q rfl (fun w' H => x_ld (p := Pq aI) (v := .agg #[I r_.up, I r_.down, I r_.lo, I r_.hi, B r_.narrow]) rfl (ldb_ag (ds := [I r_.up, I r_.down, I r_.lo, I r_.hi, B r_.narrow]) Ag56 Sz56 (H.bl 1) rfl rfl)) ?_
 refine t_l2 rfl rfl ?_ ?_
 ·skip
  obtain ⟨bX, aU, hM⟩ := M.e_bind hM
  refine s_call cf51 [] rfl (zcy aU _ (H.gt 3)) ?_
  rintro vq bY ⟨aV, hvq, ai⟩
  subst aV
  subst vq
  try dsimp only at hM
  replace H := H.bk ai
  clear ai
  refine s_nil ⟨(H.pk [0, 1]), ?_⟩
  refine t_l2 rfl rfl ?_ ?_
  ·skip
   obtain ⟨bZ, aW, hM⟩ := M.e_bind hM
   refine s_call cf50 [Pq ap, aq, .agg #[I r_.up, I r_.down, I r_.lo, I r_.hi, B r_.narrow], .agg #[.func (.func 82) #[] #[]]] rfl (zce av aw ax marks r_ (ay.app _) az (aA.app _) aB (aC.app _) aD (aE.app _) (aF.app _) aG aW _ ((H.pk [2, 0, 1]).gt 2)) ?_
   rintro vq b3 ⟨aj, ak, am, ao, r1, aX, hvq, ai⟩
   subst aX
   subst vq
   try dsimp only at hM
   replace H := H.pk [2, 0, 1] |>.bk ai
   clear ai
   refine s_nil ⟨(H.pk [1, 2]), ?_⟩
   refine t_q rfl (fun w' H => x_mv (v := .tuple #[.agg #[I aj, I ak, I am, I ao], I r1]) rfl) ?_
   refine t_q rfl (fun w' H => x_ext (vs := [.agg #[I aj, I ak, I am, I ao], I r1]) (v := .agg #[I aj, I ak, I am, I ao]) rfl rfl) ?_
   refine t_q rfl (fun w' H => x_ext (vs := [.agg #[I aj, I ak, I am, I ao], I r1]) (v := I r1) rfl rfl) ?_
   refine t_l rfl ?_
   refine t_alloc (cs := [I 0, I 0, I 0, I 0]) H Al64 rfl ?_
   intro aK b4 H
   refine s_nil ⟨(H.pk [2, 3]), ?_⟩
   refine t_l rfl ?_
   refine t_sw 0 0 [I aj, I ak, I am, I ao] (.agg #[I aj, I ak, I am, I ao]) H rfl rfl Sz64 rfl rfl rfl rfl ?_
   intro b5 H
   refine s_nil ⟨(H.pk [2, 3]), ?_⟩
   refine t_q rfl (fun w' H => x_as (v := I r1) rfl) ?_
   refine t_nil ?_
   refine W.seq ?_
   refine W.drawT (fun W => St w W [cBlk aK [I aj, I ak, I am, I ao] 64, cBlk aL [I 0, I 0] 44, cBlk aI [I r_.up, I r_.down, I r_.lo, I r_.hi, B r_.narrow] 56] R) (.q 0 (.q 1 (.q 2 (.l2 3 (.l2 4 (.q 5 (.q 6 (.q 7 (.l 8 (.l 9 (.q 10 .nil)))))) 8 (.l 4 (.q 5 (.q 6 (.q 7 (.l 9 (.q 10 .nil))))))) 8 (.l 3 (.l 4 (.q 5 (.q 6 (.q 7 (.l 9 (.q 10 .nil))))))))))) mixed (by decide +kernel) rfl ?_
   intro b6 aH
   replace H := H.ext aH
   clear aH
   refine ⟨(H.pk [0, 2, 3]), ?_⟩
   refine t_q rfl (fun w' H => x_mv (v := Pq ap) rfl) ?_
   refine t_q rfl (fun w' H => x_mv (v := aq) rfl) ?_
   refine t_q rfl (fun w' H => x_ld (p := Pq aI) (v := .agg #[I r_.up, I r_.down, I r_.lo, I r_.hi, B r_.narrow]) rfl (ldb_ag (ds := [I r_.up, I r_.down, I r_.lo, I r_.hi, B r_.narrow]) Ag56 Sz56 (H.bl 2) rfl rfl)) ?_
   refine t_l2 rfl rfl ?_ ?_
   ·skip
    obtain ⟨b7, aY, hM⟩ := M.e_bind hM
    refine s_call cf52 [] rfl (zaH aY _ (H.gt 4)) ?_
    rintro vq b8 ⟨aZ, hvq, ai⟩
    subst aZ
    subst vq
    try dsimp only at hM
    replace H := H.bk ai
    clear ai
    refine s_nil ⟨(H.pk [0, 2, 3]), ?_⟩
    refine t_l2 rfl rfl ?_ ?_
    ·skip
     obtain ⟨b9, a6, hM⟩ := M.e_bind hM
     refine s_call cf50 [Pq ap, aq, .agg #[I r_.up, I r_.down, I r_.lo, I r_.hi, B r_.narrow], .agg #[.func (.func 83) #[] #[]]] rfl (zai av aw ax marks r_ (ay.app _) az (aA.app _) aB (aC.app _) aD (aE.app _) (aF.app _) aG a6 _ ((H.pk [1, 0, 2, 3]).gt 3)) ?_
     rintro vq cb ⟨ab, ac, ae, ag, aa, a7, hvq, ai⟩
     subst a7
     subst vq
     try dsimp only at hM
     replace H := H.pk [1, 0, 2, 3] |>.bk ai
     clear ai
     refine s_nil ⟨(H.pk [1, 2, 3]), ?_⟩
     refine t_q rfl (fun w' H => x_mv (v := .tuple #[.agg #[I ab, I ac, I ae, I ag], I aa]) rfl) ?_
     refine t_q rfl (fun w' H => x_ext (vs := [.agg #[I ab, I ac, I ae, I ag], I aa]) (v := .agg #[I ab, I ac, I ae, I ag]) rfl rfl) ?_
     refine t_q rfl (fun w' H => x_ext (vs := [.agg #[I ab, I ac, I ae, I ag], I aa]) (v := I aa) rfl rfl) ?_
     refine t_l rfl ?_
     refine t_alloc (cs := [I 0, I 0, I 0, I 0]) H Al64 rfl ?_
     intro aJ cc H
     refine s_nil ⟨(H.pk [2, 3, 4]), ?_⟩
     refine t_l rfl ?_
     refine t_sw 0 0 [I ab, I ac, I ae, I ag] (.agg #[I ab, I ac, I ae, I ag]) H rfl rfl Sz64 rfl rfl rfl rfl ?_
     intro cd H
     refine s_nil ⟨(H.pk [2, 3, 4]), ?_⟩
     refine t_q rfl (fun w' H => x_as (v := I aa) rfl) ?_
     refine t_nil ?_
     replace H := H.pk [1, 3]
     refine W.seq ?_
     refine W.region rfl ?_
     refine zM (I r1) rfl ?_
     refine zM (I aa) rfl ?_
     refine s_val (x_bld (ps := [(0, I r1), (1, I aa)]) (zs := [I 0, I 0]) (L' := [I r1, I aa]) rfl Try.underlying44 Al44 rfl (Bd44 Try.underlying44) (.cons (cs := [I r1]) rfl rfl rfl rfl rfl <| .cons (cs := [I aa]) rfl rfl rfl rfl rfl <| .nil)) ?_
     refine t_sw 1 0 [I r1, I aa] (.agg #[I r1, I aa]) H rfl rfl Sz44 rfl rfl rfl rfl ?_
     intro ce H
     refine s_nil ?_
     refine W.ret ?_
     have a8 := (H.bl 1)
     have au := M.e_pure hM
     exact ⟨_, (resE_of1 (v := .agg #[I r1, I aa]) rfl (.cell (v := .agg #[I r1, I aa]) rfl (run_loadVar_ag (ds := [I r1, I aa]) Ag44 Sz44 a8 rfl rfl) <| .nil)), ⟨r1, aa, au, rfl, (H.pk [0])⟩⟩
    skip
    refine t_alloc (cs := [I 0, I 0, I 0, I 0]) H Al64 rfl ?_
    intro aJ cf H
    refine s_nil ⟨(H.pk [1, 3, 4]), ?_⟩
    refine t_l rfl ?_
    obtain ⟨cg, ba, hM⟩ := M.e_bind hM
    refine s_call cf50 [Pq ap, aq, .agg #[I r_.up, I r_.down, I r_.lo, I r_.hi, B r_.narrow], .agg #[.func (.func 83) #[] #[]]] rfl (zai av aw ax marks r_ (ay.app _) az (aA.app _) aB (aC.app _) aD (aE.app _) (aF.app _) aG ba _ ((H.pk [2, 0, 1, 3, 4]).gt 4)) ?_
    rintro vq cj ⟨ab, ac, ae, ag, aa, bb, hvq, ai⟩
    subst bb
    subst vq
    try dsimp only at hM
    replace H := H.pk [2, 0, 1, 3, 4] |>.bk ai
    clear ai
    refine s_nil ⟨(H.pk [2, 3, 4]), ?_⟩
    refine t_q rfl (fun w' H => x_mv (v := .tuple #[.agg #[I ab, I ac, I ae, I ag], I aa]) rfl) ?_
    refine t_q rfl (fun w' H => x_ext (vs := [.agg #[I ab, I ac, I ae, I ag], I aa]) (v := .agg #[I ab, I ac, I ae, I ag]) rfl rfl) ?_
    refine t_q rfl (fun w' H => x_ext (vs := [.agg #[I ab, I ac, I ae, I ag], I aa]) (v := I aa) rfl rfl) ?_
    refine t_l rfl ?_
    refine t_sw 1 0 [I ab, I ac, I ae, I ag] (.agg #[I ab, I ac, I ae, I ag]) H rfl rfl Sz64 rfl rfl rfl rfl ?_
    intro ck H
    refine s_nil ⟨(H.pk [2, 3, 4]), ?_⟩
    refine t_q rfl (fun w' H => x_as (v := I aa) rfl) ?_
    refine t_nil ?_
    replace H := H.pk [0, 3]
    refine W.seq ?_
    refine W.region rfl ?_
    refine zM (I r1) rfl ?_
    refine zM (I aa) rfl ?_
    refine s_val (x_bld (ps := [(0, I r1), (1, I aa)]) (zs := [I 0, I 0]) (L' := [I r1, I aa]) rfl Try.underlying44 Al44 rfl (Bd44 Try.underlying44) (.cons (cs := [I r1]) rfl rfl rfl rfl rfl <| .cons (cs := [I aa]) rfl rfl rfl rfl rfl <| .nil)) ?_
    refine t_sw 1 0 [I r1, I aa] (.agg #[I r1, I aa]) H rfl rfl Sz44 rfl rfl rfl rfl ?_
    intro cn H
    refine s_nil ?_
    refine W.ret ?_
    have bc := (H.bl 1)
    have au := M.e_pure hM
    exact ⟨_, (resE_of1 (v := .agg #[I r1, I aa]) rfl (.cell (v := .agg #[I r1, I aa]) rfl (run_loadVar_ag (ds := [I r1, I aa]) Ag44 Sz44 bc rfl rfl) <| .nil)), ⟨r1, aa, au, rfl, (H.pk [0])⟩⟩
   skip
   refine t_alloc (cs := [I 0, I 0, I 0, I 0]) H Al64 rfl ?_
   intro aJ co H
   refine s_nil ⟨(H.pk [1, 3, 4]), ?_⟩
   refine t_l rfl ?_
   obtain ⟨cp, bf, hM⟩ := M.e_bind hM
   refine s_call cf52 [] rfl (zaH bf _ (H.gt 5)) ?_
   rintro vq cq ⟨bg, hvq, ai⟩
   subst bg
   subst vq
   try dsimp only at hM
   replace H := H.bk ai
   clear ai
   refine s_nil ⟨(H.pk [1, 3, 4]), ?_⟩
   refine t_l rfl ?_
   obtain ⟨cr, bh, hM⟩ := M.e_bind hM
   refine s_call cf50 [Pq ap, aq, .agg #[I r_.up, I r_.down, I r_.lo, I r_.hi, B r_.narrow], .agg #[.func (.func 83) #[] #[]]] rfl (zai av aw ax marks r_ (ay.app _) az (aA.app _) aB (aC.app _) aD (aE.app _) (aF.app _) aG bh _ ((H.pk [2, 0, 1, 3, 4]).gt 4)) ?_
   rintro vq ct ⟨ab, ac, ae, ag, aa, bi, hvq, ai⟩
   subst bi
   subst vq
   try dsimp only at hM
   replace H := H.pk [2, 0, 1, 3, 4] |>.bk ai
   clear ai
   refine s_nil ⟨(H.pk [2, 3, 4]), ?_⟩
   refine t_q rfl (fun w' H => x_mv (v := .tuple #[.agg #[I ab, I ac, I ae, I ag], I aa]) rfl) ?_
   refine t_q rfl (fun w' H => x_ext (vs := [.agg #[I ab, I ac, I ae, I ag], I aa]) (v := .agg #[I ab, I ac, I ae, I ag]) rfl rfl) ?_
   refine t_q rfl (fun w' H => x_ext (vs := [.agg #[I ab, I ac, I ae, I ag], I aa]) (v := I aa) rfl rfl) ?_
   refine t_l rfl ?_
   refine t_sw 1 0 [I ab, I ac, I ae, I ag] (.agg #[I ab, I ac, I ae, I ag]) H rfl rfl Sz64 rfl rfl rfl rfl ?_
   intro cu H
   refine s_nil ⟨(H.pk [2, 3, 4]), ?_⟩
   refine t_q rfl (fun w' H => x_as (v := I aa) rfl) ?_
   refine t_nil ?_
   replace H := H.pk [0, 3]
   refine W.seq ?_
   refine W.region rfl ?_
   refine zM (I r1) rfl ?_
   refine zM (I aa) rfl ?_
   refine s_val (x_bld (ps := [(0, I r1), (1, I aa)]) (zs := [I 0, I 0]) (L' := [I r1, I aa]) rfl Try.underlying44 Al44 rfl (Bd44 Try.underlying44) (.cons (cs := [I r1]) rfl rfl rfl rfl rfl <| .cons (cs := [I aa]) rfl rfl rfl rfl rfl <| .nil)) ?_
   refine t_sw 1 0 [I r1, I aa] (.agg #[I r1, I aa]) H rfl rfl Sz44 rfl rfl rfl rfl ?_
   intro cv H
   refine s_nil ?_
   refine W.ret ?_
   have bj := (H.bl 1)
   have au := M.e_pure hM
   exact ⟨_, (resE_of1 (v := .agg #[I r1, I aa]) rfl (.cell (v := .agg #[I r1, I aa]) rfl (run_loadVar_ag (ds := [I r1, I aa]) Ag44 Sz44 bj rfl rfl) <| .nil)), ⟨r1, aa, au, rfl, (H.pk [0])⟩⟩
  skip
  refine t_alloc (cs := [I 0, I 0, I 0, I 0]) H Al64 rfl ?_
  intro aK cw H
  refine s_nil ⟨(H.pk [1, 2]), ?_⟩
  refine t_l rfl ?_
  obtain ⟨cx, bm, hM⟩ := M.e_bind hM
  refine s_call cf50 [Pq ap, aq, .agg #[I r_.up, I r_.down, I r_.lo, I r_.hi, B r_.narrow], .agg #[.func (.func 82) #[] #[]]] rfl (zce av aw ax marks r_ (ay.app _) az (aA.app _) aB (aC.app _) aD (aE.app _) (aF.app _) aG bm _ ((H.pk [3, 0, 1, 2]).gt 3)) ?_
  rintro vq cy ⟨aj, ak, am, ao, r1, bn, hvq, ai⟩
  subst bn
  subst vq
  try dsimp only at hM
  replace H := H.pk [3, 0, 1, 2] |>.bk ai
  clear ai
  refine s_nil ⟨(H.pk [2, 3]), ?_⟩
  refine t_q rfl (fun w' H => x_mv (v := .tuple #[.agg #[I aj, I ak, I am, I ao], I r1]) rfl) ?_
  refine t_q rfl (fun w' H => x_ext (vs := [.agg #[I aj, I ak, I am, I ao], I r1]) (v := .agg #[I aj, I ak, I am, I ao]) rfl rfl) ?_
  refine t_q rfl (fun w' H => x_ext (vs := [.agg #[I aj, I ak, I am, I ao], I r1]) (v := I r1) rfl rfl) ?_
  refine t_l rfl ?_
  refine t_sw 1 0 [I aj, I ak, I am, I ao] (.agg #[I aj, I ak, I am, I ao]) H rfl rfl Sz64 rfl rfl rfl rfl ?_
  intro cz H
  refine s_nil ⟨(H.pk [2, 3]), ?_⟩
  refine t_q rfl (fun w' H => x_as (v := I r1) rfl) ?_
  refine t_nil ?_
  refine W.seq ?_
  refine W.drawT (fun W => St w W [cBlk aK [I aj, I ak, I am, I ao] 64, cBlk aL [I 0, I 0] 44, cBlk aI [I r_.up, I r_.down, I r_.lo, I r_.hi, B r_.narrow] 56] R) (.q 0 (.q 1 (.q 2 (.l2 3 (.l2 4 (.q 5 (.q 6 (.q 7 (.l 8 (.l 9 (.q 10 .nil)))))) 8 (.l 4 (.q 5 (.q 6 (.q 7 (.l 9 (.q 10 .nil))))))) 8 (.l 3 (.l 4 (.q 5 (.q 6 (.q 7 (.l 9 (.q 10 .nil))))))))))) mixed (by decide +kernel) rfl ?_
  intro cA aH
  replace H := H.ext aH
  clear aH
  refine ⟨(H.pk [1, 2, 3]), ?_⟩
  refine t_q rfl (fun w' H => x_mv (v := Pq ap) rfl) ?_
  refine t_q rfl (fun w' H => x_mv (v := aq) rfl) ?_
  refine t_q rfl (fun w' H => x_ld (p := Pq aI) (v := .agg #[I r_.up, I r_.down, I r_.lo, I r_.hi, B r_.narrow]) rfl (ldb_ag (ds := [I r_.up, I r_.down, I r_.lo, I r_.hi, B r_.narrow]) Ag56 Sz56 (H.bl 2) rfl rfl)) ?_
  refine t_l2 rfl rfl ?_ ?_
  ·skip
   obtain ⟨cB, bo, hM⟩ := M.e_bind hM
   refine s_call cf52 [] rfl (zaH bo _ (H.gt 4)) ?_
   rintro vq cC ⟨bp, hvq, ai⟩
   subst bp
   subst vq
   try dsimp only at hM
   replace H := H.bk ai
   clear ai
   refine s_nil ⟨(H.pk [1, 2, 3]), ?_⟩
   refine t_l2 rfl rfl ?_ ?_
   ·skip
    obtain ⟨cD, bq, hM⟩ := M.e_bind hM
    refine s_call cf50 [Pq ap, aq, .agg #[I r_.up, I r_.down, I r_.lo, I r_.hi, B r_.narrow], .agg #[.func (.func 83) #[] #[]]] rfl (zai av aw ax marks r_ (ay.app _) az (aA.app _) aB (aC.app _) aD (aE.app _) (aF.app _) aG bq _ (H.gt 3)) ?_
    rintro vq cE ⟨ab, ac, ae, ag, aa, br, hvq, ai⟩
    subst br
    subst vq
    try dsimp only at hM
    replace H := H.bk ai
    clear ai
    refine s_nil ⟨(H.pk [1, 2, 3]), ?_⟩
    refine t_q rfl (fun w' H => x_mv (v := .tuple #[.agg #[I ab, I ac, I ae, I ag], I aa]) rfl) ?_
    refine t_q rfl (fun w' H => x_ext (vs := [.agg #[I ab, I ac, I ae, I ag], I aa]) (v := .agg #[I ab, I ac, I ae, I ag]) rfl rfl) ?_
    refine t_q rfl (fun w' H => x_ext (vs := [.agg #[I ab, I ac, I ae, I ag], I aa]) (v := I aa) rfl rfl) ?_
    refine t_l rfl ?_
    refine t_alloc (cs := [I 0, I 0, I 0, I 0]) H Al64 rfl ?_
    intro aJ cF H
    refine s_nil ⟨(H.pk [2, 3, 4]), ?_⟩
    refine t_l rfl ?_
    refine t_sw 0 0 [I ab, I ac, I ae, I ag] (.agg #[I ab, I ac, I ae, I ag]) H rfl rfl Sz64 rfl rfl rfl rfl ?_
    intro cG H
    refine s_nil ⟨(H.pk [2, 3, 4]), ?_⟩
    refine t_q rfl (fun w' H => x_as (v := I aa) rfl) ?_
    refine t_nil ?_
    replace H := H.pk [1, 3]
    refine W.seq ?_
    refine W.region rfl ?_
    refine zM (I r1) rfl ?_
    refine zM (I aa) rfl ?_
    refine s_val (x_bld (ps := [(0, I r1), (1, I aa)]) (zs := [I 0, I 0]) (L' := [I r1, I aa]) rfl Try.underlying44 Al44 rfl (Bd44 Try.underlying44) (.cons (cs := [I r1]) rfl rfl rfl rfl rfl <| .cons (cs := [I aa]) rfl rfl rfl rfl rfl <| .nil)) ?_
    refine t_sw 1 0 [I r1, I aa] (.agg #[I r1, I aa]) H rfl rfl Sz44 rfl rfl rfl rfl ?_
    intro cH H
    refine s_nil ?_
    refine W.ret ?_
    have bt := (H.bl 1)
    have au := M.e_pure hM
    exact ⟨_, (resE_of1 (v := .agg #[I r1, I aa]) rfl (.cell (v := .agg #[I r1, I aa]) rfl (run_loadVar_ag (ds := [I r1, I aa]) Ag44 Sz44 bt rfl rfl) <| .nil)), ⟨r1, aa, au, rfl, (H.pk [0])⟩⟩
   skip
   refine t_alloc (cs := [I 0, I 0, I 0, I 0]) H Al64 rfl ?_
   intro aJ cI H
   refine s_nil ⟨(H.pk [2, 3, 4]), ?_⟩
   refine t_l rfl ?_
   obtain ⟨cJ, bu, hM⟩ := M.e_bind hM
   refine s_call cf50 [Pq ap, aq, .agg #[I r_.up, I r_.down, I r_.lo, I r_.hi, B r_.narrow], .agg #[.func (.func 83) #[] #[]]] rfl (zai av aw ax marks r_ (ay.app _) az (aA.app _) aB (aC.app _) aD (aE.app _) (aF.app _) aG bu _ ((H.pk [1, 0, 2, 3, 4]).gt 4)) ?_
   rintro vq cK ⟨ab, ac, ae, ag, aa, bv, hvq, ai⟩
   subst bv
   subst vq
   try dsimp only at hM
   replace H := H.pk [1, 0, 2, 3, 4] |>.bk ai
   clear ai
   refine s_nil ⟨(H.pk [2, 3, 4]), ?_⟩
   refine t_q rfl (fun w' H => x_mv (v := .tuple #[.agg #[I ab, I ac, I ae, I ag], I aa]) rfl) ?_
   refine t_q rfl (fun w' H => x_ext (vs := [.agg #[I ab, I ac, I ae, I ag], I aa]) (v := .agg #[I ab, I ac, I ae, I ag]) rfl rfl) ?_
   refine t_q rfl (fun w' H => x_ext (vs := [.agg #[I ab, I ac, I ae, I ag], I aa]) (v := I aa) rfl rfl) ?_
   refine t_l rfl ?_
   refine t_sw 1 0 [I ab, I ac, I ae, I ag] (.agg #[I ab, I ac, I ae, I ag]) H rfl rfl Sz64 rfl rfl rfl rfl ?_
   intro cL H
   refine s_nil ⟨(H.pk [2, 3, 4]), ?_⟩
   refine t_q rfl (fun w' H => x_as (v := I aa) rfl) ?_
   refine t_nil ?_
   replace H := H.pk [0, 3]
   refine W.seq ?_
   refine W.region rfl ?_
   refine zM (I r1) rfl ?_
   refine zM (I aa) rfl ?_
   refine s_val (x_bld (ps := [(0, I r1), (1, I aa)]) (zs := [I 0, I 0]) (L' := [I r1, I aa]) rfl Try.underlying44 Al44 rfl (Bd44 Try.underlying44) (.cons (cs := [I r1]) rfl rfl rfl rfl rfl <| .cons (cs := [I aa]) rfl rfl rfl rfl rfl <| .nil)) ?_
   refine t_sw 1 0 [I r1, I aa] (.agg #[I r1, I aa]) H rfl rfl Sz44 rfl rfl rfl rfl ?_
   intro cM H
   refine s_nil ?_
   refine W.ret ?_
   have bw := (H.bl 1)
   have au := M.e_pure hM
   exact ⟨_, (resE_of1 (v := .agg #[I r1, I aa]) rfl (.cell (v := .agg #[I r1, I aa]) rfl (run_loadVar_ag (ds := [I r1, I aa]) Ag44 Sz44 bw rfl rfl) <| .nil)), ⟨r1, aa, au, rfl, (H.pk [0])⟩⟩
  skip
  refine t_alloc (cs := [I 0, I 0, I 0, I 0]) H Al64 rfl ?_
  intro aJ cN H
  refine s_nil ⟨(H.pk [2, 3, 4]), ?_⟩
  refine t_l rfl ?_
  obtain ⟨cO, bx, hM⟩ := M.e_bind hM
  refine s_call cf52 [] rfl (zaH bx _ (H.gt 5)) ?_
  rintro vq cP ⟨bz, hvq, ai⟩
  subst bz
  subst vq
  try dsimp only at hM
  replace H := H.bk ai
  clear ai
  refine s_nil ⟨(H.pk [2, 3, 4]), ?_⟩
  refine t_l rfl ?_
  obtain ⟨cQ, bA, hM⟩ := M.e_bind hM
  refine s_call cf50 [Pq ap, aq, .agg #[I r_.up, I r_.down, I r_.lo, I r_.hi, B r_.narrow], .agg #[.func (.func 83) #[] #[]]] rfl (zai av aw ax marks r_ (ay.app _) az (aA.app _) aB (aC.app _) aD (aE.app _) (aF.app _) aG bA _ ((H.pk [1, 0, 2, 3, 4]).gt 4)) ?_
  rintro vq cR ⟨ab, ac, ae, ag, aa, bB, hvq, ai⟩
  subst bB
  subst vq
  try dsimp only at hM
  replace H := H.pk [1, 0, 2, 3, 4] |>.bk ai
  clear ai
  refine s_nil ⟨(H.pk [2, 3, 4]), ?_⟩
  refine t_q rfl (fun w' H => x_mv (v := .tuple #[.agg #[I ab, I ac, I ae, I ag], I aa]) rfl) ?_
  refine t_q rfl (fun w' H => x_ext (vs := [.agg #[I ab, I ac, I ae, I ag], I aa]) (v := .agg #[I ab, I ac, I ae, I ag]) rfl rfl) ?_
  refine t_q rfl (fun w' H => x_ext (vs := [.agg #[I ab, I ac, I ae, I ag], I aa]) (v := I aa) rfl rfl) ?_
  refine t_l rfl ?_
  refine t_sw 1 0 [I ab, I ac, I ae, I ag] (.agg #[I ab, I ac, I ae, I ag]) H rfl rfl Sz64 rfl rfl rfl rfl ?_
  intro cS H
  refine s_nil ⟨(H.pk [2, 3, 4]), ?_⟩
  refine t_q rfl (fun w' H => x_as (v := I aa) rfl) ?_
  refine t_nil ?_
  replace H := H.pk [0, 3]
  refine W.seq ?_
  refine W.region rfl ?_
  refine zM (I r1) rfl ?_
  refine zM (I aa) rfl ?_
  refine s_val (x_bld (ps := [(0, I r1), (1, I aa)]) (zs := [I 0, I 0]) (L' := [I r1, I aa]) rfl Try.underlying44 Al44 rfl (Bd44 Try.underlying44) (.cons (cs := [I r1]) rfl rfl rfl rfl rfl <| .cons (cs := [I aa]) rfl rfl rfl rfl rfl <| .nil)) ?_
  refine t_sw 1 0 [I r1, I aa] (.agg #[I r1, I aa]) H rfl rfl Sz44 rfl rfl rfl rfl ?_
  intro cT H
  refine s_nil ?_
  refine W.ret ?_
  have bC := (H.bl 1)
  have au := M.e_pure hM
  exact ⟨_, (resE_of1 (v := .agg #[I r1, I aa]) rfl (.cell (v := .agg #[I r1, I aa]) rfl (run_loadVar_ag (ds := [I r1, I aa]) Ag44 Sz44 bC rfl rfl) <| .nil)), ⟨r1, aa, au, rfl, (H.pk [0])⟩⟩
 skip
 refine t_alloc (cs := [I 0, I 0, I 0, I 0]) H Al64 rfl ?_
 intro aK cU H
 refine s_nil ⟨(H.pk [1, 2]), ?_⟩
 refine t_l rfl ?_
 obtain ⟨cV, bD, hM⟩ := M.e_bind hM
 refine s_call cf51 [] rfl (zcy bD _ (H.gt 4)) ?_
 rintro vq cW ⟨bE, hvq, ai⟩
 subst bE
 subst vq
 try dsimp only at hM
 replace H := H.bk ai
 clear ai
 refine s_nil ⟨(H.pk [1, 2]), ?_⟩
 refine t_l rfl ?_
 obtain ⟨cX, bF, hM⟩ := M.e_bind hM
 refine s_call cf50 [Pq ap, aq, .agg #[I r_.up, I r_.down, I r_.lo, I r_.hi, B r_.narrow], .agg #[.func (.func 82) #[] #[]]] rfl (zce av aw ax marks r_ (ay.app _) az (aA.app _) aB (aC.app _) aD (aE.app _) (aF.app _) aG bF _ ((H.pk [3, 0, 1, 2]).gt 3)) ?_
 rintro vq cY ⟨aj, ak, am, ao, r1, bG, hvq, ai⟩
 subst bG
 subst vq
 try dsimp only at hM
 replace H := H.pk [3, 0, 1, 2] |>.bk ai
 clear ai
 refine s_nil ⟨(H.pk [2, 3]), ?_⟩
 refine t_q rfl (fun w' H => x_mv (v := .tuple #[.agg #[I aj, I ak, I am, I ao], I r1]) rfl) ?_
 refine t_q rfl (fun w' H => x_ext (vs := [.agg #[I aj, I ak, I am, I ao], I r1]) (v := .agg #[I aj, I ak, I am, I ao]) rfl rfl) ?_
 refine t_q rfl (fun w' H => x_ext (vs := [.agg #[I aj, I ak, I am, I ao], I r1]) (v := I r1) rfl rfl) ?_
 refine t_l rfl ?_
 refine t_sw 1 0 [I aj, I ak, I am, I ao] (.agg #[I aj, I ak, I am, I ao]) H rfl rfl Sz64 rfl rfl rfl rfl ?_
 intro cZ H
 refine s_nil ⟨(H.pk [2, 3]), ?_⟩
 refine t_q rfl (fun w' H => x_as (v := I r1) rfl) ?_
 refine t_nil ?_
 refine W.seq ?_
 refine W.drawT (fun W => St w W [cBlk aK [I aj, I ak, I am, I ao] 64, cBlk aL [I 0, I 0] 44, cBlk aI [I r_.up, I r_.down, I r_.lo, I r_.hi, B r_.narrow] 56] R) (.q 0 (.q 1 (.q 2 (.l2 3 (.l2 4 (.q 5 (.q 6 (.q 7 (.l 8 (.l 9 (.q 10 .nil)))))) 8 (.l 4 (.q 5 (.q 6 (.q 7 (.l 9 (.q 10 .nil))))))) 8 (.l 3 (.l 4 (.q 5 (.q 6 (.q 7 (.l 9 (.q 10 .nil))))))))))) mixed (by decide +kernel) rfl ?_
 intro c8 aH
 replace H := H.ext aH
 clear aH
 refine ⟨(H.pk [1, 2, 3]), ?_⟩
 refine t_q rfl (fun w' H => x_mv (v := Pq ap) rfl) ?_
 refine t_q rfl (fun w' H => x_mv (v := aq) rfl) ?_
 refine t_q rfl (fun w' H => x_ld (p := Pq aI) (v := .agg #[I r_.up, I r_.down, I r_.lo, I r_.hi, B r_.narrow]) rfl (ldb_ag (ds := [I r_.up, I r_.down, I r_.lo, I r_.hi, B r_.narrow]) Ag56 Sz56 (H.bl 2) rfl rfl)) ?_
 refine t_l2 rfl rfl ?_ ?_
 ·skip
  obtain ⟨c9, bH, hM⟩ := M.e_bind hM
  refine s_call cf52 [] rfl (zaH bH _ (H.gt 4)) ?_
  rintro vq da ⟨bI, hvq, ai⟩
  subst bI
  subst vq
  try dsimp only at hM
  replace H := H.bk ai
  clear ai
  refine s_nil ⟨(H.pk [1, 2, 3]), ?_⟩
  refine t_l2 rfl rfl ?_ ?_
  ·skip
   obtain ⟨db, bJ, hM⟩ := M.e_bind hM
   refine s_call cf50 [Pq ap, aq, .agg #[I r_.up, I r_.down, I r_.lo, I r_.hi, B r_.narrow], .agg #[.func (.func 83) #[] #[]]] rfl (zai av aw ax marks r_ (ay.app _) az (aA.app _) aB (aC.app _) aD (aE.app _) (aF.app _) aG bJ _ (H.gt 3)) ?_
   rintro vq dc ⟨ab, ac, ae, ag, aa, bK, hvq, ai⟩
   subst bK
   subst vq
   try dsimp only at hM
   replace H := H.bk ai
   clear ai
   refine s_nil ⟨(H.pk [1, 2, 3]), ?_⟩
   refine t_q rfl (fun w' H => x_mv (v := .tuple #[.agg #[I ab, I ac, I ae, I ag], I aa]) rfl) ?_
   refine t_q rfl (fun w' H => x_ext (vs := [.agg #[I ab, I ac, I ae, I ag], I aa]) (v := .agg #[I ab, I ac, I ae, I ag]) rfl rfl) ?_
   refine t_q rfl (fun w' H => x_ext (vs := [.agg #[I ab, I ac, I ae, I ag], I aa]) (v := I aa) rfl rfl) ?_
   refine t_l rfl ?_
   refine t_alloc (cs := [I 0, I 0, I 0, I 0]) H Al64 rfl ?_
   intro aJ dd H
   refine s_nil ⟨(H.pk [2, 3, 4]), ?_⟩
   refine t_l rfl ?_
   refine t_sw 0 0 [I ab, I ac, I ae, I ag] (.agg #[I ab, I ac, I ae, I ag]) H rfl rfl Sz64 rfl rfl rfl rfl ?_
   intro de H
   refine s_nil ⟨(H.pk [2, 3, 4]), ?_⟩
   refine t_q rfl (fun w' H => x_as (v := I aa) rfl) ?_
   refine t_nil ?_
   replace H := H.pk [1, 3]
   refine W.seq ?_
   refine W.region rfl ?_
   refine zM (I r1) rfl ?_
   refine zM (I aa) rfl ?_
   refine s_val (x_bld (ps := [(0, I r1), (1, I aa)]) (zs := [I 0, I 0]) (L' := [I r1, I aa]) rfl Try.underlying44 Al44 rfl (Bd44 Try.underlying44) (.cons (cs := [I r1]) rfl rfl rfl rfl rfl <| .cons (cs := [I aa]) rfl rfl rfl rfl rfl <| .nil)) ?_
   refine t_sw 1 0 [I r1, I aa] (.agg #[I r1, I aa]) H rfl rfl Sz44 rfl rfl rfl rfl ?_
   intro dg H
   refine s_nil ?_
   refine W.ret ?_
   have bL := (H.bl 1)
   have au := M.e_pure hM
   exact ⟨_, (resE_of1 (v := .agg #[I r1, I aa]) rfl (.cell (v := .agg #[I r1, I aa]) rfl (run_loadVar_ag (ds := [I r1, I aa]) Ag44 Sz44 bL rfl rfl) <| .nil)), ⟨r1, aa, au, rfl, (H.pk [0])⟩⟩
  skip
  refine t_alloc (cs := [I 0, I 0, I 0, I 0]) H Al64 rfl ?_
  intro aJ dh H
  refine s_nil ⟨(H.pk [2, 3, 4]), ?_⟩
  refine t_l rfl ?_
  obtain ⟨di, bM, hM⟩ := M.e_bind hM
  refine s_call cf50 [Pq ap, aq, .agg #[I r_.up, I r_.down, I r_.lo, I r_.hi, B r_.narrow], .agg #[.func (.func 83) #[] #[]]] rfl (zai av aw ax marks r_ (ay.app _) az (aA.app _) aB (aC.app _) aD (aE.app _) (aF.app _) aG bM _ ((H.pk [1, 0, 2, 3, 4]).gt 4)) ?_
  rintro vq dj ⟨ab, ac, ae, ag, aa, bN, hvq, ai⟩
  subst bN
  subst vq
  try dsimp only at hM
  replace H := H.pk [1, 0, 2, 3, 4] |>.bk ai
  clear ai
  refine s_nil ⟨(H.pk [2, 3, 4]), ?_⟩
  refine t_q rfl (fun w' H => x_mv (v := .tuple #[.agg #[I ab, I ac, I ae, I ag], I aa]) rfl) ?_
  refine t_q rfl (fun w' H => x_ext (vs := [.agg #[I ab, I ac, I ae, I ag], I aa]) (v := .agg #[I ab, I ac, I ae, I ag]) rfl rfl) ?_
  refine t_q rfl (fun w' H => x_ext (vs := [.agg #[I ab, I ac, I ae, I ag], I aa]) (v := I aa) rfl rfl) ?_
  refine t_l rfl ?_
  refine t_sw 1 0 [I ab, I ac, I ae, I ag] (.agg #[I ab, I ac, I ae, I ag]) H rfl rfl Sz64 rfl rfl rfl rfl ?_
  intro dk H
  refine s_nil ⟨(H.pk [2, 3, 4]), ?_⟩
  refine t_q rfl (fun w' H => x_as (v := I aa) rfl) ?_
  refine t_nil ?_
  replace H := H.pk [0, 3]
  refine W.seq ?_
  refine W.region rfl ?_
  refine zM (I r1) rfl ?_
  refine zM (I aa) rfl ?_
  refine s_val (x_bld (ps := [(0, I r1), (1, I aa)]) (zs := [I 0, I 0]) (L' := [I r1, I aa]) rfl Try.underlying44 Al44 rfl (Bd44 Try.underlying44) (.cons (cs := [I r1]) rfl rfl rfl rfl rfl <| .cons (cs := [I aa]) rfl rfl rfl rfl rfl <| .nil)) ?_
  refine t_sw 1 0 [I r1, I aa] (.agg #[I r1, I aa]) H rfl rfl Sz44 rfl rfl rfl rfl ?_
  intro dm H
  refine s_nil ?_
  refine W.ret ?_
  have bO := (H.bl 1)
  have au := M.e_pure hM
  exact ⟨_, (resE_of1 (v := .agg #[I r1, I aa]) rfl (.cell (v := .agg #[I r1, I aa]) rfl (run_loadVar_ag (ds := [I r1, I aa]) Ag44 Sz44 bO rfl rfl) <| .nil)), ⟨r1, aa, au, rfl, (H.pk [0])⟩⟩
 skip
 refine t_alloc (cs := [I 0, I 0, I 0, I 0]) H Al64 rfl ?_
 intro aJ dp H
 refine s_nil ⟨(H.pk [2, 3, 4]), ?_⟩
 refine t_l rfl ?_
 obtain ⟨dq, bP, hM⟩ := M.e_bind hM
 refine s_call cf52 [] rfl (zaH bP _ (H.gt 5)) ?_
 rintro vq dr ⟨bQ, hvq, ai⟩
 subst bQ
 subst vq
 try dsimp only at hM
 replace H := H.bk ai
 clear ai
 refine s_nil ⟨(H.pk [2, 3, 4]), ?_⟩
 refine t_l rfl ?_
 obtain ⟨dt, bR, hM⟩ := M.e_bind hM
 refine s_call cf50 [Pq ap, aq, .agg #[I r_.up, I r_.down, I r_.lo, I r_.hi, B r_.narrow], .agg #[.func (.func 83) #[] #[]]] rfl (zai av aw ax marks r_ (ay.app _) az (aA.app _) aB (aC.app _) aD (aE.app _) (aF.app _) aG bR _ ((H.pk [1, 0, 2, 3, 4]).gt 4)) ?_
 rintro vq dv ⟨ab, ac, ae, ag, aa, bS, hvq, ai⟩
 subst bS
 subst vq
 try dsimp only at hM
 replace H := H.pk [1, 0, 2, 3, 4] |>.bk ai
 clear ai
 refine s_nil ⟨(H.pk [2, 3, 4]), ?_⟩
 refine t_q rfl (fun w' H => x_mv (v := .tuple #[.agg #[I ab, I ac, I ae, I ag], I aa]) rfl) ?_
 refine t_q rfl (fun w' H => x_ext (vs := [.agg #[I ab, I ac, I ae, I ag], I aa]) (v := .agg #[I ab, I ac, I ae, I ag]) rfl rfl) ?_
 refine t_q rfl (fun w' H => x_ext (vs := [.agg #[I ab, I ac, I ae, I ag], I aa]) (v := I aa) rfl rfl) ?_
 refine t_l rfl ?_
 refine t_sw 1 0 [I ab, I ac, I ae, I ag] (.agg #[I ab, I ac, I ae, I ag]) H rfl rfl Sz64 rfl rfl rfl rfl ?_
 intro dw H
 refine s_nil ⟨(H.pk [2, 3, 4]), ?_⟩
 refine t_q rfl (fun w' H => x_as (v := I aa) rfl) ?_
 refine t_nil ?_
 replace H := H.pk [0, 3]
 refine W.seq ?_
 refine W.region rfl ?_
 refine zM (I r1) rfl ?_
 refine zM (I aa) rfl ?_
 refine s_val (x_bld (ps := [(0, I r1), (1, I aa)]) (zs := [I 0, I 0]) (L' := [I r1, I aa]) rfl Try.underlying44 Al44 rfl (Bd44 Try.underlying44) (.cons (cs := [I r1]) rfl rfl rfl rfl rfl <| .cons (cs := [I aa]) rfl rfl rfl rfl rfl <| .nil)) ?_
 refine t_sw 1 0 [I r1, I aa] (.agg #[I r1, I aa]) H rfl rfl Sz44 rfl rfl rfl rfl ?_
 intro dx H
 refine s_nil ?_
 refine W.ret ?_
 have bT := (H.bl 1)
 have au := M.e_pure hM
 exact ⟨_, (resE_of1 (v := .agg #[I r1, I aa]) rfl (.cell (v := .agg #[I r1, I aa]) rfl (run_loadVar_ag (ds := [I r1, I aa]) Ag44 Sz44 bT rfl rfl) <| .nil)), ⟨r1, aa, au, rfl, (H.pk [0])⟩⟩

def zab (n : Int) (aa : Int) (greatest : Int) : M Bool :=
  M.pure ((decide (aa <= n)) && (decide (n <= greatest)))
theorem zac {R : List Chunk}  (n : Int) (aa : Int) (greatest : Int)  {r : Bool} (hM : (zab n aa greatest).Ends r) (w : World) (H : St w w [] R) : Ret Try.prog 34 #[I n, I aa, I greatest] w fun v w' => ∃ (y0 : Bool), y0 = r /\ v = B y0 /\ St w w' [] R := by
 refine ret_of_W Try.func34 rfl rfl rfl ?_
 refine W.seq ?_
 refine W.region rfl ?_
 refine zA (B false) rfl ?_
 refine s_nil ?_
 refine W.seq ?_
 refine W.region rfl ?_
 refine zM (I n) rfl ?_
 refine zM (I aa) rfl ?_
 refine zC n aa (decide (aa <= n)) rfl rfl rfl ?_
 refine zM (B (decide (aa <= n))) rfl ?_
 refine g_val (decide (aa <= n)) (gy_t rfl) (fun hg => x_mv (v := I n) rfl) ?_
 refine g_val (decide (aa <= n)) (gy_t rfl) (fun hg => x_mv (v := I greatest) rfl) ?_
 refine g_val (decide (aa <= n)) (gy_t rfl) (fun hg => x_cmp (kd := .i64) (a := n) (b := greatest) (r := decide (n <= greatest)) (gd_of (c := decide (aa <= n)) hg (I n)) (gd_of (c := decide (aa <= n)) hg (I greatest)) rfl) ?_
 refine s_val (x_pand (b := decide (aa <= n)) (r := decide (n <= greatest)) rfl (fun hb => gd_of (c := decide (aa <= n)) (by first | exact hb | (rw [hb]; rfl) | simp_all) (B (decide (n <= greatest)))) rfl) ?_
 refine zA (B ((decide (aa <= n)) && (decide (n <= greatest)))) rfl ?_
 refine s_nil ?_
 refine W.ret ?_
 have ab := M.e_pure hM
 exact ⟨_, resE_tmp rfl, ⟨((decide (aa <= n)) && (decide (n <= greatest))), ab, rfl, H⟩⟩

def zaQ (s : List Sect) (f : Sect -> M Bool) : Nat -> M (Nat ⊕ (Int ⊕ Unit)) := fun s2 =>
  bif decide ((s2 : Int) < (s.length : Int)) then (
  M.grd (decide ((s2 : Int) < (s.length : Int))) <|
  M.bind (f (s.getD s2 default)) fun r2 =>
  bif r2 then (
  M.pure (.inr (.inl (s2 : Int))))
  else (
  M.pure (.inl (s2 + 1))))
  else (
  M.pure (.inr (.inr ())))
def zb9 (s : List Sect) (f : Sect -> M Bool) : M Int :=
  M.bind (M.iter (zaQ s f) 0) fun x_ => match x_ with
  | (.inl s3) => (
  M.pure s3)
  | (.inr (_ : Unit)) => (
  M.pure (-1))
theorem zcK {R : List Chunk} {ao : Cells} {aa : Value} {ac : Value} (s : List Sect) (f : Sect -> M Bool) (ap : Reads R ao) (ae : Sl ao aa s) (aw : FnM Try.prog R ac f) {r : Int} (hM : (zb9 s f).Ends r) (w : World) (H : St w w [] R) : Ret Try.prog 102 #[aa, ac] w fun v w' => ∃ (y0 : Int), y0 = r /\ v = I y0 /\ St w w' [] R := by
 refine ret_of_W Try.func102 rfl rfl rfl ?_
 refine W.seq ?_
 refine W.region rfl ?_
 refine zA (I 0) rfl ?_
 refine s_nil ?_
 refine W.seq ?_
 refine W.seq ?_
 refine W.region rfl ?_
 refine zM aa rfl ?_
 have aF := (ae).len_le
 refine s_val (x_lenS T23.und rfl ae) ?_
 refine zM (I 0) rfl ?_
 refine s_nil ?_
 refine W.block ?_
 obtain ⟨ax, ai, aq⟩ := M.e_bind hM
 obtain ⟨aG, ai⟩ := M.e_iter ai
 refine W.loop (fun m σ W => ∃ (s2 : Nat) (ρ : Env), σ = upds ρ [(0, aa), (1, ac), (7, I (s.length : Int)), (8, I (s2 : Int))] /\ M.iterN (zaQ s f) m s2 = some ax /\ St w W [] R) ?_ ?_
 ·exact ⟨_, 0, _, upds_of _ _ ⟨rfl, rfl, rfl, rfl, trivial⟩, ai, H⟩
 rintro aH σ aI ⟨s2, ρ, rfl, au, H⟩
 obtain ⟨ay, az, aJ, hM, aj⟩ := M.e_iterN au
 simp only [zaQ] at hM
 clear au
 refine W.seq ?_
 refine W.region rfl ?_
 refine zC (s2 : Int) (s.length : Int) (decide ((s2 : Int) < (s.length : Int))) rfl rfl rfl ?_
 refine s_nil ?_
 refine W.seq ?_
 refine W.cond (decide ((s2 : Int) < (s.length : Int))) rfl (fun ab => ?_) (fun ab => ?_)
 ·replace hM := M.e_t hM ab
  simp only [qy1, qy2, qy3, qy4, qy5, qy6, ne_eq, qy7] at ab
  refine W.skip ?_
  refine W.seq ?_
  refine W.block ?_
  refine W.seq ?_
  refine W.region rfl ?_
  refine zM (I (s2 : Int)) rfl ?_
  refine zA (I (s2 : Int)) rfl ?_
  refine s_nil ?_
  refine W.seq ?_
  refine W.region rfl ?_
  refine zM ac rfl ?_
  refine zM aa rfl ?_
  refine zM (I (s2 : Int)) rfl ?_
  obtain ⟨aA, hM⟩ := M.e_grd hM
  simp only [Bool.and_eq_true, decide_eq_true_eq] at aA
  refine s_val (x_ix (a := aa) (b := I (s2 : Int)) (v := vat aa 2 (Int.toNat (s2 : Int))) rfl rfl (Sl.ix (α := Sect) T23.und T23.size ae (by omega) (by omega))) ?_
  obtain ⟨av, aB, ag⟩ := Sect_atA ae (i := (s2 : Int)) (by omega) (by omega)
  replace ag : Sl _ av (s.getD s2 default).rows := ag
  have aK := ag.len_le
  refine s_val (x_ld (p := vat aa 2 (Int.toNat (s2 : Int))) (v := .agg #[I ((s.getD s2 default).place), av]) rfl (ld_ag Ag39 Sz39 (At.mono aB (ap.at H)))) ?_
  obtain ⟨r2, aC, hM⟩ := M.e_bind hM
  refine t_callM H aw rfl rfl (s.getD s2 default) (ap.app _) ⟨_, Sect_mk ag, rfl⟩ aC ?_
  intro aL H
  refine s_nil ?_
  refine W.cond r2 rfl (fun ak => ?_) (fun ak => ?_)
  ·replace hM := M.e_t hM ak
   refine W.seq ?_
   refine W.region rfl ?_
   refine zM (I (s2 : Int)) rfl ?_
   refine zA (I (s2 : Int)) rfl ?_
   refine s_nil ?_
   refine W.ret ?_
   have aD := M.e_inr hM aj
   subst aD
   replace hM := aq
   try dsimp only at hM
   have am := M.e_pure hM
   exact ⟨_, resE_tmp rfl, ⟨(s2 : Int), am, rfl, H⟩⟩
  replace hM := M.e_f hM ak
  refine W.skip ?_
  refine W.region rfl ?_
  refine zR (s2 : Int) 1 ((s2 : Int) + 1) rfl rfl rfl (by omega) ?_
  refine zM (I ((s2 : Int) + 1)) rfl ?_
  refine s_nil ?_
  exact ⟨ay, az, s2 + 1, _, upds_of _ _ ⟨rfl, rfl, rfl, rfl, trivial⟩, M.e_inl hM aj, H⟩
 replace hM := M.e_f hM ab
 simp only [qy1, qy2, qy3, qy4, qy5, qy6, ne_eq, qy7] at ab
 refine W.exit ?_
 have aE := M.e_inr hM aj
 subst aE
 replace hM := aq
 try dsimp only at hM
 refine W.seq ?_
 refine W.region rfl ?_
 refine zA (I (-1)) rfl ?_
 refine s_nil ?_
 refine W.ret ?_
 have am := M.e_pure hM
 exact ⟨_, resE_tmp rfl, ⟨(-1), am, rfl, H⟩⟩

def zcb (s : List Sect) (f : Sect -> M Bool) : M Bool :=
  M.bind (zb9 s f) fun r2 =>
  M.pure (decide (0 <= r2))
theorem zdi {R : List Chunk} {ac : Cells} {aa : Value} {ab : Value} (s : List Sect) (f : Sect -> M Bool) (ag : Reads R ac) (ai : Sl ac aa s) (aj : FnM Try.prog R ab f) {r : Bool} (hM : (zcb s f).Ends r) (w : World) (H : St w w [] R) : Ret Try.prog 87 #[aa, ab] w fun v w' => ∃ (y0 : Bool), y0 = r /\ v = B y0 /\ St w w' [] R := by
 refine ret_of_W Try.func87 rfl rfl rfl ?_
 refine W.seq ?_
 refine W.region rfl ?_
 refine zA (B false) rfl ?_
 refine s_nil ?_
 refine W.seq ?_
 refine W.region rfl ?_
 refine zM aa rfl ?_
 refine zM ab rfl ?_
 obtain ⟨ap, ak, hM⟩ := M.e_bind hM
 refine s_call cf102 [aa, ab] rfl (zcK s f (ag.app _) ai (aj.app _) ak _ (H.gt 0)) ?_
 rintro vq aq ⟨r2, am, hvq, ae⟩
 subst am
 subst vq
 try dsimp only at hM
 replace H := H.bk ae
 clear ae
 refine zC r2 0 (decide (0 <= r2)) rfl rfl rfl ?_
 refine zA (B (decide (0 <= r2))) rfl ?_
 refine s_nil ?_
 refine W.ret ?_
 have ao := M.e_pure hM
 exact ⟨_, resE_tmp rfl, ⟨(decide (0 <= r2)), ao, rfl, H⟩⟩

def zbF (x : Sect) (aa : Sect -> M Bool) : M Bool :=
  M.bind (aa x) fun r2 =>
  M.pure (!r2)
theorem zcL {R : List Chunk} {ae : Cells} {aa : Value} {ab : Nat} {ac : Value} (x : Sect) (ag : Sect -> M Bool) (ai : Reads R ae) (aj : Sl ae aa x.rows) (ak : FnM Try.prog R ac ag) (am : Has R (cBlk ab [ac] 128)) {r : Bool} (hM : (zbF x ag).Ends r) (w : World) (H : St w w [] R) : Ret Try.prog 88 #[.agg #[I x.place, aa], Pq ab] w fun v w' => ∃ (y0 : Bool), y0 = r /\ v = B y0 /\ St w w' [] R := by
 refine ret_of_W Try.func88 rfl rfl rfl ?_
 refine W.seq ?_
 refine W.region rfl ?_
 refine t_box (v := .agg #[I x.place, aa]) (cs := [I x.place, aa]) H rfl rfl ?_
 intro ao au H
 refine zA (B false) rfl ?_
 refine s_nil ?_
 refine W.seq ?_
 refine W.region rfl ?_
 refine s_val (x_ld (p := Pq ab) (v := ac) rfl (ldb_sc Sc128 (am.blk H) rfl)) ?_
 refine s_val (x_ld (p := Pq ao) (v := .agg #[I x.place, aa]) rfl (ldb_ag (ds := [I x.place, aa]) Ag39 Sz39 (H.bl 0) rfl rfl)) ?_
 obtain ⟨r2, ap, hM⟩ := M.e_bind hM
 refine t_callM H ak rfl rfl x (ai.app _) ⟨_, Sect_mk aj, rfl⟩ ap ?_
 intro av H
 refine s_val (x_not (b := r2) rfl) ?_
 refine zA (B (!r2)) rfl ?_
 refine s_nil ?_
 refine W.ret ?_
 have aq := M.e_pure hM
 exact ⟨_, resE_tmp rfl, ⟨(!r2), aq, rfl, (H.pk [])⟩⟩

def zbL (l : List Sect) (so : Sect -> M Bool) : M Bool :=
  M.bind (zcb l (fun aa => zbF aa so)) fun r2 =>
  M.pure (!r2)
theorem zdk {R : List Chunk} {ag : Cells} {aa : Value} {ab : Value} (l : List Sect) (so : Sect -> M Bool) (am : Reads R ag) (ao : Sl ag aa l) (ai : FnM Try.prog R ab so) {r : Bool} (hM : (zbL l so).Ends r) (w : World) (H : St w w [] R) : Ret Try.prog 57 #[aa, ab] w fun v w' => ∃ (y0 : Bool), y0 = r /\ v = B y0 /\ St w w' [] R := by
 refine ret_of_W Try.func57 rfl rfl rfl ?_
 refine W.seq ?_
 refine W.region rfl ?_
 refine t_box (v := ab) (cs := [ab]) H rfl (FnM.cells ai) ?_
 intro ac aE H
 refine zA (B false) rfl ?_
 refine s_nil ?_
 refine W.seq ?_
 refine W.region rfl ?_
 refine zM aa rfl ?_
 refine s_val (x_mf (fs := []) (cs := [Pq ac]) rfl rfl) ?_
 obtain ⟨aF, ap, hM⟩ := M.e_bind hM
 refine s_call cf87 [aa, .func (.func 88) #[] #[Pq ac]] rfl (zdi l (fun ae => zbF ae so) (am.app _) ao ⟨88, [Pq ac], rfl, cf88, fun aj aG aH aq ae aI au av aw ax => by obtain ⟨aJ, rfl, ay⟩ := Sect_arg aw; exact (zcL ae so av ay (FnM.app (ai.app _) _) (Has.app (Has.here (k := 0) rfl) _) ax aj (St.refl au)).mono fun aq aj ⟨aK, az, aA, aB⟩ => by subst az; exact ⟨aA, aB⟩⟩ ap _ (H.gt 1)) ?_
 rintro vq aL ⟨r2, aC, hvq, ak⟩
 subst aC
 subst vq
 try dsimp only at hM
 replace H := H.bk ak
 clear ak
 refine s_val (x_not (b := r2) rfl) ?_
 refine zA (B (!r2)) rfl ?_
 refine s_nil ?_
 refine W.ret ?_
 have aD := M.e_pure hM
 exact ⟨_, resE_tmp rfl, ⟨(!r2), aD, rfl, (H.pk [])⟩⟩

def zbN (x : Sect) : M Bool :=
  M.bind (zab (x.rows.length : Int) 2 8) fun r2 =>
  M.pure r2
theorem zcO {R : List Chunk} {ac : Cells} {aa : Value} (x : Sect) (am : Reads R ac) (ae : Sl ac aa x.rows) {r : Bool} (hM : (zbN x).Ends r) (w : World) (H : St w w [] R) : Ret Try.prog 56 #[.agg #[I x.place, aa]] w fun v w' => ∃ (y0 : Bool), y0 = r /\ v = B y0 /\ St w w' [] R := by
 refine ret_of_W Try.func56 rfl rfl rfl ?_
 refine W.seq ?_
 refine W.region rfl ?_
 refine t_box (v := .agg #[I x.place, aa]) (cs := [I x.place, aa]) H rfl rfl ?_
 intro ab ao H
 refine zA (B false) rfl ?_
 refine s_nil ?_
 refine W.seq ?_
 refine W.region rfl ?_
 refine s_val (x_fa (a := Pq ab) (v := Oq ab 1) rfl (fa_blk (o := 0) Fd39_1 Sz37)) ?_
 refine s_val (x_ld (p := Oq ab 1) (v := aa) rfl (ldb_sc Sc37 (H.bl 0) rfl)) ?_
 have ap := (ae).len_le
 refine s_val (x_lenS T37.und rfl ae) ?_
 obtain ⟨aq, ai, hM⟩ := M.e_bind hM
 refine s_call cf34 [I (x.rows.length : Int), I 2, I 8] rfl (zac (x.rows.length : Int) 2 8 ai _ (H.gt 1)) ?_
 rintro vq au ⟨r2, aj, hvq, ag⟩
 subst aj
 subst vq
 try dsimp only at hM
 replace H := H.bk ag
 clear ag
 refine zA (B r2) rfl ?_
 refine s_nil ?_
 refine W.ret ?_
 have ak := M.e_pure hM
 exact ⟨_, resE_tmp rfl, ⟨r2, ak, rfl, (H.pk [])⟩⟩

def zbd (x : Sect) : (Int × Int × Nat) -> M ((Int × Int × Nat) ⊕ ((Int × Int) ⊕ (Int × Int))) := fun (s, s2, s3) =>
  bif decide ((s3 : Int) < (x.rows.length : Int)) then (
  M.grd (decide ((s3 : Int) < (x.rows.length : Int))) <|
  M.grd (decide ((-9223372036854775808 : Int) <= (s + 1)) && decide ((s + 1) <= (9223372036854775807 : Int))) <|
  M.bind (zab ((x.rows.getD s3 default).stage) (s + 1) 2000) fun r2 =>
  M.bind (M.opt (!(!r2)) (zab ((x.rows.getD s3 default).carry) s2 100000) false) fun r3 =>
  bif ((!r2) || (!r3)) then (
  M.pure (.inr (.inl (s, s2))))
  else (
  M.pure (.inl ((x.rows.getD s3 default).stage, (x.rows.getD s3 default).carry, s3 + 1))))
  else (
  M.pure (.inr (.inr (s, s2))))
def zbo (x : Sect) : M Bool :=
  M.bind (M.iter (zbd x) (-1, 0, 0)) fun x_ => match x_ with
  | (.inl (s4, s5)) => (
  M.pure false)
  | (.inr (s6, s7)) => (
  M.bind (zab x.place 0 10000) fun r4 =>
  M.pure r4)
theorem zcP {R : List Chunk} {aq : Cells} {aa : Value} (x : Sect) (aw : Reads R aq) (ak : Sl aq aa x.rows) {r : Bool} (hM : (zbo x).Ends r) (w : World) (H : St w w [] R) : Ret Try.prog 58 #[.agg #[I x.place, aa]] w fun v w' => ∃ (y0 : Bool), y0 = r /\ v = B y0 /\ St w w' [] R := by
 refine ret_of_W Try.func58 rfl rfl rfl ?_
 refine W.seq ?_
 refine W.region rfl ?_
 refine t_box (v := .agg #[I x.place, aa]) (cs := [I x.place, aa]) H rfl rfl ?_
 intro ac aK H
 refine zA (B false) rfl ?_
 refine s_nil ?_
 refine W.seq ?_
 refine W.region rfl ?_
 refine s_val (x_bld (ps := [(0, I (-1))]) (zs := [I 0, I 0]) (L' := [I (-1), I 0]) rfl Try.underlying41 Al41 rfl (Bd41 Try.underlying41) (.cons (cs := [I (-1)]) rfl rfl rfl rfl rfl <| .nil)) ?_
 refine t_alloc (cs := [I 0, I 0]) H Al41 rfl ?_
 intro ab aL H
 refine t_sw 0 0 [I (-1), I 0] (.agg #[I (-1), I 0]) H rfl rfl Sz41 rfl rfl rfl rfl ?_
 intro aM H
 refine s_nil ?_
 refine W.seq ?_
 refine W.seq ?_
 refine W.region rfl ?_
 refine s_val (x_fa (a := Pq ac) (v := Oq ac 1) rfl (fa_blk (o := 0) Fd39_1 Sz37)) ?_
 refine s_val (x_ld (p := Oq ac 1) (v := aa) rfl (ldb_sc Sc37 (H.bl 1) rfl)) ?_
 have aN := (ak).len_le
 refine s_val (x_lenS T37.und rfl ak) ?_
 refine zM (I 0) rfl ?_
 refine s_nil ?_
 refine W.block ?_
 obtain ⟨ax, am, au⟩ := M.e_bind hM
 obtain ⟨aO, am⟩ := M.e_iter am
 refine W.loop (fun m σ W => ∃ (s : Int) (s2 : Int) (s3 : Nat) (ρ : Env), σ = upds ρ [(1, Pq ac), (3, Pq ab), (8, aa), (9, I (x.rows.length : Int)), (10, I (s3 : Int))] /\ M.iterN (zbd x) m (s, s2, s3) = some ax /\ St w W [cBlk ab [I s, I s2] 41, cBlk ac [I x.place, aa] 39] R) ?_ ?_
 ·exact ⟨_, -1, 0, 0, _, upds_of _ _ ⟨rfl, rfl, rfl, rfl, rfl, trivial⟩, am, H⟩
 rintro aP σ aQ ⟨s, s2, s3, ρ, rfl, av, H⟩
 obtain ⟨ay, az, aR, hM, ao⟩ := M.e_iterN av
 simp only [zbd] at hM
 clear av
 refine W.seq ?_
 refine W.region rfl ?_
 refine zC (s3 : Int) (x.rows.length : Int) (decide ((s3 : Int) < (x.rows.length : Int))) rfl rfl rfl ?_
 refine s_nil ?_
 refine W.seq ?_
 refine W.cond (decide ((s3 : Int) < (x.rows.length : Int))) rfl (fun ag => ?_) (fun ag => ?_)
 ·replace hM := M.e_t hM ag
  simp only [qy1, qy2, qy3, qy4, qy5, qy6, ne_eq, qy7] at ag
  refine W.skip ?_
  refine W.seq ?_
  refine W.block ?_
  refine W.seq ?_
  refine W.region rfl ?_
  obtain ⟨aA, hM⟩ := M.e_grd hM
  simp only [Bool.and_eq_true, decide_eq_true_eq] at aA
  refine s_val (x_ix (a := aa) (b := I (s3 : Int)) (v := vat aa 2 (Int.toNat (s3 : Int))) rfl rfl (Sl.ix (α := FRow) T37.und T37.size ak (by omega) (by omega))) ?_
  refine s_val (x_ld (p := vat aa 2 (Int.toNat (s3 : Int))) (v := .agg #[I ((x.rows.getD s3 default).stage), I ((x.rows.getD s3 default).carry)]) rfl (ld_ag Ag41 Sz41 (At.mono (FRow_atA ak (i := (s3 : Int)) (by omega) (by omega)) (aw.at H)))) ?_
  refine t_alloc (cs := [I 0, I 0]) H Al41 rfl ?_
  intro ae aS H
  refine t_sw 0 0 [I ((x.rows.getD s3 default).stage), I ((x.rows.getD s3 default).carry)] (.agg #[I ((x.rows.getD s3 default).stage), I ((x.rows.getD s3 default).carry)]) H rfl rfl Sz41 rfl rfl rfl rfl ?_
  intro aT H
  refine s_nil ?_
  refine W.seq ?_
  refine W.seq ?_
  refine W.region rfl ?_
  refine s_val (x_fa (a := Pq ae) (v := Pq ae) rfl (fa_blk (o := 0) Fd41_0 Sz3)) ?_
  refine s_val (x_ld (p := Pq ae) (v := I ((x.rows.getD s3 default).stage)) rfl (ldb_sc Sc3 (H.bl 0) rfl)) ?_
  refine s_val (x_fa (a := Pq ab) (v := Pq ab) rfl (fa_blk (o := 0) Fd41_0 Sz3)) ?_
  refine s_val (x_ld (p := Pq ab) (v := I s) rfl (ldb_sc Sc3 (H.bl 1) rfl)) ?_
  obtain ⟨aB, hM⟩ := M.e_grd hM
  simp only [Bool.and_eq_true, decide_eq_true_eq] at aB
  refine zR s 1 (s + 1) rfl rfl rfl (by omega) ?_
  obtain ⟨aU, aC, hM⟩ := M.e_bind hM
  refine s_call cf34 [I ((x.rows.getD s3 default).stage), I (s + 1), I 2000] rfl (zac ((x.rows.getD s3 default).stage) (s + 1) 2000 aC _ (H.gt 3)) ?_
  rintro vq aV ⟨r2, aD, hvq, ai⟩
  subst aD
  subst vq
  try dsimp only at hM
  replace H := H.bk ai
  clear ai
  refine s_val (x_not (b := r2) rfl) ?_
  refine zM (B (!r2)) rfl ?_
  refine g_val (!(!r2)) (gy_f rfl) (fun hg => x_fa (a := Pq ae) (v := Oq ae 1) rfl (fa_blk (o := 0) Fd41_1 Sz3)) ?_
  refine g_val (!(!r2)) (gy_f rfl) (fun hg => x_ld (p := Oq ae 1) (v := I ((x.rows.getD s3 default).carry)) (gd_of (c := !(!r2)) hg (Oq ae 1)) (ldb_sc Sc3 (H.bl 0) rfl)) ?_
  refine g_val (!(!r2)) (gy_f rfl) (fun hg => x_fa (a := Pq ab) (v := Oq ab 1) rfl (fa_blk (o := 0) Fd41_1 Sz3)) ?_
  refine g_val (!(!r2)) (gy_f rfl) (fun hg => x_ld (p := Oq ab 1) (v := I s2) (gd_of (c := !(!r2)) hg (Oq ab 1)) (ldb_sc Sc3 (H.bl 1) rfl)) ?_
  obtain ⟨r3, aE, hM⟩ := M.e_bind hM
  refine t_gcall (!(!r2)) (gy_f rfl) cf34 (B r3) (fun _ => [I ((x.rows.getD s3 default).carry), I s2, I 100000]) (fun hg => lst3 (gd_of (c := !(!r2)) hg (I ((x.rows.getD s3 default).carry))) (gd_of (c := !(!r2)) hg (I s2)) rfl) H (fun hg => (zac ((x.rows.getD s3 default).carry) s2 100000 (M.e_opt aE hg) _ (H.give (A := []) rfl)).mono fun v_ w_ ⟨y_, aj, aF, H_⟩ => by subst aj; exact ⟨aF, H.via H_⟩) ?_
  intro aW H
  refine g_val (!(!r2)) (gy_f rfl) (fun hg => x_not (b := r3) (gd_of (c := !(!r2)) hg (B r3))) ?_
  refine s_val (x_por (b := !r2) (r := !r3) rfl rfl (fun hb => gd_of (c := !(!r2)) (by first | exact hb | (rw [hb]; rfl) | simp_all) (B (!r3)))) ?_
  refine s_nil ?_
  refine W.cond ((!r2) || (!r3)) rfl (fun ap => ?_) (fun ap => ?_)
  ·replace hM := M.e_t hM ap
   refine W.seq ?_
   refine W.region rfl ?_
   refine zA (B false) rfl ?_
   refine s_nil ?_
   refine W.ret ?_
   have aG := M.e_inr hM ao
   subst aG
   replace hM := au
   try dsimp only at hM
   have aj := M.e_pure hM
   exact ⟨_, resE_tmp rfl, ⟨false, aj, rfl, (H.pk [])⟩⟩
  replace hM := M.e_f hM ap
  refine W.skip ?_
  refine W.region rfl ?_
  refine s_val (x_ld (p := Pq ae) (v := .agg #[I ((x.rows.getD s3 default).stage), I ((x.rows.getD s3 default).carry)]) rfl (ldb_ag (ds := [I ((x.rows.getD s3 default).stage), I ((x.rows.getD s3 default).carry)]) Ag41 Sz41 (H.bl 0) rfl rfl)) ?_
  refine t_sw 1 0 [I ((x.rows.getD s3 default).stage), I ((x.rows.getD s3 default).carry)] (.agg #[I ((x.rows.getD s3 default).stage), I ((x.rows.getD s3 default).carry)]) H rfl rfl Sz41 rfl rfl rfl rfl ?_
  intro aX H
  refine s_nil ?_
  refine W.region rfl ?_
  refine zR (s3 : Int) 1 ((s3 : Int) + 1) rfl rfl rfl (by omega) ?_
  refine zM (I ((s3 : Int) + 1)) rfl ?_
  refine s_nil ?_
  exact ⟨ay, az, (x.rows.getD s3 default).stage, (x.rows.getD s3 default).carry, s3 + 1, _, upds_of _ _ ⟨rfl, rfl, rfl, rfl, rfl, trivial⟩, M.e_inl hM ao, (H.pk [1, 2])⟩
 replace hM := M.e_f hM ag
 simp only [qy1, qy2, qy3, qy4, qy5, qy6, ne_eq, qy7] at ag
 refine W.exit ?_
 have aH := M.e_inr hM ao
 subst aH
 replace hM := au
 try dsimp only at hM
 refine W.seq ?_
 refine W.region rfl ?_
 refine s_val (x_fa (a := Pq ac) (v := Pq ac) rfl (fa_blk (o := 0) Fd39_0 Sz3)) ?_
 refine s_val (x_ld (p := Pq ac) (v := I x.place) rfl (ldb_sc Sc3 (H.bl 1) rfl)) ?_
 obtain ⟨aY, aI, hM⟩ := M.e_bind hM
 refine s_call cf34 [I x.place, I 0, I 10000] rfl (zac x.place 0 10000 aI _ (H.gt 2)) ?_
 rintro vq aZ ⟨r4, aJ, hvq, ai⟩
 subst aJ
 subst vq
 try dsimp only at hM
 replace H := H.bk ai
 clear ai
 refine zA (B r4) rfl ?_
 refine s_nil ?_
 replace H := H.pk []
 refine W.ret ?_
 have aj := M.e_pure hM
 exact ⟨_, resE_tmp rfl, ⟨r4, aj, rfl, H⟩⟩

def zbi (s : List Mrk) (f : Mrk -> M Bool) : Nat -> M (Nat ⊕ (Int ⊕ Unit)) := fun s2 =>
  bif decide ((s2 : Int) < (s.length : Int)) then (
  M.grd (decide ((s2 : Int) < (s.length : Int))) <|
  M.bind (f (s.getD s2 default)) fun r2 =>
  bif r2 then (
  M.pure (.inr (.inl (s2 : Int))))
  else (
  M.pure (.inl (s2 + 1))))
  else (
  M.pure (.inr (.inr ())))
def zcc (s : List Mrk) (f : Mrk -> M Bool) : M Int :=
  M.bind (M.iter (zbi s f) 0) fun x_ => match x_ with
  | (.inl s3) => (
  M.pure s3)
  | (.inr (_ : Unit)) => (
  M.pure (-1))
theorem zcR {R : List Chunk} {am : Cells} {aa : Value} {ac : Value} (s : List Mrk) (f : Mrk -> M Bool) (aq : Reads R am) (ae : Sl am aa s) (au : FnM Try.prog R ac f) {r : Int} (hM : (zcc s f).Ends r) (w : World) (H : St w w [] R) : Ret Try.prog 103 #[aa, ac] w fun v w' => ∃ (y0 : Int), y0 = r /\ v = I y0 /\ St w w' [] R := by
 refine ret_of_W Try.func103 rfl rfl rfl ?_
 refine W.seq ?_
 refine W.region rfl ?_
 refine zA (I 0) rfl ?_
 refine s_nil ?_
 refine W.seq ?_
 refine W.seq ?_
 refine W.region rfl ?_
 refine zM aa rfl ?_
 have aC := (ae).len_le
 refine s_val (x_lenS T24.und rfl ae) ?_
 refine zM (I 0) rfl ?_
 refine s_nil ?_
 refine W.block ?_
 obtain ⟨av, ag, ao⟩ := M.e_bind hM
 obtain ⟨aD, ag⟩ := M.e_iter ag
 refine W.loop (fun m σ W => ∃ (s2 : Nat) (ρ : Env), σ = upds ρ [(0, aa), (1, ac), (7, I (s.length : Int)), (8, I (s2 : Int))] /\ M.iterN (zbi s f) m s2 = some av /\ St w W [] R) ?_ ?_
 ·exact ⟨_, 0, _, upds_of _ _ ⟨rfl, rfl, rfl, rfl, trivial⟩, ag, H⟩
 rintro aE σ aF ⟨s2, ρ, rfl, ap, H⟩
 obtain ⟨aw, ax, aG, hM, ai⟩ := M.e_iterN ap
 simp only [zbi] at hM
 clear ap
 refine W.seq ?_
 refine W.region rfl ?_
 refine zC (s2 : Int) (s.length : Int) (decide ((s2 : Int) < (s.length : Int))) rfl rfl rfl ?_
 refine s_nil ?_
 refine W.seq ?_
 refine W.cond (decide ((s2 : Int) < (s.length : Int))) rfl (fun ab => ?_) (fun ab => ?_)
 ·replace hM := M.e_t hM ab
  simp only [qy1, qy2, qy3, qy4, qy5, qy6, ne_eq, qy7] at ab
  refine W.skip ?_
  refine W.seq ?_
  refine W.block ?_
  refine W.seq ?_
  refine W.region rfl ?_
  refine zM (I (s2 : Int)) rfl ?_
  refine zA (I (s2 : Int)) rfl ?_
  refine s_nil ?_
  refine W.seq ?_
  refine W.region rfl ?_
  refine zM ac rfl ?_
  refine zM aa rfl ?_
  refine zM (I (s2 : Int)) rfl ?_
  obtain ⟨ay, hM⟩ := M.e_grd hM
  simp only [Bool.and_eq_true, decide_eq_true_eq] at ay
  refine s_val (x_ix (a := aa) (b := I (s2 : Int)) (v := vat aa 3 (Int.toNat (s2 : Int))) rfl rfl (Sl.ix (α := Mrk) T24.und T24.size ae (by omega) (by omega))) ?_
  refine s_val (x_ld (p := vat aa 3 (Int.toNat (s2 : Int))) (v := .agg #[I ((s.getD s2 default).place), I ((s.getD s2 default).lo), I ((s.getD s2 default).hi)]) rfl (ld_ag Ag46 Sz46 (At.mono (Mrk_atA ae (i := (s2 : Int)) (by omega) (by omega)) (aq.at H)))) ?_
  obtain ⟨r2, az, hM⟩ := M.e_bind hM
  refine t_callM H au rfl rfl (s.getD s2 default) Reads.none ⟨_, rfl, rfl⟩ az ?_
  intro aH H
  refine s_nil ?_
  refine W.cond r2 rfl (fun aj => ?_) (fun aj => ?_)
  ·replace hM := M.e_t hM aj
   refine W.seq ?_
   refine W.region rfl ?_
   refine zM (I (s2 : Int)) rfl ?_
   refine zA (I (s2 : Int)) rfl ?_
   refine s_nil ?_
   refine W.ret ?_
   have aA := M.e_inr hM ai
   subst aA
   replace hM := ao
   try dsimp only at hM
   have ak := M.e_pure hM
   exact ⟨_, resE_tmp rfl, ⟨(s2 : Int), ak, rfl, H⟩⟩
  replace hM := M.e_f hM aj
  refine W.skip ?_
  refine W.region rfl ?_
  refine zR (s2 : Int) 1 ((s2 : Int) + 1) rfl rfl rfl (by omega) ?_
  refine zM (I ((s2 : Int) + 1)) rfl ?_
  refine s_nil ?_
  exact ⟨aw, ax, s2 + 1, _, upds_of _ _ ⟨rfl, rfl, rfl, rfl, trivial⟩, M.e_inl hM ai, H⟩
 replace hM := M.e_f hM ab
 simp only [qy1, qy2, qy3, qy4, qy5, qy6, ne_eq, qy7] at ab
 refine W.exit ?_
 have aB := M.e_inr hM ai
 subst aB
 replace hM := ao
 try dsimp only at hM
 refine W.seq ?_
 refine W.region rfl ?_
 refine zA (I (-1)) rfl ?_
 refine s_nil ?_
 refine W.ret ?_
 have ak := M.e_pure hM
 exact ⟨_, resE_tmp rfl, ⟨(-1), ak, rfl, H⟩⟩

def zb4 (s : List Mrk) (f : Mrk -> M Bool) : M Bool :=
  M.bind (zcc s f) fun r2 =>
  M.pure (decide (0 <= r2))
theorem zc8 {R : List Chunk} {ac : Cells} {aa : Value} {ab : Value} (s : List Mrk) (f : Mrk -> M Bool) (ag : Reads R ac) (ai : Sl ac aa s) (aj : FnM Try.prog R ab f) {r : Bool} (hM : (zb4 s f).Ends r) (w : World) (H : St w w [] R) : Ret Try.prog 89 #[aa, ab] w fun v w' => ∃ (y0 : Bool), y0 = r /\ v = B y0 /\ St w w' [] R := by
 refine ret_of_W Try.func89 rfl rfl rfl ?_
 refine W.seq ?_
 refine W.region rfl ?_
 refine zA (B false) rfl ?_
 refine s_nil ?_
 refine W.seq ?_
 refine W.region rfl ?_
 refine zM aa rfl ?_
 refine zM ab rfl ?_
 obtain ⟨ap, ak, hM⟩ := M.e_bind hM
 refine s_call cf103 [aa, ab] rfl (zcR s f (ag.app _) ai (aj.app _) ak _ (H.gt 0)) ?_
 rintro vq aq ⟨r2, am, hvq, ae⟩
 subst am
 subst vq
 try dsimp only at hM
 replace H := H.bk ae
 clear ae
 refine zC r2 0 (decide (0 <= r2)) rfl rfl rfl ?_
 refine zA (B (decide (0 <= r2))) rfl ?_
 refine s_nil ?_
 refine W.ret ?_
 have ao := M.e_pure hM
 exact ⟨_, resE_tmp rfl, ⟨(decide (0 <= r2)), ao, rfl, H⟩⟩

end Go.Proofs.Ytlemgioaakecpaa
end
namespace Go.Nm
namespace Fl
theorem Rows.pw : ∀ {l : List FRow}, Rows l -> l.Pairwise (fun a b => a.stage < b.stage)
  | [], _ => List.Pairwise.nil
  | [a], _ => List.pairwise_singleton _ _
  | a :: b :: r, h => by
    obtain ⟨h1, h2, h3, h4, h5⟩ := h
    have ih := h5.pw
    refine List.Pairwise.cons (fun x hx => ?_) ih
    rcases List.mem_cons.1 hx with rfl | hx
    · exact h2
    · have := (List.pairwise_cons.1 ih).1 x hx
      omega
theorem Rows.lt {l : List FRow} (h : Rows l) {i j : Nat} (hij : i < j) (hj : j < l.length) : (l.getD i default).stage < (l.getD j default).stage := by
  rw [getD_el l (by omega), getD_el l hj]
  exact (List.pairwise_iff_getElem.1 h.pw) i j (by omega) hj hij
theorem Rows.el : ∀ {l : List FRow}, Rows l -> ∀ j, j < l.length -> 0 <= (l.getD j default).stage /\ (l.getD j default).stage <= 2000 /\ 0 <= (l.getD j default).carry /\ (l.getD j default).carry <= 100000
  | [], _, j, hj => by simp at hj
  | a :: r, h, 0, _ => h.head
  | [a], _, j + 1, hj => by simp at hj
  | a :: b :: r, h, j + 1, hj => h.2.2.2.2.el j (by simp at hj ⊢; omega)
theorem Rows.cm : ∀ {l : List FRow}, Rows l -> ∀ j, j + 1 < l.length -> (l.getD j default).carry <= (l.getD (j + 1) default).carry
  | [], _, j, hj => by simp at hj
  | [a], _, j, hj => by simp at hj
  | a :: b :: r, h, 0, _ => h.2.2.2.1
  | a :: b :: r, h, j + 1, hj => h.2.2.2.2.cm j (by simp at hj ⊢; omega)
theorem go_btw : ∀ (r : List FRow) (a : FRow), Rows (a :: r) -> ∀ (k : Nat) (s : Int), k + 1 < (a :: r).length -> ((a :: r).getD k default).stage <= s -> s < ((a :: r).getD (k + 1) default).stage →
    go a r s = ip ((a :: r).getD k default) ((a :: r).getD (k + 1) default) s
  | [], _, _, k, _, hk, _, _ => by simp at hk
  | b :: r, a, h, 0, s, _, h1, h2 => by
    exact if_pos (show s < b.stage from h2)
  | b :: r, a, h, k + 1, s, hk, h1, h2 => by
    have hb : b.stage <= s := by
      cases k with
      | zero => exact h1
      | succ k =>
        have := Rows.lt h (i := 1) (j := k + 2) (by omega) (by simp at hk ⊢; omega)
        have e : ((a :: b :: r).getD 1 default).stage = b.stage := rfl
        have e2 : ((a :: b :: r).getD (k + 2) default).stage <= s := h1
        omega
    show (if s < b.stage then ip a b s else go b r s) = _
    rw [if_neg (by omega)]
    exact go_btw r b h.2.2.2.2 k s (by simp at hk ⊢; omega) h1 h2
theorem go_last : ∀ (r : List FRow) (a : FRow), Rows (a :: r) -> ∀ (s : Int), ((a :: r).getD r.length default).stage <= s -> go a r s = ((a :: r).getD r.length default).carry
  | [], _, _, _, _ => rfl
  | b :: r, a, h, s, h1 => by
    have hb : b.stage <= s := by
      cases r with
      | nil => exact h1
      | cons c r =>
        have := Rows.lt h (i := 1) (j := r.length + 2) (by omega) (by simp)
        have e : ((a :: b :: c :: r).getD 1 default).stage = b.stage := rfl
        have e2 : ((a :: b :: c :: r).getD (r.length + 2) default).stage <= s := h1
        omega
    show (if s < b.stage then ip a b s else go b r s) = _
    rw [if_neg (by omega)]
    exact go_last r b h.2.2.2.2 s h1
theorem car_zero {l : List FRow} {s : Int} (h : l ≠ []) (h1 : s < (l.getD 0 default).stage) : car l s = 0 := by
  cases l with
  | nil => exact absurd rfl h
  | cons a r => exact if_pos h1
theorem car_btw {l : List FRow} (h : Rows l) {k : Nat} {s : Int} (hk : k + 1 < l.length) (h1 : (l.getD k default).stage <= s) (h2 : s < (l.getD (k + 1) default).stage) : car l s = ip (l.getD k default) (l.getD (k + 1) default) s := by
  cases l with
  | nil => simp at hk
  | cons a r =>
    have h0 : a.stage <= s := by
      cases k with
      | zero => exact h1
      | succ k =>
        have := Rows.lt h (i := 0) (j := k + 1) (by omega) (by omega)
        have e : ((a :: r).getD 0 default).stage = a.stage := rfl
        omega
    exact (if_neg (by omega)).trans (go_btw r a h k s hk h1 h2)
theorem car_last {l : List FRow} (h : Rows l) {k : Nat} {s : Int} (hk : k + 1 = l.length) (h1 : (l.getD k default).stage <= s) : car l s = (l.getD k default).carry := by
  cases l with
  | nil => simp at hk
  | cons a r =>
    have hk' : k = r.length := by simp at hk; omega
    subst hk'
    have h0 : a.stage <= s := by
      rcases Nat.eq_zero_or_pos r.length with e | e
      · rw [e] at h1; exact h1
      · have := Rows.lt h (i := 0) (j := r.length) e (by simp)
        have e : ((a :: r).getD 0 default).stage = a.stage := rfl
        omega
    exact (if_neg (by omega)).trans (go_last r a h s h1)
theorem car_met {l : List FRow} (h : Rows l) {k : Nat} {s : Int} (hk : k < l.length) (h1 : (l.getD k default).stage = s) : car l s = (l.getD k default).carry := by
  by_cases e : k + 1 < l.length
  · have := Rows.lt h (i := k) (j := k + 1) (by omega) e
    rw [car_btw h e (by omega) (by omega)]
    unfold ip
    rw [h1, Int.sub_self, Int.mul_zero, Int.zero_ediv, Int.add_zero]
  · exact car_last h (by omega) (by omega)
end Fl
end Go.Nm
namespace Go.Proofs.Ytlemgioaakecpaa
open Go Go.Nm
theorem root_ends {n : Int} (h0 : 0 <= n) (h1 : n < 4611686018427387904) : (zbH n).Ends (Fl.rt n) := by
  unfold zbH
  refine M.i_bind (M.Out.ends ?_) M.i_pure
  refine M.o_iter (fun m (s : Int × Int) => 0 <= s.1 /\ s.1 <= s.2 /\ s.2 <= 2147483648 /\ m = (s.2 - s.1).toNat /\ s.1 * s.1 <= n /\ n < (s.2 + 1) * (s.2 + 1)) ?_ _ (0, 2147483648) ⟨by decide, by decide, by decide, rfl, by simpa using h0, Int.lt_trans h1 (by decide)⟩
  rintro m ⟨l, h⟩ ⟨a, b, c, rfl, e, f⟩
  dsimp only at a b c e f ⊢
  simp only [zbG]
  refine M.o_if (fun hb => ?_) (fun hb => ?_)
  · have hb := of_decide_eq_true hb
    have q1 : l < l + (h - l + 1) / 2 := by omega
    have q2 : l + (h - l + 1) / 2 <= h := by omega
    refine M.o_grd (gA2 (by omega) (by omega)) (M.o_grd (gA2 (by omega) (by omega)) (M.o_grd (gA3 (by omega) (by omega) (by decide)) ?_))
    generalize l + (h - l + 1) / 2 = q at q1 q2 ⊢
    have s1 : 0 <= q * q := Int.mul_nonneg (by omega) (by omega)
    have s2 : q * q <= 2147483648 * 2147483648 := Fl.sq_mono (by omega) (by omega)
    refine M.o_grd (gA2 (by omega) (by omega)) (M.o_grd (gA2 (by omega) (by omega)) (M.o_if (fun hc => ?_) (fun hc => ?_)))
    · have hc := of_decide_eq_true hc
      exact M.o_pure ⟨(h - q).toNat, by omega, by dsimp only; omega, by dsimp only; omega, by dsimp only; omega, rfl, hc, f⟩
    · have hc := of_decide_eq_false hc
      refine M.o_grd (gA2 (by omega) (by omega)) (M.o_pure ⟨(q - 1 - l).toNat, by omega, by dsimp only; omega, by dsimp only; omega, by dsimp only; omega, rfl, e, ?_⟩)
      dsimp only
      rw [show q - 1 + 1 = q by omega]
      omega
  · have hb := of_decide_eq_false hb
    obtain rfl : l = h := by omega
    exact M.o_pure (Fl.rt_uniq a e f).symm
theorem cmp_ends (x y : Int) : (m_cmp_Compare_int x y).Ends (if x < y then -1 else if y < x then 1 else 0) := by
  unfold m_cmp_Compare_int m_cmp_isNaN_int
  refine M.i_bind (a := false) (by rw [show false = (x != x) by simp]; exact M.i_pure) (M.i_bind (a := false) (by rw [show false = (y != y) by simp]; exact M.i_pure) (M.i_f rfl (M.i_f rfl ?_)))
  by_cases h : x < y
  · rw [if_pos h]
    exact M.i_t (decide_eq_true h) M.i_pure
  · rw [if_neg h]
    refine M.i_f (decide_eq_false h) ?_
    by_cases h' : y < x
    · rw [if_pos h']
      exact M.i_t (decide_eq_true h') M.i_pure
    · rw [if_neg h']
      exact M.i_f (decide_eq_false h') M.i_pure
theorem cmp1_ends (r : FRow) (s : Int) : (zaU r s).Ends (if r.stage < s then -1 else if s < r.stage then 1 else 0) := by
  unfold zaU
  exact M.i_bind (cmp_ends _ _) M.i_pure
theorem bs_out {rows : List FRow} (hr : Fl.Rows rows) (hl : rows.length <= 1000) (s : Int) : (zbO rows s).Out (fun x => ∃ k : Nat, x.1 = k /\ k <= rows.length ∧
    (∀ j, j < k -> (rows.getD j default).stage < s) /\ (∀ j, k <= j -> j < rows.length -> s <= (rows.getD j default).stage) /\ (x.2 = true -> k < rows.length /\ (rows.getD k default).stage = s) /\ (x.2 = false -> k < rows.length -> s < (rows.getD k default).stage)) := by
  unfold zbO
  refine M.o_bind (P := fun (i : Int) => ∃ k : Nat, i = (k : Int) /\ k <= rows.length /\ (∀ j, j < k -> (rows.getD j default).stage < s) /\ (∀ j, k <= j -> j < rows.length -> s <= (rows.getD j default).stage)) ?_ ?_
  · refine M.o_iter (fun m (x : Int × Int) => ∃ i j : Nat, x = ((i : Int), (j : Int)) /\ i <= j /\ j <= rows.length /\ m = j - i /\ (∀ q, q < i -> (rows.getD q default).stage < s) /\ (∀ q, j <= q -> q < rows.length -> s <= (rows.getD q default).stage)) ?_ _ (0, (rows.length : Int)) ⟨0, rows.length, rfl, Nat.zero_le _, Nat.le_refl _, rfl, fun q hq => by omega, fun q h1 h2 => by omega⟩
    rintro m _ ⟨i, j, rfl, hij, hj, rfl, lo, hi⟩
    simp only [zbq]
    refine M.o_if (fun hb => ?_) (fun hb => ?_)
    · have hb := of_decide_eq_true hb
      have e : ((i : Int) + (j : Int)) / 2 = (((i + j) / 2 : Nat) : Int) := by omega
      have k1 : i <= (i + j) / 2 := by omega
      have k2 : (i + j) / 2 < j := by omega
      rw [e]
      generalize (i + j) / 2 = k at k1 k2 ⊢
      refine M.o_grd (gA2 (by omega) (by omega)) (M.o_grd (gA2 (by omega) (by omega)) (M.o_grd (gA2 (by omega) (by omega)) (M.o_grd (gA2 (by omega) (by omega)) (M.o_bindE (cmp1_ends _ s) ?_))))
      rw [Int.toNat_natCast]
      by_cases hs : (rows.getD k default).stage < s
      · rw [if_pos hs]
        refine M.o_t rfl (M.o_pure ⟨j - (k + 1), by omega, k + 1, j, rfl, by omega, hj, rfl, fun q hq => ?_, hi⟩)
        rcases Nat.lt_or_eq_of_le (Nat.le_of_lt_succ hq) with e | rfl
        · have := hr.lt e (by omega)
          omega
        · exact hs
      · rw [if_neg hs]
        refine M.o_f (by split <;> decide) (M.o_pure ⟨k - i, by omega, i, k, rfl, k1, by omega, rfl, lo, fun q h1 h2 => ?_⟩)
        rcases Nat.lt_or_eq_of_le h1 with e | rfl
        · have := hr.lt e h2
          omega
        · omega
    · have hb := of_decide_eq_false hb
      exact M.o_pure ⟨i, rfl, by omega, lo, fun q h1 h2 => hi q (by omega) h2⟩
  · rintro _ ⟨k, rfl, hk, lo, hi⟩
    by_cases hl' : k < rows.length
    · have hd : decide ((k : Int) < (rows.length : Int)) = true := decide_eq_true (by omega)
      refine M.o_grd (gOr2 (by omega) (by omega)) (M.o_bindE (M.i_opt (fun _ => cmp1_ends _ s) (fun h => by rw [hd] at h; cases h)) (M.o_pure ⟨k, rfl, hk, lo, hi, fun h => ?_, fun h _ => ?_⟩))
      · dsimp only at h
        rw [hd, Bool.true_and, Int.toNat_natCast, beq_iff_eq] at h
        have := hi k (Nat.le_refl _) hl'
        refine ⟨hl', ?_⟩
        split at h
        · cases h
        · split at h
          · cases h
          · omega
      · dsimp only at h
        rw [hd, Bool.true_and, Int.toNat_natCast, beq_eq_false_iff_ne] at h
        have := hi k (Nat.le_refl _) hl'
        split at h
        · omega
        · split at h
          · assumption
          · exact absurd rfl h
    · have hd : decide ((k : Int) < (rows.length : Int)) = false := decide_eq_false (by omega)
      refine M.o_grd (by rw [hd]; rfl) (M.o_bindE (M.i_opt (fun h => by rw [hd] at h; cases h) (fun _ => rfl)) (M.o_pure ⟨k, rfl, hk, lo, hi, fun h => ?_, fun _ h => absurd h hl'⟩))
      dsimp only at h
      rw [hd] at h
      cases h
theorem carry_ends {S : List Sect} {M' : List Mrk} {R' : List Rch} {i s : Int} (h0 : 0 <= i) (h1 : i < S.length) (hr : Fl.Rows (S.getD (Int.toNat i) default).rows) (hn : (S.getD (Int.toNat i) default).rows ≠ []) (hl : (S.getD (Int.toNat i) default).rows.length <= 1000) (hs : -2000000 <= s /\ s <= 2000000) :
    (zaa S M' R' ⟨i, s⟩).Ends (Fl.car (S.getD (Int.toNat i) default).rows s) := by
  refine M.Out.ends ?_
  unfold zaa
  dsimp only
  generalize hrr : (S.getD (Int.toNat i) default).rows = rows at hr hn hl ⊢
  refine M.o_grd (gA2 h0 h1) (M.o_bind (bs_out hr hl s) ?_)
  rintro ⟨_, met⟩ ⟨k, rfl, hk, lo, hi, m1, m2⟩
  dsimp only at m1 m2 ⊢
  have hpos : 0 < rows.length := List.length_pos_iff.2 hn
  refine M.o_if (fun hm => ?_) (fun hm => ?_)
  · obtain ⟨k1, k2⟩ := m1 hm
    refine M.o_grd (gA2 (by omega) (by omega)) (M.o_pure ?_)
    rw [Int.toNat_natCast, Fl.car_met hr k1 k2]
  refine M.o_if (fun he => ?_) (fun he => ?_)
  · rw [beq_iff_eq] at he
    have hk' : k = rows.length := by omega
    have e : Int.toNat ((k : Int) - 1) = k - 1 := by omega
    refine M.o_grd (gA2 (by omega) (by omega)) (M.o_grd (gA2 (by omega) (by omega)) (M.o_pure ?_))
    rw [e]
    exact (Fl.car_last hr (k := k - 1) (by omega) (by have := lo (k - 1) (by omega); omega)).symm
  · rw [beq_eq_false_iff_ne] at he
    have hk' : k < rows.length := by omega
    have hgt := m2 hm hk'
    refine M.o_if (fun hp => ?_) (fun hp => ?_)
    · have hp := of_decide_eq_true hp
      obtain ⟨q, rfl⟩ : ∃ q, k = q + 1 := ⟨k - 1, by omega⟩
      have e : Int.toNat (((q + 1 : Nat) : Int) - 1) = q := by omega
      have hlo := lo q (by omega)
      rw [e, Int.toNat_natCast, Fl.car_btw hr hk' (by omega) hgt]
      have ea := hr.el q (by omega)
      have eb := hr.el (q + 1) hk'
      have ec := hr.cm q hk'
      have es := hr.lt (i := q) (j := q + 1) (by omega) hk'
      generalize rows.getD q default = a at ea ec es hlo ⊢
      generalize rows.getD (q + 1) default = b at eb ec es hgt ⊢
      have n1 : 0 <= (b.carry - a.carry) * (s - a.stage) := Int.mul_nonneg (by omega) (by omega)
      have n2 : (b.carry - a.carry) * (s - a.stage) <= 100000 * 2000 := Int.mul_le_mul (by omega) (by omega) (by omega) (by omega)
      have k1 := Fl.ip_mono (a := a) (b := b) (s := s) (t := s) (by omega) (Int.le_refl _) (by omega) es ec
      unfold Fl.ip at k1 ⊢
      exact M.o_grd (gA2 (by omega) (by omega)) (M.o_grd (gA2 (by omega) (by omega)) (M.o_grd (gA2 (by omega) (by omega)) (M.o_grd (gA2 (by omega) (by omega)) (M.o_grd (gA2 (by omega) (by omega)) (M.o_grd (gA2 (by omega) (by omega)) (M.o_grd (gA2 (by omega) (by omega)) (M.o_grd (gA3 (by omega) (by omega) (by omega)) (M.o_grd (gA2 (by omega) (by omega)) (M.o_pure rfl)))))))))
    · have hp := of_decide_eq_false hp
      obtain rfl : k = 0 := by omega
      exact M.o_pure (Fl.car_zero hn hgt).symm
end Go.Proofs.Ytlemgioaakecpaa
section
set_option maxRecDepth 100000
set_option maxHeartbeats 16000000
namespace Go.Proofs.Ytlemgioaakecpaa
open Go Go.Nm
def zbB (x : Mrk) (aa : Mrk -> M Bool) : M Bool :=
  M.bind (aa x) fun r2 =>
  M.pure (!r2)
theorem zcM {R : List Chunk} {aa : Nat} {ab : Value} (x : Mrk) (ac : Mrk -> M Bool) (ae : FnM Try.prog R ab ac) (ag : Has R (cBlk aa [ab] 131)) {r : Bool} (hM : (zbB x ac).Ends r) (w : World) (H : St w w [] R) : Ret Try.prog 90 #[.agg #[I x.place, I x.lo, I x.hi], Pq aa] w fun v w' => ∃ (y0 : Bool), y0 = r /\ v = B y0 /\ St w w' [] R := by
 refine ret_of_W Try.func90 rfl rfl rfl ?_
 refine W.seq ?_
 refine W.region rfl ?_
 refine t_box (v := .agg #[I x.place, I x.lo, I x.hi]) (cs := [I x.place, I x.lo, I x.hi]) H rfl rfl ?_
 intro ai am H
 refine zA (B false) rfl ?_
 refine s_nil ?_
 refine W.seq ?_
 refine W.region rfl ?_
 refine s_val (x_ld (p := Pq aa) (v := ab) rfl (ldb_sc Sc131 (ag.blk H) rfl)) ?_
 refine s_val (x_ld (p := Pq ai) (v := .agg #[I x.place, I x.lo, I x.hi]) rfl (ldb_ag (ds := [I x.place, I x.lo, I x.hi]) Ag46 Sz46 (H.bl 0) rfl rfl)) ?_
 obtain ⟨r2, aj, hM⟩ := M.e_bind hM
 refine t_callM H ae rfl rfl x Reads.none ⟨_, rfl, rfl⟩ aj ?_
 intro ao H
 refine s_val (x_not (b := r2) rfl) ?_
 refine zA (B (!r2)) rfl ?_
 refine s_nil ?_
 refine W.ret ?_
 have ak := M.e_pure hM
 exact ⟨_, resE_tmp rfl, ⟨(!r2), ak, rfl, (H.pk [])⟩⟩

def zbJ (l : List Mrk) (so : Mrk -> M Bool) : M Bool :=
  M.bind (zb4 l (fun aa => zbB aa so)) fun r2 =>
  M.pure (!r2)
theorem zdq {R : List Chunk} {ag : Cells} {aa : Value} {ab : Value} (l : List Mrk) (so : Mrk -> M Bool) (am : Reads R ag) (ao : Sl ag aa l) (ai : FnM Try.prog R ab so) {r : Bool} (hM : (zbJ l so).Ends r) (w : World) (H : St w w [] R) : Ret Try.prog 59 #[aa, ab] w fun v w' => ∃ (y0 : Bool), y0 = r /\ v = B y0 /\ St w w' [] R := by
 refine ret_of_W Try.func59 rfl rfl rfl ?_
 refine W.seq ?_
 refine W.region rfl ?_
 refine t_box (v := ab) (cs := [ab]) H rfl (FnM.cells ai) ?_
 intro ac aC H
 refine zA (B false) rfl ?_
 refine s_nil ?_
 refine W.seq ?_
 refine W.region rfl ?_
 refine zM aa rfl ?_
 refine s_val (x_mf (fs := []) (cs := [Pq ac]) rfl rfl) ?_
 obtain ⟨aD, ap, hM⟩ := M.e_bind hM
 refine s_call cf89 [aa, .func (.func 90) #[] #[Pq ac]] rfl (zc8 l (fun ae => zbB ae so) (am.app _) ao ⟨90, [Pq ac], rfl, cf90, fun aj aE aF aq ae aG au aH av aw => by obtain rfl := Mrk_arg av; exact (zcM ae so (FnM.app (ai.app _) _) (Has.app (Has.here (k := 0) rfl) _) aw aj (St.refl au)).mono fun aq aj ⟨aI, ax, ay, az⟩ => by subst ax; exact ⟨ay, az⟩⟩ ap _ (H.gt 1)) ?_
 rintro vq aJ ⟨r2, aA, hvq, ak⟩
 subst aA
 subst vq
 try dsimp only at hM
 replace H := H.bk ak
 clear ak
 refine s_val (x_not (b := r2) rfl) ?_
 refine zA (B (!r2)) rfl ?_
 refine s_nil ?_
 refine W.ret ?_
 have aB := M.e_pure hM
 exact ⟨_, resE_tmp rfl, ⟨(!r2), aB, rfl, (H.pk [])⟩⟩

def zbh (s : Span) (aa : Int) (greatest : Int) : M Bool :=
  M.bind (zab s.lo aa greatest) fun r2 =>
  M.bind (M.opt r2 (zab s.hi s.lo greatest) false) fun r3 =>
  M.pure (r2 && r3)
theorem zcr {R : List Chunk}  (s : Span) (ab : Int) (greatest : Int)  {r : Bool} (hM : (zbh s ab greatest).Ends r) (w : World) (H : St w w [] R) : Ret Try.prog 91 #[.agg #[I s.lo, I s.hi], I ab, I greatest] w fun v w' => ∃ (y0 : Bool), y0 = r /\ v = B y0 /\ St w w' [] R := by
 refine ret_of_W Try.func91 rfl rfl rfl ?_
 refine W.seq ?_
 refine W.region rfl ?_
 refine t_box (v := .agg #[I s.lo, I s.hi]) (cs := [I s.lo, I s.hi]) H rfl rfl ?_
 intro aa am H
 refine zA (B false) rfl ?_
 refine s_nil ?_
 refine W.seq ?_
 refine W.region rfl ?_
 refine s_val (x_fa (a := Pq aa) (v := Pq aa) rfl (fa_blk (o := 0) Fd44_0 Sz3)) ?_
 refine s_val (x_ld (p := Pq aa) (v := I s.lo) rfl (ldb_sc Sc3 (H.bl 0) rfl)) ?_
 refine zM (I ab) rfl ?_
 refine zM (I greatest) rfl ?_
 obtain ⟨ao, ag, hM⟩ := M.e_bind hM
 refine s_call cf34 [I s.lo, I ab, I greatest] rfl (zac s.lo ab greatest ag _ (H.gt 1)) ?_
 rintro vq ap ⟨r2, ai, hvq, ae⟩
 subst ai
 subst vq
 try dsimp only at hM
 replace H := H.bk ae
 clear ae
 refine zM (B r2) rfl ?_
 refine g_val r2 (gy_t rfl) (fun hg => x_fa (a := Pq aa) (v := Oq aa 1) rfl (fa_blk (o := 0) Fd44_1 Sz3)) ?_
 refine g_val r2 (gy_t rfl) (fun hg => x_ld (p := Oq aa 1) (v := I s.hi) (gd_of (c := r2) hg (Oq aa 1)) (ldb_sc Sc3 (H.bl 0) rfl)) ?_
 refine g_val r2 (gy_t rfl) (fun hg => x_fa (a := Pq aa) (v := Pq aa) rfl (fa_blk (o := 0) Fd44_0 Sz3)) ?_
 refine g_val r2 (gy_t rfl) (fun hg => x_ld (p := Pq aa) (v := I s.lo) (gd_of (c := r2) hg (Pq aa)) (ldb_sc Sc3 (H.bl 0) rfl)) ?_
 refine g_val r2 (gy_t rfl) (fun hg => x_mv (v := I greatest) rfl) ?_
 obtain ⟨r3, aj, hM⟩ := M.e_bind hM
 refine t_gcall r2 (gy_t rfl) cf34 (B r3) (fun _ => [I s.hi, I s.lo, I greatest]) (fun hg => lst3 (gd_of (c := r2) hg (I s.hi)) (gd_of (c := r2) hg (I s.lo)) (gd_of (c := r2) hg (I greatest))) H (fun hg => (zac s.hi s.lo greatest (M.e_opt aj hg) _ (H.give (A := []) rfl)).mono fun v_ w_ ⟨y_, ac, ak, H_⟩ => by subst ac; exact ⟨ak, H.via H_⟩) ?_
 intro aq H
 refine s_val (x_pand (b := r2) (r := r3) rfl (fun hb => gd_of (c := r2) (by first | exact hb | (rw [hb]; rfl) | simp_all) (B r3)) rfl) ?_
 refine zA (B (r2 && r3)) rfl ?_
 refine s_nil ?_
 refine W.ret ?_
 have ac := M.e_pure hM
 exact ⟨_, resE_tmp rfl, ⟨(r2 && r3), ac, rfl, (H.pk [])⟩⟩

def zaL (m_ : Mrk) : M Bool :=
  M.bind (zab m_.place 0 10000) fun r2 =>
  M.bind (M.opt r2 (zbh (⟨(m_.lo : Int), (m_.hi : Int)⟩ : Span) 0 2000) false) fun r3 =>
  M.pure (r2 && r3)
theorem zcS {R : List Chunk}  (m_ : Mrk)  {r : Bool} (hM : (zaL m_).Ends r) (w : World) (H : St w w [] R) : Ret Try.prog 60 #[.agg #[I m_.place, I m_.lo, I m_.hi]] w fun v w' => ∃ (y0 : Bool), y0 = r /\ v = B y0 /\ St w w' [] R := by
 refine ret_of_W Try.func60 rfl rfl rfl ?_
 refine W.seq ?_
 refine W.region rfl ?_
 refine t_box (v := .agg #[I m_.place, I m_.lo, I m_.hi]) (cs := [I m_.place, I m_.lo, I m_.hi]) H rfl rfl ?_
 intro aa ak H
 refine zA (B false) rfl ?_
 refine s_nil ?_
 refine W.seq ?_
 refine W.region rfl ?_
 refine s_val (x_fa (a := Pq aa) (v := Pq aa) rfl (fa_blk (o := 0) Fd46_0 Sz3)) ?_
 refine s_val (x_ld (p := Pq aa) (v := I m_.place) rfl (ldb_sc Sc3 (H.bl 0) rfl)) ?_
 obtain ⟨am, ae, hM⟩ := M.e_bind hM
 refine s_call cf34 [I m_.place, I 0, I 10000] rfl (zac m_.place 0 10000 ae _ (H.gt 1)) ?_
 rintro vq ao ⟨r2, ag, hvq, ac⟩
 subst ag
 subst vq
 try dsimp only at hM
 replace H := H.bk ac
 clear ac
 refine zM (B r2) rfl ?_
 refine g_val r2 (gy_t rfl) (fun hg => x_fa (a := Pq aa) (v := Oq aa 1) rfl (fa_blk (o := 0) Fd46_1 Sz44)) ?_
 refine g_val r2 (gy_t rfl) (fun hg => x_ld (p := Oq aa 1) (v := .agg #[I m_.lo, I m_.hi]) (gd_of (c := r2) hg (Oq aa 1)) (ldb_ag (ds := [I m_.lo, I m_.hi]) Ag44 Sz44 (H.bl 0) rfl rfl)) ?_
 obtain ⟨r3, ai, hM⟩ := M.e_bind hM
 refine t_gcall r2 (gy_t rfl) cf91 (B r3) (fun _ => [.agg #[I m_.lo, I m_.hi], I 0, I 2000]) (fun hg => lst3 (gd_of (c := r2) hg (.agg #[I m_.lo, I m_.hi])) rfl rfl) H (fun hg => (zcr (⟨(m_.lo : Int), (m_.hi : Int)⟩ : Span) 0 2000 (M.e_opt ai hg) _ (H.give (A := []) rfl)).mono fun v_ w_ ⟨y_, ab, aj, H_⟩ => by subst ab; exact ⟨aj, H.via H_⟩) ?_
 intro ap H
 refine s_val (x_pand (b := r2) (r := r3) rfl (fun hb => gd_of (c := r2) (by first | exact hb | (rw [hb]; rfl) | simp_all) (B r3)) rfl) ?_
 refine zA (B (r2 && r3)) rfl ?_
 refine s_nil ?_
 refine W.ret ?_
 have ab := M.e_pure hM
 exact ⟨_, resE_tmp rfl, ⟨(r2 && r3), ab, rfl, (H.pk [])⟩⟩

def zaO (s : List Rch) (f : Rch -> M Bool) : Nat -> M (Nat ⊕ (Int ⊕ Unit)) := fun s2 =>
  bif decide ((s2 : Int) < (s.length : Int)) then (
  M.grd (decide ((s2 : Int) < (s.length : Int))) <|
  M.bind (f (s.getD s2 default)) fun r2 =>
  bif r2 then (
  M.pure (.inr (.inl (s2 : Int))))
  else (
  M.pure (.inl (s2 + 1))))
  else (
  M.pure (.inr (.inr ())))
def zb6 (s : List Rch) (f : Rch -> M Bool) : M Int :=
  M.bind (M.iter (zaO s f) 0) fun x_ => match x_ with
  | (.inl s3) => (
  M.pure s3)
  | (.inr (_ : Unit)) => (
  M.pure (-1))
theorem zde {R : List Chunk} {am : Cells} {aa : Value} {ac : Value} (s : List Rch) (f : Rch -> M Bool) (aq : Reads R am) (ae : Sl am aa s) (au : FnM Try.prog R ac f) {r : Int} (hM : (zb6 s f).Ends r) (w : World) (H : St w w [] R) : Ret Try.prog 104 #[aa, ac] w fun v w' => ∃ (y0 : Int), y0 = r /\ v = I y0 /\ St w w' [] R := by
 refine ret_of_W Try.func104 rfl rfl rfl ?_
 refine W.seq ?_
 refine W.region rfl ?_
 refine zA (I 0) rfl ?_
 refine s_nil ?_
 refine W.seq ?_
 refine W.seq ?_
 refine W.region rfl ?_
 refine zM aa rfl ?_
 have aC := (ae).len_le
 refine s_val (x_lenS T25.und rfl ae) ?_
 refine zM (I 0) rfl ?_
 refine s_nil ?_
 refine W.block ?_
 obtain ⟨av, ag, ao⟩ := M.e_bind hM
 obtain ⟨aD, ag⟩ := M.e_iter ag
 refine W.loop (fun m σ W => ∃ (s2 : Nat) (ρ : Env), σ = upds ρ [(0, aa), (1, ac), (7, I (s.length : Int)), (8, I (s2 : Int))] /\ M.iterN (zaO s f) m s2 = some av /\ St w W [] R) ?_ ?_
 ·exact ⟨_, 0, _, upds_of _ _ ⟨rfl, rfl, rfl, rfl, trivial⟩, ag, H⟩
 rintro aE σ aF ⟨s2, ρ, rfl, ap, H⟩
 obtain ⟨aw, ax, aG, hM, ai⟩ := M.e_iterN ap
 simp only [zaO] at hM
 clear ap
 refine W.seq ?_
 refine W.region rfl ?_
 refine zC (s2 : Int) (s.length : Int) (decide ((s2 : Int) < (s.length : Int))) rfl rfl rfl ?_
 refine s_nil ?_
 refine W.seq ?_
 refine W.cond (decide ((s2 : Int) < (s.length : Int))) rfl (fun ab => ?_) (fun ab => ?_)
 ·replace hM := M.e_t hM ab
  simp only [qy1, qy2, qy3, qy4, qy5, qy6, ne_eq, qy7] at ab
  refine W.skip ?_
  refine W.seq ?_
  refine W.block ?_
  refine W.seq ?_
  refine W.region rfl ?_
  refine zM (I (s2 : Int)) rfl ?_
  refine zA (I (s2 : Int)) rfl ?_
  refine s_nil ?_
  refine W.seq ?_
  refine W.region rfl ?_
  refine zM ac rfl ?_
  refine zM aa rfl ?_
  refine zM (I (s2 : Int)) rfl ?_
  obtain ⟨ay, hM⟩ := M.e_grd hM
  simp only [Bool.and_eq_true, decide_eq_true_eq] at ay
  refine s_val (x_ix (a := aa) (b := I (s2 : Int)) (v := vat aa 5 (Int.toNat (s2 : Int))) rfl rfl (Sl.ix (α := Rch) T25.und T25.size ae (by omega) (by omega))) ?_
  refine s_val (x_ld (p := vat aa 5 (Int.toNat (s2 : Int))) (v := .agg #[I ((s.getD s2 default).up), I ((s.getD s2 default).down), I ((s.getD s2 default).lo), I ((s.getD s2 default).hi), B ((s.getD s2 default).narrow)]) rfl (ld_ag Ag56 Sz56 (At.mono (Rch_atA ae (i := (s2 : Int)) (by omega) (by omega)) (aq.at H)))) ?_
  obtain ⟨r2, az, hM⟩ := M.e_bind hM
  refine t_callM H au rfl rfl (s.getD s2 default) Reads.none ⟨_, rfl, rfl⟩ az ?_
  intro aH H
  refine s_nil ?_
  refine W.cond r2 rfl (fun aj => ?_) (fun aj => ?_)
  ·replace hM := M.e_t hM aj
   refine W.seq ?_
   refine W.region rfl ?_
   refine zM (I (s2 : Int)) rfl ?_
   refine zA (I (s2 : Int)) rfl ?_
   refine s_nil ?_
   refine W.ret ?_
   have aA := M.e_inr hM ai
   subst aA
   replace hM := ao
   try dsimp only at hM
   have ak := M.e_pure hM
   exact ⟨_, resE_tmp rfl, ⟨(s2 : Int), ak, rfl, H⟩⟩
  replace hM := M.e_f hM aj
  refine W.skip ?_
  refine W.region rfl ?_
  refine zR (s2 : Int) 1 ((s2 : Int) + 1) rfl rfl rfl (by omega) ?_
  refine zM (I ((s2 : Int) + 1)) rfl ?_
  refine s_nil ?_
  exact ⟨aw, ax, s2 + 1, _, upds_of _ _ ⟨rfl, rfl, rfl, rfl, trivial⟩, M.e_inl hM ai, H⟩
 replace hM := M.e_f hM ab
 simp only [qy1, qy2, qy3, qy4, qy5, qy6, ne_eq, qy7] at ab
 refine W.exit ?_
 have aB := M.e_inr hM ai
 subst aB
 replace hM := ao
 try dsimp only at hM
 refine W.seq ?_
 refine W.region rfl ?_
 refine zA (I (-1)) rfl ?_
 refine s_nil ?_
 refine W.ret ?_
 have ak := M.e_pure hM
 exact ⟨_, resE_tmp rfl, ⟨(-1), ak, rfl, H⟩⟩

def zbU (s : List Rch) (f : Rch -> M Bool) : M Bool :=
  M.bind (zb6 s f) fun r2 =>
  M.pure (decide (0 <= r2))
theorem zcV {R : List Chunk} {ac : Cells} {aa : Value} {ab : Value} (s : List Rch) (f : Rch -> M Bool) (ag : Reads R ac) (ai : Sl ac aa s) (aj : FnM Try.prog R ab f) {r : Bool} (hM : (zbU s f).Ends r) (w : World) (H : St w w [] R) : Ret Try.prog 92 #[aa, ab] w fun v w' => ∃ (y0 : Bool), y0 = r /\ v = B y0 /\ St w w' [] R := by
 refine ret_of_W Try.func92 rfl rfl rfl ?_
 refine W.seq ?_
 refine W.region rfl ?_
 refine zA (B false) rfl ?_
 refine s_nil ?_
 refine W.seq ?_
 refine W.region rfl ?_
 refine zM aa rfl ?_
 refine zM ab rfl ?_
 obtain ⟨ap, ak, hM⟩ := M.e_bind hM
 refine s_call cf104 [aa, ab] rfl (zde s f (ag.app _) ai (aj.app _) ak _ (H.gt 0)) ?_
 rintro vq aq ⟨r2, am, hvq, ae⟩
 subst am
 subst vq
 try dsimp only at hM
 replace H := H.bk ae
 clear ae
 refine zC r2 0 (decide (0 <= r2)) rfl rfl rfl ?_
 refine zA (B (decide (0 <= r2))) rfl ?_
 refine s_nil ?_
 refine W.ret ?_
 have ao := M.e_pure hM
 exact ⟨_, resE_tmp rfl, ⟨(decide (0 <= r2)), ao, rfl, H⟩⟩

def zbk (x : Rch) (aa : Rch -> M Bool) : M Bool :=
  M.bind (aa x) fun r2 =>
  M.pure (!r2)
theorem zdm {R : List Chunk} {aa : Nat} {ab : Value} (x : Rch) (ac : Rch -> M Bool) (ae : FnM Try.prog R ab ac) (ag : Has R (cBlk aa [ab] 91)) {r : Bool} (hM : (zbk x ac).Ends r) (w : World) (H : St w w [] R) : Ret Try.prog 93 #[.agg #[I x.up, I x.down, I x.lo, I x.hi, B x.narrow], Pq aa] w fun v w' => ∃ (y0 : Bool), y0 = r /\ v = B y0 /\ St w w' [] R := by
 refine ret_of_W Try.func93 rfl rfl rfl ?_
 refine W.seq ?_
 refine W.region rfl ?_
 refine t_box (v := .agg #[I x.up, I x.down, I x.lo, I x.hi, B x.narrow]) (cs := [I x.up, I x.down, I x.lo, I x.hi, B x.narrow]) H rfl rfl ?_
 intro ai am H
 refine zA (B false) rfl ?_
 refine s_nil ?_
 refine W.seq ?_
 refine W.region rfl ?_
 refine s_val (x_ld (p := Pq aa) (v := ab) rfl (ldb_sc Sc91 (ag.blk H) rfl)) ?_
 refine s_val (x_ld (p := Pq ai) (v := .agg #[I x.up, I x.down, I x.lo, I x.hi, B x.narrow]) rfl (ldb_ag (ds := [I x.up, I x.down, I x.lo, I x.hi, B x.narrow]) Ag56 Sz56 (H.bl 0) rfl rfl)) ?_
 obtain ⟨r2, aj, hM⟩ := M.e_bind hM
 refine t_callM H ae rfl rfl x Reads.none ⟨_, rfl, rfl⟩ aj ?_
 intro ao H
 refine s_val (x_not (b := r2) rfl) ?_
 refine zA (B (!r2)) rfl ?_
 refine s_nil ?_
 refine W.ret ?_
 have ak := M.e_pure hM
 exact ⟨_, resE_tmp rfl, ⟨(!r2), ak, rfl, (H.pk [])⟩⟩

def zbP (l : List Rch) (so : Rch -> M Bool) : M Bool :=
  M.bind (zbU l (fun aa => zbk aa so)) fun r2 =>
  M.pure (!r2)
theorem zdr {R : List Chunk} {ag : Cells} {aa : Value} {ab : Value} (l : List Rch) (so : Rch -> M Bool) (am : Reads R ag) (ao : Sl ag aa l) (ai : FnM Try.prog R ab so) {r : Bool} (hM : (zbP l so).Ends r) (w : World) (H : St w w [] R) : Ret Try.prog 61 #[aa, ab] w fun v w' => ∃ (y0 : Bool), y0 = r /\ v = B y0 /\ St w w' [] R := by
 refine ret_of_W Try.func61 rfl rfl rfl ?_
 refine W.seq ?_
 refine W.region rfl ?_
 refine t_box (v := ab) (cs := [ab]) H rfl (FnM.cells ai) ?_
 intro ac aC H
 refine zA (B false) rfl ?_
 refine s_nil ?_
 refine W.seq ?_
 refine W.region rfl ?_
 refine zM aa rfl ?_
 refine s_val (x_mf (fs := []) (cs := [Pq ac]) rfl rfl) ?_
 obtain ⟨aD, ap, hM⟩ := M.e_bind hM
 refine s_call cf92 [aa, .func (.func 93) #[] #[Pq ac]] rfl (zcV l (fun ae => zbk ae so) (am.app _) ao ⟨93, [Pq ac], rfl, cf93, fun aj aE aF aq ae aG au aH av aw => by obtain rfl := Rch_arg av; exact (zdm ae so (FnM.app (ai.app _) _) (Has.app (Has.here (k := 0) rfl) _) aw aj (St.refl au)).mono fun aq aj ⟨aI, ax, ay, az⟩ => by subst ax; exact ⟨ay, az⟩⟩ ap _ (H.gt 1)) ?_
 rintro vq aJ ⟨r2, aA, hvq, ak⟩
 subst aA
 subst vq
 try dsimp only at hM
 replace H := H.bk ak
 clear ak
 refine s_val (x_not (b := r2) rfl) ?_
 refine zA (B (!r2)) rfl ?_
 refine s_nil ?_
 refine W.ret ?_
 have aB := M.e_pure hM
 exact ⟨_, resE_tmp rfl, ⟨(!r2), aB, rfl, (H.pk [])⟩⟩

def zbt (r_ : Rch) (sections : Int) : M Bool :=
  M.grd (decide ((-9223372036854775808 : Int) <= (sections - 1)) && decide ((sections - 1) <= (9223372036854775807 : Int))) <|
  M.bind (zab r_.up 0 (sections - 1)) fun r2 =>
  M.grd ((!r2 || (decide ((-9223372036854775808 : Int) <= (r_.up + 1)) && decide ((r_.up + 1) <= (9223372036854775807 : Int))))) <|
  M.bind (M.opt r2 (zab r_.down (r_.up + 1) (sections - 1)) false) fun r3 =>
  M.bind (M.opt (r2 && r3) (zbh (⟨(r_.lo : Int), (r_.hi : Int)⟩ : Span) 1 400) false) fun r4 =>
  M.pure ((r2 && r3) && r4)
theorem zdn {R : List Chunk}  (r_ : Rch) (sections : Int)  {r : Bool} (hM : (zbt r_ sections).Ends r) (w : World) (H : St w w [] R) : Ret Try.prog 63 #[.agg #[I r_.up, I r_.down, I r_.lo, I r_.hi, B r_.narrow], I sections] w fun v w' => ∃ (y0 : Bool), y0 = r /\ v = B y0 /\ St w w' [] R := by
 refine ret_of_W Try.func63 rfl rfl rfl ?_
 refine W.seq ?_
 refine W.region rfl ?_
 refine t_box (v := .agg #[I r_.up, I r_.down, I r_.lo, I r_.hi, B r_.narrow]) (cs := [I r_.up, I r_.down, I r_.lo, I r_.hi, B r_.narrow]) H rfl rfl ?_
 intro aa au H
 refine zA (B false) rfl ?_
 refine s_nil ?_
 refine W.seq ?_
 refine W.region rfl ?_
 refine s_val (x_fa (a := Pq aa) (v := Pq aa) rfl (fa_blk (o := 0) Fd56_0 Sz3)) ?_
 refine s_val (x_ld (p := Pq aa) (v := I r_.up) rfl (ldb_sc Sc3 (H.bl 0) rfl)) ?_
 refine zM (I sections) rfl ?_
 obtain ⟨ak, hM⟩ := M.e_grd hM
 simp only [Bool.and_eq_true, decide_eq_true_eq] at ak
 refine zR sections 1 (sections - 1) rfl rfl rfl (by omega) ?_
 obtain ⟨av, am, hM⟩ := M.e_bind hM
 refine s_call cf34 [I r_.up, I 0, I (sections - 1)] rfl (zac r_.up 0 (sections - 1) am _ (H.gt 1)) ?_
 rintro vq aw ⟨r2, ao, hvq, aj⟩
 subst ao
 subst vq
 try dsimp only at hM
 replace H := H.bk aj
 clear aj
 refine zM (B r2) rfl ?_
 refine g_val r2 (gy_t rfl) (fun hg => x_fa (a := Pq aa) (v := Oq aa 1) rfl (fa_blk (o := 0) Fd56_1 Sz3)) ?_
 refine g_val r2 (gy_t rfl) (fun hg => x_ld (p := Oq aa 1) (v := I r_.down) (gd_of (c := r2) hg (Oq aa 1)) (ldb_sc Sc3 (H.bl 0) rfl)) ?_
 refine g_val r2 (gy_t rfl) (fun hg => x_fa (a := Pq aa) (v := Pq aa) rfl (fa_blk (o := 0) Fd56_0 Sz3)) ?_
 refine g_val r2 (gy_t rfl) (fun hg => x_ld (p := Pq aa) (v := I r_.up) (gd_of (c := r2) hg (Pq aa)) (ldb_sc Sc3 (H.bl 0) rfl)) ?_
 obtain ⟨ac, hM⟩ := M.e_grd hM
 replace ac := M.imp_of ac
 simp only [Bool.and_eq_true, decide_eq_true_eq] at ac
 refine g_val r2 (gy_t rfl) (fun hg => x_ari (a := r_.up) (b := 1) (r := r_.up + 1) (gd_of (c := r2) hg (I r_.up)) rfl rfl (by have ab := ac.resolve_left (by rw [hg]; decide); first | exact ab | exact ab.1 | exact ab.2 | omega | (have ag := hg; simp at ag; omega))) ?_
 refine g_val r2 (gy_t rfl) (fun hg => x_mv (v := I sections) rfl) ?_
 refine g_val r2 (gy_t rfl) (fun hg => x_ari (a := sections) (b := 1) (r := sections - 1) (gd_of (c := r2) hg (I sections)) rfl rfl (by have ab := ac.resolve_left (by rw [hg]; decide); first | exact ab | exact ab.1 | exact ab.2 | omega | (have ag := hg; simp at ag; omega))) ?_
 obtain ⟨r3, ap, hM⟩ := M.e_bind hM
 refine t_gcall r2 (gy_t rfl) cf34 (B r3) (fun _ => [I r_.down, I (r_.up + 1), I (sections - 1)]) (fun hg => lst3 (gd_of (c := r2) hg (I r_.down)) (gd_of (c := r2) hg (I (r_.up + 1))) (gd_of (c := r2) hg (I (sections - 1)))) H (fun hg => (zac r_.down (r_.up + 1) (sections - 1) (M.e_opt ap hg) _ (H.give (A := []) rfl)).mono fun v_ w_ ⟨y_, ae, ai, H_⟩ => by subst ae; exact ⟨ai, H.via H_⟩) ?_
 intro ax H
 refine s_val (x_pand (b := r2) (r := r3) rfl (fun hb => gd_of (c := r2) (by first | exact hb | (rw [hb]; rfl) | simp_all) (B r3)) rfl) ?_
 refine zM (B (r2 && r3)) rfl ?_
 refine g_val (r2 && r3) (gy_t rfl) (fun hg => x_fa (a := Pq aa) (v := Oq aa 2) rfl (fa_blk (o := 0) Fd56_2 Sz44)) ?_
 refine g_val (r2 && r3) (gy_t rfl) (fun hg => x_ld (p := Oq aa 2) (v := .agg #[I r_.lo, I r_.hi]) (gd_of (c := (r2 && r3)) hg (Oq aa 2)) (ldb_ag (ds := [I r_.lo, I r_.hi]) Ag44 Sz44 (H.bl 0) rfl rfl)) ?_
 obtain ⟨r4, aq, hM⟩ := M.e_bind hM
 refine t_gcall (r2 && r3) (gy_t rfl) cf91 (B r4) (fun _ => [.agg #[I r_.lo, I r_.hi], I 1, I 400]) (fun hg => lst3 (gd_of (c := (r2 && r3)) hg (.agg #[I r_.lo, I r_.hi])) rfl rfl) H (fun hg => (zcr (⟨(r_.lo : Int), (r_.hi : Int)⟩ : Span) 1 400 (M.e_opt aq hg) _ (H.give (A := []) rfl)).mono fun v_ w_ ⟨y_, ae, ai, H_⟩ => by subst ae; exact ⟨ai, H.via H_⟩) ?_
 intro ay H
 refine s_val (x_pand (b := (r2 && r3)) (r := r4) rfl (fun hb => gd_of (c := (r2 && r3)) (by first | exact hb | (rw [hb]; rfl) | simp_all) (B r4)) rfl) ?_
 refine zA (B ((r2 && r3) && r4)) rfl ?_
 refine s_nil ?_
 refine W.ret ?_
 have ae := M.e_pure hM
 exact ⟨_, resE_tmp rfl, ⟨((r2 && r3) && r4), ae, rfl, (H.pk [])⟩⟩

def zbu (r_ : Rch) (aa : List Sect) (ab : List Mrk) (ac : List Rch) : M Bool :=
  M.bind (zbt r_ (aa.length : Int)) fun r2 =>
  M.pure r2
theorem zcT {R : List Chunk} {aa : Nat} {ae : Cells} {ac : Value} {ag : Cells} {ai : Value} {aj : Cells} {ak : Value} (r_ : Rch) (ab : List Sect) (am : List Mrk) (ao : List Rch) (az : Reads R ae) (ap : Sl ae ac ab) (aA : Reads R ag) (aB : Sl ag ai am) (aC : Reads R aj) (aD : Sl aj ak ao) (au : Has R (cBlk aa [ac, ai, ak] 27)) {r : Bool} (hM : (zbu r_ ab am ao).Ends r) (w : World) (H : St w w [] R) : Ret Try.prog 62 #[.agg #[I r_.up, I r_.down, I r_.lo, I r_.hi, B r_.narrow], Pq aa] w fun v w' => ∃ (y0 : Bool), y0 = r /\ v = B y0 /\ St w w' [] R := by
 refine ret_of_W Try.func62 rfl rfl rfl ?_
 refine W.seq ?_
 refine W.region rfl ?_
 refine t_box (v := .agg #[I r_.up, I r_.down, I r_.lo, I r_.hi, B r_.narrow]) (cs := [I r_.up, I r_.down, I r_.lo, I r_.hi, B r_.narrow]) H rfl rfl ?_
 intro av aE H
 refine zA (B false) rfl ?_
 refine s_nil ?_
 refine W.seq ?_
 refine W.region rfl ?_
 refine s_val (x_ld (p := Pq av) (v := .agg #[I r_.up, I r_.down, I r_.lo, I r_.hi, B r_.narrow]) rfl (ldb_ag (ds := [I r_.up, I r_.down, I r_.lo, I r_.hi, B r_.narrow]) Ag56 Sz56 (H.bl 0) rfl rfl)) ?_
 refine s_val (x_fa (a := Pq aa) (v := Pq aa) rfl (fa_blk (o := 0) Fd27_0 Sz23)) ?_
 refine s_val (x_ld (p := Pq aa) (v := ac) rfl (ldb_sc Sc23 (au.blk H) rfl)) ?_
 have aF := (ap).len_le
 refine s_val (x_lenS T23.und rfl ap) ?_
 obtain ⟨aG, aw, hM⟩ := M.e_bind hM
 refine s_call cf63 [.agg #[I r_.up, I r_.down, I r_.lo, I r_.hi, B r_.narrow], I (ab.length : Int)] rfl (zdn r_ (ab.length : Int) aw _ (H.gt 1)) ?_
 rintro vq aH ⟨r2, ax, hvq, aq⟩
 subst ax
 subst vq
 try dsimp only at hM
 replace H := H.bk aq
 clear aq
 refine zA (B r2) rfl ?_
 refine s_nil ?_
 refine W.ret ?_
 have ay := M.e_pure hM
 exact ⟨_, resE_tmp rfl, ⟨r2, ay, rfl, (H.pk [])⟩⟩

def za0 (s_Sections : List Sect) : (Int × Nat) -> M ((Int × Nat) ⊕ (Unit ⊕ Unit)) := fun (last, s2) =>
  bif decide ((s2 : Int) < (s_Sections.length : Int)) then (
  M.grd (decide ((s2 : Int) < (s_Sections.length : Int))) <|
  M.bind (zbo (s_Sections.getD s2 default)) fun r6 =>
  bif ((!r6) || (decide (((s_Sections.getD s2 default).place) <= last))) then (
  M.pure (.inr (.inl ())))
  else (
  M.pure (.inl ((s_Sections.getD s2 default).place, s2 + 1))))
  else (
  M.pure (.inr (.inr ())))
def zbs (s_Sections : List Sect) (s_Marks : List Mrk) (s_Reaches : List Rch) : M Int :=
  M.bind (zab (s_Sections.length : Int) 2 6) fun r2 =>
  M.bind (M.opt (!(!r2)) (zab (s_Marks.length : Int) 1 16) false) fun r3 =>
  M.bind (M.opt (!((!r2) || (!r3))) (zab (s_Reaches.length : Int) 1 6) false) fun r4 =>
  M.bind (M.opt (!(((!r2) || (!r3)) || (!r4))) (zbL s_Sections (fun aa => zbN aa)) false) fun r5 =>
  bif ((((!r2) || (!r3)) || (!r4)) || (!r5)) then (
  M.pure 3)
  else (
  M.bind (M.iter (za0 s_Sections) (-1, 0)) fun x_ => match x_ with
  | (.inl (_ : Unit)) => (
  M.pure 70)
  | (.inr (_ : Unit)) => (
  M.bind (zbJ s_Marks (fun aa => zaL aa)) fun r7 =>
  M.bind (M.opt (!(!r7)) (zbP s_Reaches (fun aa => zbu aa s_Sections s_Marks s_Reaches)) false) fun r8 =>
  bif ((!r7) || (!r8)) then (
  M.pure 70)
  else (
  M.pure 0)))
theorem zcQ {R : List Chunk} {aM : Cells} {ac : Value} {aN : Cells} {ai : Value} {aO : Cells} {ag : Value} (s_Sections : List Sect) (s_Marks : List Mrk) (s_Reaches : List Rch) (aD : Reads R aM) (aj : Sl aM ac s_Sections) (aP : Reads R aN) (aE : Sl aN ai s_Marks) (aQ : Reads R aO) (aF : Sl aO ag s_Reaches) {r : Int} (hM : (zbs s_Sections s_Marks s_Reaches).Ends r) (w : World) (H : St w w [] R) : Ret Try.prog 38 #[.agg #[ac, ai, ag]] w fun v w' => ∃ (y0 : Int), y0 = r /\ v = I y0 /\ St w w' [] R := by
 refine ret_of_W Try.func38 rfl rfl rfl ?_
 refine W.seq ?_
 refine W.region rfl ?_
 refine t_box (v := .agg #[ac, ai, ag]) (cs := [ac, ai, ag]) H rfl rfl ?_
 intro aa bq H
 refine zA (I 0) rfl ?_
 refine s_nil ?_
 refine W.seq ?_
 refine W.region rfl ?_
 refine zA (.func (.func 56) #[] #[]) rfl ?_
 refine s_nil ?_
 refine W.seq ?_
 refine W.seq ?_
 refine W.region rfl ?_
 refine s_val (x_fa (a := Pq aa) (v := Pq aa) rfl (fa_blk (o := 0) Fd27_0 Sz23)) ?_
 refine s_val (x_ld (p := Pq aa) (v := ac) rfl (ldb_sc Sc23 (H.bl 0) rfl)) ?_
 have br := (aj).len_le
 refine s_val (x_lenS T23.und rfl aj) ?_
 obtain ⟨bt, aX, hM⟩ := M.e_bind hM
 refine s_call cf34 [I (s_Sections.length : Int), I 2, I 6] rfl (zac (s_Sections.length : Int) 2 6 aX _ (H.gt 1)) ?_
 rintro vq bu ⟨r2, aY, hvq, ak⟩
 subst aY
 subst vq
 try dsimp only at hM
 replace H := H.bk ak
 clear ak
 refine s_val (x_not (b := r2) rfl) ?_
 refine zM (B (!r2)) rfl ?_
 refine g_val (!(!r2)) (gy_f rfl) (fun hg => x_fa (a := Pq aa) (v := Oq aa 1) rfl (fa_blk (o := 0) Fd27_1 Sz24)) ?_
 refine g_val (!(!r2)) (gy_f rfl) (fun hg => x_ld (p := Oq aa 1) (v := ai) (gd_of (c := !(!r2)) hg (Oq aa 1)) (ldb_sc Sc24 (H.bl 0) rfl)) ?_
 have bv := (aE).len_le
 refine g_val (!(!r2)) (gy_f rfl) (fun hg => x_lenS T24.und (gd_of (c := !(!r2)) hg (ai)) aE) ?_
 obtain ⟨r3, aZ, hM⟩ := M.e_bind hM
 refine t_gcall (!(!r2)) (gy_f rfl) cf34 (B r3) (fun _ => [I (s_Marks.length : Int), I 1, I 16]) (fun hg => lst3 (gd_of (c := !(!r2)) hg (I (s_Marks.length : Int))) rfl rfl) H (fun hg => (zac (s_Marks.length : Int) 1 16 (M.e_opt aZ hg) _ (H.give (A := []) rfl)).mono fun v_ w_ ⟨y_, ab, ap, H_⟩ => by subst ab; exact ⟨ap, H.via H_⟩) ?_
 intro bw H
 refine g_val (!(!r2)) (gy_f rfl) (fun hg => x_not (b := r3) (gd_of (c := !(!r2)) hg (B r3))) ?_
 refine s_val (x_por (b := !r2) (r := !r3) rfl rfl (fun hb => gd_of (c := !(!r2)) (by first | exact hb | (rw [hb]; rfl) | simp_all) (B (!r3)))) ?_
 refine zM (B ((!r2) || (!r3))) rfl ?_
 refine g_val (!((!r2) || (!r3))) (gy_f rfl) (fun hg => x_fa (a := Pq aa) (v := Oq aa 2) rfl (fa_blk (o := 0) Fd27_2 Sz25)) ?_
 refine g_val (!((!r2) || (!r3))) (gy_f rfl) (fun hg => x_ld (p := Oq aa 2) (v := ag) (gd_of (c := !((!r2) || (!r3))) hg (Oq aa 2)) (ldb_sc Sc25 (H.bl 0) rfl)) ?_
 have bx := (aF).len_le
 refine g_val (!((!r2) || (!r3))) (gy_f rfl) (fun hg => x_lenS T25.und (gd_of (c := !((!r2) || (!r3))) hg (ag)) aF) ?_
 obtain ⟨r4, a6, hM⟩ := M.e_bind hM
 refine t_gcall (!((!r2) || (!r3))) (gy_f rfl) cf34 (B r4) (fun _ => [I (s_Reaches.length : Int), I 1, I 6]) (fun hg => lst3 (gd_of (c := !((!r2) || (!r3))) hg (I (s_Reaches.length : Int))) rfl rfl) H (fun hg => (zac (s_Reaches.length : Int) 1 6 (M.e_opt a6 hg) _ (H.give (A := []) rfl)).mono fun v_ w_ ⟨y_, ab, ap, H_⟩ => by subst ab; exact ⟨ap, H.via H_⟩) ?_
 intro bz H
 refine g_val (!((!r2) || (!r3))) (gy_f rfl) (fun hg => x_not (b := r4) (gd_of (c := !((!r2) || (!r3))) hg (B r4))) ?_
 refine s_val (x_por (b := ((!r2) || (!r3))) (r := !r4) rfl rfl (fun hb => gd_of (c := !((!r2) || (!r3))) (by first | exact hb | (rw [hb]; rfl) | simp_all) (B (!r4)))) ?_
 refine zM (B (((!r2) || (!r3)) || (!r4))) rfl ?_
 refine g_val (!(((!r2) || (!r3)) || (!r4))) (gy_f rfl) (fun hg => x_fa (a := Pq aa) (v := Pq aa) rfl (fa_blk (o := 0) Fd27_0 Sz23)) ?_
 refine g_val (!(((!r2) || (!r3)) || (!r4))) (gy_f rfl) (fun hg => x_ld (p := Pq aa) (v := ac) (gd_of (c := !(((!r2) || (!r3)) || (!r4))) hg (Pq aa)) (ldb_sc Sc23 (H.bl 0) rfl)) ?_
 refine g_val (!(((!r2) || (!r3)) || (!r4))) (gy_f rfl) (fun hg => x_mv (v := .func (.func 56) #[] #[]) rfl) ?_
 obtain ⟨r5, a7, hM⟩ := M.e_bind hM
 refine t_gcall (!(((!r2) || (!r3)) || (!r4))) (gy_f rfl) cf57 (B r5) (fun _ => [ac, .func (.func 56) #[] #[]]) (fun hg => lst2 (gd_of (c := !(((!r2) || (!r3)) || (!r4))) hg (ac)) (gd_of (c := !(((!r2) || (!r3)) || (!r4))) hg (.func (.func 56) #[] #[]))) H (fun hg => (zdk s_Sections (fun ae => zbN ae) (aD.app _) aj ⟨56, [], rfl, cf56, fun am aR aS au ae aT av aG aw ax => by obtain ⟨bA, rfl, a8⟩ := Sect_arg aw; exact (zcO ae aG a8 ax am (St.refl av)).mono fun au am ⟨aU, ay, az, aA⟩ => by subst ay; exact ⟨az, aA⟩⟩ (M.e_opt a7 hg) _ (H.give (A := []) rfl)).mono fun v_ w_ ⟨y_, ab, ap, H_⟩ => by subst ab; exact ⟨ap, H.via H_⟩) ?_
 intro bB H
 refine g_val (!(((!r2) || (!r3)) || (!r4))) (gy_f rfl) (fun hg => x_not (b := r5) (gd_of (c := !(((!r2) || (!r3)) || (!r4))) hg (B r5))) ?_
 refine s_val (x_por (b := (((!r2) || (!r3)) || (!r4))) (r := !r5) rfl rfl (fun hb => gd_of (c := !(((!r2) || (!r3)) || (!r4))) (by first | exact hb | (rw [hb]; rfl) | simp_all) (B (!r5)))) ?_
 refine s_nil ?_
 refine W.cond ((((!r2) || (!r3)) || (!r4)) || (!r5)) rfl (fun aH => ?_) (fun aH => ?_)
 ·replace hM := M.e_t hM aH
  refine W.seq ?_
  refine W.region rfl ?_
  refine zA (I 3) rfl ?_
  refine s_nil ?_
  refine W.ret ?_
  have ab := M.e_pure hM
  exact ⟨_, resE_tmp rfl, ⟨3, ab, rfl, (H.pk [])⟩⟩
 replace hM := M.e_f hM aH
 refine W.skip ?_
 refine W.seq ?_
 refine W.region rfl ?_
 refine zA (I (-1)) rfl ?_
 refine s_nil ?_
 refine W.seq ?_
 refine W.seq ?_
 refine W.region rfl ?_
 refine s_val (x_fa (a := Pq aa) (v := Pq aa) rfl (fa_blk (o := 0) Fd27_0 Sz23)) ?_
 refine s_val (x_ld (p := Pq aa) (v := ac) rfl (ldb_sc Sc23 (H.bl 0) rfl)) ?_
 have bC := (aj).len_le
 refine s_val (x_lenS T23.und rfl aj) ?_
 refine zM (I 0) rfl ?_
 refine s_nil ?_
 refine W.block ?_
 obtain ⟨ba, aI, aV⟩ := M.e_bind hM
 obtain ⟨bD, aI⟩ := M.e_iter aI
 refine W.loop (fun m σ W => ∃ (last : Int) (s2 : Nat) (ρ : Env), σ = upds ρ [(1, Pq aa), (4, I last), (34, ac), (35, I (s_Sections.length : Int)), (36, I (s2 : Int))] /\ M.iterN (za0 s_Sections) m (last, s2) = some ba /\ St w W [cBlk aa [ac, ai, ag] 27] R) ?_ ?_
 ·exact ⟨_, -1, 0, _, upds_of _ _ ⟨rfl, rfl, rfl, rfl, rfl, trivial⟩, aI, H⟩
 rintro bE σ bF ⟨last, s2, ρ, rfl, aW, H⟩
 obtain ⟨bb, bc, bG, hM, aJ⟩ := M.e_iterN aW
 simp only [za0] at hM
 clear aW
 refine W.seq ?_
 refine W.region rfl ?_
 refine zC (s2 : Int) (s_Sections.length : Int) (decide ((s2 : Int) < (s_Sections.length : Int))) rfl rfl rfl ?_
 refine s_nil ?_
 refine W.seq ?_
 refine W.cond (decide ((s2 : Int) < (s_Sections.length : Int))) rfl (fun aB => ?_) (fun aB => ?_)
 ·replace hM := M.e_t hM aB
  simp only [qy1, qy2, qy3, qy4, qy5, qy6, ne_eq, qy7] at aB
  refine W.skip ?_
  refine W.seq ?_
  refine W.block ?_
  refine W.seq ?_
  refine W.region rfl ?_
  obtain ⟨bf, hM⟩ := M.e_grd hM
  simp only [Bool.and_eq_true, decide_eq_true_eq] at bf
  refine s_val (x_ix (a := ac) (b := I (s2 : Int)) (v := vat ac 2 (Int.toNat (s2 : Int))) rfl rfl (Sl.ix (α := Sect) T23.und T23.size aj (by omega) (by omega))) ?_
  obtain ⟨aq, bg, aC⟩ := Sect_atA aj (i := (s2 : Int)) (by omega) (by omega)
  replace aC : Sl _ aq (s_Sections.getD s2 default).rows := aC
  have bH := aC.len_le
  refine s_val (x_ld (p := vat ac 2 (Int.toNat (s2 : Int))) (v := .agg #[I ((s_Sections.getD s2 default).place), aq]) rfl (ld_ag Ag39 Sz39 (At.mono bg (aD.at H)))) ?_
  refine t_alloc (cs := [I 0, .slice none 0 0]) H Al39 rfl ?_
  intro ao bI H
  refine t_sw 0 0 [I ((s_Sections.getD s2 default).place), aq] (.agg #[I ((s_Sections.getD s2 default).place), aq]) H rfl rfl Sz39 rfl rfl rfl (by simp only [List.all_cons, List.all_nil, Bool.true_and, Bool.and_true, Sl.oc aC]; try rfl) ?_
  intro bJ H
  refine s_nil ?_
  refine W.seq ?_
  refine W.seq ?_
  refine W.region rfl ?_
  refine s_val (x_ld (p := Pq ao) (v := .agg #[I ((s_Sections.getD s2 default).place), aq]) rfl (ldb_ag (ds := [I ((s_Sections.getD s2 default).place), aq]) Ag39 Sz39 (H.bl 0) rfl rfl)) ?_
  obtain ⟨bK, bh, hM⟩ := M.e_bind hM
  refine s_call cf58 [.agg #[I ((s_Sections.getD s2 default).place), aq]] rfl (zcP (s_Sections.getD s2 default) (aD.app _) aC bh _ (H.gt 2)) ?_
  rintro vq bL ⟨r6, bi, hvq, ak⟩
  subst bi
  subst vq
  try dsimp only at hM
  replace H := H.bk ak
  clear ak
  refine s_val (x_not (b := r6) rfl) ?_
  refine zM (B (!r6)) rfl ?_
  refine g_val (!(!r6)) (gy_f rfl) (fun hg => x_fa (a := Pq ao) (v := Pq ao) rfl (fa_blk (o := 0) Fd39_0 Sz3)) ?_
  refine g_val (!(!r6)) (gy_f rfl) (fun hg => x_ld (p := Pq ao) (v := I ((s_Sections.getD s2 default).place)) (gd_of (c := !(!r6)) hg (Pq ao)) (ldb_sc Sc3 (H.bl 0) rfl)) ?_
  refine g_val (!(!r6)) (gy_f rfl) (fun hg => x_mv (v := I last) rfl) ?_
  refine g_val (!(!r6)) (gy_f rfl) (fun hg => x_cmp (kd := .i64) (a := (s_Sections.getD s2 default).place) (b := last) (r := decide (((s_Sections.getD s2 default).place) <= last)) (gd_of (c := !(!r6)) hg (I ((s_Sections.getD s2 default).place))) (gd_of (c := !(!r6)) hg (I last)) rfl) ?_
  refine s_val (x_por (b := !r6) (r := decide (((s_Sections.getD s2 default).place) <= last)) rfl rfl (fun hb => gd_of (c := !(!r6)) (by first | exact hb | (rw [hb]; rfl) | simp_all) (B (decide (((s_Sections.getD s2 default).place) <= last))))) ?_
  refine s_nil ?_
  refine W.cond ((!r6) || (decide (((s_Sections.getD s2 default).place) <= last))) rfl (fun aK => ?_) (fun aK => ?_)
  ·replace hM := M.e_t hM aK
   refine W.seq ?_
   refine W.region rfl ?_
   refine zA (I 70) rfl ?_
   refine s_nil ?_
   refine W.ret ?_
   have bj := M.e_inr hM aJ
   subst bj
   replace hM := aV
   try dsimp only at hM
   have ab := M.e_pure hM
   exact ⟨_, resE_tmp rfl, ⟨70, ab, rfl, (H.pk [])⟩⟩
  replace hM := M.e_f hM aK
  refine W.skip ?_
  refine W.region rfl ?_
  refine s_val (x_fa (a := Pq ao) (v := Pq ao) rfl (fa_blk (o := 0) Fd39_0 Sz3)) ?_
  refine s_val (x_ld (p := Pq ao) (v := I ((s_Sections.getD s2 default).place)) rfl (ldb_sc Sc3 (H.bl 0) rfl)) ?_
  refine zA (I ((s_Sections.getD s2 default).place)) rfl ?_
  refine s_nil ?_
  refine W.region rfl ?_
  refine zR (s2 : Int) 1 ((s2 : Int) + 1) rfl rfl rfl (by omega) ?_
  refine zM (I ((s2 : Int) + 1)) rfl ?_
  refine s_nil ?_
  exact ⟨bb, bc, (s_Sections.getD s2 default).place, s2 + 1, _, upds_of _ _ ⟨rfl, rfl, rfl, rfl, rfl, trivial⟩, M.e_inl hM aJ, (H.pk [1])⟩
 replace hM := M.e_f hM aB
 simp only [qy1, qy2, qy3, qy4, qy5, qy6, ne_eq, qy7] at aB
 refine W.exit ?_
 have bm := M.e_inr hM aJ
 subst bm
 replace hM := aV
 try dsimp only at hM
 refine W.seq ?_
 refine W.seq ?_
 refine W.region rfl ?_
 refine s_val (x_fa (a := Pq aa) (v := Oq aa 1) rfl (fa_blk (o := 0) Fd27_1 Sz24)) ?_
 refine s_val (x_ld (p := Oq aa 1) (v := ai) rfl (ldb_sc Sc24 (H.bl 0) rfl)) ?_
 obtain ⟨bM, bn, hM⟩ := M.e_bind hM
 refine s_call cf59 [ai, .func (.func 60) #[] #[]] rfl (zdq s_Marks (fun ae => zaL ae) (aP.app _) aE ⟨60, [], rfl, cf60, fun am aR aS au ae aT av aG aw ax => by obtain rfl := Mrk_arg aw; exact (zcS ae ax am (St.refl av)).mono fun au am ⟨aU, ay, az, aA⟩ => by subst ay; exact ⟨az, aA⟩⟩ bn _ (H.gt 1)) ?_
 rintro vq bN ⟨r7, bo, hvq, ak⟩
 subst bo
 subst vq
 try dsimp only at hM
 replace H := H.bk ak
 clear ak
 refine s_val (x_not (b := r7) rfl) ?_
 refine zM (B (!r7)) rfl ?_
 refine g_val (!(!r7)) (gy_f rfl) (fun hg => x_fa (a := Pq aa) (v := Oq aa 2) rfl (fa_blk (o := 0) Fd27_2 Sz25)) ?_
 refine g_val (!(!r7)) (gy_f rfl) (fun hg => x_ld (p := Oq aa 2) (v := ag) (gd_of (c := !(!r7)) hg (Oq aa 2)) (ldb_sc Sc25 (H.bl 0) rfl)) ?_
 refine g_val (!(!r7)) (gy_f rfl) (fun hg => x_mf (fs := []) (cs := [Pq aa]) rfl rfl) ?_
 obtain ⟨r8, bp, hM⟩ := M.e_bind hM
 refine t_gcall (!(!r7)) (gy_f rfl) cf61 (B r8) (fun _ => [ag, .func (.func 62) #[] #[Pq aa]]) (fun hg => lst2 (gd_of (c := !(!r7)) hg (ag)) (gd_of (c := !(!r7)) hg (.func (.func 62) #[] #[Pq aa]))) H (fun hg => (zdr s_Reaches (fun ae => zbu ae s_Sections s_Marks s_Reaches) (aQ.app _) aF ⟨62, [Pq aa], rfl, cf62, fun am aR aS au ae aT av aG aw ax => by obtain rfl := Rch_arg aw; exact (zcT ae s_Sections s_Marks s_Reaches (Reads.app (aD.app _) _) aj (Reads.app (aP.app _) _) aE (Reads.app (aQ.app _) _) aF (Has.app (Has.here (k := 0) rfl) _) ax am (St.refl av)).mono fun au am ⟨aU, ay, az, aA⟩ => by subst ay; exact ⟨az, aA⟩⟩ (M.e_opt bp hg) _ (H.give (A := []) rfl)).mono fun v_ w_ ⟨y_, ab, ap, H_⟩ => by subst ab; exact ⟨ap, H.via H_⟩) ?_
 intro bO H
 refine g_val (!(!r7)) (gy_f rfl) (fun hg => x_not (b := r8) (gd_of (c := !(!r7)) hg (B r8))) ?_
 refine s_val (x_por (b := !r7) (r := !r8) rfl rfl (fun hb => gd_of (c := !(!r7)) (by first | exact hb | (rw [hb]; rfl) | simp_all) (B (!r8)))) ?_
 refine s_nil ?_
 refine W.cond ((!r7) || (!r8)) rfl (fun aL => ?_) (fun aL => ?_)
 ·replace hM := M.e_t hM aL
  refine W.seq ?_
  refine W.region rfl ?_
  refine zA (I 70) rfl ?_
  refine s_nil ?_
  refine W.ret ?_
  have ab := M.e_pure hM
  exact ⟨_, resE_tmp rfl, ⟨70, ab, rfl, (H.pk [])⟩⟩
 replace hM := M.e_f hM aL
 refine W.skip ?_
 refine W.seq ?_
 refine W.region rfl ?_
 refine zA (I 0) rfl ?_
 refine s_nil ?_
 refine W.ret ?_
 have ab := M.e_pure hM
 exact ⟨_, resE_tmp rfl, ⟨0, ab, rfl, (H.pk [])⟩⟩

def zan (s_Sections : List Sect) (s_Marks : List Mrk) (s_Reaches : List Rch) : M (Int ⊕ Int) :=
  M.bind (zbs s_Sections s_Marks s_Reaches) fun r2 =>
  bif r2 != 0 then (
  M.pure (.inl r2))
  else (
  M.pure (.inr 0))
theorem zaZ {R : List Chunk} {aj : Cells} {aa : Value} {ak : Cells} {ab : Value} {am : Cells} {ac : Value} (s_Sections : List Sect) (s_Marks : List Mrk) (s_Reaches : List Rch) (aw : Reads R aj) (ax : Sl aj aa s_Sections) (ay : Reads R ak) (az : Sl ak ab s_Marks) (aA : Reads R am) (aB : Sl am ac s_Reaches) {r : (Int ⊕ Int)} (hM : (zan s_Sections s_Marks s_Reaches).Ends r) (w : World) (H : St w w [] R) : Ret Try.prog 21 #[.agg #[aa, ab, ac]] w fun v w' => (∃ (y0 : Int), (.inl y0) = r /\ v = .tuple #[.pointer none, I y0] /\ St w w' [] R) ∨ (∃ (y0 : Int) (ao : Nat) (ap : Nat), (.inr y0) = r /\ v = .tuple #[Pq ao, I y0] /\ St w w' [cBlk ao [aa, ab, ac, .map (some ap)] 99, cMemI encSpt ap (zaa s_Sections s_Marks s_Reaches)] R) := by
 refine ret_of_W Try.func21 rfl rfl rfl ?_
 refine W.seq ?_
 refine W.region rfl ?_
 refine t_box (v := .agg #[aa, ab, ac]) (cs := [aa, ab, ac]) H rfl rfl ?_
 intro aq aE H
 refine zA (.pointer none) rfl ?_
 refine zA (I 0) rfl ?_
 refine s_nil ?_
 refine W.seq ?_
 refine W.seq ?_
 refine W.region rfl ?_
 refine s_val (x_ld (p := Pq aq) (v := .agg #[aa, ab, ac]) rfl (ldb_ag (ds := [aa, ab, ac]) Ag27 Sz27 (H.bl 0) rfl rfl)) ?_
 obtain ⟨aF, aC, hM⟩ := M.e_bind hM
 refine s_call cf38 [.agg #[aa, ab, ac]] rfl (zcQ s_Sections s_Marks s_Reaches (aw.app _) ax (ay.app _) az (aA.app _) aB aC _ (H.gt 1)) ?_
 rintro vq aG ⟨r2, aD, hvq, au⟩
 subst aD
 subst vq
 try dsimp only at hM
 replace H := H.bk au
 clear au
 refine zA (I r2) rfl ?_
 refine s_nil ?_
 refine W.seq ?_
 refine W.region rfl ?_
 refine zM (I r2) rfl ?_
 refine zC r2 0 (r2 != 0) rfl rfl rfl ?_
 refine s_nil ?_
 refine W.cond (r2 != 0) rfl (fun ag => ?_) (fun ag => ?_)
 ·replace hM := M.e_t hM ag
  simp only [qy1, qy2, qy3, qy4, qy5, qy6, ne_eq, qy7] at ag
  refine W.seq ?_
  refine W.region rfl ?_
  refine zM (I r2) rfl ?_
  refine zA (.pointer none) rfl ?_
  refine zA (I r2) rfl ?_
  refine s_nil ?_
  refine W.ret ?_
  have ai := M.e_pure hM
  exact ⟨_, resE_tmp2 rfl, .inl (⟨r2, ai, rfl, (H.pk [])⟩)⟩
 replace hM := M.e_f hM ag
 simp only [qy1, qy2, qy3, qy4, qy5, qy6, ne_eq, qy7] at ag
 refine W.skip ?_
 refine W.seq ?_
 refine W.region rfl ?_
 refine s_val (x_ld (p := Pq aq) (v := .agg #[aa, ab, ac]) rfl (ldb_ag (ds := [aa, ab, ac]) Ag27 Sz27 (H.bl 0) rfl rfl)) ?_
 refine t_mkmemI encSpt (zaa s_Sections s_Marks s_Reaches) H ?_
 intro ae aH H
 refine s_val (x_bld (ps := [(0, .agg #[aa, ab, ac]), (1, .map (some ae))]) (zs := [.slice none 0 0, .slice none 0 0, .slice none 0 0, .map none]) (L' := [aa, ab, ac, .map (some ae)]) rfl Try.underlying99 Al99 rfl (Bd99 Try.underlying99) (.cons (cs := [aa, ab, ac]) rfl rfl rfl rfl rfl <| .cons (cs := [.map (some ae)]) rfl rfl rfl rfl rfl <| .nil)) ?_
 refine t_box (v := .agg #[aa, ab, ac, .map (some ae)]) (cs := [aa, ab, ac, .map (some ae)]) H rfl rfl ?_
 intro av aI H
 refine zA (Pq av) rfl ?_
 refine zA (I 0) rfl ?_
 refine s_nil ?_
 refine W.ret ?_
 have ai := M.e_pure hM
 exact ⟨_, resE_tmp2 rfl, .inr (⟨0, av, ae, ai, rfl, (H.pk [0, 1])⟩)⟩

def zbR (s_Marks : List Mrk) (marks : List Int) : (Int × Int × Nat) -> M ((Int × Int × Nat) ⊕ Int) := fun (e2, last, s2) =>
  bif decide ((s2 : Int) < (marks.length : Int)) then (
  M.grd (decide ((s2 : Int) < (marks.length : Int))) <|
  M.grd ((!(e2 == 0) || (decide ((-9223372036854775808 : Int) <= (last + 1)) && decide ((last + 1) <= (9223372036854775807 : Int))))) <|
  M.bind (M.opt (e2 == 0) (zab (marks.getD s2 0) (last + 1) ((s_Marks.length : Int) - 1)) false) fun r2 =>
  bif ((e2 == 0) && (!r2)) then (
  M.pure (.inl (2, marks.getD s2 0, s2 + 1)))
  else (
  M.pure (.inl (e2, marks.getD s2 0, s2 + 1))))
  else (
  M.pure (.inr e2))
def zaV (s_Marks : List Mrk) (marks : List Int) : (Int × Int × Nat) -> M ((Int × Int × Nat) ⊕ Int) := fun (e2, last, s2) =>
  bif decide ((s2 : Int) < (marks.length : Int)) then (
  M.grd (decide ((s2 : Int) < (marks.length : Int))) <|
  M.grd ((!(e2 == 0) || (decide ((-9223372036854775808 : Int) <= (last + 1)) && decide ((last + 1) <= (9223372036854775807 : Int))))) <|
  M.bind (M.opt (e2 == 0) (zab (marks.getD s2 0) (last + 1) ((s_Marks.length : Int) - 1)) false) fun r2 =>
  bif ((e2 == 0) && (!r2)) then (
  M.pure (.inl (2, marks.getD s2 0, s2 + 1)))
  else (
  M.pure (.inl (e2, marks.getD s2 0, s2 + 1))))
  else (
  M.pure (.inr e2))
def zaS (s_Sections : List Sect) (s_Marks : List Mrk) (s_Reaches : List Rch) (marks : List Int) : M (Int ⊕ Int) :=
  M.bind (zan s_Sections s_Marks s_Reaches) fun x_ => match x_ with
  | (.inl r1) => (
  M.bind (M.iter (zbR s_Marks marks) (r1, -1, 0)) fun e3 =>
  M.pure (.inl e3))
  | (.inr aa) => (
  M.bind (M.iter (zaV s_Marks marks) (aa, -1, 0)) fun e3 =>
  M.pure (.inr e3))
theorem zcz {R : List Chunk} {aH : Cells} {ag : Value} {aI : Cells} {aa : Value} {aJ : Cells} {ai : Value} {aK : Cells} {ae : Value} (s_Sections : List Sect) (s_Marks : List Mrk) (s_Reaches : List Rch) (marks : List Int) (aU : Reads R aH) (aV : Sl aH ag s_Sections) (aW : Reads R aI) (aq : Sl aI aa s_Marks) (aX : Reads R aJ) (aY : Sl aJ ai s_Reaches) (aL : Reads R aK) (ak : Sl aK ae marks) {r : (Int ⊕ Int)} (hM : (zaS s_Sections s_Marks s_Reaches marks).Ends r) (w : World) (H : St w w [] R) : Ret Try.prog 29 #[.agg #[ag, aa, ai], ae] w fun v w' => (∃ (y0 : Int), (.inl y0) = r /\ v = .tuple #[.pointer none, I y0] /\ St w w' [] R) ∨ (∃ (y0 : Int) (aM : Nat) (aN : Nat), (.inr y0) = r /\ v = .tuple #[Pq aM, I y0] /\ St w w' [cBlk aM [ag, aa, ai, .map (some aN)] 99, cMemI encSpt aN (zaa s_Sections s_Marks s_Reaches)] R) := by
 refine ret_of_W Try.func29 rfl rfl rfl ?_
 refine W.seq ?_
 refine W.region rfl ?_
 refine t_box (v := .agg #[ag, aa, ai]) (cs := [ag, aa, ai]) H rfl rfl ?_
 intro ac bo H
 refine zA (.pointer none) rfl ?_
 refine zA (I 0) rfl ?_
 refine s_nil ?_
 refine W.seq ?_
 refine W.region rfl ?_
 refine s_val (x_ld (p := Pq ac) (v := .agg #[ag, aa, ai]) rfl (ldb_ag (ds := [ag, aa, ai]) Ag27 Sz27 (H.bl 0) rfl rfl)) ?_
 obtain ⟨bp, aZ, hM⟩ := M.e_bind hM
 refine s_call cf21 [.agg #[ag, aa, ai]] rfl (zaZ s_Sections s_Marks s_Reaches (aU.app _) aV (aW.app _) aq (aX.app _) aY aZ _ (H.gt 1)) ?_
 rintro vq bq (⟨r1, a6, hvq, au⟩ | ⟨ap, aj, az, a7, hvq, au⟩)
 ·subst a6
  subst vq
  try dsimp only at hM
  replace H := H.bk au
  clear au
  refine zM (.tuple #[.pointer none, I r1]) rfl ?_
  refine zX [.pointer none, I r1] (.pointer none) rfl rfl ?_
  refine zX [.pointer none, I r1] (I r1) rfl rfl ?_
  refine zA (.pointer none) rfl ?_
  refine zA (I r1) rfl ?_
  refine s_nil ?_
  refine W.seq ?_
  refine W.region rfl ?_
  refine zA (I (-1)) rfl ?_
  refine s_nil ?_
  refine W.seq ?_
  refine W.seq ?_
  refine W.region rfl ?_
  refine zM ae rfl ?_
  have br := (ak).len_le
  refine s_val (x_lenS T28.und rfl ak) ?_
  refine zM (I 0) rfl ?_
  refine s_nil ?_
  refine W.block ?_
  obtain ⟨a8, aA, ba⟩ := M.e_bind hM
  obtain ⟨bb, aA⟩ := M.e_iter aA
  refine W.loop (fun m σ W => ∃ (e2 : Int) (last : Int) (s2 : Nat) (ρ : Env), σ = upds ρ [(2, Pq ac), (6, .pointer none), (7, I e2), (8, I last), (16, ae), (17, I (marks.length : Int)), (18, I (s2 : Int))] /\ M.iterN (zbR s_Marks marks) m (e2, last, s2) = some a8 /\ St w W [cBlk ac [ag, aa, ai] 27] R) ?_ ?_
  ·exact ⟨_, r1, -1, 0, _, upds_of _ _ ⟨rfl, rfl, rfl, rfl, rfl, rfl, rfl, trivial⟩, aA, H⟩
  rintro bt σ bu ⟨e2, last, s2, ρ, rfl, aO, H⟩
  obtain ⟨aP, aQ, bv, hM, aB⟩ := M.e_iterN aO
  simp only [zbR] at hM
  clear aO
  refine W.seq ?_
  refine W.region rfl ?_
  refine zC (s2 : Int) (marks.length : Int) (decide ((s2 : Int) < (marks.length : Int))) rfl rfl rfl ?_
  refine s_nil ?_
  refine W.seq ?_
  refine W.cond (decide ((s2 : Int) < (marks.length : Int))) rfl (fun av => ?_) (fun av => ?_)
  ·replace hM := M.e_t hM av
   simp only [qy1, qy2, qy3, qy4, qy5, qy6, ne_eq, qy7] at av
   refine W.skip ?_
   refine W.seq ?_
   refine W.block ?_
   refine W.seq ?_
   refine W.region rfl ?_
   obtain ⟨bc, hM⟩ := M.e_grd hM
   simp only [Bool.and_eq_true, decide_eq_true_eq] at bc
   refine s_val (x_ix (a := ae) (b := I (s2 : Int)) (v := vat ae 1 (Int.toNat (s2 : Int))) rfl rfl (Sl.ix (α := Int) T28.und T28.size ak (by omega) (by omega))) ?_
   refine s_val (x_ld (p := vat ae 1 (Int.toNat (s2 : Int))) (v := I (marks.getD s2 0)) rfl (ld_sc Sc3 (At.mono (Int_at ak (i := (s2 : Int)) (by omega) (by omega)) (aL.at H)))) ?_
   refine zA (I (marks.getD s2 0)) rfl ?_
   refine s_nil ?_
   refine W.seq ?_
   refine W.seq ?_
   refine W.region rfl ?_
   refine zM (I e2) rfl ?_
   refine zC e2 0 (e2 == 0) rfl rfl rfl ?_
   refine zM (B (e2 == 0)) rfl ?_
   refine g_val (e2 == 0) (gy_t rfl) (fun hg => x_mv (v := I (marks.getD s2 0)) rfl) ?_
   refine g_val (e2 == 0) (gy_t rfl) (fun hg => x_mv (v := I last) rfl) ?_
   obtain ⟨aw, hM⟩ := M.e_grd hM
   replace aw := M.imp_of aw
   simp only [Bool.and_eq_true, decide_eq_true_eq] at aw
   refine g_val (e2 == 0) (gy_t rfl) (fun hg => x_ari (a := last) (b := 1) (r := last + 1) (gd_of (c := e2 == 0) hg (I last)) rfl rfl (by have ab := aw.resolve_left (by rw [hg]; decide); first | exact ab | exact ab.1 | exact ab.2 | omega | (have am := hg; simp at am; omega))) ?_
   refine g_val (e2 == 0) (gy_t rfl) (fun hg => x_fa (a := Pq ac) (v := Oq ac 1) rfl (fa_blk (o := 0) Fd27_1 Sz24)) ?_
   refine g_val (e2 == 0) (gy_t rfl) (fun hg => x_ld (p := Oq ac 1) (v := aa) (gd_of (c := e2 == 0) hg (Oq ac 1)) (ldb_sc Sc24 (H.bl 0) rfl)) ?_
   have bw := (aq).len_le
   refine g_val (e2 == 0) (gy_t rfl) (fun hg => x_lenS T24.und (gd_of (c := e2 == 0) hg (aa)) aq) ?_
   refine g_val (e2 == 0) (gy_t rfl) (fun hg => x_ari (a := (s_Marks.length : Int)) (b := 1) (r := (s_Marks.length : Int) - 1) (gd_of (c := e2 == 0) hg (I (s_Marks.length : Int))) rfl rfl (by have ab := aw.resolve_left (by rw [hg]; decide); first | exact ab | exact ab.1 | exact ab.2 | omega | (have am := hg; simp at am; omega))) ?_
   obtain ⟨r2, bf, hM⟩ := M.e_bind hM
   refine t_gcall (e2 == 0) (gy_t rfl) cf34 (B r2) (fun _ => [I (marks.getD s2 0), I (last + 1), I ((s_Marks.length : Int) - 1)]) (fun hg => lst3 (gd_of (c := e2 == 0) hg (I (marks.getD s2 0))) (gd_of (c := e2 == 0) hg (I (last + 1))) (gd_of (c := e2 == 0) hg (I ((s_Marks.length : Int) - 1)))) H (fun hg => (zac (marks.getD s2 0) (last + 1) ((s_Marks.length : Int) - 1) (M.e_opt bf hg) _ (H.give (A := []) rfl)).mono fun v_ w_ ⟨y_, ao, aC, H_⟩ => by subst ao; exact ⟨aC, H.via H_⟩) ?_
   intro bx H
   refine g_val (e2 == 0) (gy_t rfl) (fun hg => x_not (b := r2) (gd_of (c := e2 == 0) hg (B r2))) ?_
   refine s_val (x_pand (b := e2 == 0) (r := !r2) rfl (fun hb => gd_of (c := e2 == 0) (by first | exact hb | (rw [hb]; rfl) | simp_all) (B (!r2))) rfl) ?_
   refine s_nil ?_
   refine W.cond ((e2 == 0) && (!r2)) rfl (fun aD => ?_) (fun aD => ?_)
   ·replace hM := M.e_t hM aD
    refine W.region rfl ?_
    refine zA (I 2) rfl ?_
    refine s_nil ?_
    refine W.region rfl ?_
    refine zM (I (marks.getD s2 0)) rfl ?_
    refine zA (I (marks.getD s2 0)) rfl ?_
    refine s_nil ?_
    refine W.region rfl ?_
    refine zR (s2 : Int) 1 ((s2 : Int) + 1) rfl rfl rfl (by omega) ?_
    refine zM (I ((s2 : Int) + 1)) rfl ?_
    refine s_nil ?_
    exact ⟨aP, aQ, 2, marks.getD s2 0, s2 + 1, _, upds_of _ _ ⟨rfl, rfl, rfl, rfl, rfl, rfl, rfl, trivial⟩, M.e_inl hM aB, H⟩
   replace hM := M.e_f hM aD
   refine W.skip ?_
   refine W.region rfl ?_
   refine zM (I (marks.getD s2 0)) rfl ?_
   refine zA (I (marks.getD s2 0)) rfl ?_
   refine s_nil ?_
   refine W.region rfl ?_
   refine zR (s2 : Int) 1 ((s2 : Int) + 1) rfl rfl rfl (by omega) ?_
   refine zM (I ((s2 : Int) + 1)) rfl ?_
   refine s_nil ?_
   exact ⟨aP, aQ, e2, marks.getD s2 0, s2 + 1, _, upds_of _ _ ⟨rfl, rfl, rfl, rfl, rfl, rfl, rfl, trivial⟩, M.e_inl hM aB, H⟩
  replace hM := M.e_f hM av
  simp only [qy1, qy2, qy3, qy4, qy5, qy6, ne_eq, qy7] at av
  refine W.exit ?_
  have bg := M.e_inr hM aB
  subst bg
  replace hM := ba
  try dsimp only at hM
  refine W.seq ?_
  refine W.region rfl ?_
  refine zM (.pointer none) rfl ?_
  refine zM (I e2) rfl ?_
  refine zA (.pointer none) rfl ?_
  refine zA (I e2) rfl ?_
  refine s_nil ?_
  refine W.ret ?_
  have ao := M.e_pure hM
  exact ⟨_, resE_tmp2 rfl, .inl (⟨e2, ao, rfl, (H.pk [])⟩)⟩
 subst a7
 subst vq
 try dsimp only at hM
 replace H := H.bk au
 clear au
 refine zM (.tuple #[Pq aj, I ap]) rfl ?_
 refine zX [Pq aj, I ap] (Pq aj) rfl rfl ?_
 refine zX [Pq aj, I ap] (I ap) rfl rfl ?_
 refine zA (Pq aj) rfl ?_
 refine zA (I ap) rfl ?_
 refine s_nil ?_
 refine W.seq ?_
 refine W.region rfl ?_
 refine zA (I (-1)) rfl ?_
 refine s_nil ?_
 refine W.seq ?_
 refine W.seq ?_
 refine W.region rfl ?_
 refine zM ae rfl ?_
 have bz := (ak).len_le
 refine s_val (x_lenS T28.und rfl ak) ?_
 refine zM (I 0) rfl ?_
 refine s_nil ?_
 refine W.block ?_
 obtain ⟨bh, aE, bi⟩ := M.e_bind hM
 obtain ⟨bb, aE⟩ := M.e_iter aE
 refine W.loop (fun m σ W => ∃ (e2 : Int) (last : Int) (s2 : Nat) (ρ : Env), σ = upds ρ [(2, Pq ac), (6, Pq aj), (7, I e2), (8, I last), (16, ae), (17, I (marks.length : Int)), (18, I (s2 : Int))] /\ M.iterN (zaV s_Marks marks) m (e2, last, s2) = some bh /\ St w W [cBlk aj [ag, aa, ai, .map (some az)] 99, cMemI encSpt az (zaa s_Sections s_Marks s_Reaches), cBlk ac [ag, aa, ai] 27] R) ?_ ?_
 ·exact ⟨_, ap, -1, 0, _, upds_of _ _ ⟨rfl, rfl, rfl, rfl, rfl, rfl, rfl, trivial⟩, aE, H⟩
 rintro bA σ bB ⟨e2, last, s2, ρ, rfl, aR, H⟩
 obtain ⟨aS, aT, bC, hM, aF⟩ := M.e_iterN aR
 simp only [zaV] at hM
 clear aR
 refine W.seq ?_
 refine W.region rfl ?_
 refine zC (s2 : Int) (marks.length : Int) (decide ((s2 : Int) < (marks.length : Int))) rfl rfl rfl ?_
 refine s_nil ?_
 refine W.seq ?_
 refine W.cond (decide ((s2 : Int) < (marks.length : Int))) rfl (fun ax => ?_) (fun ax => ?_)
 ·replace hM := M.e_t hM ax
  simp only [qy1, qy2, qy3, qy4, qy5, qy6, ne_eq, qy7] at ax
  refine W.skip ?_
  refine W.seq ?_
  refine W.block ?_
  refine W.seq ?_
  refine W.region rfl ?_
  obtain ⟨bj, hM⟩ := M.e_grd hM
  simp only [Bool.and_eq_true, decide_eq_true_eq] at bj
  refine s_val (x_ix (a := ae) (b := I (s2 : Int)) (v := vat ae 1 (Int.toNat (s2 : Int))) rfl rfl (Sl.ix (α := Int) T28.und T28.size ak (by omega) (by omega))) ?_
  refine s_val (x_ld (p := vat ae 1 (Int.toNat (s2 : Int))) (v := I (marks.getD s2 0)) rfl (ld_sc Sc3 (At.mono (Int_at ak (i := (s2 : Int)) (by omega) (by omega)) (aL.at H)))) ?_
  refine zA (I (marks.getD s2 0)) rfl ?_
  refine s_nil ?_
  refine W.seq ?_
  refine W.seq ?_
  refine W.region rfl ?_
  refine zM (I e2) rfl ?_
  refine zC e2 0 (e2 == 0) rfl rfl rfl ?_
  refine zM (B (e2 == 0)) rfl ?_
  refine g_val (e2 == 0) (gy_t rfl) (fun hg => x_mv (v := I (marks.getD s2 0)) rfl) ?_
  refine g_val (e2 == 0) (gy_t rfl) (fun hg => x_mv (v := I last) rfl) ?_
  obtain ⟨ay, hM⟩ := M.e_grd hM
  replace ay := M.imp_of ay
  simp only [Bool.and_eq_true, decide_eq_true_eq] at ay
  refine g_val (e2 == 0) (gy_t rfl) (fun hg => x_ari (a := last) (b := 1) (r := last + 1) (gd_of (c := e2 == 0) hg (I last)) rfl rfl (by have ab := ay.resolve_left (by rw [hg]; decide); first | exact ab | exact ab.1 | exact ab.2 | omega | (have am := hg; simp at am; omega))) ?_
  refine g_val (e2 == 0) (gy_t rfl) (fun hg => x_fa (a := Pq ac) (v := Oq ac 1) rfl (fa_blk (o := 0) Fd27_1 Sz24)) ?_
  refine g_val (e2 == 0) (gy_t rfl) (fun hg => x_ld (p := Oq ac 1) (v := aa) (gd_of (c := e2 == 0) hg (Oq ac 1)) (ldb_sc Sc24 (H.bl 2) rfl)) ?_
  have bD := (aq).len_le
  refine g_val (e2 == 0) (gy_t rfl) (fun hg => x_lenS T24.und (gd_of (c := e2 == 0) hg (aa)) aq) ?_
  refine g_val (e2 == 0) (gy_t rfl) (fun hg => x_ari (a := (s_Marks.length : Int)) (b := 1) (r := (s_Marks.length : Int) - 1) (gd_of (c := e2 == 0) hg (I (s_Marks.length : Int))) rfl rfl (by have ab := ay.resolve_left (by rw [hg]; decide); first | exact ab | exact ab.1 | exact ab.2 | omega | (have am := hg; simp at am; omega))) ?_
  obtain ⟨r2, bm, hM⟩ := M.e_bind hM
  refine t_gcall (e2 == 0) (gy_t rfl) cf34 (B r2) (fun _ => [I (marks.getD s2 0), I (last + 1), I ((s_Marks.length : Int) - 1)]) (fun hg => lst3 (gd_of (c := e2 == 0) hg (I (marks.getD s2 0))) (gd_of (c := e2 == 0) hg (I (last + 1))) (gd_of (c := e2 == 0) hg (I ((s_Marks.length : Int) - 1)))) H (fun hg => (zac (marks.getD s2 0) (last + 1) ((s_Marks.length : Int) - 1) (M.e_opt bm hg) _ (H.give (A := []) rfl)).mono fun v_ w_ ⟨y_, ao, aC, H_⟩ => by subst ao; exact ⟨aC, H.via H_⟩) ?_
  intro bE H
  refine g_val (e2 == 0) (gy_t rfl) (fun hg => x_not (b := r2) (gd_of (c := e2 == 0) hg (B r2))) ?_
  refine s_val (x_pand (b := e2 == 0) (r := !r2) rfl (fun hb => gd_of (c := e2 == 0) (by first | exact hb | (rw [hb]; rfl) | simp_all) (B (!r2))) rfl) ?_
  refine s_nil ?_
  refine W.cond ((e2 == 0) && (!r2)) rfl (fun aG => ?_) (fun aG => ?_)
  ·replace hM := M.e_t hM aG
   refine W.region rfl ?_
   refine zA (I 2) rfl ?_
   refine s_nil ?_
   refine W.region rfl ?_
   refine zM (I (marks.getD s2 0)) rfl ?_
   refine zA (I (marks.getD s2 0)) rfl ?_
   refine s_nil ?_
   refine W.region rfl ?_
   refine zR (s2 : Int) 1 ((s2 : Int) + 1) rfl rfl rfl (by omega) ?_
   refine zM (I ((s2 : Int) + 1)) rfl ?_
   refine s_nil ?_
   exact ⟨aS, aT, 2, marks.getD s2 0, s2 + 1, _, upds_of _ _ ⟨rfl, rfl, rfl, rfl, rfl, rfl, rfl, trivial⟩, M.e_inl hM aF, H⟩
  replace hM := M.e_f hM aG
  refine W.skip ?_
  refine W.region rfl ?_
  refine zM (I (marks.getD s2 0)) rfl ?_
  refine zA (I (marks.getD s2 0)) rfl ?_
  refine s_nil ?_
  refine W.region rfl ?_
  refine zR (s2 : Int) 1 ((s2 : Int) + 1) rfl rfl rfl (by omega) ?_
  refine zM (I ((s2 : Int) + 1)) rfl ?_
  refine s_nil ?_
  exact ⟨aS, aT, e2, marks.getD s2 0, s2 + 1, _, upds_of _ _ ⟨rfl, rfl, rfl, rfl, rfl, rfl, rfl, trivial⟩, M.e_inl hM aF, H⟩
 replace hM := M.e_f hM ax
 simp only [qy1, qy2, qy3, qy4, qy5, qy6, ne_eq, qy7] at ax
 refine W.exit ?_
 have bn := M.e_inr hM aF
 subst bn
 replace hM := bi
 try dsimp only at hM
 refine W.seq ?_
 refine W.region rfl ?_
 refine zM (Pq aj) rfl ?_
 refine zM (I e2) rfl ?_
 refine zA (Pq aj) rfl ?_
 refine zA (I e2) rfl ?_
 refine s_nil ?_
 refine W.ret ?_
 have ao := M.e_pure hM
 exact ⟨_, resE_tmp2 rfl, .inr (⟨e2, aj, az, ao, rfl, (H.pk [0, 1])⟩)⟩

def zbE (s_Sections : List Sect) (s_Marks : List Mrk) (s_Reaches : List Rch) (marks : List Int) (reach : Int) : M ((Int × Int × Int × Int × Bool × Int) ⊕ (Int × Int × Int × Int × Bool × Int)) :=
  M.bind (zaS s_Sections s_Marks s_Reaches marks) fun x_ => match x_ with
  | (.inl r1) => (
  M.bind (M.opt (r1 == 0) (zab reach 0 ((s_Reaches.length : Int) - 1)) false) fun r2 =>
  bif ((r1 == 0) && (!r2)) then (
  M.pure (.inl (0, 0, 0, 0, false, 2)))
  else (
  bif r1 != 0 then (
  M.pure (.inl (0, 0, 0, 0, false, r1)))
  else (
  M.fail)))
  | (.inr aa) => (
  M.bind (M.opt (aa == 0) (zab reach 0 ((s_Reaches.length : Int) - 1)) false) fun r2 =>
  bif ((aa == 0) && (!r2)) then (
  M.pure (.inl (0, 0, 0, 0, false, 2)))
  else (
  bif aa != 0 then (
  M.fail)
  else (
  M.grd (decide ((0 : Int) <= reach) && decide (reach < (s_Reaches.length : Int))) <|
  M.pure (.inr (((s_Reaches.getD (Int.toNat reach) default).up), ((s_Reaches.getD (Int.toNat reach) default).down), ((s_Reaches.getD (Int.toNat reach) default).lo), ((s_Reaches.getD (Int.toNat reach) default).hi), ((s_Reaches.getD (Int.toNat reach) default).narrow), 0)))))
theorem zcG {R : List Chunk} {az : Cells} {ai : Value} {aA : Cells} {aj : Value} {aB : Cells} {ab : Value} {aC : Cells} {ap : Value} (s_Sections : List Sect) (s_Marks : List Mrk) (s_Reaches : List Rch) (marks : List Int) (reach : Int) (aI : Reads R az) (aJ : Sl az ai s_Sections) (aK : Reads R aA) (aL : Sl aA aj s_Marks) (aD : Reads R aB) (ak : Sl aB ab s_Reaches) (aM : Reads R aC) (aN : Sl aC ap marks) {r : ((Int × Int × Int × Int × Bool × Int) ⊕ (Int × Int × Int × Int × Bool × Int))} (hM : (zbE s_Sections s_Marks s_Reaches marks reach).Ends r) (w : World) (H : St w w [] R) : Ret Try.prog 32 #[.agg #[ai, aj, ab], ap, I reach] w fun v w' => (∃ (y0 : Int) (y1 : Int) (y2 : Int) (y3 : Int) (y4 : Bool) (y5 : Int), (.inl (y0, y1, y2, y3, y4, y5)) = r /\ v = .tuple #[.pointer none, .agg #[I y0, I y1, I y2, I y3, B y4], I y5] /\ St w w' [] R) ∨ (∃ (y0 : Int) (y1 : Int) (y2 : Int) (y3 : Int) (y4 : Bool) (y5 : Int) (aE : Nat) (aF : Nat), (.inr (y0, y1, y2, y3, y4, y5)) = r /\ v = .tuple #[Pq aE, .agg #[I y0, I y1, I y2, I y3, B y4], I y5] /\ St w w' [cBlk aE [ai, aj, ab, .map (some aF)] 99, cMemI encSpt aF (zaa s_Sections s_Marks s_Reaches)] R) := by
 refine ret_of_W Try.func32 rfl rfl rfl ?_
 refine W.seq ?_
 refine W.region rfl ?_
 refine t_box (v := .agg #[ai, aj, ab]) (cs := [ai, aj, ab]) H rfl rfl ?_
 intro ac aY H
 refine zA (.pointer none) rfl ?_
 refine t_alloc (cs := [I 0, I 0, I 0, I 0, B false]) H Al56 rfl ?_
 intro aZ a6 H
 refine zA (I 0) rfl ?_
 refine s_nil ?_
 refine W.seq ?_
 refine W.region rfl ?_
 refine s_val (x_ld (p := Pq ac) (v := .agg #[ai, aj, ab]) rfl (ldb_ag (ds := [ai, aj, ab]) Ag27 Sz27 (H.bl 1) rfl rfl)) ?_
 refine zM ap rfl ?_
 obtain ⟨a7, aO, hM⟩ := M.e_bind hM
 refine s_call cf29 [.agg #[ai, aj, ab], ap] rfl (zcz s_Sections s_Marks s_Reaches marks (aI.app _) aJ (aK.app _) aL (aD.app _) ak (aM.app _) aN aO _ (H.gt 2)) ?_
 rintro vq a8 (⟨r1, aP, hvq, ao⟩ | ⟨aa, ae, av, aQ, hvq, ao⟩)
 ·subst aP
  subst vq
  try dsimp only at hM
  replace H := H.bk ao
  clear ao
  refine zM (.tuple #[.pointer none, I r1]) rfl ?_
  refine zX [.pointer none, I r1] (.pointer none) rfl rfl ?_
  refine zX [.pointer none, I r1] (I r1) rfl rfl ?_
  refine zA (.pointer none) rfl ?_
  refine zA (I r1) rfl ?_
  refine s_nil ?_
  refine W.seq ?_
  refine W.seq ?_
  refine W.region rfl ?_
  refine zM (I r1) rfl ?_
  refine zC r1 0 (r1 == 0) rfl rfl rfl ?_
  refine zM (B (r1 == 0)) rfl ?_
  refine g_val (r1 == 0) (gy_t rfl) (fun hg => x_mv (v := I reach) rfl) ?_
  refine g_val (r1 == 0) (gy_t rfl) (fun hg => x_fa (a := Pq ac) (v := Oq ac 2) rfl (fa_blk (o := 0) Fd27_2 Sz25)) ?_
  refine g_val (r1 == 0) (gy_t rfl) (fun hg => x_ld (p := Oq ac 2) (v := ab) (gd_of (c := r1 == 0) hg (Oq ac 2)) (ldb_sc Sc25 (H.bl 1) rfl)) ?_
  have ba := (ak).len_le
  refine g_val (r1 == 0) (gy_t rfl) (fun hg => x_lenS T25.und (gd_of (c := r1 == 0) hg (ab)) ak) ?_
  refine g_val (r1 == 0) (gy_t rfl) (fun hg => x_ari (a := (s_Reaches.length : Int)) (b := 1) (r := (s_Reaches.length : Int) - 1) (gd_of (c := r1 == 0) hg (I (s_Reaches.length : Int))) rfl rfl (by first | omega | (have am := hg; simp at am; omega))) ?_
  obtain ⟨r2, aR, hM⟩ := M.e_bind hM
  refine t_gcall (r1 == 0) (gy_t rfl) cf34 (B r2) (fun _ => [I reach, I 0, I ((s_Reaches.length : Int) - 1)]) (fun hg => lst3 (gd_of (c := r1 == 0) hg (I reach)) rfl (gd_of (c := r1 == 0) hg (I ((s_Reaches.length : Int) - 1)))) H (fun hg => (zac reach 0 ((s_Reaches.length : Int) - 1) (M.e_opt aR hg) _ (H.give (A := []) rfl)).mono fun v_ w_ ⟨y_, ag, aw, H_⟩ => by subst ag; exact ⟨aw, H.via H_⟩) ?_
  intro bb H
  refine g_val (r1 == 0) (gy_t rfl) (fun hg => x_not (b := r2) (gd_of (c := r1 == 0) hg (B r2))) ?_
  refine s_val (x_pand (b := r1 == 0) (r := !r2) rfl (fun hb => gd_of (c := r1 == 0) (by first | exact hb | (rw [hb]; rfl) | simp_all) (B (!r2))) rfl) ?_
  refine s_nil ?_
  refine W.cond ((r1 == 0) && (!r2)) rfl (fun ax => ?_) (fun ax => ?_)
  ·replace hM := M.e_t hM ax
   refine W.region rfl ?_
   refine zA (I 2) rfl ?_
   refine s_nil ?_
   refine W.seq ?_
   refine W.seq ?_
   refine W.region rfl ?_
   refine zM (I 2) rfl ?_
   refine zC 2 0 ((2 : Int) != 0) rfl rfl rfl ?_
   refine s_nil ?_
   refine W.cond ((2 : Int) != 0) rfl (fun aG => ?_) (fun aG => ?_)
   ·skip
    refine W.seq ?_
    refine W.region rfl ?_
    refine s_val (x_bld (ps := []) (zs := [I 0, I 0, I 0, I 0, B false]) (L' := [I 0, I 0, I 0, I 0, B false]) rfl Try.underlying56 Al56 rfl (Bd56 Try.underlying56) (.nil)) ?_
    refine zM (I 2) rfl ?_
    refine zA (.pointer none) rfl ?_
    refine t_sw 0 0 [I 0, I 0, I 0, I 0, B false] (.agg #[I 0, I 0, I 0, I 0, B false]) H rfl rfl Sz56 rfl rfl rfl rfl ?_
    intro bc H
    refine zA (I 2) rfl ?_
    refine s_nil ?_
    refine W.ret ?_
    have aS := (H.bl 0)
    have ag := M.e_pure hM
    exact ⟨_, (resE_ofn (vs := [.pointer none, .agg #[I 0, I 0, I 0, I 0, B false], I 2]) rfl rfl (.tmp (v := .pointer none) rfl <| .cell (v := .agg #[I 0, I 0, I 0, I 0, B false]) rfl (run_loadVar_ag (ds := [I 0, I 0, I 0, I 0, B false]) Ag56 Sz56 aS rfl rfl) <| .tmp (v := I 2) rfl <| .nil)), .inl (⟨0, 0, 0, 0, false, 2, ag, rfl, (H.pk [])⟩)⟩
   skip
   exact absurd aG (by decide)
  replace hM := M.e_f hM ax
  refine W.skip ?_
  refine W.seq ?_
  refine W.seq ?_
  refine W.region rfl ?_
  refine zM (I r1) rfl ?_
  refine zC r1 0 (r1 != 0) rfl rfl rfl ?_
  refine s_nil ?_
  refine W.cond (r1 != 0) rfl (fun aq => ?_) (fun aq => ?_)
  ·replace hM := M.e_t hM aq
   simp only [qy1, qy2, qy3, qy4, qy5, qy6, ne_eq, qy7] at aq
   refine W.seq ?_
   refine W.region rfl ?_
   refine s_val (x_bld (ps := []) (zs := [I 0, I 0, I 0, I 0, B false]) (L' := [I 0, I 0, I 0, I 0, B false]) rfl Try.underlying56 Al56 rfl (Bd56 Try.underlying56) (.nil)) ?_
   refine zM (I r1) rfl ?_
   refine zA (.pointer none) rfl ?_
   refine t_sw 0 0 [I 0, I 0, I 0, I 0, B false] (.agg #[I 0, I 0, I 0, I 0, B false]) H rfl rfl Sz56 rfl rfl rfl rfl ?_
   intro bf H
   refine zA (I r1) rfl ?_
   refine s_nil ?_
   refine W.ret ?_
   have aT := (H.bl 0)
   have ag := M.e_pure hM
   exact ⟨_, (resE_ofn (vs := [.pointer none, .agg #[I 0, I 0, I 0, I 0, B false], I r1]) rfl rfl (.tmp (v := .pointer none) rfl <| .cell (v := .agg #[I 0, I 0, I 0, I 0, B false]) rfl (run_loadVar_ag (ds := [I 0, I 0, I 0, I 0, B false]) Ag56 Sz56 aT rfl rfl) <| .tmp (v := I r1) rfl <| .nil)), .inl (⟨0, 0, 0, 0, false, r1, ag, rfl, (H.pk [])⟩)⟩
  replace hM := M.e_f hM aq
  exact (M.e_fail hM).elim
 subst aQ
 subst vq
 try dsimp only at hM
 replace H := H.bk ao
 clear ao
 refine zM (.tuple #[Pq ae, I aa]) rfl ?_
 refine zX [Pq ae, I aa] (Pq ae) rfl rfl ?_
 refine zX [Pq ae, I aa] (I aa) rfl rfl ?_
 refine zA (Pq ae) rfl ?_
 refine zA (I aa) rfl ?_
 refine s_nil ?_
 refine W.seq ?_
 refine W.seq ?_
 refine W.region rfl ?_
 refine zM (I aa) rfl ?_
 refine zC aa 0 (aa == 0) rfl rfl rfl ?_
 refine zM (B (aa == 0)) rfl ?_
 refine g_val (aa == 0) (gy_t rfl) (fun hg => x_mv (v := I reach) rfl) ?_
 refine g_val (aa == 0) (gy_t rfl) (fun hg => x_fa (a := Pq ac) (v := Oq ac 2) rfl (fa_blk (o := 0) Fd27_2 Sz25)) ?_
 refine g_val (aa == 0) (gy_t rfl) (fun hg => x_ld (p := Oq ac 2) (v := ab) (gd_of (c := aa == 0) hg (Oq ac 2)) (ldb_sc Sc25 (H.bl 3) rfl)) ?_
 have bg := (ak).len_le
 refine g_val (aa == 0) (gy_t rfl) (fun hg => x_lenS T25.und (gd_of (c := aa == 0) hg (ab)) ak) ?_
 refine g_val (aa == 0) (gy_t rfl) (fun hg => x_ari (a := (s_Reaches.length : Int)) (b := 1) (r := (s_Reaches.length : Int) - 1) (gd_of (c := aa == 0) hg (I (s_Reaches.length : Int))) rfl rfl (by first | omega | (have am := hg; simp at am; omega))) ?_
 obtain ⟨r2, aU, hM⟩ := M.e_bind hM
 refine t_gcall (aa == 0) (gy_t rfl) cf34 (B r2) (fun _ => [I reach, I 0, I ((s_Reaches.length : Int) - 1)]) (fun hg => lst3 (gd_of (c := aa == 0) hg (I reach)) rfl (gd_of (c := aa == 0) hg (I ((s_Reaches.length : Int) - 1)))) H (fun hg => (zac reach 0 ((s_Reaches.length : Int) - 1) (M.e_opt aU hg) _ (H.give (A := []) rfl)).mono fun v_ w_ ⟨y_, ag, aw, H_⟩ => by subst ag; exact ⟨aw, H.via H_⟩) ?_
 intro bh H
 refine g_val (aa == 0) (gy_t rfl) (fun hg => x_not (b := r2) (gd_of (c := aa == 0) hg (B r2))) ?_
 refine s_val (x_pand (b := aa == 0) (r := !r2) rfl (fun hb => gd_of (c := aa == 0) (by first | exact hb | (rw [hb]; rfl) | simp_all) (B (!r2))) rfl) ?_
 refine s_nil ?_
 refine W.cond ((aa == 0) && (!r2)) rfl (fun ay => ?_) (fun ay => ?_)
 ·replace hM := M.e_t hM ay
  refine W.region rfl ?_
  refine zA (I 2) rfl ?_
  refine s_nil ?_
  refine W.seq ?_
  refine W.seq ?_
  refine W.region rfl ?_
  refine zM (I 2) rfl ?_
  refine zC 2 0 ((2 : Int) != 0) rfl rfl rfl ?_
  refine s_nil ?_
  refine W.cond ((2 : Int) != 0) rfl (fun aH => ?_) (fun aH => ?_)
  ·skip
   refine W.seq ?_
   refine W.region rfl ?_
   refine s_val (x_bld (ps := []) (zs := [I 0, I 0, I 0, I 0, B false]) (L' := [I 0, I 0, I 0, I 0, B false]) rfl Try.underlying56 Al56 rfl (Bd56 Try.underlying56) (.nil)) ?_
   refine zM (I 2) rfl ?_
   refine zA (.pointer none) rfl ?_
   refine t_sw 2 0 [I 0, I 0, I 0, I 0, B false] (.agg #[I 0, I 0, I 0, I 0, B false]) H rfl rfl Sz56 rfl rfl rfl rfl ?_
   intro bi H
   refine zA (I 2) rfl ?_
   refine s_nil ?_
   replace H := H.pk [2]
   refine W.ret ?_
   have aV := (H.bl 0)
   have ag := M.e_pure hM
   exact ⟨_, (resE_ofn (vs := [.pointer none, .agg #[I 0, I 0, I 0, I 0, B false], I 2]) rfl rfl (.tmp (v := .pointer none) rfl <| .cell (v := .agg #[I 0, I 0, I 0, I 0, B false]) rfl (run_loadVar_ag (ds := [I 0, I 0, I 0, I 0, B false]) Ag56 Sz56 aV rfl rfl) <| .tmp (v := I 2) rfl <| .nil)), .inl (⟨0, 0, 0, 0, false, 2, ag, rfl, (H.pk [])⟩)⟩
  skip
  exact absurd aH (by decide)
 replace hM := M.e_f hM ay
 refine W.skip ?_
 refine W.seq ?_
 refine W.seq ?_
 refine W.region rfl ?_
 refine zM (I aa) rfl ?_
 refine zC aa 0 (aa != 0) rfl rfl rfl ?_
 refine s_nil ?_
 refine W.cond (aa != 0) rfl (fun au => ?_) (fun au => ?_)
 ·replace hM := M.e_t hM au
  exact (M.e_fail hM).elim
 replace hM := M.e_f hM au
 simp only [qy1, qy2, qy3, qy4, qy5, qy6, ne_eq, qy7] at au
 refine W.skip ?_
 refine W.seq ?_
 refine W.draw (fun W => St w W [cBlk ae [ai, aj, ab, .map (some av)] 99, cMemI encSpt av (zaa s_Sections s_Marks s_Reaches), cBlk ac [ai, aj, ab] 27] R) [(0, true), (1, true), (2, true), (3, true), (4, true), (5, true), (6, true), (7, false), (8, true)] mixed (by decide +kernel) rfl ?_
 intro bj am
 replace H := H.ext am
 clear am
 refine ⟨(H.pk [0, 1, 3]), ?_⟩
 refine d_q rfl (fun w' H => x_mv (v := Pq ae) rfl) ?_
 refine d_q rfl (fun w' H => x_fa (a := Pq ac) (v := Oq ac 2) rfl (fa_blk (o := 0) Fd27_2 Sz25)) ?_
 refine d_q rfl (fun w' H => x_ld (p := Oq ac 2) (v := ab) rfl (ldb_sc Sc25 (H.bl 2) rfl)) ?_
 refine d_q rfl (fun w' H => x_mv (v := I reach) rfl) ?_
 obtain ⟨aW, hM⟩ := M.e_grd hM
 simp only [Bool.and_eq_true, decide_eq_true_eq] at aW
 refine d_q rfl (fun w' H => x_ix (a := ab) (b := I reach) (v := vat ab 5 (Int.toNat reach)) rfl rfl (Sl.ix (α := Rch) T25.und T25.size ak (by omega) (by omega))) ?_
 refine d_q rfl (fun w' H => x_ld (p := vat ab 5 (Int.toNat reach)) (v := .agg #[I ((s_Reaches.getD (Int.toNat reach) default).up), I ((s_Reaches.getD (Int.toNat reach) default).down), I ((s_Reaches.getD (Int.toNat reach) default).lo), I ((s_Reaches.getD (Int.toNat reach) default).hi), B ((s_Reaches.getD (Int.toNat reach) default).narrow)]) rfl (ld_ag Ag56 Sz56 (At.mono (Rch_atA ak (i := reach) (by omega) (by omega)) (aD.at H)))) ?_
 refine d_q rfl (fun w' H => x_as (v := Pq ae) rfl) ?_
 refine d_l rfl ?_
 refine t_sw 2 0 [I ((s_Reaches.getD (Int.toNat reach) default).up), I ((s_Reaches.getD (Int.toNat reach) default).down), I ((s_Reaches.getD (Int.toNat reach) default).lo), I ((s_Reaches.getD (Int.toNat reach) default).hi), B ((s_Reaches.getD (Int.toNat reach) default).narrow)] (.agg #[I ((s_Reaches.getD (Int.toNat reach) default).up), I ((s_Reaches.getD (Int.toNat reach) default).down), I ((s_Reaches.getD (Int.toNat reach) default).lo), I ((s_Reaches.getD (Int.toNat reach) default).hi), B ((s_Reaches.getD (Int.toNat reach) default).narrow)]) H rfl rfl Sz56 rfl rfl rfl rfl ?_
 intro bm H
 refine s_nil ⟨(H.pk [0, 1, 3]), ?_⟩
 refine d_q rfl (fun w' H => x_as (v := I 0) rfl) ?_
 refine d_nil ?_
 refine W.ret ?_
 have aX := (H.bl 2)
 have ag := M.e_pure hM
 exact ⟨_, (resE_ofn (vs := [Pq ae, .agg #[I ((s_Reaches.getD (Int.toNat reach) default).up), I ((s_Reaches.getD (Int.toNat reach) default).down), I ((s_Reaches.getD (Int.toNat reach) default).lo), I ((s_Reaches.getD (Int.toNat reach) default).hi), B ((s_Reaches.getD (Int.toNat reach) default).narrow)], I 0]) rfl rfl (.tmp (v := Pq ae) rfl <| .cell (v := .agg #[I ((s_Reaches.getD (Int.toNat reach) default).up), I ((s_Reaches.getD (Int.toNat reach) default).down), I ((s_Reaches.getD (Int.toNat reach) default).lo), I ((s_Reaches.getD (Int.toNat reach) default).hi), B ((s_Reaches.getD (Int.toNat reach) default).narrow)]) rfl (run_loadVar_ag (ds := [I ((s_Reaches.getD (Int.toNat reach) default).up), I ((s_Reaches.getD (Int.toNat reach) default).down), I ((s_Reaches.getD (Int.toNat reach) default).lo), I ((s_Reaches.getD (Int.toNat reach) default).hi), B ((s_Reaches.getD (Int.toNat reach) default).narrow)]) Ag56 Sz56 aX rfl rfl) <| .tmp (v := I 0) rfl <| .nil)), .inr (⟨((s_Reaches.getD (Int.toNat reach) default).up), ((s_Reaches.getD (Int.toNat reach) default).down), ((s_Reaches.getD (Int.toNat reach) default).lo), ((s_Reaches.getD (Int.toNat reach) default).hi), ((s_Reaches.getD (Int.toNat reach) default).narrow), 0, ae, av, ag, rfl, (H.pk [0, 1])⟩)⟩

def zbb (s : List Int) (f : Int -> M Bool) : Nat -> M (Nat ⊕ (Int ⊕ Unit)) := fun s2 =>
  bif decide ((s2 : Int) < (s.length : Int)) then (
  M.grd (decide ((s2 : Int) < (s.length : Int))) <|
  M.bind (f (s.getD s2 0)) fun r2 =>
  bif r2 then (
  M.pure (.inr (.inl (s2 : Int))))
  else (
  M.pure (.inl (s2 + 1))))
  else (
  M.pure (.inr (.inr ())))
def zbS (s : List Int) (f : Int -> M Bool) : M Int :=
  M.bind (M.iter (zbb s f) 0) fun x_ => match x_ with
  | (.inl s3) => (
  M.pure s3)
  | (.inr (_ : Unit)) => (
  M.pure (-1))
theorem zcW {R : List Chunk} {am : Cells} {aa : Value} {ac : Value} (s : List Int) (f : Int -> M Bool) (aq : Reads R am) (ae : Sl am aa s) (au : FnM Try.prog R ac f) {r : Int} (hM : (zbS s f).Ends r) (w : World) (H : St w w [] R) : Ret Try.prog 101 #[aa, ac] w fun v w' => ∃ (y0 : Int), y0 = r /\ v = I y0 /\ St w w' [] R := by
 refine ret_of_W Try.func101 rfl rfl rfl ?_
 refine W.seq ?_
 refine W.region rfl ?_
 refine zA (I 0) rfl ?_
 refine s_nil ?_
 refine W.seq ?_
 refine W.seq ?_
 refine W.region rfl ?_
 refine zM aa rfl ?_
 have aC := (ae).len_le
 refine s_val (x_lenS T28.und rfl ae) ?_
 refine zM (I 0) rfl ?_
 refine s_nil ?_
 refine W.block ?_
 obtain ⟨av, ag, ao⟩ := M.e_bind hM
 obtain ⟨aD, ag⟩ := M.e_iter ag
 refine W.loop (fun m σ W => ∃ (s2 : Nat) (ρ : Env), σ = upds ρ [(0, aa), (1, ac), (7, I (s.length : Int)), (8, I (s2 : Int))] /\ M.iterN (zbb s f) m s2 = some av /\ St w W [] R) ?_ ?_
 ·exact ⟨_, 0, _, upds_of _ _ ⟨rfl, rfl, rfl, rfl, trivial⟩, ag, H⟩
 rintro aE σ aF ⟨s2, ρ, rfl, ap, H⟩
 obtain ⟨aw, ax, aG, hM, ai⟩ := M.e_iterN ap
 simp only [zbb] at hM
 clear ap
 refine W.seq ?_
 refine W.region rfl ?_
 refine zC (s2 : Int) (s.length : Int) (decide ((s2 : Int) < (s.length : Int))) rfl rfl rfl ?_
 refine s_nil ?_
 refine W.seq ?_
 refine W.cond (decide ((s2 : Int) < (s.length : Int))) rfl (fun ab => ?_) (fun ab => ?_)
 ·replace hM := M.e_t hM ab
  simp only [qy1, qy2, qy3, qy4, qy5, qy6, ne_eq, qy7] at ab
  refine W.skip ?_
  refine W.seq ?_
  refine W.block ?_
  refine W.seq ?_
  refine W.region rfl ?_
  refine zM (I (s2 : Int)) rfl ?_
  refine zA (I (s2 : Int)) rfl ?_
  refine s_nil ?_
  refine W.seq ?_
  refine W.region rfl ?_
  refine zM ac rfl ?_
  refine zM aa rfl ?_
  refine zM (I (s2 : Int)) rfl ?_
  obtain ⟨ay, hM⟩ := M.e_grd hM
  simp only [Bool.and_eq_true, decide_eq_true_eq] at ay
  refine s_val (x_ix (a := aa) (b := I (s2 : Int)) (v := vat aa 1 (Int.toNat (s2 : Int))) rfl rfl (Sl.ix (α := Int) T28.und T28.size ae (by omega) (by omega))) ?_
  refine s_val (x_ld (p := vat aa 1 (Int.toNat (s2 : Int))) (v := I (s.getD s2 0)) rfl (ld_sc Sc3 (At.mono (Int_at ae (i := (s2 : Int)) (by omega) (by omega)) (aq.at H)))) ?_
  obtain ⟨r2, az, hM⟩ := M.e_bind hM
  refine t_callM H au rfl rfl (s.getD s2 0) Reads.none (Arg.mkI (fun _ => none) _) az ?_
  intro aH H
  refine s_nil ?_
  refine W.cond r2 rfl (fun aj => ?_) (fun aj => ?_)
  ·replace hM := M.e_t hM aj
   refine W.seq ?_
   refine W.region rfl ?_
   refine zM (I (s2 : Int)) rfl ?_
   refine zA (I (s2 : Int)) rfl ?_
   refine s_nil ?_
   refine W.ret ?_
   have aA := M.e_inr hM ai
   subst aA
   replace hM := ao
   try dsimp only at hM
   have ak := M.e_pure hM
   exact ⟨_, resE_tmp rfl, ⟨(s2 : Int), ak, rfl, H⟩⟩
  replace hM := M.e_f hM aj
  refine W.skip ?_
  refine W.region rfl ?_
  refine zR (s2 : Int) 1 ((s2 : Int) + 1) rfl rfl rfl (by omega) ?_
  refine zM (I ((s2 : Int) + 1)) rfl ?_
  refine s_nil ?_
  exact ⟨aw, ax, s2 + 1, _, upds_of _ _ ⟨rfl, rfl, rfl, rfl, trivial⟩, M.e_inl hM ai, H⟩
 replace hM := M.e_f hM ab
 simp only [qy1, qy2, qy3, qy4, qy5, qy6, ne_eq, qy7] at ab
 refine W.exit ?_
 have aB := M.e_inr hM ai
 subst aB
 replace hM := ao
 try dsimp only at hM
 refine W.seq ?_
 refine W.region rfl ?_
 refine zA (I (-1)) rfl ?_
 refine s_nil ?_
 refine W.ret ?_
 have ak := M.e_pure hM
 exact ⟨_, resE_tmp rfl, ⟨(-1), ak, rfl, H⟩⟩

def zbW (s : List Int) (f : Int -> M Bool) : M Bool :=
  M.bind (zbS s f) fun r2 =>
  M.pure (decide (0 <= r2))
theorem zcI {R : List Chunk} {ac : Cells} {aa : Value} {ab : Value} (s : List Int) (f : Int -> M Bool) (ag : Reads R ac) (ai : Sl ac aa s) (aj : FnM Try.prog R ab f) {r : Bool} (hM : (zbW s f).Ends r) (w : World) (H : St w w [] R) : Ret Try.prog 80 #[aa, ab] w fun v w' => ∃ (y0 : Bool), y0 = r /\ v = B y0 /\ St w w' [] R := by
 refine ret_of_W Try.func80 rfl rfl rfl ?_
 refine W.seq ?_
 refine W.region rfl ?_
 refine zA (B false) rfl ?_
 refine s_nil ?_
 refine W.seq ?_
 refine W.region rfl ?_
 refine zM aa rfl ?_
 refine zM ab rfl ?_
 obtain ⟨ap, ak, hM⟩ := M.e_bind hM
 refine s_call cf101 [aa, ab] rfl (zcW s f (ag.app _) ai (aj.app _) ak _ (H.gt 0)) ?_
 rintro vq aq ⟨r2, am, hvq, ae⟩
 subst am
 subst vq
 try dsimp only at hM
 replace H := H.bk ae
 clear ae
 refine zC r2 0 (decide (0 <= r2)) rfl rfl rfl ?_
 refine zA (B (decide (0 <= r2))) rfl ?_
 refine s_nil ?_
 refine W.ret ?_
 have ao := M.e_pure hM
 exact ⟨_, resE_tmp rfl, ⟨(decide (0 <= r2)), ao, rfl, H⟩⟩

def zby (x : Int) (aa : Int -> M Bool) : M Bool :=
  M.bind (aa x) fun r2 =>
  M.pure (!r2)
theorem zcZ {R : List Chunk} {aa : Nat} {ab : Value} (x : Int) (ac : Int -> M Bool) (ae : FnM Try.prog R ab ac) (ag : Has R (cBlk aa [ab] 118)) {r : Bool} (hM : (zby x ac).Ends r) (w : World) (H : St w w [] R) : Ret Try.prog 81 #[I x, Pq aa] w fun v w' => ∃ (y0 : Bool), y0 = r /\ v = B y0 /\ St w w' [] R := by
 refine ret_of_W Try.func81 rfl rfl rfl ?_
 refine W.seq ?_
 refine W.region rfl ?_
 refine zA (B false) rfl ?_
 refine s_nil ?_
 refine W.seq ?_
 refine W.region rfl ?_
 refine s_val (x_ld (p := Pq aa) (v := ab) rfl (ldb_sc Sc118 (ag.blk H) rfl)) ?_
 refine zM (I x) rfl ?_
 obtain ⟨r2, ai, hM⟩ := M.e_bind hM
 refine t_callM H ae rfl rfl x Reads.none (Arg.mkI (fun _ => none) _) ai ?_
 intro ak H
 refine s_val (x_not (b := r2) rfl) ?_
 refine zA (B (!r2)) rfl ?_
 refine s_nil ?_
 refine W.ret ?_
 have aj := M.e_pure hM
 exact ⟨_, resE_tmp rfl, ⟨(!r2), aj, rfl, H⟩⟩

def zas (l : List Int) (so : Int -> M Bool) : M Bool :=
  M.bind (zbW l (fun aa => zby aa so)) fun r2 =>
  M.pure (!r2)
theorem zbC {R : List Chunk} {ag : Cells} {aa : Value} {ab : Value} (l : List Int) (so : Int -> M Bool) (am : Reads R ag) (ao : Sl ag aa l) (ai : FnM Try.prog R ab so) {r : Bool} (hM : (zas l so).Ends r) (w : World) (H : St w w [] R) : Ret Try.prog 46 #[aa, ab] w fun v w' => ∃ (y0 : Bool), y0 = r /\ v = B y0 /\ St w w' [] R := by
 refine ret_of_W Try.func46 rfl rfl rfl ?_
 refine W.seq ?_
 refine W.region rfl ?_
 refine t_box (v := ab) (cs := [ab]) H rfl (FnM.cells ai) ?_
 intro ac aC H
 refine zA (B false) rfl ?_
 refine s_nil ?_
 refine W.seq ?_
 refine W.region rfl ?_
 refine zM aa rfl ?_
 refine s_val (x_mf (fs := []) (cs := [Pq ac]) rfl rfl) ?_
 obtain ⟨aD, ap, hM⟩ := M.e_bind hM
 refine s_call cf80 [aa, .func (.func 81) #[] #[Pq ac]] rfl (zcI l (fun ae => zby ae so) (am.app _) ao ⟨81, [Pq ac], rfl, cf81, fun aj aE aF aq ae aG au aH av aw => by obtain rfl := Arg.int av; exact (zcZ ae so (FnM.app (ai.app _) _) (Has.app (Has.here (k := 0) rfl) _) aw aj (St.refl au)).mono fun aq aj ⟨aI, ax, ay, az⟩ => by subst ax; exact ⟨ay, az⟩⟩ ap _ (H.gt 1)) ?_
 rintro vq aJ ⟨r2, aA, hvq, ak⟩
 subst aA
 subst vq
 try dsimp only at hM
 replace H := H.bk ak
 clear ak
 refine s_val (x_not (b := r2) rfl) ?_
 refine zA (B (!r2)) rfl ?_
 refine s_nil ?_
 refine W.ret ?_
 have aB := M.e_pure hM
 exact ⟨_, resE_tmp rfl, ⟨(!r2), aB, rfl, (H.pk [])⟩⟩

def zag (ab : List Sect) (aa : List Mrk) (ac : List Rch) (a : Int) (b : Int) : M Bool :=
  M.grd (decide ((0 : Int) <= a) && decide (a < (aa.length : Int))) <|
  M.grd (decide ((0 : Int) <= b) && decide (b < (aa.length : Int))) <|
  M.pure ((decide (((aa.getD (Int.toNat a) default).place) <= ((aa.getD (Int.toNat b) default).place))) && (decide (((aa.getD (Int.toNat a) default).hi) < ((aa.getD (Int.toNat b) default).lo))))
theorem zar {R : List Chunk} {ab : Nat} {ak : Cells} {am : Value} {ao : Cells} {ac : Value} {ap : Cells} {aq : Value} {aw : Nat} (au : List Sect) (aa : List Mrk) (av : List Rch) (a : Int) (b : Int) (aA : Reads R ak) (aB : Sl ak am au) (ai : Reads R ao) (ag : Sl ao ac aa) (aC : Reads R ap) (aD : Sl ap aq av) (aj : Has R (cBlk ab [am, ac, aq, .map (some aw)] 99)) {r : Bool} (hM : (zag au aa av a b).Ends r) (w : World) (H : St w w [] R) : Ret Try.prog 23 #[Pq ab, I a, I b] w fun v w' => ∃ (y0 : Bool), y0 = r /\ v = B y0 /\ St w w' [] R := by
 refine ret_of_W Try.func23 rfl rfl rfl ?_
 refine W.seq ?_
 refine W.region rfl ?_
 refine zA (B false) rfl ?_
 refine s_nil ?_
 refine W.seq ?_
 refine W.draw (fun W => St w W [] R) [(0, true), (1, true), (2, true), (3, true), (4, true), (5, true), (6, true), (7, true), (8, true), (9, true), (10, true), (11, true), (12, true), (13, true), (14, true), (15, true), (16, true), (17, true), (18, true), (19, true), (20, true), (21, true), (22, true), (23, true), (24, true), (25, true), (26, true), (27, true), (28, true), (29, true), (30, true), (31, true), (32, true), (33, true), (34, true), (35, true), (36, true), (37, true), (38, true), (39, true), (40, true), (41, true), (42, true)] mixed (by decide +kernel) rfl ?_
 intro aE ae
 replace H := H.ext ae
 clear ae
 refine ⟨(H.pk []), ?_⟩
 refine d_q rfl (fun w' H => x_mv (v := Pq ab) rfl) ?_
 refine d_q rfl (fun w' H => x_nc (a := ⟨ab, 0, none⟩) rfl) ?_
 refine d_q rfl (fun w' H => x_fa (a := Pq ab) (v := Pq ab) rfl (fa_blk (o := 0) Fd99_0 Sz27)) ?_
 refine d_q rfl (fun w' H => x_fa (a := Pq ab) (v := Oq ab 1) rfl (fa_blk (o := 0) Fd27_1 Sz24)) ?_
 refine d_q rfl (fun w' H => x_ld (p := Oq ab 1) (v := ac) rfl (ldb_sc Sc24 (aj.blk H) rfl)) ?_
 refine d_q rfl (fun w' H => x_mv (v := I a) rfl) ?_
 obtain ⟨ax, hM⟩ := M.e_grd hM
 simp only [Bool.and_eq_true, decide_eq_true_eq] at ax
 refine d_q rfl (fun w' H => x_ix (a := ac) (b := I a) (v := vat ac 3 (Int.toNat a)) rfl rfl (Sl.ix (α := Mrk) T24.und T24.size ag (by omega) (by omega))) ?_
 refine d_q rfl (fun w' H => x_fa (a := vat ac 3 (Int.toNat a)) (v := fat (vat ac 3 (Int.toNat a)) 0) rfl (fa_pl Fd46_0 Sz3 (Sl.pl (i := a) ag (by omega) (by omega)))) ?_
 refine d_q rfl (fun w' H => x_ld (p := fat (vat ac 3 (Int.toNat a)) 0) (v := I ((aa.getD (Int.toNat a) default).place)) rfl (ld_sc Sc3 (At.mono (Mrk_at0 ag (i := a) (by omega) (by omega)) (ai.at H)))) ?_
 refine d_q rfl (fun w' H => x_mv (v := Pq ab) rfl) ?_
 refine d_q rfl (fun w' H => x_nc (a := ⟨ab, 0, none⟩) rfl) ?_
 refine d_q rfl (fun w' H => x_fa (a := Pq ab) (v := Pq ab) rfl (fa_blk (o := 0) Fd99_0 Sz27)) ?_
 refine d_q rfl (fun w' H => x_fa (a := Pq ab) (v := Oq ab 1) rfl (fa_blk (o := 0) Fd27_1 Sz24)) ?_
 refine d_q rfl (fun w' H => x_ld (p := Oq ab 1) (v := ac) rfl (ldb_sc Sc24 (aj.blk H) rfl)) ?_
 refine d_q rfl (fun w' H => x_mv (v := I b) rfl) ?_
 obtain ⟨ay, hM⟩ := M.e_grd hM
 simp only [Bool.and_eq_true, decide_eq_true_eq] at ay
 refine d_q rfl (fun w' H => x_ix (a := ac) (b := I b) (v := vat ac 3 (Int.toNat b)) rfl rfl (Sl.ix (α := Mrk) T24.und T24.size ag (by omega) (by omega))) ?_
 refine d_q rfl (fun w' H => x_fa (a := vat ac 3 (Int.toNat b)) (v := fat (vat ac 3 (Int.toNat b)) 0) rfl (fa_pl Fd46_0 Sz3 (Sl.pl (i := b) ag (by omega) (by omega)))) ?_
 refine d_q rfl (fun w' H => x_ld (p := fat (vat ac 3 (Int.toNat b)) 0) (v := I ((aa.getD (Int.toNat b) default).place)) rfl (ld_sc Sc3 (At.mono (Mrk_at0 ag (i := b) (by omega) (by omega)) (ai.at H)))) ?_
 refine d_q rfl (fun w' H => x_cmp (kd := .i64) (a := (aa.getD (Int.toNat a) default).place) (b := (aa.getD (Int.toNat b) default).place) (r := decide (((aa.getD (Int.toNat a) default).place) <= ((aa.getD (Int.toNat b) default).place))) rfl rfl rfl) ?_
 refine d_q rfl (fun w' H => x_mv (v := B (decide (((aa.getD (Int.toNat a) default).place) <= ((aa.getD (Int.toNat b) default).place)))) rfl) ?_
 refine d_qg (decide (((aa.getD (Int.toNat a) default).place) <= ((aa.getD (Int.toNat b) default).place))) rfl (gy_t rfl) (fun hg => (fun w' H => x_mv (v := Pq ab) rfl)) ?_
 refine d_qg (decide (((aa.getD (Int.toNat a) default).place) <= ((aa.getD (Int.toNat b) default).place))) rfl (gy_t rfl) (fun hg => (fun w' H => x_nc (a := ⟨ab, 0, none⟩) (gd_of (c := decide (((aa.getD (Int.toNat a) default).place) <= ((aa.getD (Int.toNat b) default).place))) hg (Pq ab)))) ?_
 refine d_qg (decide (((aa.getD (Int.toNat a) default).place) <= ((aa.getD (Int.toNat b) default).place))) rfl (gy_t rfl) (fun hg => (fun w' H => x_fa (a := Pq ab) (v := Pq ab) (gd_of (c := decide (((aa.getD (Int.toNat a) default).place) <= ((aa.getD (Int.toNat b) default).place))) hg (Pq ab)) (fa_blk (o := 0) Fd99_0 Sz27))) ?_
 refine d_qg (decide (((aa.getD (Int.toNat a) default).place) <= ((aa.getD (Int.toNat b) default).place))) rfl (gy_t rfl) (fun hg => (fun w' H => x_fa (a := Pq ab) (v := Oq ab 1) (gd_of (c := decide (((aa.getD (Int.toNat a) default).place) <= ((aa.getD (Int.toNat b) default).place))) hg (Pq ab)) (fa_blk (o := 0) Fd27_1 Sz24))) ?_
 refine d_qg (decide (((aa.getD (Int.toNat a) default).place) <= ((aa.getD (Int.toNat b) default).place))) rfl (gy_t rfl) (fun hg => (fun w' H => x_ld (p := Oq ab 1) (v := ac) (gd_of (c := decide (((aa.getD (Int.toNat a) default).place) <= ((aa.getD (Int.toNat b) default).place))) hg (Oq ab 1)) (ldb_sc Sc24 (aj.blk H) rfl))) ?_
 refine d_qg (decide (((aa.getD (Int.toNat a) default).place) <= ((aa.getD (Int.toNat b) default).place))) rfl (gy_t rfl) (fun hg => (fun w' H => x_mv (v := I a) rfl)) ?_
 refine d_qg (decide (((aa.getD (Int.toNat a) default).place) <= ((aa.getD (Int.toNat b) default).place))) rfl (gy_t rfl) (fun hg => (fun w' H => x_ix (a := ac) (b := I a) (v := vat ac 3 (Int.toNat a)) (gd_of (c := decide (((aa.getD (Int.toNat a) default).place) <= ((aa.getD (Int.toNat b) default).place))) hg (ac)) (gd_of (c := decide (((aa.getD (Int.toNat a) default).place) <= ((aa.getD (Int.toNat b) default).place))) hg (I a)) (Sl.ix (α := Mrk) T24.und T24.size ag (by first | omega | (have ae := hg; simp at ae; omega)) (by first | omega | (have ae := hg; simp at ae; omega))))) ?_
 refine d_qg (decide (((aa.getD (Int.toNat a) default).place) <= ((aa.getD (Int.toNat b) default).place))) rfl (gy_t rfl) (fun hg => (fun w' H => x_fa (a := vat ac 3 (Int.toNat a)) (v := fat (vat ac 3 (Int.toNat a)) 1) (gd_of (c := decide (((aa.getD (Int.toNat a) default).place) <= ((aa.getD (Int.toNat b) default).place))) hg (vat ac 3 (Int.toNat a))) (fa_pl Fd46_1 Sz44 (Sl.pl (i := a) ag (by first | omega | (have ae := hg; simp at ae; omega)) (by first | omega | (have ae := hg; simp at ae; omega)))))) ?_
 refine d_qg (decide (((aa.getD (Int.toNat a) default).place) <= ((aa.getD (Int.toNat b) default).place))) rfl (gy_t rfl) (fun hg => (fun w' H => x_fa (a := fat (vat ac 3 (Int.toNat a)) 1) (v := fat (vat ac 3 (Int.toNat a)) 2) (gd_of (c := decide (((aa.getD (Int.toNat a) default).place) <= ((aa.getD (Int.toNat b) default).place))) hg (fat (vat ac 3 (Int.toNat a)) 1)) (fa_pl2 (a := 1) (c := 2) Fd44_1 Sz3 (Sl.pl (i := a) ag (by first | omega | (have ae := hg; simp at ae; omega)) (by first | omega | (have ae := hg; simp at ae; omega))) rfl))) ?_
 refine d_qg (decide (((aa.getD (Int.toNat a) default).place) <= ((aa.getD (Int.toNat b) default).place))) rfl (gy_t rfl) (fun hg => (fun w' H => x_ld (p := fat (vat ac 3 (Int.toNat a)) 2) (v := I ((aa.getD (Int.toNat a) default).hi)) (gd_of (c := decide (((aa.getD (Int.toNat a) default).place) <= ((aa.getD (Int.toNat b) default).place))) hg (fat (vat ac 3 (Int.toNat a)) 2)) (ld_sc Sc3 (At.mono (Mrk_at2 ag (i := a) (by first | omega | (have ae := hg; simp at ae; omega)) (by first | omega | (have ae := hg; simp at ae; omega))) (ai.at H))))) ?_
 refine d_qg (decide (((aa.getD (Int.toNat a) default).place) <= ((aa.getD (Int.toNat b) default).place))) rfl (gy_t rfl) (fun hg => (fun w' H => x_mv (v := Pq ab) rfl)) ?_
 refine d_qg (decide (((aa.getD (Int.toNat a) default).place) <= ((aa.getD (Int.toNat b) default).place))) rfl (gy_t rfl) (fun hg => (fun w' H => x_nc (a := ⟨ab, 0, none⟩) (gd_of (c := decide (((aa.getD (Int.toNat a) default).place) <= ((aa.getD (Int.toNat b) default).place))) hg (Pq ab)))) ?_
 refine d_qg (decide (((aa.getD (Int.toNat a) default).place) <= ((aa.getD (Int.toNat b) default).place))) rfl (gy_t rfl) (fun hg => (fun w' H => x_fa (a := Pq ab) (v := Pq ab) (gd_of (c := decide (((aa.getD (Int.toNat a) default).place) <= ((aa.getD (Int.toNat b) default).place))) hg (Pq ab)) (fa_blk (o := 0) Fd99_0 Sz27))) ?_
 refine d_qg (decide (((aa.getD (Int.toNat a) default).place) <= ((aa.getD (Int.toNat b) default).place))) rfl (gy_t rfl) (fun hg => (fun w' H => x_fa (a := Pq ab) (v := Oq ab 1) (gd_of (c := decide (((aa.getD (Int.toNat a) default).place) <= ((aa.getD (Int.toNat b) default).place))) hg (Pq ab)) (fa_blk (o := 0) Fd27_1 Sz24))) ?_
 refine d_qg (decide (((aa.getD (Int.toNat a) default).place) <= ((aa.getD (Int.toNat b) default).place))) rfl (gy_t rfl) (fun hg => (fun w' H => x_ld (p := Oq ab 1) (v := ac) (gd_of (c := decide (((aa.getD (Int.toNat a) default).place) <= ((aa.getD (Int.toNat b) default).place))) hg (Oq ab 1)) (ldb_sc Sc24 (aj.blk H) rfl))) ?_
 refine d_qg (decide (((aa.getD (Int.toNat a) default).place) <= ((aa.getD (Int.toNat b) default).place))) rfl (gy_t rfl) (fun hg => (fun w' H => x_mv (v := I b) rfl)) ?_
 refine d_qg (decide (((aa.getD (Int.toNat a) default).place) <= ((aa.getD (Int.toNat b) default).place))) rfl (gy_t rfl) (fun hg => (fun w' H => x_ix (a := ac) (b := I b) (v := vat ac 3 (Int.toNat b)) (gd_of (c := decide (((aa.getD (Int.toNat a) default).place) <= ((aa.getD (Int.toNat b) default).place))) hg (ac)) (gd_of (c := decide (((aa.getD (Int.toNat a) default).place) <= ((aa.getD (Int.toNat b) default).place))) hg (I b)) (Sl.ix (α := Mrk) T24.und T24.size ag (by first | omega | (have ae := hg; simp at ae; omega)) (by first | omega | (have ae := hg; simp at ae; omega))))) ?_
 refine d_qg (decide (((aa.getD (Int.toNat a) default).place) <= ((aa.getD (Int.toNat b) default).place))) rfl (gy_t rfl) (fun hg => (fun w' H => x_fa (a := vat ac 3 (Int.toNat b)) (v := fat (vat ac 3 (Int.toNat b)) 1) (gd_of (c := decide (((aa.getD (Int.toNat a) default).place) <= ((aa.getD (Int.toNat b) default).place))) hg (vat ac 3 (Int.toNat b))) (fa_pl Fd46_1 Sz44 (Sl.pl (i := b) ag (by first | omega | (have ae := hg; simp at ae; omega)) (by first | omega | (have ae := hg; simp at ae; omega)))))) ?_
 refine d_qg (decide (((aa.getD (Int.toNat a) default).place) <= ((aa.getD (Int.toNat b) default).place))) rfl (gy_t rfl) (fun hg => (fun w' H => x_fa (a := fat (vat ac 3 (Int.toNat b)) 1) (v := fat (vat ac 3 (Int.toNat b)) 1) (gd_of (c := decide (((aa.getD (Int.toNat a) default).place) <= ((aa.getD (Int.toNat b) default).place))) hg (fat (vat ac 3 (Int.toNat b)) 1)) (fa_pl2 (a := 1) (c := 1) Fd44_0 Sz3 (Sl.pl (i := b) ag (by first | omega | (have ae := hg; simp at ae; omega)) (by first | omega | (have ae := hg; simp at ae; omega))) rfl))) ?_
 refine d_qg (decide (((aa.getD (Int.toNat a) default).place) <= ((aa.getD (Int.toNat b) default).place))) rfl (gy_t rfl) (fun hg => (fun w' H => x_ld (p := fat (vat ac 3 (Int.toNat b)) 1) (v := I ((aa.getD (Int.toNat b) default).lo)) (gd_of (c := decide (((aa.getD (Int.toNat a) default).place) <= ((aa.getD (Int.toNat b) default).place))) hg (fat (vat ac 3 (Int.toNat b)) 1)) (ld_sc Sc3 (At.mono (Mrk_at1 ag (i := b) (by first | omega | (have ae := hg; simp at ae; omega)) (by first | omega | (have ae := hg; simp at ae; omega))) (ai.at H))))) ?_
 refine d_qg (decide (((aa.getD (Int.toNat a) default).place) <= ((aa.getD (Int.toNat b) default).place))) rfl (gy_t rfl) (fun hg => (fun w' H => x_cmp (kd := .i64) (a := (aa.getD (Int.toNat a) default).hi) (b := (aa.getD (Int.toNat b) default).lo) (r := decide (((aa.getD (Int.toNat a) default).hi) < ((aa.getD (Int.toNat b) default).lo))) (gd_of (c := decide (((aa.getD (Int.toNat a) default).place) <= ((aa.getD (Int.toNat b) default).place))) hg (I ((aa.getD (Int.toNat a) default).hi))) (gd_of (c := decide (((aa.getD (Int.toNat a) default).place) <= ((aa.getD (Int.toNat b) default).place))) hg (I ((aa.getD (Int.toNat b) default).lo))) rfl)) ?_
 refine d_q rfl (fun w' H => x_pand (b := decide (((aa.getD (Int.toNat a) default).place) <= ((aa.getD (Int.toNat b) default).place))) (r := decide (((aa.getD (Int.toNat a) default).hi) < ((aa.getD (Int.toNat b) default).lo))) rfl (fun hb => gd_of (c := decide (((aa.getD (Int.toNat a) default).place) <= ((aa.getD (Int.toNat b) default).place))) (by first | exact hb | (rw [hb]; rfl) | simp_all) (B (decide (((aa.getD (Int.toNat a) default).hi) < ((aa.getD (Int.toNat b) default).lo))))) rfl) ?_
 refine d_q rfl (fun w' H => x_as (v := B ((decide (((aa.getD (Int.toNat a) default).place) <= ((aa.getD (Int.toNat b) default).place))) && (decide (((aa.getD (Int.toNat a) default).hi) < ((aa.getD (Int.toNat b) default).lo))))) rfl) ?_
 refine d_nil ?_
 refine W.ret ?_
 have az := M.e_pure hM
 exact ⟨_, resE_tmp rfl, ⟨((decide (((aa.getD (Int.toNat a) default).place) <= ((aa.getD (Int.toNat b) default).place))) && (decide (((aa.getD (Int.toNat a) default).hi) < ((aa.getD (Int.toNat b) default).lo)))), az, rfl, H⟩⟩

def zbA (b : Int) (aa : List Sect) (ab : List Mrk) (ac : List Rch) (ae : Int) : M Bool :=
  M.bind (zag aa ab ac ae b) fun r2 =>
  M.pure (!r2)
theorem zc5 {R : List Chunk} {ac : Nat} {ab : Nat} {ak : Cells} {am : Value} {ao : Cells} {ap : Value} {aq : Cells} {au : Value} {aw : Nat} {ae : Nat} (b : Int) (ag : List Sect) (ai : List Mrk) (aj : List Rch) (aa : Int) (ax : Reads R ak) (ay : Sl ak am ag) (az : Reads R ao) (aA : Sl ao ap ai) (aB : Reads R aq) (aC : Sl aq au aj) (aD : Has R (cBlk ab [am, ap, au, .map (some aw)] 99)) (aE : Has R (cBlk ac [Pq ab] 72)) (aF : Has R (cBlk ae [I aa] 3)) {r : Bool} (hM : (zbA b ag ai aj aa).Ends r) (w : World) (H : St w w [] R) : Ret Try.prog 48 #[I b, Pq ac, Pq ae] w fun v w' => ∃ (y0 : Bool), y0 = r /\ v = B y0 /\ St w w' [] R := by
 refine ret_of_W Try.func48 rfl rfl rfl ?_
 refine W.seq ?_
 refine W.region rfl ?_
 refine zA (B false) rfl ?_
 refine s_nil ?_
 refine W.seq ?_
 refine W.region rfl ?_
 refine s_val (x_ld (p := Pq ac) (v := Pq ab) rfl (ldb_sc Sc72 (aE.blk H) rfl)) ?_
 refine s_val (x_ld (p := Pq ae) (v := I aa) rfl (ldb_sc Sc3 (aF.blk H) rfl)) ?_
 refine zM (I b) rfl ?_
 obtain ⟨aJ, aG, hM⟩ := M.e_bind hM
 refine s_call cf23 [Pq ab, I aa, I b] rfl (zar ag ai aj aa b (ax.app _) ay (az.app _) aA (aB.app _) aC (aD.app _) aG _ (H.gt 0)) ?_
 rintro vq aK ⟨r2, aH, hvq, av⟩
 subst aH
 subst vq
 try dsimp only at hM
 replace H := H.bk av
 clear av
 refine s_val (x_not (b := r2) rfl) ?_
 refine zA (B (!r2)) rfl ?_
 refine s_nil ?_
 refine W.ret ?_
 have aI := M.e_pure hM
 exact ⟨_, resE_tmp rfl, ⟨(!r2), aI, rfl, H⟩⟩

def zbD (a : Int) (aa : List Int) (ab : List Sect) (ac : List Mrk) (ae : List Rch) : M Bool :=
  M.bind (zas aa (fun ag => zbA ag ab ac ae a)) fun r2 =>
  M.pure r2
theorem zdf {R : List Chunk} {ai : Nat} {ao : Cells} {ab : Value} {aa : Nat} {ap : Nat} {aq : Cells} {au : Value} {av : Cells} {aw : Value} {ax : Cells} {ay : Value} {aB : Nat} (a : Int) (aj : List Int) (ac : List Sect) (ae : List Mrk) (ag : List Rch) (aC : Reads R ao) (aD : Sl ao ab aj) (aE : Has R (cBlk ai [ab] 28)) (aF : Reads R aq) (aG : Sl aq au ac) (aH : Reads R av) (aI : Sl av aw ae) (aJ : Reads R ax) (aK : Sl ax ay ag) (aL : Has R (cBlk ap [au, aw, ay, .map (some aB)] 99)) (aM : Has R (cBlk aa [Pq ap] 72)) {r : Bool} (hM : (zbD a aj ac ae ag).Ends r) (w : World) (H : St w w [] R) : Ret Try.prog 47 #[I a, Pq ai, Pq aa] w fun v w' => ∃ (y0 : Bool), y0 = r /\ v = B y0 /\ St w w' [] R := by
 refine ret_of_W Try.func47 rfl rfl rfl ?_
 refine W.seq ?_
 refine W.region rfl ?_
 refine t_box (v := I a) (cs := [I a]) H rfl rfl ?_
 intro ak aX H
 refine zA (B false) rfl ?_
 refine s_nil ?_
 refine W.seq ?_
 refine W.region rfl ?_
 refine s_val (x_ld (p := Pq ai) (v := ab) rfl (ldb_sc Sc28 (aE.blk H) rfl)) ?_
 refine s_val (x_mf (fs := []) (cs := [Pq aa, Pq ak]) rfl rfl) ?_
 obtain ⟨aY, aN, hM⟩ := M.e_bind hM
 refine s_call cf46 [ab, .func (.func 48) #[] #[Pq aa, Pq ak]] rfl (zbC aj (fun am => zbA am ac ae ag a) (aC.app _) aD ⟨48, [Pq aa, Pq ak], rfl, cf48, fun az aZ a6 aO am a7 aP a8 aQ aR => by obtain rfl := Arg.int aQ; exact (zc5 am ac ae ag a (Reads.app (aF.app _) _) aG (Reads.app (aH.app _) _) aI (Reads.app (aJ.app _) _) aK (Has.app (aL.app _) _) (Has.app (aM.app _) _) (Has.app (Has.here (k := 0) rfl) _) aR az (St.refl aP)).mono fun aO az ⟨ba, aS, aT, aU⟩ => by subst aS; exact ⟨aT, aU⟩⟩ aN _ (H.gt 1)) ?_
 rintro vq bb ⟨r2, aV, hvq, aA⟩
 subst aV
 subst vq
 try dsimp only at hM
 replace H := H.bk aA
 clear aA
 refine zA (B r2) rfl ?_
 refine s_nil ?_
 refine W.ret ?_
 have aW := M.e_pure hM
 exact ⟨_, resE_tmp rfl, ⟨r2, aW, rfl, (H.pk [])⟩⟩

def zaK (aa : List Sect) (ab : List Mrk) (ac : List Rch) (marks : List Int) : M Bool :=
  M.bind (zas marks (fun ae => zbD ae marks aa ab ac)) fun r2 =>
  M.pure r2
theorem zco {R : List Chunk} {ab : Nat} {ao : Cells} {ap : Value} {aq : Cells} {au : Value} {av : Cells} {aw : Value} {aB : Nat} {ax : Cells} {aa : Value} (ac : List Sect) (ae : List Mrk) (ag : List Rch) (marks : List Int) (aC : Reads R ao) (aD : Sl ao ap ac) (aE : Reads R aq) (aF : Sl aq au ae) (aG : Reads R av) (aH : Sl av aw ag) (aI : Has R (cBlk ab [ap, au, aw, .map (some aB)] 99)) (ay : Reads R ax) (aj : Sl ax aa marks) {r : Bool} (hM : (zaK ac ae ag marks).Ends r) (w : World) (H : St w w [] R) : Ret Try.prog 30 #[Pq ab, aa] w fun v w' => ∃ (y0 : Bool), y0 = r /\ v = B y0 /\ St w w' [] R := by
 refine ret_of_W Try.func30 rfl rfl rfl ?_
 refine W.seq ?_
 refine W.region rfl ?_
 refine t_box (v := Pq ab) (cs := [Pq ab]) H rfl rfl ?_
 intro ak aT H
 refine t_box (v := aa) (cs := [aa]) H rfl (Sl.cells aj) ?_
 intro ai aU H
 refine zA (B false) rfl ?_
 refine s_nil ?_
 refine W.seq ?_
 refine W.region rfl ?_
 refine s_val (x_ld (p := Pq ai) (v := aa) rfl (ldb_sc Sc28 (H.bl 0) rfl)) ?_
 refine s_val (x_mf (fs := []) (cs := [Pq ai, Pq ak]) rfl rfl) ?_
 obtain ⟨aV, aJ, hM⟩ := M.e_bind hM
 refine s_call cf46 [aa, .func (.func 47) #[] #[Pq ai, Pq ak]] rfl (zbC marks (fun am => zbD am marks ac ae ag) (ay.app _) aj ⟨47, [Pq ai, Pq ak], rfl, cf47, fun az aW aX aK am aY aL aZ aM aN => by obtain rfl := Arg.int aM; exact (zdf am marks ac ae ag (Reads.app (ay.app _) _) aj (Has.app (Has.here (k := 0) rfl) _) (Reads.app (aC.app _) _) aD (Reads.app (aE.app _) _) aF (Reads.app (aG.app _) _) aH (Has.app (aI.app _) _) (Has.app (Has.here (k := 1) rfl) _) aN az (St.refl aL)).mono fun aK az ⟨a6, aO, aP, aQ⟩ => by subst aO; exact ⟨aP, aQ⟩⟩ aJ _ (H.gt 2)) ?_
 rintro vq a7 ⟨r2, aR, hvq, aA⟩
 subst aR
 subst vq
 try dsimp only at hM
 replace H := H.bk aA
 clear aA
 refine zA (B r2) rfl ?_
 refine s_nil ?_
 replace H := H.pk []
 refine W.ret ?_
 have aS := M.e_pure hM
 exact ⟨_, resE_tmp rfl, ⟨r2, aS, rfl, H⟩⟩

def zav (s_Sections : List Sect) (s_Marks : List Mrk) (s_Reaches : List Rch) (marks : List Int) (reach : Int) : M (Int × Int × Int) :=
  M.bind (zbE s_Sections s_Marks s_Reaches marks reach) fun x_ => match x_ with
  | (.inl (aj, ak, am, ao, ap, r2)) => (
  bif r2 != 0 then (
  M.pure (0, 0, r2))
  else (
  M.fail))
  | (.inr (aa, ab, ac, ae, ag, ai)) => (
  bif ai != 0 then (
  M.fail)
  else (
  M.bind (zaK s_Sections s_Marks s_Reaches marks) fun r3 =>
  bif !r3 then (
  M.pure (0, 0, 7))
  else (
  M.bind (zbx s_Sections s_Marks s_Reaches marks (⟨(aa : Int), (ab : Int), (ac : Int), (ae : Int), ag⟩ : Rch)) fun (r0, r1) =>
  M.pure (r0, r1, 0))))
theorem zbM {R : List Chunk} {aL : Cells} {ao : Value} {aM : Cells} {ap : Value} {aN : Cells} {aq : Value} {aO : Cells} {am : Value} (s_Sections : List Sect) (s_Marks : List Mrk) (s_Reaches : List Rch) (marks : List Int) (reach : Int) (aC : Reads R aL) (aD : Sl aL ao s_Sections) (aE : Reads R aM) (aF : Sl aM ap s_Marks) (aG : Reads R aN) (aH : Sl aN aq s_Reaches) (aI : Reads R aO) (aJ : Sl aO am marks) {r : (Int × Int × Int)} (hM : (zav s_Sections s_Marks s_Reaches marks reach).Ends r) (w : World) (H : St w w [] R) : Ret Try.prog 13 #[.agg #[ao, ap, aq], am, I reach] w fun v w' => ∃ (y0 : Int) (y1 : Int) (y2 : Int), (y0, y1, y2) = r /\ v = .tuple #[.agg #[I y0, I y1], I y2] /\ St w w' [] R := by
 refine ret_of_W Try.func13 rfl rfl rfl ?_
 refine W.seq ?_
 refine W.region rfl ?_
 refine t_box (v := .agg #[ao, ap, aq]) (cs := [ao, ap, aq]) H rfl rfl ?_
 intro aQ a7 H
 refine t_alloc (cs := [I 0, I 0]) H Al44 rfl ?_
 intro a8 ba H
 refine zA (I 0) rfl ?_
 refine s_nil ?_
 refine W.seq ?_
 refine W.region rfl ?_
 refine s_val (x_ld (p := Pq aQ) (v := .agg #[ao, ap, aq]) rfl (ldb_ag (ds := [ao, ap, aq]) Ag27 Sz27 (H.bl 1) rfl rfl)) ?_
 refine zM am rfl ?_
 refine zM (I reach) rfl ?_
 obtain ⟨bb, aR, hM⟩ := M.e_bind hM
 refine s_call cf32 [.agg #[ao, ap, aq], am, I reach] rfl (zcG s_Sections s_Marks s_Reaches marks reach (aC.app _) aD (aE.app _) aF (aG.app _) aH (aI.app _) aJ aR _ (H.gt 2)) ?_
 rintro vq bc (⟨au, av, aw, ax, ay, r2, aS, hvq, aa⟩ | ⟨ab, ac, ae, ag, ai, aj, ak, bf, aT, hvq, aa⟩)
 ·subst aS
  subst vq
  try dsimp only at hM
  replace H := H.bk aa
  clear aa
  refine zM (.tuple #[.pointer none, .agg #[I au, I av, I aw, I ax, B ay], I r2]) rfl ?_
  refine zX [.pointer none, .agg #[I au, I av, I aw, I ax, B ay], I r2] (.pointer none) rfl rfl ?_
  refine zX [.pointer none, .agg #[I au, I av, I aw, I ax, B ay], I r2] (.agg #[I au, I av, I aw, I ax, B ay]) rfl rfl ?_
  refine zX [.pointer none, .agg #[I au, I av, I aw, I ax, B ay], I r2] (I r2) rfl rfl ?_
  refine t_alloc (cs := [I 0, I 0, I 0, I 0, B false]) H Al56 rfl ?_
  intro aP bg H
  refine zA (.pointer none) rfl ?_
  refine t_sw 0 0 [I au, I av, I aw, I ax, B ay] (.agg #[I au, I av, I aw, I ax, B ay]) H rfl rfl Sz56 rfl rfl rfl rfl ?_
  intro bh H
  refine zA (I r2) rfl ?_
  refine s_nil ?_
  refine W.seq ?_
  refine W.block ?_
  refine W.seq ?_
  refine W.region rfl ?_
  refine zM (I r2) rfl ?_
  refine zC r2 0 (r2 != 0) rfl rfl rfl ?_
  refine zA (B (r2 != 0)) rfl ?_
  refine s_nil ?_
  refine W.cond (r2 != 0) rfl (fun aA => ?_) (fun aA => ?_)
  ·replace hM := M.e_t hM aA
   simp only [qy1, qy2, qy3, qy4, qy5, qy6, ne_eq, qy7] at aA
   refine W.seq ?_
   refine W.region rfl ?_
   refine s_val (x_bld (ps := []) (zs := [I 0, I 0]) (L' := [I 0, I 0]) rfl Try.underlying44 Al44 rfl (Bd44 Try.underlying44) (.nil)) ?_
   refine zM (I r2) rfl ?_
   refine t_sw 1 0 [I 0, I 0] (.agg #[I 0, I 0]) H rfl rfl Sz44 rfl rfl rfl rfl ?_
   intro bi H
   refine zA (I r2) rfl ?_
   refine s_nil ?_
   replace H := H.pk [1]
   refine W.ret ?_
   have aU := (H.bl 0)
   have az := M.e_pure hM
   exact ⟨_, (resE_ofn (vs := [.agg #[I 0, I 0], I r2]) rfl rfl (.cell (v := .agg #[I 0, I 0]) rfl (run_loadVar_ag (ds := [I 0, I 0]) Ag44 Sz44 aU rfl rfl) <| .tmp (v := I r2) rfl <| .nil)), ⟨0, 0, r2, az, rfl, (H.pk [])⟩⟩
  replace hM := M.e_f hM aA
  exact (M.e_fail hM).elim
 subst aT
 subst vq
 try dsimp only at hM
 replace H := H.bk aa
 clear aa
 refine zM (.tuple #[Pq ak, .agg #[I ab, I ac, I ae, I ag, B ai], I aj]) rfl ?_
 refine zX [Pq ak, .agg #[I ab, I ac, I ae, I ag, B ai], I aj] (Pq ak) rfl rfl ?_
 refine zX [Pq ak, .agg #[I ab, I ac, I ae, I ag, B ai], I aj] (.agg #[I ab, I ac, I ae, I ag, B ai]) rfl rfl ?_
 refine zX [Pq ak, .agg #[I ab, I ac, I ae, I ag, B ai], I aj] (I aj) rfl rfl ?_
 refine t_alloc (cs := [I 0, I 0, I 0, I 0, B false]) H Al56 rfl ?_
 intro aP bj H
 refine zA (Pq ak) rfl ?_
 refine t_sw 0 0 [I ab, I ac, I ae, I ag, B ai] (.agg #[I ab, I ac, I ae, I ag, B ai]) H rfl rfl Sz56 rfl rfl rfl rfl ?_
 intro bm H
 refine zA (I aj) rfl ?_
 refine s_nil ?_
 refine W.seq ?_
 refine W.block ?_
 refine W.seq ?_
 refine W.region rfl ?_
 refine zM (I aj) rfl ?_
 refine zC aj 0 (aj != 0) rfl rfl rfl ?_
 refine zA (B (aj != 0)) rfl ?_
 refine s_nil ?_
 refine W.cond (aj != 0) rfl (fun aB => ?_) (fun aB => ?_)
 ·replace hM := M.e_t hM aB
  exact (M.e_fail hM).elim
 replace hM := M.e_f hM aB
 simp only [qy1, qy2, qy3, qy4, qy5, qy6, ne_eq, qy7] at aB
 refine W.seq ?_
 refine W.region rfl ?_
 refine zM (Pq ak) rfl ?_
 refine zM am rfl ?_
 obtain ⟨bn, aV, hM⟩ := M.e_bind hM
 refine s_call cf30 [Pq ak, am] rfl (zco s_Sections s_Marks s_Reaches marks (aC.app _) aD (aE.app _) aF (aG.app _) aH (Has.here (k := 1) rfl) (aI.app _) aJ aV _ (H.gt 5)) ?_
 rintro vq bo ⟨r3, aW, hvq, aa⟩
 subst aW
 subst vq
 try dsimp only at hM
 replace H := H.bk aa
 clear aa
 refine s_val (x_not (b := r3) rfl) ?_
 refine zA (B (!r3)) rfl ?_
 refine s_nil ?_
 refine W.cond (!r3) rfl (fun aK => ?_) (fun aK => ?_)
 ·replace hM := M.e_t hM aK
  refine W.seq ?_
  refine W.region rfl ?_
  refine s_val (x_bld (ps := []) (zs := [I 0, I 0]) (L' := [I 0, I 0]) rfl Try.underlying44 Al44 rfl (Bd44 Try.underlying44) (.nil)) ?_
  refine t_sw 3 0 [I 0, I 0] (.agg #[I 0, I 0]) H rfl rfl Sz44 rfl rfl rfl rfl ?_
  intro bp H
  refine zA (I 7) rfl ?_
  refine s_nil ?_
  replace H := H.pk [3]
  refine W.ret ?_
  have aX := (H.bl 0)
  have az := M.e_pure hM
  exact ⟨_, (resE_ofn (vs := [.agg #[I 0, I 0], I 7]) rfl rfl (.cell (v := .agg #[I 0, I 0]) rfl (run_loadVar_ag (ds := [I 0, I 0]) Ag44 Sz44 aX rfl rfl) <| .tmp (v := I 7) rfl <| .nil)), ⟨0, 0, 7, az, rfl, (H.pk [])⟩⟩
 replace hM := M.e_f hM aK
 refine W.skip ?_
 refine W.seq ?_
 refine W.region rfl ?_
 refine zM (Pq ak) rfl ?_
 refine zM am rfl ?_
 refine s_val (x_ld (p := Pq aP) (v := .agg #[I ab, I ac, I ae, I ag, B ai]) rfl (ldb_ag (ds := [I ab, I ac, I ae, I ag, B ai]) Ag56 Sz56 (H.bl 0) rfl rfl)) ?_
 obtain ⟨bq, aY, hM⟩ := M.e_bind hM
 refine s_call cf33 [Pq ak, am, .agg #[I ab, I ac, I ae, I ag, B ai]] rfl (zdc s_Sections s_Marks s_Reaches marks (⟨(ab : Int), (ac : Int), (ae : Int), (ag : Int), ai⟩ : Rch) (aC.app _) aD (aE.app _) aF (aG.app _) aH (Has.here (k := 1) rfl) (aI.app _) aJ aY _ ((H.pk [2, 0, 1, 3, 4]).gt 4)) ?_
 rintro vq br ⟨r0, r1, aZ, hvq, aa⟩
 subst aZ
 subst vq
 try dsimp only at hM
 replace H := H.pk [2, 0, 1, 3, 4] |>.bk aa
 clear aa
 refine t_sw 3 0 [I r0, I r1] (.agg #[I r0, I r1]) H rfl rfl Sz44 rfl rfl rfl rfl ?_
 intro bt H
 refine zA (I 0) rfl ?_
 refine s_nil ?_
 replace H := H.pk [3]
 refine W.ret ?_
 have a6 := (H.bl 0)
 have az := M.e_pure hM
 exact ⟨_, (resE_ofn (vs := [.agg #[I r0, I r1], I 0]) rfl rfl (.cell (v := .agg #[I r0, I r1]) rfl (run_loadVar_ag (ds := [I r0, I r1]) Ag44 Sz44 a6 rfl rfl) <| .tmp (v := I 0) rfl <| .nil)), ⟨r0, r1, 0, az, rfl, (H.pk [])⟩⟩

def zcB (c : Cas) (r_ : Rch) : M Bool :=
  M.bind (zab c.up 0 2000) fun r2 =>
  M.bind (M.opt r2 (zab c.down 0 c.up) false) fun r3 =>
  M.bind (M.opt (r2 && r3) (zab c.roughup r_.lo r_.hi) false) fun r4 =>
  M.bind (M.opt ((r2 && r3) && r4) (zab c.roughdown r_.lo r_.hi) false) fun r5 =>
  M.pure (((r2 && r3) && r4) && r5)
theorem zdo {R : List Chunk}  (c : Cas) (r_ : Rch)  {r : Bool} (hM : (zcB c r_).Ends r) (w : World) (H : St w w [] R) : Ret Try.prog 35 #[.agg #[I c.up, I c.down, I c.roughup, I c.roughdown], .agg #[I r_.up, I r_.down, I r_.lo, I r_.hi, B r_.narrow]] w fun v w' => ∃ (y0 : Bool), y0 = r /\ v = B y0 /\ St w w' [] R := by
 refine ret_of_W Try.func35 rfl rfl rfl ?_
 refine W.seq ?_
 refine W.region rfl ?_
 refine t_box (v := .agg #[I c.up, I c.down, I c.roughup, I c.roughdown]) (cs := [I c.up, I c.down, I c.roughup, I c.roughdown]) H rfl rfl ?_
 intro ab ap H
 refine t_box (v := .agg #[I r_.up, I r_.down, I r_.lo, I r_.hi, B r_.narrow]) (cs := [I r_.up, I r_.down, I r_.lo, I r_.hi, B r_.narrow]) H rfl rfl ?_
 intro aa aq H
 refine zA (B false) rfl ?_
 refine s_nil ?_
 refine W.seq ?_
 refine W.region rfl ?_
 refine s_val (x_fa (a := Pq ab) (v := Pq ab) rfl (fa_blk (o := 0) Fd64_0 Sz3)) ?_
 refine s_val (x_ld (p := Pq ab) (v := I c.up) rfl (ldb_sc Sc3 (H.bl 1) rfl)) ?_
 obtain ⟨au, ai, hM⟩ := M.e_bind hM
 refine s_call cf34 [I c.up, I 0, I 2000] rfl (zac c.up 0 2000 ai _ (H.gt 2)) ?_
 rintro vq av ⟨r2, aj, hvq, ag⟩
 subst aj
 subst vq
 try dsimp only at hM
 replace H := H.bk ag
 clear ag
 refine zM (B r2) rfl ?_
 refine g_val r2 (gy_t rfl) (fun hg => x_fa (a := Pq ab) (v := Oq ab 1) rfl (fa_blk (o := 0) Fd64_1 Sz3)) ?_
 refine g_val r2 (gy_t rfl) (fun hg => x_ld (p := Oq ab 1) (v := I c.down) (gd_of (c := r2) hg (Oq ab 1)) (ldb_sc Sc3 (H.bl 1) rfl)) ?_
 refine g_val r2 (gy_t rfl) (fun hg => x_fa (a := Pq ab) (v := Pq ab) rfl (fa_blk (o := 0) Fd64_0 Sz3)) ?_
 refine g_val r2 (gy_t rfl) (fun hg => x_ld (p := Pq ab) (v := I c.up) (gd_of (c := r2) hg (Pq ab)) (ldb_sc Sc3 (H.bl 1) rfl)) ?_
 obtain ⟨r3, ak, hM⟩ := M.e_bind hM
 refine t_gcall r2 (gy_t rfl) cf34 (B r3) (fun _ => [I c.down, I 0, I c.up]) (fun hg => lst3 (gd_of (c := r2) hg (I c.down)) rfl (gd_of (c := r2) hg (I c.up))) H (fun hg => (zac c.down 0 c.up (M.e_opt ak hg) _ (H.give (A := []) rfl)).mono fun v_ w_ ⟨y_, ac, ae, H_⟩ => by subst ac; exact ⟨ae, H.via H_⟩) ?_
 intro aw H
 refine s_val (x_pand (b := r2) (r := r3) rfl (fun hb => gd_of (c := r2) (by first | exact hb | (rw [hb]; rfl) | simp_all) (B r3)) rfl) ?_
 refine zM (B (r2 && r3)) rfl ?_
 refine g_val (r2 && r3) (gy_t rfl) (fun hg => x_fa (a := Pq ab) (v := Oq ab 2) rfl (fa_blk (o := 0) Fd64_2 Sz3)) ?_
 refine g_val (r2 && r3) (gy_t rfl) (fun hg => x_ld (p := Oq ab 2) (v := I c.roughup) (gd_of (c := (r2 && r3)) hg (Oq ab 2)) (ldb_sc Sc3 (H.bl 1) rfl)) ?_
 refine g_val (r2 && r3) (gy_t rfl) (fun hg => x_fa (a := Pq aa) (v := Oq aa 2) rfl (fa_blk (o := 0) Fd56_2 Sz44)) ?_
 refine g_val (r2 && r3) (gy_t rfl) (fun hg => x_fa (a := Oq aa 2) (v := Oq aa 2) (gd_of (c := (r2 && r3)) hg (Oq aa 2)) (fa_blk (o := 2) Fd44_0 Sz3)) ?_
 refine g_val (r2 && r3) (gy_t rfl) (fun hg => x_ld (p := Oq aa 2) (v := I r_.lo) (gd_of (c := (r2 && r3)) hg (Oq aa 2)) (ldb_sc Sc3 (H.bl 0) rfl)) ?_
 refine g_val (r2 && r3) (gy_t rfl) (fun hg => x_fa (a := Pq aa) (v := Oq aa 2) rfl (fa_blk (o := 0) Fd56_2 Sz44)) ?_
 refine g_val (r2 && r3) (gy_t rfl) (fun hg => x_fa (a := Oq aa 2) (v := Oq aa 3) (gd_of (c := (r2 && r3)) hg (Oq aa 2)) (fa_blk (o := 2) Fd44_1 Sz3)) ?_
 refine g_val (r2 && r3) (gy_t rfl) (fun hg => x_ld (p := Oq aa 3) (v := I r_.hi) (gd_of (c := (r2 && r3)) hg (Oq aa 3)) (ldb_sc Sc3 (H.bl 0) rfl)) ?_
 obtain ⟨r4, am, hM⟩ := M.e_bind hM
 refine t_gcall (r2 && r3) (gy_t rfl) cf34 (B r4) (fun _ => [I c.roughup, I r_.lo, I r_.hi]) (fun hg => lst3 (gd_of (c := (r2 && r3)) hg (I c.roughup)) (gd_of (c := (r2 && r3)) hg (I r_.lo)) (gd_of (c := (r2 && r3)) hg (I r_.hi))) H (fun hg => (zac c.roughup r_.lo r_.hi (M.e_opt am hg) _ (H.give (A := []) rfl)).mono fun v_ w_ ⟨y_, ac, ae, H_⟩ => by subst ac; exact ⟨ae, H.via H_⟩) ?_
 intro ax H
 refine s_val (x_pand (b := (r2 && r3)) (r := r4) rfl (fun hb => gd_of (c := (r2 && r3)) (by first | exact hb | (rw [hb]; rfl) | simp_all) (B r4)) rfl) ?_
 refine zM (B ((r2 && r3) && r4)) rfl ?_
 refine g_val ((r2 && r3) && r4) (gy_t rfl) (fun hg => x_fa (a := Pq ab) (v := Oq ab 3) rfl (fa_blk (o := 0) Fd64_3 Sz3)) ?_
 refine g_val ((r2 && r3) && r4) (gy_t rfl) (fun hg => x_ld (p := Oq ab 3) (v := I c.roughdown) (gd_of (c := ((r2 && r3) && r4)) hg (Oq ab 3)) (ldb_sc Sc3 (H.bl 1) rfl)) ?_
 refine g_val ((r2 && r3) && r4) (gy_t rfl) (fun hg => x_fa (a := Pq aa) (v := Oq aa 2) rfl (fa_blk (o := 0) Fd56_2 Sz44)) ?_
 refine g_val ((r2 && r3) && r4) (gy_t rfl) (fun hg => x_fa (a := Oq aa 2) (v := Oq aa 2) (gd_of (c := ((r2 && r3) && r4)) hg (Oq aa 2)) (fa_blk (o := 2) Fd44_0 Sz3)) ?_
 refine g_val ((r2 && r3) && r4) (gy_t rfl) (fun hg => x_ld (p := Oq aa 2) (v := I r_.lo) (gd_of (c := ((r2 && r3) && r4)) hg (Oq aa 2)) (ldb_sc Sc3 (H.bl 0) rfl)) ?_
 refine g_val ((r2 && r3) && r4) (gy_t rfl) (fun hg => x_fa (a := Pq aa) (v := Oq aa 2) rfl (fa_blk (o := 0) Fd56_2 Sz44)) ?_
 refine g_val ((r2 && r3) && r4) (gy_t rfl) (fun hg => x_fa (a := Oq aa 2) (v := Oq aa 3) (gd_of (c := ((r2 && r3) && r4)) hg (Oq aa 2)) (fa_blk (o := 2) Fd44_1 Sz3)) ?_
 refine g_val ((r2 && r3) && r4) (gy_t rfl) (fun hg => x_ld (p := Oq aa 3) (v := I r_.hi) (gd_of (c := ((r2 && r3) && r4)) hg (Oq aa 3)) (ldb_sc Sc3 (H.bl 0) rfl)) ?_
 obtain ⟨r5, ao, hM⟩ := M.e_bind hM
 refine t_gcall ((r2 && r3) && r4) (gy_t rfl) cf34 (B r5) (fun _ => [I c.roughdown, I r_.lo, I r_.hi]) (fun hg => lst3 (gd_of (c := ((r2 && r3) && r4)) hg (I c.roughdown)) (gd_of (c := ((r2 && r3) && r4)) hg (I r_.lo)) (gd_of (c := ((r2 && r3) && r4)) hg (I r_.hi))) H (fun hg => (zac c.roughdown r_.lo r_.hi (M.e_opt ao hg) _ (H.give (A := []) rfl)).mono fun v_ w_ ⟨y_, ac, ae, H_⟩ => by subst ac; exact ⟨ae, H.via H_⟩) ?_
 intro ay H
 refine s_val (x_pand (b := ((r2 && r3) && r4)) (r := r5) rfl (fun hb => gd_of (c := ((r2 && r3) && r4)) (by first | exact hb | (rw [hb]; rfl) | simp_all) (B r5)) rfl) ?_
 refine zA (B (((r2 && r3) && r4) && r5)) rfl ?_
 refine s_nil ?_
 replace H := H.pk []
 refine W.ret ?_
 have ac := M.e_pure hM
 exact ⟨_, resE_tmp rfl, ⟨(((r2 && r3) && r4) && r5), ac, rfl, H⟩⟩

def zcn (s_Sections : List Sect) (s_Marks : List Mrk) (s_Reaches : List Rch) (reach : Int) (c : Cas) : M (Int × Int) :=
  M.bind (zan s_Sections s_Marks s_Reaches) fun x_ => match x_ with
  | (.inl r1) => (
  bif r1 != 0 then (
  M.pure (0, r1))
  else (
  M.fail))
  | (.inr aa) => (
  bif aa != 0 then (
  M.fail)
  else (
  M.bind (zab reach 0 ((s_Reaches.length : Int) - 1)) fun r2 =>
  bif !r2 then (
  M.pure (0, 2))
  else (
  M.grd (decide ((0 : Int) <= reach) && decide (reach < (s_Reaches.length : Int))) <|
  M.bind (zcB c (s_Reaches.getD (Int.toNat reach) default)) fun r3 =>
  bif !r3 then (
  M.pure (0, 4))
  else (
  M.bind (zaz s_Sections s_Marks s_Reaches (s_Reaches.getD (Int.toNat reach) default) c) fun r4 =>
  M.pure (r4, 0)))))
theorem zc6 {R : List Chunk} {az : Cells} {ae : Value} {aA : Cells} {ag : Value} {aB : Cells} {aa : Value} (s_Sections : List Sect) (s_Marks : List Mrk) (s_Reaches : List Rch) (reach : Int) (c : Cas) (aC : Reads R az) (aD : Sl az ae s_Sections) (aE : Reads R aA) (aF : Sl aA ag s_Marks) (ap : Reads R aB) (ak : Sl aB aa s_Reaches) {r : (Int × Int)} (hM : (zcn s_Sections s_Marks s_Reaches reach c).Ends r) (w : World) (H : St w w [] R) : Ret Try.prog 15 #[.agg #[ae, ag, aa], I reach, .agg #[I c.up, I c.down, I c.roughup, I c.roughdown]] w fun v w' => ∃ (y0 : Int) (y1 : Int), (y0, y1) = r /\ v = .tuple #[I y0, I y1] /\ St w w' [] R := by
 refine ret_of_W Try.func15 rfl rfl rfl ?_
 refine W.seq ?_
 refine W.region rfl ?_
 refine t_box (v := .agg #[ae, ag, aa]) (cs := [ae, ag, aa]) H rfl rfl ?_
 intro ac aQ H
 refine t_box (v := .agg #[I c.up, I c.down, I c.roughup, I c.roughdown]) (cs := [I c.up, I c.down, I c.roughup, I c.roughdown]) H rfl rfl ?_
 intro aq aR H
 refine zA (I 0) rfl ?_
 refine zA (I 0) rfl ?_
 refine s_nil ?_
 refine W.seq ?_
 refine W.region rfl ?_
 refine s_val (x_ld (p := Pq ac) (v := .agg #[ae, ag, aa]) rfl (ldb_ag (ds := [ae, ag, aa]) Ag27 Sz27 (H.bl 1) rfl rfl)) ?_
 obtain ⟨aS, aG, hM⟩ := M.e_bind hM
 refine s_call cf21 [.agg #[ae, ag, aa]] rfl (zaZ s_Sections s_Marks s_Reaches (aC.app _) aD (aE.app _) aF (ap.app _) ak aG _ (H.gt 2)) ?_
 rintro vq aT (⟨r1, aH, hvq, ab⟩ | ⟨ai, aj, aw, aI, hvq, ab⟩)
 ·subst aH
  subst vq
  try dsimp only at hM
  replace H := H.bk ab
  clear ab
  refine zM (.tuple #[.pointer none, I r1]) rfl ?_
  refine zX [.pointer none, I r1] (.pointer none) rfl rfl ?_
  refine zX [.pointer none, I r1] (I r1) rfl rfl ?_
  refine zA (.pointer none) rfl ?_
  refine zA (I r1) rfl ?_
  refine s_nil ?_
  refine W.seq ?_
  refine W.block ?_
  refine W.seq ?_
  refine W.region rfl ?_
  refine zM (I r1) rfl ?_
  refine zC r1 0 (r1 != 0) rfl rfl rfl ?_
  refine zA (B (r1 != 0)) rfl ?_
  refine s_nil ?_
  refine W.cond (r1 != 0) rfl (fun au => ?_) (fun au => ?_)
  ·replace hM := M.e_t hM au
   simp only [qy1, qy2, qy3, qy4, qy5, qy6, ne_eq, qy7] at au
   refine W.seq ?_
   refine W.region rfl ?_
   refine zM (I r1) rfl ?_
   refine zA (I 0) rfl ?_
   refine zA (I r1) rfl ?_
   refine s_nil ?_
   replace H := H.pk []
   refine W.ret ?_
   have am := M.e_pure hM
   exact ⟨_, resE_tmp2 rfl, ⟨0, r1, am, rfl, H⟩⟩
  replace hM := M.e_f hM au
  exact (M.e_fail hM).elim
 subst aI
 subst vq
 try dsimp only at hM
 replace H := H.bk ab
 clear ab
 refine zM (.tuple #[Pq aj, I ai]) rfl ?_
 refine zX [Pq aj, I ai] (Pq aj) rfl rfl ?_
 refine zX [Pq aj, I ai] (I ai) rfl rfl ?_
 refine zA (Pq aj) rfl ?_
 refine zA (I ai) rfl ?_
 refine s_nil ?_
 refine W.seq ?_
 refine W.block ?_
 refine W.seq ?_
 refine W.region rfl ?_
 refine zM (I ai) rfl ?_
 refine zC ai 0 (ai != 0) rfl rfl rfl ?_
 refine zA (B (ai != 0)) rfl ?_
 refine s_nil ?_
 refine W.cond (ai != 0) rfl (fun av => ?_) (fun av => ?_)
 ·replace hM := M.e_t hM av
  exact (M.e_fail hM).elim
 replace hM := M.e_f hM av
 simp only [qy1, qy2, qy3, qy4, qy5, qy6, ne_eq, qy7] at av
 refine W.seq ?_
 refine W.region rfl ?_
 refine zM (I reach) rfl ?_
 refine s_val (x_fa (a := Pq ac) (v := Oq ac 2) rfl (fa_blk (o := 0) Fd27_2 Sz25)) ?_
 refine s_val (x_ld (p := Oq ac 2) (v := aa) rfl (ldb_sc Sc25 (H.bl 3) rfl)) ?_
 have aU := (ak).len_le
 refine s_val (x_lenS T25.und rfl ak) ?_
 refine zR (s_Reaches.length : Int) 1 ((s_Reaches.length : Int) - 1) rfl rfl rfl (by omega) ?_
 obtain ⟨aV, aJ, hM⟩ := M.e_bind hM
 refine s_call cf34 [I reach, I 0, I ((s_Reaches.length : Int) - 1)] rfl (zac reach 0 ((s_Reaches.length : Int) - 1) aJ _ (H.gt 4)) ?_
 rintro vq aW ⟨r2, aK, hvq, ab⟩
 subst aK
 subst vq
 try dsimp only at hM
 replace H := H.bk ab
 clear ab
 refine s_val (x_not (b := r2) rfl) ?_
 refine zA (B (!r2)) rfl ?_
 refine s_nil ?_
 refine W.cond (!r2) rfl (fun ax => ?_) (fun ax => ?_)
 ·replace hM := M.e_t hM ax
  refine W.seq ?_
  refine W.region rfl ?_
  refine zA (I 0) rfl ?_
  refine zA (I 2) rfl ?_
  refine s_nil ?_
  replace H := H.pk []
  refine W.ret ?_
  have am := M.e_pure hM
  exact ⟨_, resE_tmp2 rfl, ⟨0, 2, am, rfl, H⟩⟩
 replace hM := M.e_f hM ax
 refine W.seq ?_
 refine W.draw (fun W => St w W [cBlk aj [ae, ag, aa, .map (some aw)] 99, cMemI encSpt aw (zaa s_Sections s_Marks s_Reaches), cBlk aq [I c.up, I c.down, I c.roughup, I c.roughdown] 64, cBlk ac [ae, ag, aa] 27] R) [(0, true), (1, true), (2, true), (3, true), (4, true), (5, true), (6, false), (7, true), (8, true)] mixed (by decide +kernel) rfl ?_
 intro aX ao
 replace H := H.ext ao
 clear ao
 refine ⟨(H.pk [0, 1, 2, 3]), ?_⟩
 refine d_q rfl (fun w' H => x_ld (p := Pq aq) (v := .agg #[I c.up, I c.down, I c.roughup, I c.roughdown]) rfl (ldb_ag (ds := [I c.up, I c.down, I c.roughup, I c.roughdown]) Ag64 Sz64 (H.bl 2) rfl rfl)) ?_
 refine d_q rfl (fun w' H => x_fa (a := Pq ac) (v := Oq ac 2) rfl (fa_blk (o := 0) Fd27_2 Sz25)) ?_
 refine d_q rfl (fun w' H => x_ld (p := Oq ac 2) (v := aa) rfl (ldb_sc Sc25 (H.bl 3) rfl)) ?_
 refine d_q rfl (fun w' H => x_mv (v := I reach) rfl) ?_
 obtain ⟨aL, hM⟩ := M.e_grd hM
 simp only [Bool.and_eq_true, decide_eq_true_eq] at aL
 refine d_q rfl (fun w' H => x_ix (a := aa) (b := I reach) (v := vat aa 5 (Int.toNat reach)) rfl rfl (Sl.ix (α := Rch) T25.und T25.size ak (by omega) (by omega))) ?_
 refine d_q rfl (fun w' H => x_ld (p := vat aa 5 (Int.toNat reach)) (v := .agg #[I ((s_Reaches.getD (Int.toNat reach) default).up), I ((s_Reaches.getD (Int.toNat reach) default).down), I ((s_Reaches.getD (Int.toNat reach) default).lo), I ((s_Reaches.getD (Int.toNat reach) default).hi), B ((s_Reaches.getD (Int.toNat reach) default).narrow)]) rfl (ld_ag Ag56 Sz56 (At.mono (Rch_atA ak (i := reach) (by omega) (by omega)) (ap.at H)))) ?_
 refine d_l rfl ?_
 obtain ⟨aY, aM, hM⟩ := M.e_bind hM
 refine s_call cf35 [.agg #[I c.up, I c.down, I c.roughup, I c.roughdown], .agg #[I ((s_Reaches.getD (Int.toNat reach) default).up), I ((s_Reaches.getD (Int.toNat reach) default).down), I ((s_Reaches.getD (Int.toNat reach) default).lo), I ((s_Reaches.getD (Int.toNat reach) default).hi), B ((s_Reaches.getD (Int.toNat reach) default).narrow)]] rfl (zdo c (s_Reaches.getD (Int.toNat reach) default) aM _ (H.gt 4)) ?_
 rintro vq aZ ⟨r3, aN, hvq, ab⟩
 subst aN
 subst vq
 try dsimp only at hM
 replace H := H.bk ab
 clear ab
 refine s_nil ⟨(H.pk [0, 1, 2, 3]), ?_⟩
 refine d_q rfl (fun w' H => x_not (b := r3) rfl) ?_
 refine d_q rfl (fun w' H => x_as (v := B (!r3)) rfl) ?_
 refine d_nil ?_
 refine W.cond (!r3) rfl (fun ay => ?_) (fun ay => ?_)
 ·replace hM := M.e_t hM ay
  refine W.seq ?_
  refine W.region rfl ?_
  refine zA (I 0) rfl ?_
  refine zA (I 4) rfl ?_
  refine s_nil ?_
  replace H := H.pk []
  refine W.ret ?_
  have am := M.e_pure hM
  exact ⟨_, resE_tmp2 rfl, ⟨0, 4, am, rfl, H⟩⟩
 replace hM := M.e_f hM ay
 refine W.skip ?_
 refine W.seq ?_
 refine W.draw (fun W => St w W [cBlk aj [ae, ag, aa, .map (some aw)] 99, cBlk aq [I c.up, I c.down, I c.roughup, I c.roughdown] 64, cBlk ac [ae, ag, aa] 27] R) [(0, true), (1, true), (2, true), (3, true), (4, true), (5, true), (6, true), (7, false), (8, true), (9, true)] mixed (by decide +kernel) rfl ?_
 intro a6 ao
 replace H := H.ext ao
 clear ao
 refine ⟨(H.pk [0, 2, 3]), ?_⟩
 refine d_q rfl (fun w' H => x_mv (v := Pq aj) rfl) ?_
 refine d_q rfl (fun w' H => x_fa (a := Pq ac) (v := Oq ac 2) rfl (fa_blk (o := 0) Fd27_2 Sz25)) ?_
 refine d_q rfl (fun w' H => x_ld (p := Oq ac 2) (v := aa) rfl (ldb_sc Sc25 (H.bl 2) rfl)) ?_
 refine d_q rfl (fun w' H => x_mv (v := I reach) rfl) ?_
 refine d_q rfl (fun w' H => x_ix (a := aa) (b := I reach) (v := vat aa 5 (Int.toNat reach)) rfl rfl (Sl.ix (α := Rch) T25.und T25.size ak (by omega) (by omega))) ?_
 refine d_q rfl (fun w' H => x_ld (p := vat aa 5 (Int.toNat reach)) (v := .agg #[I ((s_Reaches.getD (Int.toNat reach) default).up), I ((s_Reaches.getD (Int.toNat reach) default).down), I ((s_Reaches.getD (Int.toNat reach) default).lo), I ((s_Reaches.getD (Int.toNat reach) default).hi), B ((s_Reaches.getD (Int.toNat reach) default).narrow)]) rfl (ld_ag Ag56 Sz56 (At.mono (Rch_atA ak (i := reach) (by omega) (by omega)) (ap.at H)))) ?_
 refine d_q rfl (fun w' H => x_ld (p := Pq aq) (v := .agg #[I c.up, I c.down, I c.roughup, I c.roughdown]) rfl (ldb_ag (ds := [I c.up, I c.down, I c.roughup, I c.roughdown]) Ag64 Sz64 (H.bl 1) rfl rfl)) ?_
 refine d_l rfl ?_
 obtain ⟨a7, aO, hM⟩ := M.e_bind hM
 refine s_call cf36 [Pq aj, .agg #[I ((s_Reaches.getD (Int.toNat reach) default).up), I ((s_Reaches.getD (Int.toNat reach) default).down), I ((s_Reaches.getD (Int.toNat reach) default).lo), I ((s_Reaches.getD (Int.toNat reach) default).hi), B ((s_Reaches.getD (Int.toNat reach) default).narrow)], .agg #[I c.up, I c.down, I c.roughup, I c.roughdown]] rfl (zbV s_Sections s_Marks s_Reaches (s_Reaches.getD (Int.toNat reach) default) c (aC.app _) aD (aE.app _) aF (ap.app _) ak (Has.here (k := 0) rfl) aO _ ((H.pk [1, 0, 2, 3]).gt 3)) ?_
 rintro vq a8 ⟨r4, aP, hvq, ab⟩
 subst aP
 subst vq
 try dsimp only at hM
 replace H := H.pk [1, 0, 2, 3] |>.bk ab
 clear ab
 refine s_nil ⟨(H.pk [1, 2, 3]), ?_⟩
 refine d_q rfl (fun w' H => x_as (v := I r4) rfl) ?_
 refine d_q rfl (fun w' H => x_as (v := I 0) rfl) ?_
 refine d_nil ?_
 replace H := H.pk []
 refine W.ret ?_
 have am := M.e_pure hM
 exact ⟨_, resE_tmp2 rfl, ⟨r4, 0, am, rfl, H⟩⟩

end Go.Proofs.Ytlemgioaakecpaa
end
section
set_option maxRecDepth 100000
set_option maxHeartbeats 16000000
namespace Go.Proofs.Ytlemgioaakecpaa
open Go Go.Nm
def zbf (s_Sections : List Sect) (s_Marks : List Mrk) (s_Reaches : List Rch) (marks : List Int) : (Nat × (List Span)) -> M ((Nat × (List Span)) ⊕ ((List Span) × (List Span))) := fun (s2, l) =>
  bif decide ((s2 : Int) < (s_Sections.length : Int)) then (
  M.bind (zaq s_Sections s_Marks s_Reaches marks (s2 : Int)) fun (r0, aa) =>
  M.grd (decide ((l.length + ([(⟨(r0 : Int), (aa : Int)⟩ : Span)]).length) * 16 <= 140737488355328)) <|
  M.pure (.inl (s2 + 1, l ++ ([(⟨(r0 : Int), (aa : Int)⟩ : Span)]))))
  else (
  M.pure (.inr (l, l)))
def zay (s_Sections : List Sect) (s_Marks : List Mrk) (s_Reaches : List Rch) (marks : List Int) : M ((List Span) × Int) :=
  M.bind (zaS s_Sections s_Marks s_Reaches marks) fun x_ => match x_ with
  | (.inl r1) => (
  bif r1 != 0 then (
  M.pure (([]), r1))
  else (
  M.fail))
  | (.inr aa) => (
  bif aa != 0 then (
  M.fail)
  else (
  M.bind (zaK s_Sections s_Marks s_Reaches marks) fun r2 =>
  bif !r2 then (
  M.pure (([]), 7))
  else (
  M.bind (M.iter (zbf s_Sections s_Marks s_Reaches marks) (0, [])) fun (l2, l3) =>
  M.pure (l3, 0))))
theorem zbT {R : List Chunk} {aG : Cells} {ac : Value} {aH : Cells} {ag : Value} {aI : Cells} {ai : Value} {aJ : Cells} {aj : Value} (s_Sections : List Sect) (s_Marks : List Mrk) (s_Reaches : List Rch) (marks : List Int) (ax : Reads R aG) (ao : Sl aG ac s_Sections) (ay : Reads R aH) (az : Sl aH ag s_Marks) (aA : Reads R aI) (aB : Sl aI ai s_Reaches) (aC : Reads R aJ) (aD : Sl aJ aj marks) {r : ((List Span) × Int)} (hM : (zay s_Sections s_Marks s_Reaches marks).Ends r) (w : World) (H : St w w [] R) : Ret Try.prog 12 #[.agg #[ac, ag, ai], aj] w fun v w' => ∃ (y0 : List Span) (y1 : Int) (u0 : Value), (y0, y1) = r /\ v = .tuple #[u0, I y1] /\ St w w' [cOwn (α := Span) 44 u0 y0] R := by
 refine ret_of_W Try.func12 rfl rfl rfl ?_
 refine W.seq ?_
 refine W.region rfl ?_
 refine t_box (v := .agg #[ac, ag, ai]) (cs := [ac, ag, ai]) H rfl rfl ?_
 intro ap a8 H
 refine zA (.slice none 0 0) rfl ?_
 refine zA (I 0) rfl ?_
 refine s_nil ?_
 refine W.seq ?_
 refine W.region rfl ?_
 refine s_val (x_ld (p := Pq ap) (v := .agg #[ac, ag, ai]) rfl (ldb_ag (ds := [ac, ag, ai]) Ag27 Sz27 (H.bl 0) rfl rfl)) ?_
 refine zM aj rfl ?_
 obtain ⟨ba, aO, hM⟩ := M.e_bind hM
 refine s_call cf29 [.agg #[ac, ag, ai], aj] rfl (zcz s_Sections s_Marks s_Reaches marks (ax.app _) ao (ay.app _) az (aA.app _) aB (aC.app _) aD aO _ (H.gt 1)) ?_
 rintro vq bb (⟨r1, aP, hvq, aa⟩ | ⟨ae, ab, aK, aQ, hvq, aa⟩)
 ·subst aP
  subst vq
  try dsimp only at hM
  replace H := H.bk aa
  clear aa
  refine zM (.tuple #[.pointer none, I r1]) rfl ?_
  refine zX [.pointer none, I r1] (.pointer none) rfl rfl ?_
  refine zX [.pointer none, I r1] (I r1) rfl rfl ?_
  refine zA (.pointer none) rfl ?_
  refine zA (I r1) rfl ?_
  refine s_nil ?_
  refine W.seq ?_
  refine W.block ?_
  refine W.seq ?_
  refine W.region rfl ?_
  refine zM (I r1) rfl ?_
  refine zC r1 0 (r1 != 0) rfl rfl rfl ?_
  refine zA (B (r1 != 0)) rfl ?_
  refine s_nil ?_
  refine W.cond (r1 != 0) rfl (fun av => ?_) (fun av => ?_)
  ·replace hM := M.e_t hM av
   simp only [qy1, qy2, qy3, qy4, qy5, qy6, ne_eq, qy7] at av
   refine W.seq ?_
   refine W.region rfl ?_
   refine zM (I r1) rfl ?_
   refine zA (.slice none 0 0) rfl ?_
   refine zA (I r1) rfl ?_
   refine s_nil ?_
   refine W.ret ?_
   have aq := M.e_pure hM
   replace H := H.nilOwn (α := Span) 44
   exact ⟨_, resE_tmp2 rfl, ⟨([]), r1, (.slice none 0 0), aq, rfl, (H.pk [0])⟩⟩
  replace hM := M.e_f hM av
  exact (M.e_fail hM).elim
 subst aQ
 subst vq
 try dsimp only at hM
 replace H := H.bk aa
 clear aa
 refine zM (.tuple #[Pq ab, I ae]) rfl ?_
 refine zX [Pq ab, I ae] (Pq ab) rfl rfl ?_
 refine zX [Pq ab, I ae] (I ae) rfl rfl ?_
 refine zA (Pq ab) rfl ?_
 refine zA (I ae) rfl ?_
 refine s_nil ?_
 refine W.seq ?_
 refine W.block ?_
 refine W.seq ?_
 refine W.region rfl ?_
 refine zM (I ae) rfl ?_
 refine zC ae 0 (ae != 0) rfl rfl rfl ?_
 refine zA (B (ae != 0)) rfl ?_
 refine s_nil ?_
 refine W.cond (ae != 0) rfl (fun aw => ?_) (fun aw => ?_)
 ·replace hM := M.e_t hM aw
  exact (M.e_fail hM).elim
 replace hM := M.e_f hM aw
 simp only [qy1, qy2, qy3, qy4, qy5, qy6, ne_eq, qy7] at aw
 refine W.seq ?_
 refine W.region rfl ?_
 refine zM (Pq ab) rfl ?_
 refine zM aj rfl ?_
 obtain ⟨bc, aR, hM⟩ := M.e_bind hM
 refine s_call cf30 [Pq ab, aj] rfl (zco s_Sections s_Marks s_Reaches marks (ax.app _) ao (ay.app _) az (aA.app _) aB (Has.here (k := 0) rfl) (aC.app _) aD aR _ (H.gt 3)) ?_
 rintro vq bf ⟨r2, aS, hvq, aa⟩
 subst aS
 subst vq
 try dsimp only at hM
 replace H := H.bk aa
 clear aa
 refine s_val (x_not (b := r2) rfl) ?_
 refine zA (B (!r2)) rfl ?_
 refine s_nil ?_
 refine W.cond (!r2) rfl (fun aE => ?_) (fun aE => ?_)
 ·replace hM := M.e_t hM aE
  refine W.seq ?_
  refine W.region rfl ?_
  refine zA (.slice none 0 0) rfl ?_
  refine zA (I 7) rfl ?_
  refine s_nil ?_
  replace H := H.pk []
  refine W.ret ?_
  have aq := M.e_pure hM
  replace H := H.nilOwn (α := Span) 44
  exact ⟨_, resE_tmp2 rfl, ⟨([]), 7, (.slice none 0 0), aq, rfl, H⟩⟩
 replace hM := M.e_f hM aE
 refine W.skip ?_
 refine W.seq ?_
 refine W.region rfl ?_
 refine zA (.slice none 0 0) rfl ?_
 refine s_nil ?_
 refine W.seq ?_
 refine W.seq ?_
 refine W.region rfl ?_
 refine s_val (x_fa (a := Pq ap) (v := Pq ap) rfl (fa_blk (o := 0) Fd27_0 Sz23)) ?_
 refine s_val (x_ld (p := Pq ap) (v := ac) rfl (ldb_sc Sc23 (H.bl 2) rfl)) ?_
 have bg := (ao).len_le
 refine s_val (x_lenS T23.und rfl ao) ?_
 refine zM (I 0) rfl ?_
 refine s_nil ?_
 refine W.block ?_
 replace H := H.nilOwn (α := Span) 44
 obtain ⟨aT, aF, aU⟩ := M.e_bind hM
 obtain ⟨bh, aF⟩ := M.e_iter aF
 refine W.loop (fun m σ W => ∃ (s2 : Nat) (l : List Span) (ak : Value) (ρ : Env), σ = upds ρ [(1, aj), (6, Pq ab), (8, ak), (27, I (s_Sections.length : Int)), (28, I (s2 : Int))] /\ M.iterN (zbf s_Sections s_Marks s_Reaches marks) m (s2, l) = some aT /\ St w W [cOwn (α := Span) 44 ak l, cBlk ab [ac, ag, ai, .map (some aK)] 99, cMemI encSpt aK (zaa s_Sections s_Marks s_Reaches), cBlk ap [ac, ag, ai] 27] R) ?_ ?_
 ·exact ⟨_, 0, [], (.slice none 0 0), _, upds_of _ _ ⟨rfl, rfl, rfl, rfl, rfl, trivial⟩, aF, H⟩
 rintro bi σ bj ⟨s2, l, ak, ρ, rfl, aL, H⟩
 obtain ⟨aV, aW, bm, hM, aM⟩ := M.e_iterN aL
 simp only [zbf] at hM
 clear aL
 refine W.seq ?_
 refine W.region rfl ?_
 refine zC (s2 : Int) (s_Sections.length : Int) (decide ((s2 : Int) < (s_Sections.length : Int))) rfl rfl rfl ?_
 refine s_nil ?_
 refine W.seq ?_
 refine W.cond (decide ((s2 : Int) < (s_Sections.length : Int))) rfl (fun au => ?_) (fun au => ?_)
 ·replace hM := M.e_t hM au
  simp only [qy1, qy2, qy3, qy4, qy5, qy6, ne_eq, qy7] at au
  refine W.skip ?_
  refine W.seq ?_
  refine W.block ?_
  refine W.seq ?_
  refine W.region rfl ?_
  refine zM (I (s2 : Int)) rfl ?_
  refine zA (I (s2 : Int)) rfl ?_
  refine s_nil ?_
  refine W.region rfl ?_
  refine zM ak rfl ?_
  refine zM (Pq ab) rfl ?_
  refine zM aj rfl ?_
  refine zM (I (s2 : Int)) rfl ?_
  obtain ⟨bn, aX, hM⟩ := M.e_bind hM
  refine s_call cf31 [Pq ab, aj, I (s2 : Int)] rfl (zaM s_Sections s_Marks s_Reaches marks (s2 : Int) (ax.app _) ao (ay.app _) az (aA.app _) aB (Has.here (k := 1) rfl) (aC.app _) aD aX _ (H.gt 4)) ?_
  rintro vq bo ⟨r0, am, aY, hvq, aa⟩
  subst aY
  subst vq
  try dsimp only at hM
  replace H := H.bk aa
  clear aa
  refine t_bs (α := Span) T52 [.agg #[I r0, I am]] [(⟨(r0 : Int), (am : Int)⟩ : Span)] H rfl (.cons rfl (Flat.rep_enc _ (⟨(r0 : Int), (am : Int)⟩ : Span)) <| .nil) rfl rfl rfl ?_
  intro aZ bp H
  obtain ⟨a6, hM⟩ := M.e_grd hM
  simp only [Bool.and_eq_true, decide_eq_true_eq] at a6
  refine t_app (α := Span) (k := 1) (l := l) (l2 := [(⟨(r0 : Int), (am : Int)⟩ : Span)]) (l' := l ++ ([(⟨(r0 : Int), (am : Int)⟩ : Span)])) (vy := aZ) T52 rfl H rfl rfl rfl (H.os 0) (H.ol 0) (rfl) (by first | omega | (simp only [List.length_nil] at *; omega)) ?_
  intro aN bq H
  replace H := H.nf
  refine zA aN rfl ?_
  refine s_nil ?_
  refine W.region rfl ?_
  refine zR (s2 : Int) 1 ((s2 : Int) + 1) rfl rfl rfl (by omega) ?_
  refine zM (I ((s2 : Int) + 1)) rfl ?_
  refine s_nil ?_
  exact ⟨aV, aW, s2 + 1, l ++ ([(⟨(r0 : Int), (am : Int)⟩ : Span)]), aN, _, upds_of _ _ ⟨rfl, rfl, rfl, rfl, rfl, trivial⟩, M.e_inl hM aM, (H.pk [1, 2, 3, 4])⟩
 replace hM := M.e_f hM au
 simp only [qy1, qy2, qy3, qy4, qy5, qy6, ne_eq, qy7] at au
 refine W.exit ?_
 have a7 := M.e_inr hM aM
 subst a7
 replace hM := aU
 try dsimp only at hM
 replace H := H.pk [0]
 refine W.seq ?_
 refine W.region rfl ?_
 refine zM ak rfl ?_
 refine zA ak rfl ?_
 refine zA (I 0) rfl ?_
 refine s_nil ?_
 refine W.ret ?_
 have aq := M.e_pure hM
 exact ⟨_, resE_tmp2 rfl, ⟨l, 0, ak, aq, rfl, H⟩⟩

def zcv (s_Sections : List Sect) (s_Marks : List Mrk) (s_Reaches : List Rch) (a : Int) (b : Int) : M (Bool × Int) :=
  M.bind (zan s_Sections s_Marks s_Reaches) fun x_ => match x_ with
  | (.inl r1) => (
  bif r1 != 0 then (
  M.pure (false, r1))
  else (
  M.fail))
  | (.inr aa) => (
  bif aa != 0 then (
  M.fail)
  else (
  M.bind (zab a 0 ((s_Marks.length : Int) - 1)) fun r2 =>
  M.bind (M.opt (!(!r2)) (zab b 0 ((s_Marks.length : Int) - 1)) false) fun r3 =>
  bif ((!r2) || (!r3)) then (
  M.pure (false, 2))
  else (
  M.bind (zag s_Sections s_Marks s_Reaches a b) fun r4 =>
  M.bind (M.opt (!r4) (zag s_Sections s_Marks s_Reaches b a) false) fun r5 =>
  M.pure ((r4 || r5), 0))))
theorem zcY {R : List Chunk} {aA : Cells} {aj : Value} {aB : Cells} {ab : Value} {aC : Cells} {ak : Value} (s_Sections : List Sect) (s_Marks : List Mrk) (s_Reaches : List Rch) (a : Int) (b : Int) (aq : Reads R aA) (au : Sl aA aj s_Sections) (av : Reads R aB) (am : Sl aB ab s_Marks) (aw : Reads R aC) (ax : Sl aC ak s_Reaches) {r : (Bool × Int)} (hM : (zcv s_Sections s_Marks s_Reaches a b).Ends r) (w : World) (H : St w w [] R) : Ret Try.prog 27 #[.agg #[aj, ab, ak], I a, I b] w fun v w' => ∃ (y0 : Bool) (y1 : Int), (y0, y1) = r /\ v = .tuple #[B y0, I y1] /\ St w w' [] R := by
 refine ret_of_W Try.func27 rfl rfl rfl ?_
 refine W.seq ?_
 refine W.region rfl ?_
 refine t_box (v := .agg #[aj, ab, ak]) (cs := [aj, ab, ak]) H rfl rfl ?_
 intro ai aN H
 refine zA (B false) rfl ?_
 refine zA (I 0) rfl ?_
 refine s_nil ?_
 refine W.seq ?_
 refine W.region rfl ?_
 refine s_val (x_ld (p := Pq ai) (v := .agg #[aj, ab, ak]) rfl (ldb_ag (ds := [aj, ab, ak]) Ag27 Sz27 (H.bl 0) rfl rfl)) ?_
 obtain ⟨aO, aD, hM⟩ := M.e_bind hM
 refine s_call cf21 [.agg #[aj, ab, ak]] rfl (zaZ s_Sections s_Marks s_Reaches (aq.app _) au (av.app _) am (aw.app _) ax aD _ (H.gt 1)) ?_
 rintro vq aP (⟨r1, aE, hvq, aa⟩ | ⟨ac, ae, aQ, aF, hvq, aa⟩)
 ·subst aE
  subst vq
  try dsimp only at hM
  replace H := H.bk aa
  clear aa
  refine zM (.tuple #[.pointer none, I r1]) rfl ?_
  refine zX [.pointer none, I r1] (.pointer none) rfl rfl ?_
  refine zX [.pointer none, I r1] (I r1) rfl rfl ?_
  refine zA (.pointer none) rfl ?_
  refine zA (I r1) rfl ?_
  refine s_nil ?_
  refine W.seq ?_
  refine W.block ?_
  refine W.seq ?_
  refine W.region rfl ?_
  refine zM (I r1) rfl ?_
  refine zC r1 0 (r1 != 0) rfl rfl rfl ?_
  refine zA (B (r1 != 0)) rfl ?_
  refine s_nil ?_
  refine W.cond (r1 != 0) rfl (fun ao => ?_) (fun ao => ?_)
  ·replace hM := M.e_t hM ao
   simp only [qy1, qy2, qy3, qy4, qy5, qy6, ne_eq, qy7] at ao
   refine W.seq ?_
   refine W.region rfl ?_
   refine zM (I r1) rfl ?_
   refine zA (B false) rfl ?_
   refine zA (I r1) rfl ?_
   refine s_nil ?_
   refine W.ret ?_
   have ag := M.e_pure hM
   exact ⟨_, resE_tmp2 rfl, ⟨false, r1, ag, rfl, (H.pk [])⟩⟩
  replace hM := M.e_f hM ao
  exact (M.e_fail hM).elim
 subst aF
 subst vq
 try dsimp only at hM
 replace H := H.bk aa
 clear aa
 refine zM (.tuple #[Pq ae, I ac]) rfl ?_
 refine zX [Pq ae, I ac] (Pq ae) rfl rfl ?_
 refine zX [Pq ae, I ac] (I ac) rfl rfl ?_
 refine zA (Pq ae) rfl ?_
 refine zA (I ac) rfl ?_
 refine s_nil ?_
 refine W.seq ?_
 refine W.block ?_
 refine W.seq ?_
 refine W.region rfl ?_
 refine zM (I ac) rfl ?_
 refine zC ac 0 (ac != 0) rfl rfl rfl ?_
 refine zA (B (ac != 0)) rfl ?_
 refine s_nil ?_
 refine W.cond (ac != 0) rfl (fun ap => ?_) (fun ap => ?_)
 ·replace hM := M.e_t hM ap
  exact (M.e_fail hM).elim
 replace hM := M.e_f hM ap
 simp only [qy1, qy2, qy3, qy4, qy5, qy6, ne_eq, qy7] at ap
 refine W.seq ?_
 refine W.region rfl ?_
 refine zM (I a) rfl ?_
 refine s_val (x_fa (a := Pq ai) (v := Oq ai 1) rfl (fa_blk (o := 0) Fd27_1 Sz24)) ?_
 refine s_val (x_ld (p := Oq ai 1) (v := ab) rfl (ldb_sc Sc24 (H.bl 2) rfl)) ?_
 have aR := (am).len_le
 refine s_val (x_lenS T24.und rfl am) ?_
 refine zR (s_Marks.length : Int) 1 ((s_Marks.length : Int) - 1) rfl rfl rfl (by omega) ?_
 obtain ⟨aS, aG, hM⟩ := M.e_bind hM
 refine s_call cf34 [I a, I 0, I ((s_Marks.length : Int) - 1)] rfl (zac a 0 ((s_Marks.length : Int) - 1) aG _ (H.gt 3)) ?_
 rintro vq aT ⟨r2, aH, hvq, aa⟩
 subst aH
 subst vq
 try dsimp only at hM
 replace H := H.bk aa
 clear aa
 refine s_val (x_not (b := r2) rfl) ?_
 refine zM (B (!r2)) rfl ?_
 refine g_val (!(!r2)) (gy_f rfl) (fun hg => x_mv (v := I b) rfl) ?_
 refine g_val (!(!r2)) (gy_f rfl) (fun hg => x_fa (a := Pq ai) (v := Oq ai 1) rfl (fa_blk (o := 0) Fd27_1 Sz24)) ?_
 refine g_val (!(!r2)) (gy_f rfl) (fun hg => x_ld (p := Oq ai 1) (v := ab) (gd_of (c := !(!r2)) hg (Oq ai 1)) (ldb_sc Sc24 (H.bl 2) rfl)) ?_
 have aU := (am).len_le
 refine g_val (!(!r2)) (gy_f rfl) (fun hg => x_lenS T24.und (gd_of (c := !(!r2)) hg (ab)) am) ?_
 refine g_val (!(!r2)) (gy_f rfl) (fun hg => x_ari (a := (s_Marks.length : Int)) (b := 1) (r := (s_Marks.length : Int) - 1) (gd_of (c := !(!r2)) hg (I (s_Marks.length : Int))) rfl rfl (by first | omega | (have aI := hg; simp at aI; omega))) ?_
 obtain ⟨r3, aJ, hM⟩ := M.e_bind hM
 refine t_gcall (!(!r2)) (gy_f rfl) cf34 (B r3) (fun _ => [I b, I 0, I ((s_Marks.length : Int) - 1)]) (fun hg => lst3 (gd_of (c := !(!r2)) hg (I b)) rfl (gd_of (c := !(!r2)) hg (I ((s_Marks.length : Int) - 1)))) H (fun hg => (zac b 0 ((s_Marks.length : Int) - 1) (M.e_opt aJ hg) _ (H.give (A := []) rfl)).mono fun v_ w_ ⟨y_, ag, ay, H_⟩ => by subst ag; exact ⟨ay, H.via H_⟩) ?_
 intro aV H
 refine g_val (!(!r2)) (gy_f rfl) (fun hg => x_not (b := r3) (gd_of (c := !(!r2)) hg (B r3))) ?_
 refine s_val (x_por (b := !r2) (r := !r3) rfl rfl (fun hb => gd_of (c := !(!r2)) (by first | exact hb | (rw [hb]; rfl) | simp_all) (B (!r3)))) ?_
 refine zA (B ((!r2) || (!r3))) rfl ?_
 refine s_nil ?_
 refine W.cond ((!r2) || (!r3)) rfl (fun az => ?_) (fun az => ?_)
 ·replace hM := M.e_t hM az
  refine W.seq ?_
  refine W.region rfl ?_
  refine zA (B false) rfl ?_
  refine zA (I 2) rfl ?_
  refine s_nil ?_
  replace H := H.pk []
  refine W.ret ?_
  have ag := M.e_pure hM
  exact ⟨_, resE_tmp2 rfl, ⟨false, 2, ag, rfl, H⟩⟩
 replace hM := M.e_f hM az
 refine W.skip ?_
 refine W.seq ?_
 refine W.region rfl ?_
 refine zM (Pq ae) rfl ?_
 refine zM (I a) rfl ?_
 refine zM (I b) rfl ?_
 obtain ⟨aW, aK, hM⟩ := M.e_bind hM
 refine s_call cf23 [Pq ae, I a, I b] rfl (zar s_Sections s_Marks s_Reaches a b (aq.app _) au (av.app _) am (aw.app _) ax (Has.here (k := 0) rfl) aK _ (H.gt 3)) ?_
 rintro vq aX ⟨r4, aL, hvq, aa⟩
 subst aL
 subst vq
 try dsimp only at hM
 replace H := H.bk aa
 clear aa
 refine zM (B r4) rfl ?_
 refine g_val (!r4) (gy_f rfl) (fun hg => x_mv (v := Pq ae) rfl) ?_
 refine g_val (!r4) (gy_f rfl) (fun hg => x_mv (v := I b) rfl) ?_
 refine g_val (!r4) (gy_f rfl) (fun hg => x_mv (v := I a) rfl) ?_
 obtain ⟨r5, aM, hM⟩ := M.e_bind hM
 refine t_gcall (!r4) (gy_f rfl) cf23 (B r5) (fun _ => [Pq ae, I b, I a]) (fun hg => lst3 (gd_of (c := !r4) hg (Pq ae)) (gd_of (c := !r4) hg (I b)) (gd_of (c := !r4) hg (I a))) H (fun hg => (zar s_Sections s_Marks s_Reaches b a (aq.app _) au (av.app _) am (aw.app _) ax (Has.here (k := 0) rfl) (M.e_opt aM hg) _ (H.give (A := []) rfl)).mono fun v_ w_ ⟨y_, ag, ay, H_⟩ => by subst ag; exact ⟨ay, H.via H_⟩) ?_
 intro aY H
 refine s_val (x_por (b := r4) (r := r5) rfl rfl (fun hb => gd_of (c := !r4) (by first | exact hb | (rw [hb]; rfl) | simp_all) (B r5))) ?_
 refine zA (B (r4 || r5)) rfl ?_
 refine zA (I 0) rfl ?_
 refine s_nil ?_
 replace H := H.pk []
 refine W.ret ?_
 have ag := M.e_pure hM
 exact ⟨_, resE_tmp2 rfl, ⟨(r4 || r5), 0, ag, rfl, H⟩⟩

end Go.Proofs.Ytlemgioaakecpaa
end
namespace Go.Nm
namespace Fl
/-- Sections that are right. -/
structure Secs (S : List Sect) : Prop where
  n : 2 <= S.length /\ S.length <= 6
  rows : ∀ i, i < S.length -> Rows (S.getD i default).rows /\ 2 <= (S.getD i default).rows.length /\ (S.getD i default).rows.length <= 8
  place : ∀ i, i < S.length -> 0 <= (S.getD i default).place /\ (S.getD i default).place <= 10000
  up : ∀ i j, i < j -> j < S.length -> (S.getD i default).place < (S.getD j default).place
structure Rok (S : List Sect) (r : Rch) : Prop where
  u0 : 0 <= r.up
  ud : r.up < r.down
  d1 : r.down < S.length
  l1 : 1 <= r.lo
  lh : r.lo <= r.hi
  h4 : r.hi <= 400
structure Mok (m : Mrk) : Prop where
  p0 : 0 <= m.place
  p1 : m.place <= 10000
  l0 : 0 <= m.lo
  lh : m.lo <= m.hi
  h2 : m.hi <= 2000
structure Site (S : List Sect) (M : List Mrk) (R : List Rch) : Prop where
  s : Secs S
  m : 1 <= M.length /\ M.length <= 16
  r : 1 <= R.length /\ R.length <= 6
  mks : ∀ x ∈ M, Mok x
  rks : ∀ x ∈ R, Rok S x
/-- The flow of a case. -/
def fl (S : List Sect) (r : Rch) (c : Cas) : Int :=
  let a := car (S.getD (Int.toNat r.up) default).rows c.up
  let b := car (S.getD (Int.toNat r.down) default).rows c.down
  rt (10000 * (bif r.narrow then b else a) * b * (c.up - c.down) / ((bif r.narrow then c.roughdown else c.roughup) * c.roughdown * ((S.getD (Int.toNat r.down) default).place - (S.getD (Int.toNat r.up) default).place)))
/-- A case that lies in bounds. -/
structure Cok (c : Cas) : Prop where
  d0 : 0 <= c.down
  du : c.down <= c.up
  u2 : c.up <= 2000
  r1 : 1 <= c.roughup
  r2 : 1 <= c.roughdown
  r3 : c.roughup <= 400
  r4 : c.roughdown <= 400
theorem num_bd {a b d : Int} (ha : 0 <= a /\ a <= 100000) (hb : 0 <= b /\ b <= 100000) (hd : 0 <= d /\ d <= 2000) :
    0 <= 10000 * a * b /\ 10000 * a * b <= 100000000000000 /\ 0 <= 10000 * a * b * d /\ 10000 * a * b * d <= 200000000000000000 := by
  have h1 : 0 <= 10000 * a * b := Int.mul_nonneg (by omega) hb.1
  have h2 : 10000 * a * b <= 1000000000 * 100000 := Int.mul_le_mul (by omega) hb.2 hb.1 (by omega)
  have h3 : 0 <= 10000 * a * b * d := Int.mul_nonneg h1 hd.1
  have h4 : 10000 * a * b * d <= 100000000000000 * 2000 := Int.mul_le_mul (by omega) hd.2 hd.1 (by omega)
  omega
theorem den_bd {a b d : Int} (ha : 1 <= a /\ a <= 400) (hb : 1 <= b /\ b <= 400) (hd : 1 <= d /\ d <= 10000) : 1 <= a * b /\ a * b <= 160000 /\ 1 <= a * b * d /\ a * b * d <= 1600000000 := by
  have h1 : 1 * 1 <= a * b := Int.mul_le_mul ha.1 hb.1 (by omega) (by omega)
  have h2 : a * b <= 400 * 400 := Int.mul_le_mul ha.2 hb.2 (by omega) (by omega)
  have h3 : 1 * 1 <= a * b * d := Int.mul_le_mul (by omega) hd.1 (by omega) (by omega)
  have h4 : a * b * d <= 160000 * 10000 := Int.mul_le_mul (by omega) hd.2 (by omega) (by omega)
  omega
section
variable {S : List Sect} {r : Rch}
theorem Rok.iu (h : Rok S r) : Int.toNat r.up < S.length := by have := h.u0; have := h.ud; have := h.d1; omega
theorem Rok.id (h : Rok S r) : Int.toNat r.down < S.length := by have := h.u0; have := h.ud; have := h.d1; omega
theorem far (hS : Secs S) (h : Rok S r) : 1 <= (S.getD (Int.toNat r.down) default).place - (S.getD (Int.toNat r.up) default).place /\ (S.getD (Int.toNat r.down) default).place - (S.getD (Int.toNat r.up) default).place <= 10000 := by
  have h1 := hS.up (Int.toNat r.up) (Int.toNat r.down) (by have := h.u0; have := h.ud; omega) h.id
  have h2 := hS.place _ h.id
  have h3 := hS.place _ h.iu
  omega
theorem carU (hS : Secs S) (h : Rok S r) (s : Int) : 0 <= car (S.getD (Int.toNat r.up) default).rows s /\ car (S.getD (Int.toNat r.up) default).rows s <= 100000 := by
  have := car_mono (hS.rows _ h.iu).1 (Int.le_refl s)
  omega
theorem carD (hS : Secs S) (h : Rok S r) (s : Int) : 0 <= car (S.getD (Int.toNat r.down) default).rows s /\ car (S.getD (Int.toNat r.down) default).rows s <= 100000 := by
  have := car_mono (hS.rows _ h.id).1 (Int.le_refl s)
  omega
end
def stLo (M : List Mrk) (ms : List Int) (p : Int) : Int := ms.foldl (fun a k => if p <= (M.getD (Int.toNat k) default).place then max a (M.getD (Int.toNat k) default).lo else a) 0
def stHi (M : List Mrk) (ms : List Int) (p : Int) : Int := ms.foldl (fun a k => if (M.getD (Int.toNat k) default).place <= p then min a (M.getD (Int.toNat k) default).hi else a) 2000
end Fl
end Go.Nm
namespace Go.Proofs.Ytlemgioaakecpaa
open Go Go.Nm
theorem flow_ends {S : List Sect} {M' : List Mrk} {R' : List Rch} {r : Rch} {c : Cas} (hS : Fl.Secs S) (h : Fl.Rok S r) (hc : Fl.Cok c) : (zaz S M' R' r c).Ends (Fl.fl S r c) := by
  have hu := hS.rows _ h.iu
  have hd := hS.rows _ h.id
  have k1 := Fl.carU hS h c.up
  have k2 := Fl.carD hS h c.down
  have k3 := Fl.far hS h
  have h0 := h.u0
  have h1 := h.ud
  have h2 := h.d1
  obtain ⟨c1, c2, c3, c4, c5, c6, c7⟩ := hc
  unfold zaz
  refine M.i_bind (carry_ends (by omega) (by omega) hu.1 (by intro e; rw [e] at hu; simp at hu) (by omega) (by omega)) (M.i_bind (carry_ends (by omega) (by omega) hd.1 (by intro e; rw [e] at hd; simp at hd) (by omega) (by omega)) ?_)
  unfold Fl.fl
  dsimp only
  generalize Fl.car (S.getD (Int.toNat r.up) default).rows c.up = a at k1 ⊢
  generalize Fl.car (S.getD (Int.toNat r.down) default).rows c.down = b at k2 ⊢
  have key : ∀ s a : Int, (0 <= a /\ a <= 100000) -> (1 <= s /\ s <= 400) -> (zaw S M' R' r c b s a).Ends (Fl.rt (10000 * a * b * (c.up - c.down) / (s * c.roughdown * ((S.getD (Int.toNat r.down) default).place - (S.getD (Int.toNat r.up) default).place)))) := fun s a ha hs => by
    unfold zaw
    have n := Fl.num_bd ha k2 (d := c.up - c.down) (by omega)
    have d := Fl.den_bd hs (b := c.roughdown) (by omega) k3
    refine M.i_grd (gA2 (by omega) (by omega)) (M.i_grd (gA2 (by omega) (by omega)) (M.i_grd (gA2 (by omega) (by omega)) ?_))
    generalize (S.getD (Int.toNat r.down) default).place - (S.getD (Int.toNat r.up) default).place = f at d k3 ⊢
    refine M.i_grd (gA2 (by omega) (by omega)) (M.i_grd (gA2 (by omega) (by omega)) (M.i_grd (gA2 (by omega) (by omega)) (M.i_grd (gA2 (by omega) (by omega)) (M.i_grd (gA2 (by omega) (by omega)) (M.i_grd (gA2 (by omega) (by omega)) (M.i_grd (gA3 (by omega) (by omega) (by omega)) (M.i_bind (root_ends (Int.ediv_nonneg n.2.2.1 (by omega)) ?_) M.i_pure)))))))
    have := Fl.div_mono n.2.2.1 (Int.le_refl _) (by decide : (0 : Int) < 1) (by omega : (1 : Int) <= s * c.roughdown * f)
    rw [Int.ediv_one] at this
    omega
  cases hn : r.narrow with
  | true => exact key _ _ k2 ⟨c5, c7⟩
  | false => exact key _ _ k1 ⟨c4, c6⟩
theorem least_ends (a b : Int) : (zaA a [b]).Ends (min a b) := by
  unfold zaA
  refine M.i_bind (M.i_next (s' := (min a b, 1)) ?_ (M.i_stop ?_)) M.i_pure
  · simp only [zaN]
    exact M.i_t (by simp) (M.i_grd (by simp) M.i_pure)
  · simp only [zaN]
    exact M.i_f (by simp) M.i_pure
theorem stages_ends {S : List Sect} {M' : List Mrk} {R' : List Rch} {ms : List Int} {i : Int} (hm : ∀ k ∈ ms, 0 <= k /\ k < M'.length) (h0 : 0 <= i) (h1 : i < S.length) :
    (zaq S M' R' ms i).Ends (Fl.stLo M' ms (S.getD (Int.toNat i) default).place, Fl.stHi M' ms (S.getD (Int.toNat i) default).place) := by
  unfold zaq
  refine M.i_bind (a := (Fl.stLo M' ms (S.getD (Int.toNat i) default).place, Fl.stHi M' ms (S.getD (Int.toNat i) default).place)) ?_ M.i_pure
  refine M.i_for (fun j => (Fl.stLo M' (ms.take j) (S.getD (Int.toNat i) default).place, Fl.stHi M' (ms.take j) (S.getD (Int.toNat i) default).place, j)) ms.length (fun j hj => ?_) ?_
  · have hk := hm (ms.getD j 0) (by rw [getD_el ms hj]; exact List.getElem_mem hj)
    simp only [zaX]
    refine M.i_t (decide_eq_true (by omega)) (M.i_grd (decide_eq_true (by omega)) (M.i_grd (gA2 hk.1 hk.2) (M.i_grd (gA2 h0 h1) ?_)))
    have el : Fl.stLo M' (ms.take (j + 1)) (S.getD (Int.toNat i) default).place = if (S.getD (Int.toNat i) default).place <= (M'.getD (Int.toNat (ms.getD j 0)) default).place then max (Fl.stLo M' (ms.take j) (S.getD (Int.toNat i) default).place) (M'.getD (Int.toNat (ms.getD j 0)) default).lo else Fl.stLo M' (ms.take j) (S.getD (Int.toNat i) default).place := by
      rw [← take_succ_D ms j hj 0]
      unfold Fl.stLo
      rw [List.foldl_append]
      rfl
    have eh : Fl.stHi M' (ms.take (j + 1)) (S.getD (Int.toNat i) default).place = if (M'.getD (Int.toNat (ms.getD j 0)) default).place <= (S.getD (Int.toNat i) default).place then min (Fl.stHi M' (ms.take j) (S.getD (Int.toNat i) default).place) (M'.getD (Int.toNat (ms.getD j 0)) default).hi else Fl.stHi M' (ms.take j) (S.getD (Int.toNat i) default).place := by
      rw [← take_succ_D ms j hj 0]
      unfold Fl.stHi
      rw [List.foldl_append]
      rfl
    rw [el, eh]
    refine M.i_if (fun hc => ?_) (fun hc => ?_)
    · have hc := of_decide_eq_true hc
      rw [if_pos hc]
      refine M.i_bind (least_ends _ _) (M.i_if (fun hd => ?_) (fun hd => ?_))
      · rw [if_pos (of_decide_eq_true hd)]; exact M.i_pure
      · rw [if_neg (of_decide_eq_false hd)]; exact M.i_pure
    · have hc := of_decide_eq_false hc
      rw [if_neg hc]
      refine M.i_if (fun hd => ?_) (fun hd => ?_)
      · rw [if_pos (of_decide_eq_true hd)]; exact M.i_pure
      · rw [if_neg (of_decide_eq_false hd)]; exact M.i_pure
  · simp only [zaX]
    rw [List.take_length]
    exact M.i_f (decide_eq_false (by omega)) M.i_pure
theorem nums_out {T X : Type} {bd : T -> Int -> M (T ⊕ X)} {lo hi : Int} (J : Int -> T -> Prop) (hl : lo <= hi + 1) (h1 : hi <= 1000000) (h2 : -1000000 <= lo) {s0 : T} (h0 : J lo s0)
    (step : ∀ x s, lo <= x -> x <= hi -> J x s -> (bd s x).Out (fun r => match r with | .inl s' => J (x + 1) s' | .inr _ => False)) :
    (zak (M.yl bd) (.inl s0) lo hi).Out (fun r => match r with | .inl s => J (hi + 1) s | .inr _ => False) := by
  unfold zak
  refine M.o_bind (P := fun (x : (T ⊕ X) ⊕ (T ⊕ X)) => ∃ s, x = .inr (.inl s) /\ J (hi + 1) s) ?_ ?_
  · refine M.o_iter (fun m (x : Int × (T ⊕ X)) => ∃ s, x.2 = .inl s /\ lo <= x.1 /\ x.1 <= hi + 1 /\ m = (hi + 1 - x.1).toNat /\ J x.1 s) ?_ _ (lo, .inl s0) ⟨s0, rfl, Int.le_refl _, hl, rfl, h0⟩
    rintro m ⟨n, t⟩ ⟨s, rfl, a, b, rfl, hj⟩
    dsimp only at a b hj ⊢
    simp only [za8]
    refine M.o_if (fun hb => ?_) (fun hb => ?_)
    · have hb := of_decide_eq_true hb
      refine M.o_bind (P := fun (y : Bool × (T ⊕ X)) => y.1 = true /\ ∃ s', y.2 = .inl s' /\ J (n + 1) s') ?_ ?_
      · unfold M.yl
        refine M.o_bind (step n s a hb hj) ?_
        intro r hr
        cases r with
        | inl s' => exact M.o_pure ⟨rfl, s', rfl, hr⟩
        | inr x => exact hr.elim
      · rintro ⟨g, t⟩ ⟨h1', s', h2', hj'⟩
        dsimp only at h1' h2' ⊢
        subst h1' h2'
        refine M.o_f rfl (M.o_grd (gA2 (by omega) (by omega)) (M.o_pure ⟨(hi + 1 - (n + 1)).toNat, by omega, s', rfl, by dsimp only; omega, by dsimp only; omega, rfl, hj'⟩))
    · have hb := of_decide_eq_false hb
      obtain rfl : n = hi + 1 := by omega
      exact M.o_pure ⟨s, rfl, hj⟩
  · rintro _ ⟨s, rfl, hj⟩
    exact M.o_pure hj
end Go.Proofs.Ytlemgioaakecpaa
