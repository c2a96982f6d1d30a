/- Part 4 of the texts on which the proof rests. Conditions: none. -/
import Derived.Recover
import Derived.Tactics
import Derived.Tactics2
import Derived.Laws.Pointers
import Derived.KernelRfl
import Derived.Test.YtlemgioaakecpaaZG3
set_option linter.unusedVariables false
set_option linter.unusedSimpArgs false
set_option linter.unusedSectionVars false
section
set_option maxRecDepth 100000
set_option maxHeartbeats 16000000
namespace Go.Proofs.Ytlemgioaakecpaa
open Go Go.Nm
def zar (s_Sections : List Sect) (s_Marks : List Mrk) (s_Reaches : List Rch) (marks : List Int) (flow : Span) (aa : Int) (ab : Int) (ac : Bool) : (Bool × Int × Int) -> Int -> M ((Bool × Int × Int) ⊕ Unit) := fun (s4, s5, s6) x =>
  M.bind (zaX s_Sections s_Marks s_Reaches marks (⟨(aa : Int), (ab : Int), (x : Int), (x : Int), ac⟩ : Rch)) fun (r0, r1) =>
  bif ((decide (r1 < flow.lo)) || (decide (flow.hi < r0))) then (
  M.pure (.inl (s4, s5, s6)))
  else (
  bif !s4 then (
  M.pure (.inl (true, x, x)))
  else (
  M.pure (.inl (s4, s5, x))))
def zaN (s_Sections : List Sect) (s_Marks : List Mrk) (s_Reaches : List Rch) (marks : List Int) (reach : Int) (flow : Span) : M (Int × Int × Int) :=
  M.bind (zaL s_Sections s_Marks s_Reaches marks reach) fun x_ => match x_ with
  | (.inl (ak, al, am, ao, ap, r2)) => (
  bif r2 != 0 then (
  M.pure (0, 0, r2))
  else (
  M.fail))
  | (.inr (aa, ab, ac, ae, ag, ah)) => (
  bif ah != 0 then (
  M.fail)
  else (
  bif ((decide (flow.lo < 0)) || (decide (flow.hi < flow.lo))) then (
  M.pure (0, 0, 4))
  else (
  M.bind (zat s_Sections s_Marks s_Reaches marks) fun r3 =>
  bif !r3 then (
  M.pure (0, 0, 7))
  else (
  M.bind (zan (⟨(ac : Int), (ae : Int)⟩ : Span)) fun (ai, aj) =>
  M.bind (zaj (M.yl (zar s_Sections s_Marks s_Reaches marks flow aa ab ag)) (.inl (false, 0, 0)) ai aj) fun x_ => match x_ with
  | .inl (s4, s5, s6) => (
  bif !s4 then (
  M.pure (0, 0, 5))
  else (
  M.pure (s5, s6, 0)))
  | .inr _ => M.fail))))
theorem zcI {R : List Chunk} {bg : Cells} {aj : Value} {bh : Cells} {ak : Value} {bi : Cells} {al : Value} {bj : Cells} {ao : Value} (s_Sections : List Sect) (s_Marks : List Mrk) (s_Reaches : List Rch) (marks : List Int) (reach : Int) (flow : Span) (aK : Reads R bg) (aQ : Sl bg aj s_Sections) (aL : Reads R bh) (aR : Sl bh ak s_Marks) (aM : Reads R bi) (aS : Sl bi al s_Reaches) (aN : Reads R bj) (aO : Sl bj ao marks) {r : (Int × Int × Int)} (hM : (zaN s_Sections s_Marks s_Reaches marks reach flow).Ends r) (w : World) (H : St w w [] R) : Ret Try.prog 16 #[.agg #[aj, ak, al], ao, I reach, .agg #[I flow.lo, I flow.hi]] w fun v w' => ∃ (y0 : Int) (y1 : Int) (y2 : Int), (y0, y1, y2) = r /\ v = .tuple #[.agg #[I y0, I y1], I y2] /\ St w w' [] R := by
 refine ret_of_WD Try.func16 rfl rfl rfl ?_
 replace H : St w w [cMk ([])] R := H.mk0
 have bJ := aQ.len_le
 have bK := aR.len_le
 have bL := aS.len_le
 have bM := aO.len_le
 unfold zaN at hM
 refine WD.seq ?_
 refine WD.of ?_
 refine W.region rfl ?_
 refine t_box (v := .agg #[aj, ak, al]) (cs := [aj, ak, al]) H rfl rfl ?_
 intro aG bN H
 refine t_box (v := ao) (cs := [ao]) H rfl (Sl.cells aO) ?_
 intro ay bO H
 refine t_box (v := .agg #[I flow.lo, I flow.hi]) (cs := [I flow.lo, I flow.hi]) H rfl rfl ?_
 intro ae bP H
 refine t_alloc (cs := [I 0, I 0]) H Al44 rfl ?_
 intro aP bQ H
 refine zA (I 0) rfl ?_
 refine s_nil ?_
 refine WD.seq ?_
 refine WD.of ?_
 refine W.region rfl ?_
 refine s_val (x_ld (p := Pq aG) (v := .agg #[aj, ak, al]) rfl (ldb_ag (ds := [aj, ak, al]) Ag27 Sz27 (H.bl 3) rfl rfl)) ?_
 refine s_val (x_ld (p := Pq ay) (v := ao) rfl (ldb_sc Sc28 (H.bl 2) rfl)) ?_
 refine zM (I reach) rfl ?_
 obtain ⟨bR, bn, hM⟩ := M.e_bind hM
 refine s_call cf32 [.agg #[aj, ak, al], ao, I reach] rfl (zcn s_Sections s_Marks s_Reaches marks reach (aK.app _) aQ (aL.app _) aR (aM.app _) aS (aN.app _) aO bn _ (H.gt 5)) ?_
 rintro vq bS (⟨aA, aB, aC, aD, aE, r2, bo, hvq, am⟩ | ⟨aa, ab, ah, ai, ac, au, ag, ap, bp, hvq, am⟩)
 ·subst bo
  subst vq
  try dsimp only at hM
  replace H := H.bk am
  clear am
  refine zM (.tuple #[.pointer none, .agg #[I aA, I aB, I aC, I aD, B aE], I r2]) rfl ?_
  refine zX [.pointer none, .agg #[I aA, I aB, I aC, I aD, B aE], I r2] (.pointer none) rfl rfl ?_
  refine zX [.pointer none, .agg #[I aA, I aB, I aC, I aD, B aE], I r2] (.agg #[I aA, I aB, I aC, I aD, B aE]) rfl rfl ?_
  refine zX [.pointer none, .agg #[I aA, I aB, I aC, I aD, B aE], I r2] (I r2) rfl rfl ?_
  refine t_alloc (cs := [.pointer none]) H Al72 rfl ?_
  intro az bT H
  refine t_alloc (cs := [I 0, I 0, I 0, I 0, B false]) H Al56 rfl ?_
  intro aw bU H
  refine t_sw 1 0 [.pointer none] (.pointer none) H rfl rfl Sz72 rfl rfl rfl rfl ?_
  intro bV H
  refine t_sw 0 0 [I aA, I aB, I aC, I aD, B aE] (.agg #[I aA, I aB, I aC, I aD, B aE]) H rfl rfl Sz56 rfl rfl rfl rfl ?_
  intro bW H
  refine zA (I r2) rfl ?_
  refine s_nil ?_
  refine WD.seq ?_
  refine WD.block ?_
  refine WD.seq ?_
  refine WD.of ?_
  refine W.region rfl ?_
  refine zM (I r2) rfl ?_
  refine zC r2 0 (r2 != 0) rfl rfl rfl ?_
  refine zA (B (r2 != 0)) rfl ?_
  refine s_nil ?_
  refine WD.cond (r2 != 0) rfl (fun aT => ?_) (fun aT => ?_)
  ·replace hM := M.e_t hM aT
   simp only [qy1, qy2, qy3, qy4, qy5, qy6, ne_eq, qy7] at aT
   refine WD.seq ?_
   refine WD.of ?_
   refine W.region rfl ?_
   refine s_val (x_bld (ps := []) (zs := [I 0, I 0]) (L' := [I 0, I 0]) rfl Try.underlying44 Al44 rfl (Bd44 Try.underlying44) (.nil)) ?_
   refine zM (I r2) rfl ?_
   refine t_sw 2 0 [I 0, I 0] (.agg #[I 0, I 0]) H rfl rfl Sz44 rfl rfl rfl rfl ?_
   intro bX H
   refine zA (I r2) rfl ?_
   refine s_nil ?_
   replace H := H.pk [2, 6]
   refine WD.of ?_
   refine W.ret ?_
   refine bodyD_r (H.pk [1, 0]) ?_
   intro bY H
   replace H := H.nf
   have bq := (H.bl 0)
   have ax := M.e_pure hM
   exact ⟨_, (resE_ofn (vs := [.agg #[I 0, I 0], I r2]) rfl rfl (.cell (v := .agg #[I 0, I 0]) rfl (run_loadVar_ag (ds := [I 0, I 0]) Ag44 Sz44 bq rfl rfl) <| .tmp (v := I r2) rfl <| .nil)), ⟨0, 0, r2, ax, rfl, (H.pk [])⟩⟩
  replace hM := M.e_f hM aT
  exact (M.e_fail hM).elim
 subst bp
 subst vq
 try dsimp only at hM
 replace H := H.bk am
 clear am
 refine zM (.tuple #[Pq ag, .agg #[I aa, I ab, I ah, I ai, B ac], I au]) rfl ?_
 refine zX [Pq ag, .agg #[I aa, I ab, I ah, I ai, B ac], I au] (Pq ag) rfl rfl ?_
 refine zX [Pq ag, .agg #[I aa, I ab, I ah, I ai, B ac], I au] (.agg #[I aa, I ab, I ah, I ai, B ac]) rfl rfl ?_
 refine zX [Pq ag, .agg #[I aa, I ab, I ah, I ai, B ac], I au] (I au) rfl rfl ?_
 refine t_alloc (cs := [.pointer none]) H Al72 rfl ?_
 intro az bZ H
 refine t_alloc (cs := [I 0, I 0, I 0, I 0, B false]) H Al56 rfl ?_
 intro aw b3 H
 refine t_sw 1 0 [Pq ag] (Pq ag) H rfl rfl Sz72 rfl rfl rfl rfl ?_
 intro b4 H
 refine t_sw 0 0 [I aa, I ab, I ah, I ai, B ac] (.agg #[I aa, I ab, I ah, I ai, B ac]) H rfl rfl Sz56 rfl rfl rfl rfl ?_
 intro b5 H
 refine zA (I au) rfl ?_
 refine s_nil ?_
 refine WD.seq ?_
 refine WD.block ?_
 refine WD.seq ?_
 refine WD.of ?_
 refine W.region rfl ?_
 refine zM (I au) rfl ?_
 refine zC au 0 (au != 0) rfl rfl rfl ?_
 refine zA (B (au != 0)) rfl ?_
 refine s_nil ?_
 refine WD.cond (au != 0) rfl (fun aU => ?_) (fun aU => ?_)
 ·replace hM := M.e_t hM aU
  exact (M.e_fail hM).elim
 replace hM := M.e_f hM aU
 simp only [qy1, qy2, qy3, qy4, qy5, qy6, ne_eq, qy7] at aU
 refine WD.seq ?_
 refine WD.of ?_
 refine W.region rfl ?_
 refine s_val (x_fa (a := Pq ae) (v := Pq ae) rfl (fa_blk (o := 0) Fd44_0 Sz3)) ?_
 refine s_val (x_ld (p := Pq ae) (v := I flow.lo) rfl (ldb_sc Sc3 (H.bl 5) rfl)) ?_
 refine zC flow.lo 0 (decide (flow.lo < 0)) rfl rfl rfl ?_
 refine zM (B (decide (flow.lo < 0))) rfl ?_
 refine g_val (!(decide (flow.lo < 0))) (gy_f rfl) (fun hg => x_fa (a := Pq ae) (v := Pq ae) rfl (fa_blk (o := 0) Fd44_0 Sz3)) ?_
 refine g_val (!(decide (flow.lo < 0))) (gy_f rfl) (fun hg => x_ld (p := Pq ae) (v := I flow.lo) (gd_of (c := !(decide (flow.lo < 0))) hg (Pq ae)) (ldb_sc Sc3 (H.bl 5) rfl)) ?_
 refine g_val (!(decide (flow.lo < 0))) (gy_f rfl) (fun hg => x_fa (a := Pq ae) (v := Oq ae 1) rfl (fa_blk (o := 0) Fd44_1 Sz3)) ?_
 refine g_val (!(decide (flow.lo < 0))) (gy_f rfl) (fun hg => x_ld (p := Oq ae 1) (v := I flow.hi) (gd_of (c := !(decide (flow.lo < 0))) hg (Oq ae 1)) (ldb_sc Sc3 (H.bl 5) rfl)) ?_
 refine g_val (!(decide (flow.lo < 0))) (gy_f rfl) (fun hg => x_cmp (kd := .i64) (a := flow.lo) (b := flow.hi) (r := decide (flow.hi < flow.lo)) (gd_of (c := !(decide (flow.lo < 0))) hg (I flow.lo)) (gd_of (c := !(decide (flow.lo < 0))) hg (I flow.hi)) rfl) ?_
 refine s_val (x_por (b := decide (flow.lo < 0)) (r := decide (flow.hi < flow.lo)) rfl rfl (fun hb => gd_of (c := !(decide (flow.lo < 0))) (by first | exact hb | (rw [hb]; rfl) | simp_all) (B (decide (flow.hi < flow.lo))))) ?_
 refine zA (B ((decide (flow.lo < 0)) || (decide (flow.hi < flow.lo)))) rfl ?_
 refine s_nil ?_
 refine WD.cond ((decide (flow.lo < 0)) || (decide (flow.hi < flow.lo))) rfl (fun aY => ?_) (fun aY => ?_)
 ·replace hM := M.e_t hM aY
  refine WD.seq ?_
  refine WD.of ?_
  refine W.region rfl ?_
  refine s_val (x_bld (ps := []) (zs := [I 0, I 0]) (L' := [I 0, I 0]) rfl Try.underlying44 Al44 rfl (Bd44 Try.underlying44) (.nil)) ?_
  refine t_sw 4 0 [I 0, I 0] (.agg #[I 0, I 0]) H rfl rfl Sz44 rfl rfl rfl rfl ?_
  intro b6 H
  refine zA (I 4) rfl ?_
  refine s_nil ?_
  replace H := H.pk [4, 8]
  refine WD.of ?_
  refine W.ret ?_
  refine bodyD_r (H.pk [1, 0]) ?_
  intro b7 H
  replace H := H.nf
  have br := (H.bl 0)
  have ax := M.e_pure hM
  exact ⟨_, (resE_ofn (vs := [.agg #[I 0, I 0], I 4]) rfl rfl (.cell (v := .agg #[I 0, I 0]) rfl (run_loadVar_ag (ds := [I 0, I 0]) Ag44 Sz44 br rfl rfl) <| .tmp (v := I 4) rfl <| .nil)), ⟨0, 0, 4, ax, rfl, (H.pk [])⟩⟩
 replace hM := M.e_f hM aY
 refine WD.seq ?_
 refine WD.of ?_
 refine W.region rfl ?_
 refine s_val (x_ld (p := Pq az) (v := Pq ag) rfl (ldb_sc Sc72 (H.bl 1) rfl)) ?_
 refine s_val (x_ld (p := Pq ay) (v := ao) rfl (ldb_sc Sc28 (H.bl 6) rfl)) ?_
 obtain ⟨b8, bt, hM⟩ := M.e_bind hM
 refine s_call cf30 [Pq ag, ao] rfl (zbT s_Sections s_Marks s_Reaches marks (aK.app _) aQ (aL.app _) aR (aM.app _) aS (Has.here (k := 2) rfl) (aN.app _) aO bt _ (H.gt 9)) ?_
 rintro vq b9 ⟨r3, bu, hvq, am⟩
 subst bu
 subst vq
 try dsimp only at hM
 replace H := H.bk am
 clear am
 refine s_val (x_not (b := r3) rfl) ?_
 refine zA (B (!r3)) rfl ?_
 refine s_nil ?_
 refine WD.cond (!r3) rfl (fun aZ => ?_) (fun aZ => ?_)
 ·replace hM := M.e_t hM aZ
  refine WD.seq ?_
  refine WD.of ?_
  refine W.region rfl ?_
  refine s_val (x_bld (ps := []) (zs := [I 0, I 0]) (L' := [I 0, I 0]) rfl Try.underlying44 Al44 rfl (Bd44 Try.underlying44) (.nil)) ?_
  refine t_sw 4 0 [I 0, I 0] (.agg #[I 0, I 0]) H rfl rfl Sz44 rfl rfl rfl rfl ?_
  intro cb H
  refine zA (I 7) rfl ?_
  refine s_nil ?_
  replace H := H.pk [4, 8]
  refine WD.of ?_
  refine W.ret ?_
  refine bodyD_r (H.pk [1, 0]) ?_
  intro cc H
  replace H := H.nf
  have bv := (H.bl 0)
  have ax := M.e_pure hM
  exact ⟨_, (resE_ofn (vs := [.agg #[I 0, I 0], I 7]) rfl rfl (.cell (v := .agg #[I 0, I 0]) rfl (run_loadVar_ag (ds := [I 0, I 0]) Ag44 Sz44 bv rfl rfl) <| .tmp (v := I 7) rfl <| .nil)), ⟨0, 0, 7, ax, rfl, (H.pk [])⟩⟩
 replace hM := M.e_f hM aZ
 refine WD.of ?_
 refine W.skip ?_
 refine WD.seq ?_
 refine WD.of ?_
 refine W.region rfl ?_
 refine s_val (x_bld (ps := []) (zs := [I 0, I 0]) (L' := [I 0, I 0]) rfl Try.underlying44 Al44 rfl (Bd44 Try.underlying44) (.nil)) ?_
 refine t_alloc (cs := [I 0, I 0]) H Al44 rfl ?_
 intro aq ce H
 refine t_alloc (cs := [B false]) H Al4 rfl ?_
 intro av cf H
 refine t_sw 1 0 [I 0, I 0] (.agg #[I 0, I 0]) H rfl rfl Sz44 rfl rfl rfl rfl ?_
 intro cg H
 refine t_sw 0 0 [B false] (B false) H rfl rfl Sz4 rfl rfl rfl rfl ?_
 intro ch H
 refine s_nil ?_
 refine WD.seq ?_
 refine WD.seq ?_
 refine WD.of ?_
 refine W.region rfl ?_
 refine s_val (x_fa (a := Pq aw) (v := Oq aw 2) rfl (fa_blk (o := 0) Fd56_2 Sz44)) ?_
 refine s_val (x_ld (p := Oq aw 2) (v := .agg #[I ah, I ai]) rfl (ldb_ag (ds := [I ah, I ai]) Ag44 Sz44 (H.bl 2) rfl rfl)) ?_
 obtain ⟨ci, bw, hM⟩ := M.e_bind hM
 refine s_call cf37 [.agg #[I ah, I ai]] rfl (zbY (⟨(ah : Int), (ai : Int)⟩ : Span) bw _ (H.gt 11)) ?_
 rintro vq cj ⟨aH, aI, aJ, bx, hvq, am⟩
 subst bx
 subst vq
 try dsimp only at hM
 replace H := H.bk am
 clear am
 refine s_nil ?_
 refine WD.block ?_
 obtain ⟨ck, bz, hM⟩ := M.e_bind hM
 refine WD.range (L := [cBlk av [B false] 4, cBlk aq [I 0, I 0] 44, cMemI encSpt ap (zaa s_Sections s_Marks s_Reaches), cBlk aJ [I aH, I aI] 44, cBlk aw [I aa, I ab, I ah, I ai, B ac] 56, cBlk az [Pq ag] 72, cBlk ag [aj, ak, al, .map (some ap)] 99, cBlk aP [I 0, I 0] 44, cBlk ae [I flow.lo, I flow.hi] 44, cBlk ay [ao] 28, cBlk aG [aj, ak, al] 27]) [Pq aJ] (H.pk [11, 1, 2, 6, 0, 3, 4, 5, 7, 8, 9, 10]) rfl cf55 ?_
 intro aV a6 a7 bA a8 H
 have hYC : YieldC Try.prog ([cMk (a6 :: ([])), cBlk aJ [I aH, I aI] 44, cBlk aw [I aa, I ab, I ah, I ai, B ac] 56, cBlk az [Pq ag] 72, cBlk ag [aj, ak, al, .map (some ap)] 99, cBlk aP [I 0, I 0] 44, cBlk ae [I flow.lo, I flow.hi] 44, cBlk ay [ao] 28, cBlk aG [aj, ak, al] 27] ++ R) arI (yJ aV a7 (fun (s4, s5, s6) aW => aW = [cBlk av [B s4] 4, cBlk aq [I s5, I s6] 44, cMemI encSpt ap (zaa s_Sections s_Marks s_Reaches)]) (fun (_ : Unit) _ => False) (fun _ => .ret)) (.func (.yield aV) #[] #[]) (M.yl (zar s_Sections s_Marks s_Reaches marks flow aa ab ac)) := by
  refine YieldC.mk a8 (fun (s4, s5, s6) aW => aW = [cBlk av [B s4] 4, cBlk aq [I s5, I s6] 44, cMemI encSpt ap (zaa s_Sections s_Marks s_Reaches)]) (fun (_ : Unit) _ => False) (fun _ => .ret) (zar s_Sections s_Marks s_Reaches marks flow aa ab ac) (by rintro ⟨s4, s5, s6⟩ _ h_; obtain ⟨rfl⟩ := h_; rfl) (fun _ _ h_ => h_.elim) rfl (arI_len rfl) ?_
  intro C_ cn x W_ bB
  obtain rfl := bB
  refine W.region rfl ?_
  refine zA (I x) rfl ?_
  refine s_nil ?_
  refine ⟨rfl, rfl, ?_⟩
  intro w R aX aW s_ r bC hM H
  obtain ⟨s4, s5, s6⟩ := s_
  obtain ⟨rfl⟩ := bC
  replace aK := aK.sub aX
  replace aL := aL.sub aX
  replace aM := aM.sub aX
  replace aN := aN.sub aX
  replace hM : (zar s_Sections s_Marks s_Reaches marks flow aa ab ac (s4, s5, s6) x).Ends r := hM
  simp only [zar] at hM
  replace H := H.pk [0, 1, 2, 4, 5, 6, 7, 8, 9, 10, 11, 3]
  refine W.block ?_
  refine W.seq ?_
  refine W.region rfl ?_
  refine s_val (x_ld (p := Pq aw) (v := .agg #[I aa, I ab, I ah, I ai, B ac]) rfl (ldb_ag (ds := [I aa, I ab, I ah, I ai, B ac]) Ag56 Sz56 (H.bl 4) rfl rfl)) ?_
  refine t_alloc (cs := [I 0, I 0, I 0, I 0, B false]) H Al56 rfl ?_
  intro ba co H
  refine t_sw 0 0 [I aa, I ab, I ah, I ai, B ac] (.agg #[I aa, I ab, I ah, I ai, B ac]) H rfl rfl Sz56 rfl rfl rfl rfl ?_
  intro cp H
  refine s_nil ?_
  refine W.seq ?_
  refine W.region rfl ?_
  refine zM (I x) rfl ?_
  refine zM (I x) rfl ?_
  refine s_val (x_bld (ps := [(0, I x), (1, I x)]) (zs := [I 0, I 0]) (L' := [I x, I x]) rfl Try.underlying44 Al44 rfl (Bd44 Try.underlying44) (.cons (cs := [I x]) rfl rfl rfl rfl rfl <| .cons (cs := [I x]) rfl rfl rfl rfl rfl <| .nil)) ?_
  refine s_val (x_fa (a := Pq ba) (v := Oq ba 2) rfl (fa_blk (o := 0) Fd56_2 Sz44)) ?_
  refine t_sw 0 2 [I x, I x] (.agg #[I x, I x]) H rfl rfl Sz44 rfl rfl rfl rfl ?_
  intro cq H
  refine s_nil ?_
  refine W.seq ?_
  refine W.seq ?_
  refine W.region rfl ?_
  refine s_val (x_ld (p := Pq az) (v := Pq ag) rfl (ldb_sc Sc72 (H.bl 6) rfl)) ?_
  refine s_val (x_ld (p := Pq ay) (v := ao) rfl (ldb_sc Sc28 (H.bl 10) rfl)) ?_
  refine s_val (x_ld (p := Pq ba) (v := .agg #[I aa, I ab, I x, I x, B ac]) rfl (ldb_ag (ds := [I aa, I ab, I x, I x, B ac]) Ag56 Sz56 (H.bl 0) rfl rfl)) ?_
  obtain ⟨cr, bD, hM⟩ := M.e_bind hM
  refine s_call cf33 [Pq ag, ao, .agg #[I aa, I ab, I x, I x, B ac]] rfl (zct s_Sections s_Marks s_Reaches marks (⟨(aa : Int), (ab : Int), (x : Int), (x : Int), ac⟩ : Rch) (aK.app _) aQ (aL.app _) aR (aM.app _) aS (Has.here (k := 6) rfl) (aN.app _) aO bD _ ((H.pk [3, 0, 1, 2, 4, 5, 6, 7, 8, 9, 10, 11, 12]).gt 12)) ?_
  rintro vq ct ⟨r0, r1, bE, hvq, am⟩
  subst bE
  subst vq
  try dsimp only at hM
  replace H := H.pk [3, 0, 1, 2, 4, 5, 6, 7, 8, 9, 10, 11, 12] |>.bk am
  clear am
  refine t_alloc (cs := [I 0, I 0]) H Al44 rfl ?_
  intro aF cv H
  refine t_sw 0 0 [I r0, I r1] (.agg #[I r0, I r1]) H rfl rfl Sz44 rfl rfl rfl rfl ?_
  intro cw H
  refine s_nil ?_
  refine W.seq ?_
  refine W.region rfl ?_
  refine s_val (x_fa (a := Pq aF) (v := Oq aF 1) rfl (fa_blk (o := 0) Fd44_1 Sz3)) ?_
  refine s_val (x_ld (p := Oq aF 1) (v := I r1) rfl (ldb_sc Sc3 (H.bl 0) rfl)) ?_
  refine s_val (x_fa (a := Pq ae) (v := Pq ae) rfl (fa_blk (o := 0) Fd44_0 Sz3)) ?_
  refine s_val (x_ld (p := Pq ae) (v := I flow.lo) rfl (ldb_sc Sc3 (H.bl 10) rfl)) ?_
  refine zC r1 flow.lo (decide (r1 < flow.lo)) rfl rfl rfl ?_
  refine zM (B (decide (r1 < flow.lo))) rfl ?_
  refine g_val (!(decide (r1 < flow.lo))) (gy_f rfl) (fun hg => x_fa (a := Pq aF) (v := Pq aF) rfl (fa_blk (o := 0) Fd44_0 Sz3)) ?_
  refine g_val (!(decide (r1 < flow.lo))) (gy_f rfl) (fun hg => x_ld (p := Pq aF) (v := I r0) (gd_of (c := !(decide (r1 < flow.lo))) hg (Pq aF)) (ldb_sc Sc3 (H.bl 0) rfl)) ?_
  refine g_val (!(decide (r1 < flow.lo))) (gy_f rfl) (fun hg => x_fa (a := Pq ae) (v := Oq ae 1) rfl (fa_blk (o := 0) Fd44_1 Sz3)) ?_
  refine g_val (!(decide (r1 < flow.lo))) (gy_f rfl) (fun hg => x_ld (p := Oq ae 1) (v := I flow.hi) (gd_of (c := !(decide (r1 < flow.lo))) hg (Oq ae 1)) (ldb_sc Sc3 (H.bl 10) rfl)) ?_
  refine g_val (!(decide (r1 < flow.lo))) (gy_f rfl) (fun hg => x_cmp (kd := .i64) (a := r0) (b := flow.hi) (r := decide (flow.hi < r0)) (gd_of (c := !(decide (r1 < flow.lo))) hg (I r0)) (gd_of (c := !(decide (r1 < flow.lo))) hg (I flow.hi)) rfl) ?_
  refine s_val (x_por (b := decide (r1 < flow.lo)) (r := decide (flow.hi < r0)) rfl rfl (fun hb => gd_of (c := !(decide (r1 < flow.lo))) (by first | exact hb | (rw [hb]; rfl) | simp_all) (B (decide (flow.hi < r0))))) ?_
  refine s_nil ?_
  replace H := H.pk [1, 3, 4, 5, 6, 7, 8, 9, 10, 11, 12, 13]
  refine W.cond ((decide (r1 < flow.lo)) || (decide (flow.hi < r0))) rfl (fun bb => ?_) (fun bb => ?_)
  ·replace hM := M.e_t hM bb
   refine W.exit ?_
   exact ⟨(s4, s5, s6), [cBlk av [B s4] 4, cBlk aq [I s5, I s6] 44, cMemI encSpt ap (zaa s_Sections s_Marks s_Reaches)], (M.e_pure hM).symm, rfl, H.pick [1, 2, 0, 11, 3, 4, 5, 6, 7, 8, 9, 10] (by decide) rfl⟩
  replace hM := M.e_f hM bb
  refine W.skip ?_
  refine W.seq ?_
  refine W.seq ?_
  refine W.region rfl ?_
  refine s_val (x_ld (p := Pq av) (v := B s4) rfl (ldb_sc Sc4 (H.bl 1) rfl)) ?_
  refine s_val (x_not (b := s4) rfl) ?_
  refine s_nil ?_
  refine W.cond (!s4) rfl (fun bc => ?_) (fun bc => ?_)
  ·replace hM := M.e_t hM bc
   refine W.region rfl ?_
   refine zM (I x) rfl ?_
   refine s_val (x_bld (ps := [(0, I x)]) (zs := [I 0, I 0]) (L' := [I x, I 0]) rfl Try.underlying44 Al44 rfl (Bd44 Try.underlying44) (.cons (cs := [I x]) rfl rfl rfl rfl rfl <| .nil)) ?_
   refine t_sw 2 0 [I x, I 0] (.agg #[I x, I 0]) H rfl rfl Sz44 rfl rfl rfl rfl ?_
   intro cx H
   refine t_sw 1 0 [B true] (B true) H rfl rfl Sz4 rfl rfl rfl rfl ?_
   intro cy H
   refine s_nil ?_
   refine W.region rfl ?_
   refine zM (I x) rfl ?_
   refine s_val (x_fa (a := Pq aq) (v := Oq aq 1) rfl (fa_blk (o := 0) Fd44_1 Sz3)) ?_
   refine t_sw 2 1 [I x] (I x) H rfl rfl Sz3 rfl rfl rfl rfl ?_
   intro cz H
   refine s_nil ?_
   exact ⟨(true, x, x), [cBlk av [B true] 4, cBlk aq [I x, I x] 44, cMemI encSpt ap (zaa s_Sections s_Marks s_Reaches)], (M.e_pure hM).symm, rfl, H.pick [1, 2, 0, 11, 3, 4, 5, 6, 7, 8, 9, 10] (by decide) rfl⟩
  replace hM := M.e_f hM bc
  refine W.skip ?_
  refine W.region rfl ?_
  refine zM (I x) rfl ?_
  refine s_val (x_fa (a := Pq aq) (v := Oq aq 1) rfl (fa_blk (o := 0) Fd44_1 Sz3)) ?_
  refine t_sw 2 1 [I x] (I x) H rfl rfl Sz3 rfl rfl rfl rfl ?_
  intro cA H
  refine s_nil ?_
  exact ⟨(s4, s5, x), [cBlk av [B s4] 4, cBlk aq [I s5, I x] 44, cMemI encSpt ap (zaa s_Sections s_Marks s_Reaches)], (M.e_pure hM).symm, rfl, H.pick [1, 2, 0, 11, 3, 4, 5, 6, 7, 8, 9, 10] (by decide) rfl⟩
 replace H : St w bA (cAll (cObj aV (.loop a7) :: [cBlk av [B false] 4, cBlk aq [I 0, I 0] 44, cMemI encSpt ap (zaa s_Sections s_Marks s_Reaches)]) :: [cMk (a6 :: ([])), cBlk aJ [I aH, I aI] 44, cBlk aw [I aa, I ab, I ah, I ai, B ac] 56, cBlk az [Pq ag] 72, cBlk ag [aj, ak, al, .map (some ap)] 99, cBlk aP [I 0, I 0] 44, cBlk ae [I flow.lo, I flow.hi] 44, cBlk ay [ao] 28, cBlk aG [aj, ak, al] 27]) R := St.bundleB (A := cObj aV (.loop a7) :: [cBlk av [B false] 4, cBlk aq [I 0, I 0] 44, cMemI encSpt ap (zaa s_Sections s_Marks s_Reaches)]) (T := [cMk (a6 :: ([])), cBlk aJ [I aH, I aI] 44, cBlk aw [I aa, I ab, I ah, I ai, B ac] 56, cBlk az [Pq ag] 72, cBlk ag [aj, ak, al, .map (some ap)] 99, cBlk aP [I 0, I 0] 44, cBlk ae [I flow.lo, I flow.hi] 44, cBlk ay [ao] 28, cBlk aG [aj, ak, al] 27]) rfl (H.pk [0, 2, 3, 4, 1, 5, 6, 7, 8, 9, 10, 11, 12])
 refine (zbS (M.yl (zar s_Sections s_Marks s_Reaches marks flow aa ab ac)) (.inl (false, 0, 0)) aH aI hYC ⟨_, rfl, rfl⟩ (Has.here (k := 1) rfl) bz _ (H.gt 9)).mono ?_
 rintro vq cB ⟨bF, cC, bG, hvq, am, bm⟩
 subst bG
 replace H := H.back am rfl
 clear am hYC
 rcases bF with ⟨s4, s5, s6⟩ | _
 ·try dsimp only at hM
  obtain ⟨_, rfl, rfl⟩ := bm
  refine ⟨_, [cBlk av [B s4] 4, cBlk aq [I s5, I s6] 44, cMemI encSpt ap (zaa s_Sections s_Marks s_Reaches), cBlk aJ [I aH, I aI] 44, cBlk aw [I aa, I ab, I ah, I ai, B ac] 56, cBlk az [Pq ag] 72, cBlk ag [aj, ak, al, .map (some ap)] 99, cBlk aP [I 0, I 0] 44, cBlk ae [I flow.lo, I flow.hi] 44, cBlk ay [ao] 28, cBlk aG [aj, ak, al] 27], H.unbundle.pick [0, 4, 1, 2, 3, 5, 6, 7, 8, 9, 10, 11, 12] (by decide) rfl, a8.nb, ?_⟩
  intro cD H
  rw [a8.pd]
  replace H := H.nf
  try simp only []
  replace H := H.pk [0, 1, 2, 8]
  refine WD.seq ?_
  refine WD.seq ?_
  refine WD.of ?_
  refine W.region rfl ?_
  refine s_val (x_ld (p := Pq av) (v := B s4) rfl (ldb_sc Sc4 (H.bl 1) rfl)) ?_
  refine s_val (x_not (b := s4) rfl) ?_
  refine s_nil ?_
  refine WD.cond (!s4) rfl (fun bf => ?_) (fun bf => ?_)
  ·replace hM := M.e_t hM bf
   refine WD.seq ?_
   refine WD.of ?_
   refine W.region rfl ?_
   refine s_val (x_bld (ps := []) (zs := [I 0, I 0]) (L' := [I 0, I 0]) rfl Try.underlying44 Al44 rfl (Bd44 Try.underlying44) (.nil)) ?_
   refine t_sw 3 0 [I 0, I 0] (.agg #[I 0, I 0]) H rfl rfl Sz44 rfl rfl rfl rfl ?_
   intro cE H
   refine zA (I 5) rfl ?_
   refine s_nil ?_
   replace H := H.pk [0, 3]
   refine WD.of ?_
   refine W.ret ?_
   refine bodyD_r (H.pk [0, 1]) ?_
   intro cF H
   replace H := H.nf
   have bH := (H.bl 0)
   have ax := M.e_pure hM
   exact ⟨_, (resE_ofn (vs := [.agg #[I 0, I 0], I 5]) rfl rfl (.cell (v := .agg #[I 0, I 0]) rfl (run_loadVar_ag (ds := [I 0, I 0]) Ag44 Sz44 bH rfl rfl) <| .tmp (v := I 5) rfl <| .nil)), ⟨0, 0, 5, ax, rfl, (H.pk [])⟩⟩
  replace hM := M.e_f hM bf
  refine WD.of ?_
  refine W.skip ?_
  refine WD.seq ?_
  refine WD.of ?_
  refine W.region rfl ?_
  refine s_val (x_ld (p := Pq aq) (v := .agg #[I s5, I s6]) rfl (ldb_ag (ds := [I s5, I s6]) Ag44 Sz44 (H.bl 2) rfl rfl)) ?_
  refine t_sw 3 0 [I s5, I s6] (.agg #[I s5, I s6]) H rfl rfl Sz44 rfl rfl rfl rfl ?_
  intro cG H
  refine zA (I 0) rfl ?_
  refine s_nil ?_
  replace H := H.pk [0, 3]
  refine WD.of ?_
  refine W.ret ?_
  refine bodyD_r (H.pk [0, 1]) ?_
  intro cH H
  replace H := H.nf
  have bI := (H.bl 0)
  have ax := M.e_pure hM
  exact ⟨_, (resE_ofn (vs := [.agg #[I s5, I s6], I 0]) rfl rfl (.cell (v := .agg #[I s5, I s6]) rfl (run_loadVar_ag (ds := [I s5, I s6]) Ag44 Sz44 bI rfl rfl) <| .tmp (v := I 0) rfl <| .nil)), ⟨s5, s6, 0, ax, rfl, (H.pk [])⟩⟩
 obtain ⟨_, _, h_⟩ := bm; exact h_.elim

def zaT (s_Sections : List Sect) (s_Marks : List Mrk) (s_Reaches : List Rch) (marks : List Int) : (Nat × (List Span)) -> M ((Nat × (List Span)) ⊕ ((List Span) × (List Span))) := fun (s2, l) =>
  bif decide ((s2 : Int) < (s_Sections.length : Int)) then (
  M.bind (zal s_Sections s_Marks s_Reaches marks (s2 : Int)) fun (r0, aa) =>
  M.grd (decide ((l.length + ([(⟨(r0 : Int), (aa : Int)⟩ : Span)]).length) * 16 <= 140737488355328)) <|
  M.pure (.inl (s2 + 1, l ++ ([(⟨(r0 : Int), (aa : Int)⟩ : Span)]))))
  else (
  M.pure (.inr (l, l)))
def zba (s_Sections : List Sect) (s_Marks : List Mrk) (s_Reaches : List Rch) (marks : List Int) : M ((List Span) × Int) :=
  M.bind (zaV s_Sections s_Marks s_Reaches marks) fun x_ => match x_ with
  | (.inl r1) => (
  bif r1 != 0 then (
  M.pure (([]), r1))
  else (
  M.fail))
  | (.inr aa) => (
  bif aa != 0 then (
  M.fail)
  else (
  M.bind (zat s_Sections s_Marks s_Reaches marks) fun r2 =>
  bif !r2 then (
  M.pure (([]), 7))
  else (
  M.bind (M.iter (zaT s_Sections s_Marks s_Reaches marks) (0, [])) fun (l2, l3) =>
  M.pure (l3, 0))))
theorem zcr {R : List Chunk} {aE : Cells} {ac : Value} {aF : Cells} {ag : Value} {aG : Cells} {ah : Value} {aH : Cells} {ai : Value} (s_Sections : List Sect) (s_Marks : List Mrk) (s_Reaches : List Rch) (marks : List Int) (av : Reads R aE) (al : Sl aE ac s_Sections) (aw : Reads R aF) (ax : Sl aF ag s_Marks) (ay : Reads R aG) (az : Sl aG ah s_Reaches) (aA : Reads R aH) (aB : Sl aH ai marks) {r : ((List Span) × Int)} (hM : (zba s_Sections s_Marks s_Reaches marks).Ends r) (w : World) (H : St w w [] R) : Ret Try.prog 12 #[.agg #[ac, ag, ah], ai] w fun v w' => ∃ (y0 : List Span) (y1 : Int) (u0 : Value), (y0, y1) = r /\ v = .tuple #[u0, I y1] /\ St w w' [cOwn (α := Span) 44 u0 y0] R := by
 refine ret_of_W Try.func12 rfl rfl rfl ?_
 refine W.seq ?_
 refine W.region rfl ?_
 refine t_box (v := .agg #[ac, ag, ah]) (cs := [ac, ag, ah]) H rfl rfl ?_
 intro am a6 H
 refine zA (.slice none 0 0) rfl ?_
 refine zA (I 0) rfl ?_
 refine s_nil ?_
 refine W.seq ?_
 refine W.region rfl ?_
 refine s_val (x_ld (p := Pq am) (v := .agg #[ac, ag, ah]) rfl (ldb_ag (ds := [ac, ag, ah]) Ag27 Sz27 (H.bl 0) rfl rfl)) ?_
 refine zM ai rfl ?_
 obtain ⟨a7, aM, hM⟩ := M.e_bind hM
 refine s_call cf29 [.agg #[ac, ag, ah], ai] rfl (zch s_Sections s_Marks s_Reaches marks (av.app _) al (aw.app _) ax (ay.app _) az (aA.app _) aB aM _ (H.gt 1)) ?_
 rintro vq a8 (⟨r1, aN, hvq, aa⟩ | ⟨ae, ab, aI, aO, hvq, aa⟩)
 ·subst aN
  subst vq
  try dsimp only at hM
  replace H := H.bk aa
  clear aa
  refine zM (.tuple #[.pointer none, I r1]) rfl ?_
  refine zX [.pointer none, I r1] (.pointer none) rfl rfl ?_
  refine zX [.pointer none, I r1] (I r1) rfl rfl ?_
  refine zA (.pointer none) rfl ?_
  refine zA (I r1) rfl ?_
  refine s_nil ?_
  refine W.seq ?_
  refine W.block ?_
  refine W.seq ?_
  refine W.region rfl ?_
  refine zM (I r1) rfl ?_
  refine zC r1 0 (r1 != 0) rfl rfl rfl ?_
  refine zA (B (r1 != 0)) rfl ?_
  refine s_nil ?_
  refine W.cond (r1 != 0) rfl (fun aq => ?_) (fun aq => ?_)
  ·replace hM := M.e_t hM aq
   simp only [qy1, qy2, qy3, qy4, qy5, qy6, ne_eq, qy7] at aq
   refine W.seq ?_
   refine W.region rfl ?_
   refine zM (I r1) rfl ?_
   refine zA (.slice none 0 0) rfl ?_
   refine zA (I r1) rfl ?_
   refine s_nil ?_
   refine W.ret ?_
   have ao := M.e_pure hM
   replace H := H.nilOwn (α := Span) 44
   exact ⟨_, resE_tmp2 rfl, ⟨([]), r1, (.slice none 0 0), ao, rfl, (H.pk [0])⟩⟩
  replace hM := M.e_f hM aq
  exact (M.e_fail hM).elim
 subst aO
 subst vq
 try dsimp only at hM
 replace H := H.bk aa
 clear aa
 refine zM (.tuple #[Pq ab, I ae]) rfl ?_
 refine zX [Pq ab, I ae] (Pq ab) rfl rfl ?_
 refine zX [Pq ab, I ae] (I ae) rfl rfl ?_
 refine zA (Pq ab) rfl ?_
 refine zA (I ae) rfl ?_
 refine s_nil ?_
 refine W.seq ?_
 refine W.block ?_
 refine W.seq ?_
 refine W.region rfl ?_
 refine zM (I ae) rfl ?_
 refine zC ae 0 (ae != 0) rfl rfl rfl ?_
 refine zA (B (ae != 0)) rfl ?_
 refine s_nil ?_
 refine W.cond (ae != 0) rfl (fun au => ?_) (fun au => ?_)
 ·replace hM := M.e_t hM au
  exact (M.e_fail hM).elim
 replace hM := M.e_f hM au
 simp only [qy1, qy2, qy3, qy4, qy5, qy6, ne_eq, qy7] at au
 refine W.seq ?_
 refine W.region rfl ?_
 refine zM (Pq ab) rfl ?_
 refine zM ai rfl ?_
 obtain ⟨ba, aP, hM⟩ := M.e_bind hM
 refine s_call cf30 [Pq ab, ai] rfl (zbT s_Sections s_Marks s_Reaches marks (av.app _) al (aw.app _) ax (ay.app _) az (Has.here (k := 0) rfl) (aA.app _) aB aP _ (H.gt 3)) ?_
 rintro vq bb ⟨r2, aQ, hvq, aa⟩
 subst aQ
 subst vq
 try dsimp only at hM
 replace H := H.bk aa
 clear aa
 refine s_val (x_not (b := r2) rfl) ?_
 refine zA (B (!r2)) rfl ?_
 refine s_nil ?_
 refine W.cond (!r2) rfl (fun aC => ?_) (fun aC => ?_)
 ·replace hM := M.e_t hM aC
  refine W.seq ?_
  refine W.region rfl ?_
  refine zA (.slice none 0 0) rfl ?_
  refine zA (I 7) rfl ?_
  refine s_nil ?_
  replace H := H.pk []
  refine W.ret ?_
  have ao := M.e_pure hM
  replace H := H.nilOwn (α := Span) 44
  exact ⟨_, resE_tmp2 rfl, ⟨([]), 7, (.slice none 0 0), ao, rfl, H⟩⟩
 replace hM := M.e_f hM aC
 refine W.skip ?_
 refine W.seq ?_
 refine W.region rfl ?_
 refine zA (.slice none 0 0) rfl ?_
 refine s_nil ?_
 refine W.seq ?_
 refine W.seq ?_
 refine W.region rfl ?_
 refine s_val (x_fa (a := Pq am) (v := Pq am) rfl (fa_blk (o := 0) Fd27_0 Sz23)) ?_
 refine s_val (x_ld (p := Pq am) (v := ac) rfl (ldb_sc Sc23 (H.bl 2) rfl)) ?_
 have bc := (al).len_le
 refine s_val (x_lenS T23.und rfl al) ?_
 refine zM (I 0) rfl ?_
 refine s_nil ?_
 refine W.block ?_
 replace H := H.nilOwn (α := Span) 44
 obtain ⟨aR, aD, aS⟩ := M.e_bind hM
 obtain ⟨bf, aD⟩ := M.e_iter aD
 refine W.loop (fun m σ W => ∃ (s2 : Nat) (l : List Span) (aj : Value) (ρ : Env), σ = upds ρ [(1, ai), (6, Pq ab), (8, aj), (27, I (s_Sections.length : Int)), (28, I (s2 : Int))] /\ M.iterN (zaT s_Sections s_Marks s_Reaches marks) m (s2, l) = some aR /\ St w W [cOwn (α := Span) 44 aj l, cBlk ab [ac, ag, ah, .map (some aI)] 99, cMemI encSpt aI (zaa s_Sections s_Marks s_Reaches), cBlk am [ac, ag, ah] 27] R) ?_ ?_
 ·exact ⟨_, 0, [], (.slice none 0 0), _, upds_of _ _ ⟨rfl, rfl, rfl, rfl, rfl, trivial⟩, aD, H⟩
 rintro bg σ bh ⟨s2, l, aj, ρ, rfl, aJ, H⟩
 obtain ⟨aT, aU, bi, hM, aK⟩ := M.e_iterN aJ
 simp only [zaT] at hM
 clear aJ
 refine W.seq ?_
 refine W.region rfl ?_
 refine zC (s2 : Int) (s_Sections.length : Int) (decide ((s2 : Int) < (s_Sections.length : Int))) rfl rfl rfl ?_
 refine s_nil ?_
 refine W.seq ?_
 refine W.cond (decide ((s2 : Int) < (s_Sections.length : Int))) rfl (fun ap => ?_) (fun ap => ?_)
 ·replace hM := M.e_t hM ap
  simp only [qy1, qy2, qy3, qy4, qy5, qy6, ne_eq, qy7] at ap
  refine W.skip ?_
  refine W.seq ?_
  refine W.block ?_
  refine W.seq ?_
  refine W.region rfl ?_
  refine zM (I (s2 : Int)) rfl ?_
  refine zA (I (s2 : Int)) rfl ?_
  refine s_nil ?_
  refine W.region rfl ?_
  refine zM aj rfl ?_
  refine zM (Pq ab) rfl ?_
  refine zM ai rfl ?_
  refine zM (I (s2 : Int)) rfl ?_
  obtain ⟨bj, aV, hM⟩ := M.e_bind hM
  refine s_call cf31 [Pq ab, ai, I (s2 : Int)] rfl (za6 s_Sections s_Marks s_Reaches marks (s2 : Int) (av.app _) al (aw.app _) ax (ay.app _) az (Has.here (k := 1) rfl) (aA.app _) aB aV _ (H.gt 4)) ?_
  rintro vq bm ⟨r0, ak, aW, hvq, aa⟩
  subst aW
  subst vq
  try dsimp only at hM
  replace H := H.bk aa
  clear aa
  refine t_bs (α := Span) T52 [.agg #[I r0, I ak]] [(⟨(r0 : Int), (ak : Int)⟩ : Span)] H rfl (.cons rfl (Flat.rep_enc _ (⟨(r0 : Int), (ak : Int)⟩ : Span)) <| .nil) rfl rfl rfl ?_
  intro aX bn H
  obtain ⟨aY, hM⟩ := M.e_grd hM
  simp only [Bool.and_eq_true, decide_eq_true_eq] at aY
  refine t_app (α := Span) (k := 1) (l := l) (l2 := [(⟨(r0 : Int), (ak : Int)⟩ : Span)]) (l' := l ++ ([(⟨(r0 : Int), (ak : Int)⟩ : Span)])) (vy := aX) T52 rfl H rfl rfl rfl (H.os 0) (H.ol 0) (rfl) (by first | omega | (simp only [List.length_nil] at *; omega)) ?_
  intro aL bo H
  replace H := H.nf
  refine zA aL rfl ?_
  refine s_nil ?_
  refine W.region rfl ?_
  refine zR (s2 : Int) 1 ((s2 : Int) + 1) rfl rfl rfl (by omega) ?_
  refine zM (I ((s2 : Int) + 1)) rfl ?_
  refine s_nil ?_
  exact ⟨aT, aU, s2 + 1, l ++ ([(⟨(r0 : Int), (ak : Int)⟩ : Span)]), aL, _, upds_of _ _ ⟨rfl, rfl, rfl, rfl, rfl, trivial⟩, M.e_inl hM aK, (H.pk [1, 2, 3, 4])⟩
 replace hM := M.e_f hM ap
 simp only [qy1, qy2, qy3, qy4, qy5, qy6, ne_eq, qy7] at ap
 refine W.exit ?_
 have aZ := M.e_inr hM aK
 subst aZ
 replace hM := aS
 try dsimp only at hM
 replace H := H.pk [0]
 refine W.seq ?_
 refine W.region rfl ?_
 refine zM aj rfl ?_
 refine zA aj rfl ?_
 refine zA (I 0) rfl ?_
 refine s_nil ?_
 refine W.ret ?_
 have ao := M.e_pure hM
 exact ⟨_, resE_tmp2 rfl, ⟨l, 0, aj, ao, rfl, H⟩⟩

def zcl (s_Sections : List Sect) (s_Marks : List Mrk) (s_Reaches : List Rch) (a : Int) (b : Int) : M (Bool × Int) :=
  M.bind (zam s_Sections s_Marks s_Reaches) fun x_ => match x_ with
  | (.inl r1) => (
  bif r1 != 0 then (
  M.pure (false, r1))
  else (
  M.fail))
  | (.inr aa) => (
  bif aa != 0 then (
  M.fail)
  else (
  M.bind (zab a 0 ((s_Marks.length : Int) - 1)) fun r2 =>
  M.bind (M.opt (!(!r2)) (zab b 0 ((s_Marks.length : Int) - 1)) false) fun r3 =>
  bif ((!r2) || (!r3)) then (
  M.pure (false, 2))
  else (
  M.bind (zaf s_Sections s_Marks s_Reaches a b) fun r4 =>
  M.bind (M.opt (!r4) (zaf s_Sections s_Marks s_Reaches b a) false) fun r5 =>
  M.pure ((r4 || r5), 0))))
theorem zcV {R : List Chunk} {ay : Cells} {ai : Value} {az : Cells} {ab : Value} {aA : Cells} {aj : Value} (s_Sections : List Sect) (s_Marks : List Mrk) (s_Reaches : List Rch) (a : Int) (b : Int) (ao : Reads R ay) (ap : Sl ay ai s_Sections) (aq : Reads R az) (ak : Sl az ab s_Marks) (au : Reads R aA) (av : Sl aA aj s_Reaches) {r : (Bool × Int)} (hM : (zcl s_Sections s_Marks s_Reaches a b).Ends r) (w : World) (H : St w w [] R) : Ret Try.prog 27 #[.agg #[ai, ab, aj], I a, I b] w fun v w' => ∃ (y0 : Bool) (y1 : Int), (y0, y1) = r /\ v = .tuple #[B y0, I y1] /\ St w w' [] R := by
 refine ret_of_W Try.func27 rfl rfl rfl ?_
 refine W.seq ?_
 refine W.region rfl ?_
 refine t_box (v := .agg #[ai, ab, aj]) (cs := [ai, ab, aj]) H rfl rfl ?_
 intro ah aL H
 refine zA (B false) rfl ?_
 refine zA (I 0) rfl ?_
 refine s_nil ?_
 refine W.seq ?_
 refine W.region rfl ?_
 refine s_val (x_ld (p := Pq ah) (v := .agg #[ai, ab, aj]) rfl (ldb_ag (ds := [ai, ab, aj]) Ag27 Sz27 (H.bl 0) rfl rfl)) ?_
 obtain ⟨aM, aB, hM⟩ := M.e_bind hM
 refine s_call cf21 [.agg #[ai, ab, aj]] rfl (zbd s_Sections s_Marks s_Reaches (ao.app _) ap (aq.app _) ak (au.app _) av aB _ (H.gt 1)) ?_
 rintro vq aN (⟨r1, aC, hvq, aa⟩ | ⟨ac, ae, aO, aD, hvq, aa⟩)
 ·subst aC
  subst vq
  try dsimp only at hM
  replace H := H.bk aa
  clear aa
  refine zM (.tuple #[.pointer none, I r1]) rfl ?_
  refine zX [.pointer none, I r1] (.pointer none) rfl rfl ?_
  refine zX [.pointer none, I r1] (I r1) rfl rfl ?_
  refine zA (.pointer none) rfl ?_
  refine zA (I r1) rfl ?_
  refine s_nil ?_
  refine W.seq ?_
  refine W.block ?_
  refine W.seq ?_
  refine W.region rfl ?_
  refine zM (I r1) rfl ?_
  refine zC r1 0 (r1 != 0) rfl rfl rfl ?_
  refine zA (B (r1 != 0)) rfl ?_
  refine s_nil ?_
  refine W.cond (r1 != 0) rfl (fun al => ?_) (fun al => ?_)
  ·replace hM := M.e_t hM al
   simp only [qy1, qy2, qy3, qy4, qy5, qy6, ne_eq, qy7] at al
   refine W.seq ?_
   refine W.region rfl ?_
   refine zM (I r1) rfl ?_
   refine zA (B false) rfl ?_
   refine zA (I r1) rfl ?_
   refine s_nil ?_
   refine W.ret ?_
   have ag := M.e_pure hM
   exact ⟨_, resE_tmp2 rfl, ⟨false, r1, ag, rfl, (H.pk [])⟩⟩
  replace hM := M.e_f hM al
  exact (M.e_fail hM).elim
 subst aD
 subst vq
 try dsimp only at hM
 replace H := H.bk aa
 clear aa
 refine zM (.tuple #[Pq ae, I ac]) rfl ?_
 refine zX [Pq ae, I ac] (Pq ae) rfl rfl ?_
 refine zX [Pq ae, I ac] (I ac) rfl rfl ?_
 refine zA (Pq ae) rfl ?_
 refine zA (I ac) rfl ?_
 refine s_nil ?_
 refine W.seq ?_
 refine W.block ?_
 refine W.seq ?_
 refine W.region rfl ?_
 refine zM (I ac) rfl ?_
 refine zC ac 0 (ac != 0) rfl rfl rfl ?_
 refine zA (B (ac != 0)) rfl ?_
 refine s_nil ?_
 refine W.cond (ac != 0) rfl (fun am => ?_) (fun am => ?_)
 ·replace hM := M.e_t hM am
  exact (M.e_fail hM).elim
 replace hM := M.e_f hM am
 simp only [qy1, qy2, qy3, qy4, qy5, qy6, ne_eq, qy7] at am
 refine W.seq ?_
 refine W.region rfl ?_
 refine zM (I a) rfl ?_
 refine s_val (x_fa (a := Pq ah) (v := Oq ah 1) rfl (fa_blk (o := 0) Fd27_1 Sz24)) ?_
 refine s_val (x_ld (p := Oq ah 1) (v := ab) rfl (ldb_sc Sc24 (H.bl 2) rfl)) ?_
 have aP := (ak).len_le
 refine s_val (x_lenS T24.und rfl ak) ?_
 refine zR (s_Marks.length : Int) 1 ((s_Marks.length : Int) - 1) rfl rfl rfl (by omega) ?_
 obtain ⟨aQ, aE, hM⟩ := M.e_bind hM
 refine s_call cf34 [I a, I 0, I ((s_Marks.length : Int) - 1)] rfl (zac a 0 ((s_Marks.length : Int) - 1) aE _ (H.gt 3)) ?_
 rintro vq aR ⟨r2, aF, hvq, aa⟩
 subst aF
 subst vq
 try dsimp only at hM
 replace H := H.bk aa
 clear aa
 refine s_val (x_not (b := r2) rfl) ?_
 refine zM (B (!r2)) rfl ?_
 refine g_val (!(!r2)) (gy_f rfl) (fun hg => x_mv (v := I b) rfl) ?_
 refine g_val (!(!r2)) (gy_f rfl) (fun hg => x_fa (a := Pq ah) (v := Oq ah 1) rfl (fa_blk (o := 0) Fd27_1 Sz24)) ?_
 refine g_val (!(!r2)) (gy_f rfl) (fun hg => x_ld (p := Oq ah 1) (v := ab) (gd_of (c := !(!r2)) hg (Oq ah 1)) (ldb_sc Sc24 (H.bl 2) rfl)) ?_
 have aS := (ak).len_le
 refine g_val (!(!r2)) (gy_f rfl) (fun hg => x_lenS T24.und (gd_of (c := !(!r2)) hg (ab)) ak) ?_
 refine g_val (!(!r2)) (gy_f rfl) (fun hg => x_ari (a := (s_Marks.length : Int)) (b := 1) (r := (s_Marks.length : Int) - 1) (gd_of (c := !(!r2)) hg (I (s_Marks.length : Int))) rfl rfl (by first | omega | (have aG := hg; simp at aG; omega))) ?_
 obtain ⟨r3, aH, hM⟩ := M.e_bind hM
 refine t_gcall (!(!r2)) (gy_f rfl) cf34 (B r3) (fun _ => [I b, I 0, I ((s_Marks.length : Int) - 1)]) (fun hg => lst3 (gd_of (c := !(!r2)) hg (I b)) rfl (gd_of (c := !(!r2)) hg (I ((s_Marks.length : Int) - 1)))) H (fun hg => (zac b 0 ((s_Marks.length : Int) - 1) (M.e_opt aH hg) _ (H.give (A := []) rfl)).mono fun v_ w_ ⟨y_, ag, aw, H_⟩ => by subst ag; exact ⟨aw, H.via H_⟩) ?_
 intro aT H
 refine g_val (!(!r2)) (gy_f rfl) (fun hg => x_not (b := r3) (gd_of (c := !(!r2)) hg (B r3))) ?_
 refine s_val (x_por (b := !r2) (r := !r3) rfl rfl (fun hb => gd_of (c := !(!r2)) (by first | exact hb | (rw [hb]; rfl) | simp_all) (B (!r3)))) ?_
 refine zA (B ((!r2) || (!r3))) rfl ?_
 refine s_nil ?_
 refine W.cond ((!r2) || (!r3)) rfl (fun ax => ?_) (fun ax => ?_)
 ·replace hM := M.e_t hM ax
  refine W.seq ?_
  refine W.region rfl ?_
  refine zA (B false) rfl ?_
  refine zA (I 2) rfl ?_
  refine s_nil ?_
  replace H := H.pk []
  refine W.ret ?_
  have ag := M.e_pure hM
  exact ⟨_, resE_tmp2 rfl, ⟨false, 2, ag, rfl, H⟩⟩
 replace hM := M.e_f hM ax
 refine W.skip ?_
 refine W.seq ?_
 refine W.region rfl ?_
 refine zM (Pq ae) rfl ?_
 refine zM (I a) rfl ?_
 refine zM (I b) rfl ?_
 obtain ⟨aU, aI, hM⟩ := M.e_bind hM
 refine s_call cf23 [Pq ae, I a, I b] rfl (zas s_Sections s_Marks s_Reaches a b (ao.app _) ap (aq.app _) ak (au.app _) av (Has.here (k := 0) rfl) aI _ (H.gt 3)) ?_
 rintro vq aV ⟨r4, aJ, hvq, aa⟩
 subst aJ
 subst vq
 try dsimp only at hM
 replace H := H.bk aa
 clear aa
 refine zM (B r4) rfl ?_
 refine g_val (!r4) (gy_f rfl) (fun hg => x_mv (v := Pq ae) rfl) ?_
 refine g_val (!r4) (gy_f rfl) (fun hg => x_mv (v := I b) rfl) ?_
 refine g_val (!r4) (gy_f rfl) (fun hg => x_mv (v := I a) rfl) ?_
 obtain ⟨r5, aK, hM⟩ := M.e_bind hM
 refine t_gcall (!r4) (gy_f rfl) cf23 (B r5) (fun _ => [Pq ae, I b, I a]) (fun hg => lst3 (gd_of (c := !r4) hg (Pq ae)) (gd_of (c := !r4) hg (I b)) (gd_of (c := !r4) hg (I a))) H (fun hg => (zas s_Sections s_Marks s_Reaches b a (ao.app _) ap (aq.app _) ak (au.app _) av (Has.here (k := 0) rfl) (M.e_opt aK hg) _ (H.give (A := []) rfl)).mono fun v_ w_ ⟨y_, ag, aw, H_⟩ => by subst ag; exact ⟨aw, H.via H_⟩) ?_
 intro aW H
 refine s_val (x_por (b := r4) (r := r5) rfl rfl (fun hb => gd_of (c := !r4) (by first | exact hb | (rw [hb]; rfl) | simp_all) (B r5))) ?_
 refine zA (B (r4 || r5)) rfl ?_
 refine zA (I 0) rfl ?_
 refine s_nil ?_
 replace H := H.pk []
 refine W.ret ?_
 have ag := M.e_pure hM
 exact ⟨_, resE_tmp2 rfl, ⟨(r4 || r5), 0, ag, rfl, H⟩⟩

end Go.Proofs.Ytlemgioaakecpaa
end
namespace Go.Nm
namespace Fl
/-- Sections that are right. -/
structure Secs (S : List Sect) : Prop where
  n : 2 <= S.length /\ S.length <= 6
  rows : ∀ i, i < S.length -> Rows (S.getD i default).rows /\ 2 <= (S.getD i default).rows.length /\ (S.getD i default).rows.length <= 8
  place : ∀ i, i < S.length -> 0 <= (S.getD i default).place /\ (S.getD i default).place <= 10000
  up : ∀ i j, i < j -> j < S.length -> (S.getD i default).place < (S.getD j default).place
structure Rok (S : List Sect) (r : Rch) : Prop where
  u0 : 0 <= r.up
  ud : r.up < r.down
  d1 : r.down < S.length
  l1 : 1 <= r.lo
  lh : r.lo <= r.hi
  h4 : r.hi <= 400
structure Mok (m : Mrk) : Prop where
  p0 : 0 <= m.place
  p1 : m.place <= 10000
  l0 : 0 <= m.lo
  lh : m.lo <= m.hi
  h2 : m.hi <= 2000
structure Site (S : List Sect) (M : List Mrk) (R : List Rch) : Prop where
  s : Secs S
  m : 1 <= M.length /\ M.length <= 16
  r : 1 <= R.length /\ R.length <= 6
  mks : ∀ x ∈ M, Mok x
  rks : ∀ x ∈ R, Rok S x
/-- The flow of a case. -/
def fl (S : List Sect) (r : Rch) (c : Cas) : Int :=
  let a := car (S.getD (Int.toNat r.up) default).rows c.up
  let b := car (S.getD (Int.toNat r.down) default).rows c.down
  rt (10000 * (bif r.narrow then b else a) * b * (c.up - c.down) / ((bif r.narrow then c.roughdown else c.roughup) * c.roughdown * ((S.getD (Int.toNat r.down) default).place - (S.getD (Int.toNat r.up) default).place)))
/-- A case that lies in bounds. -/
structure Cok (c : Cas) : Prop where
  d0 : 0 <= c.down
  du : c.down <= c.up
  u2 : c.up <= 2000
  r1 : 1 <= c.roughup
  r2 : 1 <= c.roughdown
  r3 : c.roughup <= 400
  r4 : c.roughdown <= 400
theorem num_bd {a b d : Int} (ha : 0 <= a /\ a <= 100000) (hb : 0 <= b /\ b <= 100000) (hd : 0 <= d /\ d <= 2000) :
    0 <= 10000 * a * b /\ 10000 * a * b <= 100000000000000 /\ 0 <= 10000 * a * b * d /\ 10000 * a * b * d <= 200000000000000000 := by
  have h1 : 0 <= 10000 * a * b := Int.mul_nonneg (by omega) hb.1
  have h2 : 10000 * a * b <= 1000000000 * 100000 := Int.mul_le_mul (by omega) hb.2 hb.1 (by omega)
  have h3 : 0 <= 10000 * a * b * d := Int.mul_nonneg h1 hd.1
  have h4 : 10000 * a * b * d <= 100000000000000 * 2000 := Int.mul_le_mul (by omega) hd.2 hd.1 (by omega)
  omega
theorem den_bd {a b d : Int} (ha : 1 <= a /\ a <= 400) (hb : 1 <= b /\ b <= 400) (hd : 1 <= d /\ d <= 10000) : 1 <= a * b /\ a * b <= 160000 /\ 1 <= a * b * d /\ a * b * d <= 1600000000 := by
  have h1 : 1 * 1 <= a * b := Int.mul_le_mul ha.1 hb.1 (by omega) (by omega)
  have h2 : a * b <= 400 * 400 := Int.mul_le_mul ha.2 hb.2 (by omega) (by omega)
  have h3 : 1 * 1 <= a * b * d := Int.mul_le_mul (by omega) hd.1 (by omega) (by omega)
  have h4 : a * b * d <= 160000 * 10000 := Int.mul_le_mul (by omega) hd.2 (by omega) (by omega)
  omega
section
variable {S : List Sect} {r : Rch}
theorem Rok.iu (h : Rok S r) : Int.toNat r.up < S.length := by have := h.u0; have := h.ud; have := h.d1; omega
theorem Rok.id (h : Rok S r) : Int.toNat r.down < S.length := by have := h.u0; have := h.ud; have := h.d1; omega
theorem far (hS : Secs S) (h : Rok S r) : 1 <= (S.getD (Int.toNat r.down) default).place - (S.getD (Int.toNat r.up) default).place /\ (S.getD (Int.toNat r.down) default).place - (S.getD (Int.toNat r.up) default).place <= 10000 := by
  have h1 := hS.up (Int.toNat r.up) (Int.toNat r.down) (by have := h.u0; have := h.ud; omega) h.id
  have h2 := hS.place _ h.id
  have h3 := hS.place _ h.iu
  omega
theorem carU (hS : Secs S) (h : Rok S r) (s : Int) : 0 <= car (S.getD (Int.toNat r.up) default).rows s /\ car (S.getD (Int.toNat r.up) default).rows s <= 100000 := by
  have := car_mono (hS.rows _ h.iu).1 (Int.le_refl s)
  omega
theorem carD (hS : Secs S) (h : Rok S r) (s : Int) : 0 <= car (S.getD (Int.toNat r.down) default).rows s /\ car (S.getD (Int.toNat r.down) default).rows s <= 100000 := by
  have := car_mono (hS.rows _ h.id).1 (Int.le_refl s)
  omega
theorem fl_nn (c : Cas) : 0 <= fl S r c := rt_nn _
/-- A flow rises with the upper stage, and falls with both roughnesses. -/
theorem fl_mono (hS : Secs S) (h : Rok S r) {c e : Cas} (hc : Cok c) (he : Cok e) (hd : c.down = e.down) (hu : c.up <= e.up) (h1 : e.roughup <= c.roughup) (h2 : e.roughdown <= c.roughdown) : fl S r c <= fl S r e := by
  have k1 := car_mono (hS.rows _ h.iu).1 hu
  have k2 := carD hS h c.down
  have k3 := far hS h
  have q1 := hc.du
  have q2 := he.u2
  have q3 := hc.d0
  have q4 := he.r1
  have q5 := he.r2
  have q6 := hc.r3
  have q7 := hc.r4
  unfold fl
  dsimp only
  rw [← hd]
  generalize car (S.getD (Int.toNat r.up) default).rows c.up = a at k1 ⊢
  generalize car (S.getD (Int.toNat r.up) default).rows e.up = a' at k1 ⊢
  generalize car (S.getD (Int.toNat r.down) default).rows c.down = b at k2 ⊢
  generalize (S.getD (Int.toNat r.down) default).place - (S.getD (Int.toNat r.up) default).place = f at k3 ⊢
  cases r.narrow with
  | true =>
    dsimp only [cond]
    have n := num_bd k2 k2 (d := c.up - c.down) (by omega)
    have n' := num_bd k2 k2 (d := e.up - c.down) (by omega)
    have le : 10000 * b * b * (c.up - c.down) <= 10000 * b * b * (e.up - c.down) := Int.mul_le_mul_of_nonneg_left (by omega) n.1
    have d := den_bd (a := e.roughdown) (b := e.roughdown) (d := f) (by omega) (by omega) k3
    have dl : e.roughdown * e.roughdown * f <= c.roughdown * c.roughdown * f := Int.mul_le_mul_of_nonneg_right (sq_mono (by omega) h2) (by omega)
    exact rt_mono (Int.ediv_nonneg n.2.2.1 (by omega)) (div_mono n.2.2.1 le (by omega) dl)
  | false =>
    dsimp only [cond]
    have n := num_bd (a := a) (b := b) (by omega) k2 (d := c.up - c.down) (by omega)
    have n' := num_bd (a := a') (b := b) (by omega) k2 (d := e.up - c.down) (by omega)
    have l1 : 10000 * a * b <= 10000 * a' * b := Int.mul_le_mul_of_nonneg_right (by omega) k2.1
    have le : 10000 * a * b * (c.up - c.down) <= 10000 * a' * b * (e.up - c.down) := Int.mul_le_mul l1 (by omega) (by omega) n'.1
    have d := den_bd (a := e.roughup) (b := e.roughdown) (d := f) (by omega) (by omega) k3
    have l2 : e.roughup * e.roughdown <= c.roughup * c.roughdown := Int.mul_le_mul h1 h2 (by omega) (by omega)
    have dl : e.roughup * e.roughdown * f <= c.roughup * c.roughdown * f := Int.mul_le_mul_of_nonneg_right l2 (by omega)
    exact rt_mono (Int.ediv_nonneg n.2.2.1 (by omega)) (div_mono n.2.2.1 le (by omega) dl)
end
def stLo (M : List Mrk) (ms : List Int) (p : Int) : Int := ms.foldl (fun a k => if p <= (M.getD (Int.toNat k) default).place then max a (M.getD (Int.toNat k) default).lo else a) 0
def stHi (M : List Mrk) (ms : List Int) (p : Int) : Int := ms.foldl (fun a k => if (M.getD (Int.toNat k) default).place <= p then min a (M.getD (Int.toNat k) default).hi else a) 2000
end Fl
end Go.Nm
namespace Go.Proofs.Ytlemgioaakecpaa
open Go Go.Nm
theorem flow_ends {S : List Sect} {M' : List Mrk} {R' : List Rch} {r : Rch} {c : Cas} (hS : Fl.Secs S) (h : Fl.Rok S r) (hc : Fl.Cok c) : (zax S M' R' r c).Ends (Fl.fl S r c) := by
  have hu := hS.rows _ h.iu
  have hd := hS.rows _ h.id
  have k1 := Fl.carU hS h c.up
  have k2 := Fl.carD hS h c.down
  have k3 := Fl.far hS h
  have h0 := h.u0
  have h1 := h.ud
  have h2 := h.d1
  obtain ⟨c1, c2, c3, c4, c5, c6, c7⟩ := hc
  unfold zax
  refine M.i_bind (carry_ends (by omega) (by omega) hu.1 (by intro e; rw [e] at hu; simp at hu) (by omega) (by omega)) (M.i_bind (carry_ends (by omega) (by omega) hd.1 (by intro e; rw [e] at hd; simp at hd) (by omega) (by omega)) ?_)
  unfold Fl.fl
  dsimp only
  generalize Fl.car (S.getD (Int.toNat r.up) default).rows c.up = a at k1 ⊢
  generalize Fl.car (S.getD (Int.toNat r.down) default).rows c.down = b at k2 ⊢
  have key : ∀ s a : Int, (0 <= a /\ a <= 100000) -> (1 <= s /\ s <= 400) -> (zaw S M' R' r c b s a).Ends (Fl.rt (10000 * a * b * (c.up - c.down) / (s * c.roughdown * ((S.getD (Int.toNat r.down) default).place - (S.getD (Int.toNat r.up) default).place)))) := fun s a ha hs => by
    unfold zaw
    have n := Fl.num_bd ha k2 (d := c.up - c.down) (by omega)
    have d := Fl.den_bd hs (b := c.roughdown) (by omega) k3
    refine M.i_grd (gA2 (by omega) (by omega)) (M.i_grd (gA2 (by omega) (by omega)) (M.i_grd (gA2 (by omega) (by omega)) ?_))
    generalize (S.getD (Int.toNat r.down) default).place - (S.getD (Int.toNat r.up) default).place = f at d k3 ⊢
    refine M.i_grd (gA2 (by omega) (by omega)) (M.i_grd (gA2 (by omega) (by omega)) (M.i_grd (gA2 (by omega) (by omega)) (M.i_grd (gA2 (by omega) (by omega)) (M.i_grd (gA2 (by omega) (by omega)) (M.i_grd (gA2 (by omega) (by omega)) (M.i_grd (gA3 (by omega) (by omega) (by omega)) (M.i_bind (root_ends (Int.ediv_nonneg n.2.2.1 (by omega)) ?_) M.i_pure)))))))
    have := Fl.div_mono n.2.2.1 (Int.le_refl _) (by decide : (0 : Int) < 1) (by omega : (1 : Int) <= s * c.roughdown * f)
    rw [Int.ediv_one] at this
    omega
  cases hn : r.narrow with
  | true => exact key _ _ k2 ⟨c5, c7⟩
  | false => exact key _ _ k1 ⟨c4, c6⟩
theorem least_ends (a b : Int) : (zav a [b]).Ends (min a b) := by
  unfold zav
  refine M.i_bind (M.i_next (s' := (min a b, 1)) ?_ (M.i_stop ?_)) M.i_pure
  · simp only [za0]
    exact M.i_t (by simp) (M.i_grd (by simp) M.i_pure)
  · simp only [za0]
    exact M.i_f (by simp) M.i_pure
theorem stages_ends {S : List Sect} {M' : List Mrk} {R' : List Rch} {ms : List Int} {i : Int} (hm : ∀ k ∈ ms, 0 <= k /\ k < M'.length) (h0 : 0 <= i) (h1 : i < S.length) :
    (zal S M' R' ms i).Ends (Fl.stLo M' ms (S.getD (Int.toNat i) default).place, Fl.stHi M' ms (S.getD (Int.toNat i) default).place) := by
  unfold zal
  refine M.i_bind (a := (Fl.stLo M' ms (S.getD (Int.toNat i) default).place, Fl.stHi M' ms (S.getD (Int.toNat i) default).place)) ?_ M.i_pure
  refine M.i_for (fun j => (Fl.stLo M' (ms.take j) (S.getD (Int.toNat i) default).place, Fl.stHi M' (ms.take j) (S.getD (Int.toNat i) default).place, j)) ms.length (fun j hj => ?_) ?_
  · have hk := hm (ms.getD j 0) (by rw [getD_el ms hj]; exact List.getElem_mem hj)
    simp only [zaW]
    refine M.i_t (decide_eq_true (by omega)) (M.i_grd (decide_eq_true (by omega)) (M.i_grd (gA2 hk.1 hk.2) (M.i_grd (gA2 h0 h1) ?_)))
    have el : Fl.stLo M' (ms.take (j + 1)) (S.getD (Int.toNat i) default).place = if (S.getD (Int.toNat i) default).place <= (M'.getD (Int.toNat (ms.getD j 0)) default).place then max (Fl.stLo M' (ms.take j) (S.getD (Int.toNat i) default).place) (M'.getD (Int.toNat (ms.getD j 0)) default).lo else Fl.stLo M' (ms.take j) (S.getD (Int.toNat i) default).place := by
      rw [← take_succ_D ms j hj 0]
      unfold Fl.stLo
      rw [List.foldl_append]
      rfl
    have eh : Fl.stHi M' (ms.take (j + 1)) (S.getD (Int.toNat i) default).place = if (M'.getD (Int.toNat (ms.getD j 0)) default).place <= (S.getD (Int.toNat i) default).place then min (Fl.stHi M' (ms.take j) (S.getD (Int.toNat i) default).place) (M'.getD (Int.toNat (ms.getD j 0)) default).hi else Fl.stHi M' (ms.take j) (S.getD (Int.toNat i) default).place := by
      rw [← take_succ_D ms j hj 0]
      unfold Fl.stHi
      rw [List.foldl_append]
      rfl
    rw [el, eh]
    refine M.i_if (fun hc => ?_) (fun hc => ?_)
    · have hc := of_decide_eq_true hc
      rw [if_pos hc]
      refine M.i_bind (least_ends _ _) (M.i_if (fun hd => ?_) (fun hd => ?_))
      · rw [if_pos (of_decide_eq_true hd)]; exact M.i_pure
      · rw [if_neg (of_decide_eq_false hd)]; exact M.i_pure
    · have hc := of_decide_eq_false hc
      rw [if_neg hc]
      refine M.i_if (fun hd => ?_) (fun hd => ?_)
      · rw [if_pos (of_decide_eq_true hd)]; exact M.i_pure
      · rw [if_neg (of_decide_eq_false hd)]; exact M.i_pure
  · simp only [zaW]
    rw [List.take_length]
    exact M.i_f (decide_eq_false (by omega)) M.i_pure
theorem nums_out {T X : Type} {bd : T -> Int -> M (T ⊕ X)} {lo hi : Int} (J : Int -> T -> Prop) (hl : lo <= hi + 1) (h1 : hi <= 1000000) (h2 : -1000000 <= lo) {s0 : T} (h0 : J lo s0)
    (step : ∀ x s, lo <= x -> x <= hi -> J x s -> (bd s x).Out (fun r => match r with | .inl s' => J (x + 1) s' | .inr _ => False)) :
    (zaj (M.yl bd) (.inl s0) lo hi).Out (fun r => match r with | .inl s => J (hi + 1) s | .inr _ => False) := by
  unfold zaj
  refine M.o_bind (P := fun (x : (T ⊕ X) ⊕ (T ⊕ X)) => ∃ s, x = .inr (.inl s) /\ J (hi + 1) s) ?_ ?_
  · refine M.o_iter (fun m (x : Int × (T ⊕ X)) => ∃ s, x.2 = .inl s /\ lo <= x.1 /\ x.1 <= hi + 1 /\ m = (hi + 1 - x.1).toNat /\ J x.1 s) ?_ _ (lo, .inl s0) ⟨s0, rfl, Int.le_refl _, hl, rfl, h0⟩
    rintro m ⟨n, t⟩ ⟨s, rfl, a, b, rfl, hj⟩
    dsimp only at a b hj ⊢
    simp only [za8]
    refine M.o_if (fun hb => ?_) (fun hb => ?_)
    · have hb := of_decide_eq_true hb
      refine M.o_bind (P := fun (y : Bool × (T ⊕ X)) => y.1 = true /\ ∃ s', y.2 = .inl s' /\ J (n + 1) s') ?_ ?_
      · unfold M.yl
        refine M.o_bind (step n s a hb hj) ?_
        intro r hr
        cases r with
        | inl s' => exact M.o_pure ⟨rfl, s', rfl, hr⟩
        | inr x => exact hr.elim
      · rintro ⟨g, t⟩ ⟨h1', s', h2', hj'⟩
        dsimp only at h1' h2' ⊢
        subst h1' h2'
        refine M.o_f rfl (M.o_grd (gA2 (by omega) (by omega)) (M.o_pure ⟨(hi + 1 - (n + 1)).toNat, by omega, s', rfl, by dsimp only; omega, by dsimp only; omega, rfl, hj'⟩))
    · have hb := of_decide_eq_false hb
      obtain rfl : n = hi + 1 := by omega
      exact M.o_pure ⟨s, rfl, hj⟩
  · rintro _ ⟨s, rfl, hj⟩
    exact M.o_pure hj
end Go.Proofs.Ytlemgioaakecpaa
namespace Go.Nm
namespace Fl
section
variable {M : List Mrk} {p : Int}
theorem lo_fold : ∀ (ms : List Int) (a : Int), a <= ms.foldl (fun a k => if p <= (M.getD (Int.toNat k) default).place then max a (M.getD (Int.toNat k) default).lo else a) a ∧
    (∀ k ∈ ms, p <= (M.getD (Int.toNat k) default).place -> (M.getD (Int.toNat k) default).lo <= ms.foldl (fun a k => if p <= (M.getD (Int.toNat k) default).place then max a (M.getD (Int.toNat k) default).lo else a) a) ∧
    (ms.foldl (fun a k => if p <= (M.getD (Int.toNat k) default).place then max a (M.getD (Int.toNat k) default).lo else a) a = a ∨ ∃ k ∈ ms, p <= (M.getD (Int.toNat k) default).place /\ ms.foldl (fun a k => if p <= (M.getD (Int.toNat k) default).place then max a (M.getD (Int.toNat k) default).lo else a) a = (M.getD (Int.toNat k) default).lo)
  | [], a => ⟨Int.le_refl _, fun k hk => (List.not_mem_nil hk).elim, .inl rfl⟩
  | k :: ms, a => by
    rw [List.foldl_cons]
    obtain ⟨h1, h2, h3⟩ := lo_fold ms (if p <= (M.getD (Int.toNat k) default).place then max a (M.getD (Int.toNat k) default).lo else a)
    by_cases hp : p <= (M.getD (Int.toNat k) default).place
    · rw [if_pos hp] at h1 h2 h3 ⊢
      refine ⟨by omega, fun j hj hpj => ?_, ?_⟩
      · rcases List.mem_cons.1 hj with rfl | hj
        · omega
        · exact h2 j hj hpj
      · rcases h3 with h3 | ⟨j, hj, hpj, e⟩
        · rcases Int.le_total (M.getD (Int.toNat k) default).lo a with e | e
          · left; omega
          · right; exact ⟨k, by simp, hp, by omega⟩
        · right; exact ⟨j, by simp [hj], hpj, e⟩
    · rw [if_neg hp] at h1 h2 h3 ⊢
      refine ⟨h1, fun j hj hpj => ?_, ?_⟩
      · rcases List.mem_cons.1 hj with rfl | hj
        · exact absurd hpj hp
        · exact h2 j hj hpj
      · rcases h3 with h3 | ⟨j, hj, hpj, e⟩
        · exact .inl h3
        · right; exact ⟨j, by simp [hj], hpj, e⟩
theorem hi_fold : ∀ (ms : List Int) (a : Int), ms.foldl (fun a k => if (M.getD (Int.toNat k) default).place <= p then min a (M.getD (Int.toNat k) default).hi else a) a <= a ∧
    (∀ k ∈ ms, (M.getD (Int.toNat k) default).place <= p -> ms.foldl (fun a k => if (M.getD (Int.toNat k) default).place <= p then min a (M.getD (Int.toNat k) default).hi else a) a <= (M.getD (Int.toNat k) default).hi) ∧
    (ms.foldl (fun a k => if (M.getD (Int.toNat k) default).place <= p then min a (M.getD (Int.toNat k) default).hi else a) a = a ∨ ∃ k ∈ ms, (M.getD (Int.toNat k) default).place <= p /\ ms.foldl (fun a k => if (M.getD (Int.toNat k) default).place <= p then min a (M.getD (Int.toNat k) default).hi else a) a = (M.getD (Int.toNat k) default).hi)
  | [], a => ⟨Int.le_refl _, fun k hk => (List.not_mem_nil hk).elim, .inl rfl⟩
  | k :: ms, a => by
    rw [List.foldl_cons]
    obtain ⟨h1, h2, h3⟩ := hi_fold ms (if (M.getD (Int.toNat k) default).place <= p then min a (M.getD (Int.toNat k) default).hi else a)
    by_cases hp : (M.getD (Int.toNat k) default).place <= p
    · rw [if_pos hp] at h1 h2 h3 ⊢
      refine ⟨by omega, fun j hj hpj => ?_, ?_⟩
      · rcases List.mem_cons.1 hj with rfl | hj
        · omega
        · exact h2 j hj hpj
      · rcases h3 with h3 | ⟨j, hj, hpj, e⟩
        · rcases Int.le_total a (M.getD (Int.toNat k) default).hi with e | e
          · left; omega
          · right; exact ⟨k, by simp, hp, by omega⟩
        · right; exact ⟨j, by simp [hj], hpj, e⟩
    · rw [if_neg hp] at h1 h2 h3 ⊢
      refine ⟨h1, fun j hj hpj => ?_, ?_⟩
      · rcases List.mem_cons.1 hj with rfl | hj
        · exact absurd hpj hp
        · exact h2 j hj hpj
      · rcases h3 with h3 | ⟨j, hj, hpj, e⟩
        · exact .inl h3
        · right; exact ⟨j, by simp [hj], hpj, e⟩
theorem stLo_nn (ms : List Int) : 0 <= stLo M ms p := (lo_fold ms 0).1
theorem stLo_ex (ms : List Int) : stLo M ms p = 0 ∨ ∃ k ∈ ms, p <= (M.getD (Int.toNat k) default).place /\ stLo M ms p = (M.getD (Int.toNat k) default).lo := (lo_fold ms 0).2.2
theorem stHi_le (ms : List Int) : stHi M ms p <= 2000 := (hi_fold ms 2000).1
theorem stHi_ex (ms : List Int) : stHi M ms p = 2000 ∨ ∃ k ∈ ms, (M.getD (Int.toNat k) default).place <= p /\ stHi M ms p = (M.getD (Int.toNat k) default).hi := (hi_fold ms 2000).2.2
end
/-- Marks that are true together. -/
def Tog (M : List Mrk) (ms : List Int) : Prop := ∀ a ∈ ms, ∀ b ∈ ms, ¬((M.getD (Int.toNat a) default).place <= (M.getD (Int.toNat b) default).place /\ (M.getD (Int.toNat a) default).hi < (M.getD (Int.toNat b) default).lo)
def Ixs (M : List Mrk) (ms : List Int) : Prop := ∀ k ∈ ms, 0 <= k /\ k < M.length
theorem Ixs.mok {M : List Mrk} {ms : List Int} (hk : ∀ x ∈ M, Mok x) (h : Ixs M ms) {k : Int} (hm : k ∈ ms) : Mok (M.getD (Int.toNat k) default) := by
  have := h k hm
  have hl : Int.toNat k < M.length := by omega
  rw [getD_el M hl]
  exact hk _ (List.getElem_mem hl)
/-- What lies further up is bounded by no less from above. -/
theorem st_le {M : List Mrk} {ms : List Int} (hk : ∀ x ∈ M, Mok x) (h : Ixs M ms) (ht : Tog M ms) {p q : Int} (hpq : q <= p) : stLo M ms p <= stHi M ms q := by
  rcases stLo_ex (M := M) (p := p) ms with e | ⟨a, ha, hpa, e⟩ <;> rcases stHi_ex (M := M) (p := q) ms with e' | ⟨b, hb, hpb, e'⟩
  · omega
  · have k1 := (h.mok hk hb).lh
    have k2 := (h.mok hk hb).l0
    omega
  · have := (h.mok hk ha).lh
    have := (h.mok hk ha).h2
    omega
  · have := ht b hb a ha
    rw [e, e']
    rcases Int.lt_or_le (M.getD (Int.toNat b) default).hi (M.getD (Int.toNat a) default).lo with k | k
    · exact absurd ⟨by omega, k⟩ this
    · exact k
section
variable (S : List Sect) (M : List Mrk) (ms : List Int) (r : Rch)
def pu : Int := (S.getD (Int.toNat r.up) default).place
def pd : Int := (S.getD (Int.toNat r.down) default).place
/-- The lower stages that there can be. -/
def Dn (x : Int) : Prop := stLo M ms (pd S r) <= x /\ x <= min (stHi M ms (pd S r)) (stHi M ms (pu S r))
def lc (x : Int) : Cas := ⟨max (stLo M ms (pu S r)) x, x, r.hi, r.hi⟩
def hc (x : Int) : Cas := ⟨stHi M ms (pu S r), x, r.lo, r.lo⟩
def IsLow (c : Cas) (n : Int) : Prop := ∃ x, Dn S M ms r x /\ c = lc S M ms r x /\ n = fl S r c /\ ∀ y, Dn S M ms r y -> n <= fl S r (lc S M ms r y)
def IsHigh (c : Cas) (n : Int) : Prop := ∃ x, Dn S M ms r x /\ c = hc S M ms r x /\ n = fl S r c /\ ∀ y, Dn S M ms r y -> fl S r (hc S M ms r y) <= n
end
section
variable {S : List Sect} {M : List Mrk} {ms : List Int} {r : Rch}
theorem lc_ok (hr : Rok S r) (hk : ∀ x ∈ M, Mok x) (h : Ixs M ms) (ht : Tog M ms) {x : Int} (hx : Dn S M ms r x) : Cok (lc S M ms r x) := by
  have h1 := stLo_nn (M := M) (p := pu S r) ms
  have h2 := stLo_nn (M := M) (p := pd S r) ms
  have h3 := stHi_le (M := M) (p := pu S r) ms
  have h4 := st_le hk h ht (Int.le_refl (pu S r))
  obtain ⟨a, b⟩ := hx
  have := hr.l1
  have := hr.lh
  have := hr.h4
  unfold lc
  constructor <;> dsimp only <;> omega
theorem hc_ok (hr : Rok S r) {x : Int} (hx : Dn S M ms r x) : Cok (hc S M ms r x) := by
  have h2 := stLo_nn (M := M) (p := pd S r) ms
  have h3 := stHi_le (M := M) (p := pu S r) ms
  obtain ⟨a, b⟩ := hx
  have := hr.l1
  have := hr.lh
  have := hr.h4
  unfold hc
  constructor <;> dsimp only <;> omega
theorem pu_pd (hS : Secs S) (hr : Rok S r) : pu S r < pd S r := by
  have := far hS hr
  unfold pu pd
  omega
theorem Dn.ne (hS : Secs S) (hr : Rok S r) (hk : ∀ x ∈ M, Mok x) (h : Ixs M ms) (ht : Tog M ms) : Dn S M ms r (stLo M ms (pd S r)) := by
  have h1 := st_le hk h ht (Int.le_refl (pd S r))
  have h2 := st_le hk h ht (Int.le_of_lt (pu_pd hS hr))
  exact ⟨Int.le_refl _, by omega⟩
end
end Fl
end Go.Nm
namespace Go.Proofs.Ytlemgioaakecpaa
open Go Go.Nm
section
variable {S : List Sect} {M' : List Mrk} {R' : List Rch} {ms : List Int} {r : Rch}
theorem best82_out (hS : Fl.Secs S) (hr : Fl.Rok S r) (hk : ∀ x ∈ M', Fl.Mok x) (h : Fl.Ixs M' ms) (ht : Fl.Tog M' ms) :
    (zbc S M' R' ms r).Out (fun x => Fl.IsLow S M' ms r ⟨x.1, x.2.1, x.2.2.1, x.2.2.2.1⟩ x.2.2.2.2) := by
  have hne := Fl.Dn.ne hS hr hk h ht
  have b1 := Fl.stLo_nn (M := M') (p := Fl.pd S r) ms
  have b2 := Fl.stHi_le (M := M') (p := Fl.pu S r) ms
  have hlo := hr.l1
  have hlh := hr.lh
  unfold zbc
  have h0 := hr.u0
  have h1 := hr.ud
  have h2 := hr.d1
  refine M.o_bindE (stages_ends h (by omega) (by omega)) (M.o_bindE (stages_ends h (by omega) (by omega)) (M.o_bindE (a := false) (by unfold zaO; exact M.i_pure) (M.o_t rfl (M.o_bindE (least_ends _ _) (M.o_bindE (by unfold zan; exact M.i_pure) ?_)))))
  dsimp only
  refine M.o_bind (nums_out (lo := Fl.stLo M' ms (Fl.pd S r)) (hi := min (Fl.stHi M' ms (Fl.pd S r)) (Fl.stHi M' ms (Fl.pu S r))) (fun x (s : Int × Int × Int × Int × Int) => (x = Fl.stLo M' ms (Fl.pd S r) /\ s = (0, 0, 0, 0, 0)) ∨ ∃ y, Fl.Dn S M' ms r y /\ y < x /\ s = (Fl.fl S r (Fl.lc S M' ms r y), (Fl.lc S M' ms r y).up, (Fl.lc S M' ms r y).down, (Fl.lc S M' ms r y).roughup, (Fl.lc S M' ms r y).roughdown) /\ ∀ z, Fl.stLo M' ms (Fl.pd S r) <= z -> z < x -> Fl.fl S r (Fl.lc S M' ms r y) <= Fl.fl S r (Fl.lc S M' ms r z)) (by have := hne.2; omega) (by omega) (by have := hne.1; omega) (.inl ⟨rfl, rfl⟩) ?_) ?_
  · rintro x ⟨n, a, b, c, d⟩ hx1 hx2 hj
    have hx : Fl.Dn S M' ms r x := ⟨hx1, hx2⟩
    simp only [zaq]
    refine M.o_f rfl (M.o_bindE (flow_ends hS hr (Fl.lc_ok hr hk h ht hx)) ?_)
    rcases hj with ⟨rfl, e⟩ | ⟨y, hy, hyx, e, hz⟩
    · obtain ⟨rfl, rfl, rfl, rfl, rfl⟩ : n = 0 /\ a = 0 /\ b = 0 /\ c = 0 /\ d = 0 := by simpa using e
      refine M.o_bindE (M.i_opt (r := false) (fun hc => by simp at hc) (fun _ => rfl)) (M.o_t (by simp) (M.o_pure (.inr ⟨_, hx, by omega, rfl, fun z h1 h2 => ?_⟩)))
      rw [show z = Fl.stLo M' ms (Fl.pd S r) by omega]
      exact Int.le_refl _
    · obtain ⟨e1, e2, e3, e4, e5⟩ : n = Fl.fl S r (Fl.lc S M' ms r y) /\ a = (Fl.lc S M' ms r y).up /\ b = (Fl.lc S M' ms r y).down /\ c = (Fl.lc S M' ms r y).roughup /\ d = (Fl.lc S M' ms r y).roughdown := by simpa only [Prod.mk.injEq] using e
      rw [e1, e2, e3, e4, e5]
      have hd : decide ((⟨(Fl.lc S M' ms r y).up, (Fl.lc S M' ms r y).down, (Fl.lc S M' ms r y).roughup, (Fl.lc S M' ms r y).roughdown⟩ : Cas) = ⟨0, 0, 0, 0⟩) = false := decide_eq_false (fun e => by
        have : (Fl.lc S M' ms r y).roughup = 0 := congrArg Cas.roughup e
        have e2 : (Fl.lc S M' ms r y).roughup = r.hi := rfl
        omega)
      refine M.o_bindE (M.i_opt (r := decide (Fl.fl S r (Fl.lc S M' ms r x) < Fl.fl S r (Fl.lc S M' ms r y))) (fun _ => by unfold zaO; exact M.i_pure) (fun hc => by rw [hd] at hc; cases hc)) ?_
      refine M.o_if (fun hc => ?_) (fun hc => ?_)
      · rw [hd, Bool.false_or] at hc
        have hc := of_decide_eq_true hc
        refine M.o_pure (.inr ⟨x, hx, by omega, rfl, fun z h1 h2 => ?_⟩)
        by_cases e : z < x
        · have := hz z h1 e
          omega
        · rw [show z = x by omega]
          exact Int.le_refl _
      · rw [hd, Bool.false_or] at hc
        have hc := of_decide_eq_false hc
        refine M.o_pure (.inr ⟨y, hy, by omega, rfl, fun z h1 h2 => ?_⟩)
        by_cases e : z < x
        · exact hz z h1 e
        · rw [show z = x by omega]
          omega
  · intro s hs
    cases s with
    | inr _ => exact hs.elim
    | inl s =>
      rcases hs with ⟨e, _⟩ | ⟨y, hy, _, rfl, hz⟩
      · have := hne.2
        omega
      · exact M.o_pure ⟨y, hy, rfl, rfl, fun z hz' => hz z hz'.1 (by have := hz'.2; omega)⟩
theorem best83_out (hS : Fl.Secs S) (hr : Fl.Rok S r) (hk : ∀ x ∈ M', Fl.Mok x) (h : Fl.Ixs M' ms) (ht : Fl.Tog M' ms) :
    (zbb S M' R' ms r).Out (fun x => Fl.IsHigh S M' ms r ⟨x.1, x.2.1, x.2.2.1, x.2.2.2.1⟩ x.2.2.2.2) := by
  have hne := Fl.Dn.ne hS hr hk h ht
  have b1 := Fl.stLo_nn (M := M') (p := Fl.pd S r) ms
  have b2 := Fl.stHi_le (M := M') (p := Fl.pu S r) ms
  have hlo := hr.l1
  have hlh := hr.lh
  unfold zbb
  have h0 := hr.u0
  have h1 := hr.ud
  have h2 := hr.d1
  refine M.o_bindE (stages_ends h (by omega) (by omega)) (M.o_bindE (stages_ends h (by omega) (by omega)) (M.o_bindE (a := true) (by unfold zaF; exact M.i_pure) (M.o_f rfl (M.o_bindE (least_ends _ _) (M.o_bindE (by unfold zan; exact M.i_pure) ?_)))))
  dsimp only
  refine M.o_bind (nums_out (lo := Fl.stLo M' ms (Fl.pd S r)) (hi := min (Fl.stHi M' ms (Fl.pd S r)) (Fl.stHi M' ms (Fl.pu S r))) (fun x (s : Int × Int × Int × Int × Int) => (x = Fl.stLo M' ms (Fl.pd S r) /\ s = (0, 0, 0, 0, 0)) ∨ ∃ y, Fl.Dn S M' ms r y /\ y < x /\ s = (Fl.fl S r (Fl.hc S M' ms r y), (Fl.hc S M' ms r y).up, (Fl.hc S M' ms r y).down, (Fl.hc S M' ms r y).roughup, (Fl.hc S M' ms r y).roughdown) /\ ∀ z, Fl.stLo M' ms (Fl.pd S r) <= z -> z < x -> Fl.fl S r (Fl.hc S M' ms r z) <= Fl.fl S r (Fl.hc S M' ms r y)) (by have := hne.2; omega) (by omega) (by have := hne.1; omega) (.inl ⟨rfl, rfl⟩) ?_) ?_
  · rintro x ⟨n, a, b, c, d⟩ hx1 hx2 hj
    have hx : Fl.Dn S M' ms r x := ⟨hx1, hx2⟩
    simp only [zao]
    refine M.o_t rfl (M.o_bindE (flow_ends hS hr (Fl.hc_ok hr hx)) ?_)
    rcases hj with ⟨rfl, e⟩ | ⟨y, hy, hyx, e, hz⟩
    · obtain ⟨rfl, rfl, rfl, rfl, rfl⟩ : n = 0 /\ a = 0 /\ b = 0 /\ c = 0 /\ d = 0 := by simpa using e
      refine M.o_bindE (M.i_opt (r := false) (fun hc => by simp at hc) (fun _ => rfl)) (M.o_t (by simp) (M.o_pure (.inr ⟨_, hx, by omega, rfl, fun z h1 h2 => ?_⟩)))
      rw [show z = Fl.stLo M' ms (Fl.pd S r) by omega]
      exact Int.le_refl _
    · obtain ⟨e1, e2, e3, e4, e5⟩ : n = Fl.fl S r (Fl.hc S M' ms r y) /\ a = (Fl.hc S M' ms r y).up /\ b = (Fl.hc S M' ms r y).down /\ c = (Fl.hc S M' ms r y).roughup /\ d = (Fl.hc S M' ms r y).roughdown := by simpa only [Prod.mk.injEq] using e
      rw [e1, e2, e3, e4, e5]
      have hd : decide ((⟨(Fl.hc S M' ms r y).up, (Fl.hc S M' ms r y).down, (Fl.hc S M' ms r y).roughup, (Fl.hc S M' ms r y).roughdown⟩ : Cas) = ⟨0, 0, 0, 0⟩) = false := decide_eq_false (fun e => by
        have : (Fl.hc S M' ms r y).roughup = 0 := congrArg Cas.roughup e
        have e2 : (Fl.hc S M' ms r y).roughup = r.lo := rfl
        omega)
      refine M.o_bindE (M.i_opt (r := decide (Fl.fl S r (Fl.hc S M' ms r y) < Fl.fl S r (Fl.hc S M' ms r x))) (fun _ => by unfold zaF; exact M.i_pure) (fun hc => by rw [hd] at hc; cases hc)) ?_
      refine M.o_if (fun hc => ?_) (fun hc => ?_)
      · rw [hd, Bool.false_or] at hc
        have hc := of_decide_eq_true hc
        refine M.o_pure (.inr ⟨x, hx, by omega, rfl, fun z h1 h2 => ?_⟩)
        by_cases e : z < x
        · have := hz z h1 e
          omega
        · rw [show z = x by omega]
          exact Int.le_refl _
      · rw [hd, Bool.false_or] at hc
        have hc := of_decide_eq_false hc
        refine M.o_pure (.inr ⟨y, hy, by omega, rfl, fun z h1 h2 => ?_⟩)
        by_cases e : z < x
        · exact hz z h1 e
        · rw [show z = x by omega]
          omega
  · intro s hs
    cases s with
    | inr _ => exact hs.elim
    | inl s =>
      rcases hs with ⟨e, _⟩ | ⟨y, hy, _, rfl, hz⟩
      · have := hne.2
        omega
      · exact M.o_pure ⟨y, hy, rfl, rfl, fun z hz' => hz z hz'.1 (by have := hz'.2; omega)⟩
theorem peak_out (hS : Fl.Secs S) (hr : Fl.Rok S r) (hk : ∀ x ∈ M', Fl.Mok x) (h : Fl.Ixs M' ms) (ht : Fl.Tog M' ms) :
    (zaX S M' R' ms r).Out (fun x => (∃ c, Fl.IsLow S M' ms r c x.1) /\ ∃ c, Fl.IsHigh S M' ms r c x.2) := by
  unfold zaX
  refine M.o_bindE (by unfold zca; exact M.i_pure) (M.o_bind (best82_out hS hr hk h ht) ?_)
  rintro ⟨a, b, c, d, n⟩ h1
  refine M.o_bindE (by unfold zb0; exact M.i_pure) (M.o_bind (best83_out hS hr hk h ht) ?_)
  rintro ⟨a', b', c', d', n'⟩ h2
  exact M.o_pure ⟨⟨_, h1⟩, ⟨_, h2⟩⟩
end
end Go.Proofs.Ytlemgioaakecpaa
namespace Go.Nm
namespace Fl
theorem Rows.cle {l : List FRow} (h : Rows l) {i j : Nat} (hij : i <= j) (hj : j < l.length) : (l.getD i default).carry <= (l.getD j default).carry := by
  induction j with
  | zero => rw [show i = 0 by omega]; exact Int.le_refl _
  | succ j ih =>
    rcases Nat.lt_or_eq_of_le hij with e | rfl
    · have := ih (by omega) (by omega)
      have := h.cm j hj
      omega
    · exact Int.le_refl _
/-- Marks, one behind the other. -/
def Inc (M : List Mrk) (ms : List Int) : Prop := ms.Pairwise (· < ·) /\ Ixs M ms
end Fl
end Go.Nm
namespace Go.Proofs.Ytlemgioaakecpaa
open Go Go.Nm
theorem in_true {n a b : Int} (h1 : a <= n) (h2 : n <= b) : (zab n a b).Ends true := by
  have : (zab n a b).Ends (decide (a <= n) && decide (n <= b)) := M.i_pure
  rwa [gA2 h1 h2] at this
theorem every_sect (l : List Sect) (so : Sect -> M Bool) (h : ∀ t ∈ l, (so t).Ends true) : (zbx l so).Ends true := by
  unfold zbx zbV zcd
  refine M.i_bind (a := false) (M.i_bind (a := -1) (M.i_bind (a := (.inr () : Int ⊕ Unit)) ?_ M.i_pure) M.i_pure) M.i_pure
  refine M.i_for (fun i => i) l.length (fun i hi => ?_) ?_
  · simp only [zaY]
    have hm : l.getD i default ∈ l := by rw [getD_el l hi]; exact List.getElem_mem hi
    refine M.i_t (decide_eq_true (by omega)) (M.i_grd (decide_eq_true (by omega)) (M.i_bind (a := false) ?_ (M.i_f rfl M.i_pure)))
    unfold zbD
    exact M.i_bind (h _ hm) M.i_pure
  · simp only [zaY]
    exact M.i_f (decide_eq_false (by omega)) M.i_pure
theorem every_mark (l : List Mrk) (so : Mrk -> M Bool) (h : ∀ t ∈ l, (so t).Ends true) : (zbJ l so).Ends true := by
  unfold zbJ zbO zcc
  refine M.i_bind (a := false) (M.i_bind (a := -1) (M.i_bind (a := (.inr () : Int ⊕ Unit)) ?_ M.i_pure) M.i_pure) M.i_pure
  refine M.i_for (fun i => i) l.length (fun i hi => ?_) ?_
  · simp only [za9]
    have hm : l.getD i default ∈ l := by rw [getD_el l hi]; exact List.getElem_mem hi
    refine M.i_t (decide_eq_true (by omega)) (M.i_grd (decide_eq_true (by omega)) (M.i_bind (a := false) ?_ (M.i_f rfl M.i_pure)))
    unfold zbA
    exact M.i_bind (h _ hm) M.i_pure
  · simp only [za9]
    exact M.i_f (decide_eq_false (by omega)) M.i_pure
theorem every_reach (l : List Rch) (so : Rch -> M Bool) (h : ∀ t ∈ l, (so t).Ends true) : (zbH l so).Ends true := by
  unfold zbH zb5 zb3
  refine M.i_bind (a := false) (M.i_bind (a := -1) (M.i_bind (a := (.inr () : Int ⊕ Unit)) ?_ M.i_pure) M.i_pure) M.i_pure
  refine M.i_for (fun i => i) l.length (fun i hi => ?_) ?_
  · simp only [za1]
    have hm : l.getD i default ∈ l := by rw [getD_el l hi]; exact List.getElem_mem hi
    refine M.i_t (decide_eq_true (by omega)) (M.i_grd (decide_eq_true (by omega)) (M.i_bind (a := false) ?_ (M.i_f rfl M.i_pure)))
    unfold zbi
    exact M.i_bind (h _ hm) M.i_pure
  · simp only [za1]
    exact M.i_f (decide_eq_false (by omega)) M.i_pure
theorem every_int (l : List Int) (so : Int -> M Bool) (h : ∀ t ∈ l, (so t).Ends true) : (zap l so).Ends true := by
  unfold zap zbR zb8
  refine M.i_bind (a := false) (M.i_bind (a := -1) (M.i_bind (a := (.inr () : Int ⊕ Unit)) ?_ M.i_pure) M.i_pure) M.i_pure
  refine M.i_for (fun i => i) l.length (fun i hi => ?_) ?_
  · simp only [zaE]
    have hm : l.getD i 0 ∈ l := by rw [getD_el l hi]; exact List.getElem_mem hi
    refine M.i_t (decide_eq_true (by omega)) (M.i_grd (decide_eq_true (by omega)) (M.i_bind (a := false) ?_ (M.i_f rfl M.i_pure)))
    unfold zbz
    exact M.i_bind (h _ hm) M.i_pure
  · simp only [zaE]
    exact M.i_f (decide_eq_false (by omega)) M.i_pure
theorem sright_ends {x : Sect} (hr : Fl.Rows x.rows) (h0 : 0 <= x.place) (h1 : x.place <= 10000) : (zbj x).Ends true := by
  refine M.Out.ends ?_
  unfold zbj
  refine M.o_bind (P := fun z => match z with | .inl _ => False | .inr (_ : Int × Int) => True) ?_ ?_
  · refine M.o_for x.rows.length (fun i (s : Int × Int × Nat) => s.2.2 = i /\ -1 <= s.1 /\ s.1 <= 2000 /\ (∀ j, i <= j -> j < x.rows.length -> s.1 < (x.rows.getD j default).stage) /\ ∀ j, i <= j -> j < x.rows.length -> s.2.1 <= (x.rows.getD j default).carry) ?_ ?_ (s := (-1, 0, 0)) ⟨rfl, by decide, by decide, fun j _ hj => by have := hr.el j hj; dsimp only; omega, fun j _ hj => by have := hr.el j hj; dsimp only; omega⟩
    · rintro i ⟨a, b, _⟩ hi ⟨rfl, h2, h3, h4, h5⟩
      dsimp only at hi h2 h3 h4 h5 ⊢
      have e := hr.el _ hi
      have k1 := h4 _ (Nat.le_refl _) hi
      have k2 := h5 _ (Nat.le_refl _) hi
      simp only [zbf]
      refine M.o_t (decide_eq_true (by omega)) (M.o_grd (decide_eq_true (by omega)) (M.o_grd (gA2 (by omega) (by omega)) (M.o_bindE (in_true (by omega) (by omega)) (M.o_bindE (M.i_opt (fun _ => in_true (by omega) (by omega)) (fun h => by cases h)) (M.o_f rfl (M.o_pure ⟨rfl, by dsimp only; omega, by dsimp only; omega, fun j hj hj' => hr.lt hj hj', fun j hj hj' => hr.cle (by omega) hj'⟩))))))
    · rintro ⟨a, b, _⟩ ⟨rfl, _⟩
      simp only [zbf]
      exact M.o_f (decide_eq_false (by omega)) (M.o_pure trivial)
  · intro z hz
    cases z with
    | inl _ => exact hz.elim
    | inr _ => exact M.o_bindE (in_true h0 h1) (M.o_pure rfl)
theorem mright_ends {m : Mrk} (h : Fl.Mok m) : (zaZ m).Ends true := by
  obtain ⟨h1, h2, h3, h4, h5⟩ := h
  unfold zaZ zaR
  exact M.i_bind (in_true h1 h2) (M.i_bind (M.i_opt (fun _ => M.i_bind (in_true h3 (by dsimp only; omega)) (M.i_bind (M.i_opt (fun _ => in_true h4 h5) (fun h => by cases h)) M.i_pure)) (fun h => by cases h)) M.i_pure)
theorem rright_ends {S : List Sect} {r : Rch} (hn : S.length <= 6) (h : Fl.Rok S r) : (zbF r (S.length : Int)).Ends true := by
  obtain ⟨h1, h2, h3, h4, h5, h6⟩ := h
  unfold zbF zaR
  refine M.i_grd (gA2 (by omega) (by omega)) (M.i_bind (in_true h1 (by omega)) (M.i_grd (gOr2 (by omega) (by omega)) (M.i_bind (M.i_opt (fun _ => in_true (by omega) (by omega)) (fun h => by cases h)) (M.i_bind (M.i_opt (fun _ => M.i_bind (in_true h4 (by dsimp only; omega)) (M.i_bind (M.i_opt (fun _ => in_true h5 h6) (fun h => by cases h)) M.i_pure)) (fun h => by cases h)) M.i_pure))))
section
variable {S : List Sect} {M' : List Mrk} {R' : List Rch} {ms : List Int} {r : Rch}
theorem check_ends (h : Fl.Site S M' R') : (zbo S M' R').Ends 0 := by
  obtain ⟨hS, hm, hr, hmk, hrk⟩ := h
  obtain ⟨hn, hrows, hpl, hup⟩ := hS
  unfold zbo
  refine M.i_bind (in_true (by omega) (by omega)) (M.i_bind (M.i_opt (fun _ => in_true (by omega) (by omega)) (fun h => by cases h)) (M.i_bind (M.i_opt (fun _ => in_true (by omega) (by omega)) (fun h => by cases h)) (M.i_bind (M.i_opt (fun _ => every_sect _ _ fun x hx => ?_) (fun h => by cases h)) (M.i_f rfl ?_))))
  · obtain ⟨i, hi, rfl⟩ := mem_getD hx default
    unfold zbr
    have := hrows i hi
    exact M.i_bind (in_true (by omega) (by omega)) M.i_pure
  · refine M.Out.ends (M.o_bind (P := fun z => match z with | .inl _ => False | .inr (_ : Unit) => True) ?_ ?_)
    · refine M.o_for S.length (fun i (s : Int × Nat) => s.2 = i /\ ∀ j, i <= j -> j < S.length -> s.1 < (S.getD j default).place) ?_ ?_ (s := (-1, 0)) ⟨rfl, fun j _ hj => by have := hpl j hj; dsimp only; omega⟩
      · rintro i ⟨a, _⟩ hi ⟨rfl, h2⟩
        dsimp only at hi h2 ⊢
        have e := hpl _ hi
        have k1 := h2 _ (Nat.le_refl _) hi
        simp only [zaU]
        exact M.o_t (decide_eq_true (by omega)) (M.o_grd (decide_eq_true (by omega)) (M.o_bindE (sright_ends (hrows _ hi).1 e.1 e.2) (M.o_f (decide_eq_false (p := (S.getD _ default).place <= a) (by omega)) (M.o_pure ⟨rfl, fun j hj hj' => hup _ _ hj hj'⟩))))
      · rintro ⟨a, _⟩ ⟨rfl, _⟩
        simp only [zaU]
        exact M.o_f (decide_eq_false (by omega)) (M.o_pure trivial)
    · intro z hz
      cases z with
      | inl _ => exact hz.elim
      | inr _ =>
        refine M.o_bindE (every_mark _ _ fun x hx => mright_ends (hmk x hx)) (M.o_bindE (M.i_opt (fun _ => every_reach _ _ fun x hx => ?_) (fun h => by cases h)) (M.o_f rfl (M.o_pure rfl)))
        unfold zbG
        exact M.i_bind (rright_ends hn.2 (hrk x hx)) M.i_pure
theorem opened_ends (h : Fl.Site S M' R') : (zam S M' R').Ends (.inr 0) := by
  unfold zam
  exact M.i_bind (check_ends h) (M.i_f rfl M.i_pure)
theorem chosen_ends (h : Fl.Site S M' R') (hc : Fl.Inc M' ms) : (zaV S M' R' ms).Ends (.inr 0) := by
  unfold zaV
  refine M.i_bind (opened_ends h) (M.i_bind (a := 0) (M.Out.ends ?_) M.i_pure)
  have hm := h.m
  refine M.o_for ms.length (fun i (s : Int × Int × Nat) => s.1 = 0 /\ s.2.2 = i /\ -1 <= s.2.1 /\ s.2.1 <= 16 /\ ∀ j, i <= j -> j < ms.length -> s.2.1 < ms.getD j 0) ?_ ?_ (s := (0, -1, 0)) ⟨rfl, rfl, by decide, by decide, fun j _ hj => by have := hc.2 (ms.getD j 0) (by rw [getD_el ms hj]; exact List.getElem_mem hj); dsimp only; omega⟩
  · rintro i ⟨_, a, _⟩ hi ⟨rfl, rfl, h2, h3, h4⟩
    dsimp only at hi h2 h3 h4 ⊢
    have e := hc.2 (ms.getD _ 0) (by rw [getD_el ms hi]; exact List.getElem_mem hi)
    have k1 := h4 _ (Nat.le_refl _) hi
    simp only [za3]
    refine M.o_t (decide_eq_true (by omega)) (M.o_grd (decide_eq_true (by omega)) (M.o_grd (gOr2 (by omega) (by omega)) (M.o_bindE (M.i_opt (fun _ => in_true (by omega) (by omega)) (fun h => by cases h)) (M.o_f rfl (M.o_pure ⟨rfl, rfl, by dsimp only; omega, by dsimp only; omega, fun j hj hj' => ?_⟩)))))
    rw [getD_el ms hi, getD_el ms hj']
    exact List.pairwise_iff_getElem.1 hc.1 _ _ hi hj' hj
  · rintro ⟨_, a, _⟩ ⟨rfl, rfl, _⟩
    simp only [za3]
    exact M.o_f (decide_eq_false (by omega)) (M.o_pure rfl)
theorem asked_ends (h : Fl.Site S M' R') (hc : Fl.Inc M' ms) {i : Int} (h0 : 0 <= i) (h1 : i < R'.length) :
    (zaL S M' R' ms i).Ends (.inr ((R'.getD (Int.toNat i) default).up, (R'.getD (Int.toNat i) default).down, (R'.getD (Int.toNat i) default).lo, (R'.getD (Int.toNat i) default).hi, (R'.getD (Int.toNat i) default).narrow, 0)) := by
  unfold zaL
  exact M.i_bind (chosen_ends h hc) (M.i_bind (M.i_opt (fun _ => in_true h0 (by omega)) (fun h => by cases h)) (M.i_f rfl (M.i_f rfl (M.i_grd (gA2 h0 h1) M.i_pure))))
theorem ahead_ends {a b : Int} (ha : 0 <= a /\ a < M'.length) (hb : 0 <= b /\ b < M'.length) :
    (zaf S M' R' a b).Ends (decide ((M'.getD (Int.toNat a) default).place <= (M'.getD (Int.toNat b) default).place) && decide ((M'.getD (Int.toNat a) default).hi < (M'.getD (Int.toNat b) default).lo)) := by
  unfold zaf
  exact M.i_grd (gA2 ha.1 ha.2) (M.i_grd (gA2 hb.1 hb.2) M.i_pure)
theorem ahead_false {a b : Int} (hx : Fl.Ixs M' ms) (ht : Fl.Tog M' ms) (ha : a ∈ ms) (hb : b ∈ ms) : (zaf S M' R' a b).Ends false := by
  have := ahead_ends (S := S) (R' := R') (hx a ha) (hx b hb)
  rwa [show (decide ((M'.getD (Int.toNat a) default).place <= (M'.getD (Int.toNat b) default).place) && decide ((M'.getD (Int.toNat a) default).hi < (M'.getD (Int.toNat b) default).lo)) = false by
    rw [Bool.and_eq_false_iff, decide_eq_false_iff_not, decide_eq_false_iff_not]
    have := ht a ha b hb
    omega] at this
theorem together_ends (hx : Fl.Ixs M' ms) (ht : Fl.Tog M' ms) : (zat S M' R' ms).Ends true := by
  unfold zat
  refine M.i_bind (every_int _ _ fun a ha => ?_) M.i_pure
  unfold zbg
  refine M.i_bind (every_int _ _ fun b hb => ?_) M.i_pure
  unfold zbt
  exact M.i_bind (ahead_false hx ht ha hb) M.i_pure
theorem Peak_out (h : Fl.Site S M' R') (hc : Fl.Inc M' ms) (ht : Fl.Tog M' ms) {i : Int} (h0 : 0 <= i) (h1 : i < R'.length) :
    (zaA S M' R' ms i).Out (fun x => x.2.2 = 0 /\ (∃ c, Fl.IsLow S M' ms (R'.getD (Int.toNat i) default) c x.1) /\ ∃ c, Fl.IsHigh S M' ms (R'.getD (Int.toNat i) default) c x.2.1) := by
  have hl : Int.toNat i < R'.length := by omega
  have hr : Fl.Rok S (R'.getD (Int.toNat i) default) := by rw [getD_el R' hl]; exact h.rks _ (List.getElem_mem hl)
  unfold zaA
  refine M.o_bindE (asked_ends h hc h0 h1) (M.o_f rfl (M.o_bindE (together_ends hc.2 ht) (M.o_f rfl (M.o_bind (peak_out h.s hr h.mks hc.2 ht) ?_))))
  rintro ⟨a, b⟩ hp
  exact M.o_pure ⟨rfl, hp⟩
theorem Flow_ends (h : Fl.Site S M' R') {i : Int} (h0 : 0 <= i) (h1 : i < R'.length) {c : Cas} (hc : Fl.Cok c) (k1 : (R'.getD (Int.toNat i) default).lo <= c.roughup) (k2 : c.roughup <= (R'.getD (Int.toNat i) default).hi) (k3 : (R'.getD (Int.toNat i) default).lo <= c.roughdown) (k4 : c.roughdown <= (R'.getD (Int.toNat i) default).hi) :
    (zak S M' R' i c).Ends (Fl.fl S (R'.getD (Int.toNat i) default) c, 0) := by
  have hl : Int.toNat i < R'.length := by omega
  have hr : Fl.Rok S (R'.getD (Int.toNat i) default) := by rw [getD_el R' hl]; exact h.rks _ (List.getElem_mem hl)
  unfold zak
  refine M.i_bind (opened_ends h) (M.i_f rfl (M.i_bind (in_true h0 (by omega)) (M.i_f rfl (M.i_grd (gA2 h0 h1) (M.i_bind (a := true) ?_ (M.i_f rfl (M.i_bind (flow_ends h.s hr hc) M.i_pure)))))))
  obtain ⟨c1, c2, c3, _⟩ := hc
  unfold zbU
  exact M.i_bind (in_true (by omega) c3) (M.i_bind (M.i_opt (fun _ => in_true c1 c2) (fun h => by cases h)) (M.i_bind (M.i_opt (fun _ => in_true k1 k2) (fun h => by cases h)) (M.i_bind (M.i_opt (fun _ => in_true k3 k4) (fun h => by cases h)) M.i_pure)))
end
end Go.Proofs.Ytlemgioaakecpaa
namespace Go.Nm
namespace Fl
def surf (S : List Sect) (M : List Mrk) (ms : List Int) : List Span := (List.range S.length).map fun i => ⟨stLo M ms (S.getD i default).place, stHi M ms (S.getD i default).place⟩
def rx (r : Rch) (n : Int) : Rch := ⟨r.up, r.down, n, n, r.narrow⟩
/-- With such a roughness the peak's span meets the flows. -/
def Hit (S : List Sect) (M : List Mrk) (ms : List Int) (r : Rch) (f : Span) (n : Int) : Prop := ∀ c c' a b, IsLow S M ms (rx r n) c a -> IsHigh S M ms (rx r n) c' b -> f.lo <= b /\ a <= f.hi
theorem Rok.rx {S : List Sect} {r : Rch} (h : Rok S r) {n : Int} (h0 : r.lo <= n) (h1 : n <= r.hi) : Rok S (rx r n) := by
  obtain ⟨a, b, c, d, e, f⟩ := h
  exact ⟨a, b, c, Int.le_trans d h0, Int.le_refl _, Int.le_trans h1 f⟩
theorem surf_len (S : List Sect) (M : List Mrk) (ms : List Int) : (surf S M ms).length = S.length := by simp [surf]
theorem surf_at {S : List Sect} {M : List Mrk} {ms : List Int} {i : Nat} (h : i < S.length) : (surf S M ms).getD i default = ⟨stLo M ms (S.getD i default).place, stHi M ms (S.getD i default).place⟩ := by
  rw [getD_el _ (by rw [surf_len]; exact h)]
  simp [surf]
end Fl
end Go.Nm
namespace Go.Proofs.Ytlemgioaakecpaa
open Go Go.Nm
section
variable {S : List Sect} {M' : List Mrk} {R' : List Rch} {ms : List Int} {r : Rch}
theorem Surface_ends (h : Fl.Site S M' R') (hc : Fl.Inc M' ms) (ht : Fl.Tog M' ms) : (zba S M' R' ms).Ends (Fl.surf S M' ms, 0) := by
  have hn := h.s.n
  unfold zba
  refine M.i_bind (chosen_ends h hc) (M.i_f rfl (M.i_bind (together_ends hc.2 ht) (M.i_f rfl (M.i_bind (a := (Fl.surf S M' ms, Fl.surf S M' ms)) ?_ M.i_pure))))
  refine M.i_for (fun i => (i, (List.range i).map fun i => (⟨Fl.stLo M' ms (S.getD i default).place, Fl.stHi M' ms (S.getD i default).place⟩ : Span))) S.length (fun i hi => ?_) ?_
  · simp only [zaT]
    refine M.i_t (decide_eq_true (by omega)) (M.i_bind (stages_ends hc.2 (by omega) (by omega)) (M.i_grd (decide_eq_true ?_) ?_))
    · simp; omega
    · rw [List.range_succ, List.map_append, Int.toNat_natCast]
      exact M.i_pure
  · simp only [zaT]
    exact M.i_f (decide_eq_false (by omega)) M.i_pure
theorem Calibrate_out (h : Fl.Site S M' R') (hc : Fl.Inc M' ms) (ht : Fl.Tog M' ms) {i : Int} (h0 : 0 <= i) (h1 : i < R'.length) {f : Span} (f0 : 0 <= f.lo) (f1 : f.lo <= f.hi)
    (hit : ∃ n, (R'.getD (Int.toNat i) default).lo <= n /\ n <= (R'.getD (Int.toNat i) default).hi /\ Fl.Hit S M' ms (R'.getD (Int.toNat i) default) f n) :
    (zaN S M' R' ms i f).Out (fun x => x.2.2 = 0 /\ (R'.getD (Int.toNat i) default).lo <= x.1 /\ x.2.1 <= (R'.getD (Int.toNat i) default).hi /\ ∀ n, (R'.getD (Int.toNat i) default).lo <= n -> n <= (R'.getD (Int.toNat i) default).hi -> Fl.Hit S M' ms (R'.getD (Int.toNat i) default) f n -> x.1 <= n /\ n <= x.2.1) := by
  have hl : Int.toNat i < R'.length := by omega
  have hr : Fl.Rok S (R'.getD (Int.toNat i) default) := by rw [getD_el R' hl]; exact h.rks _ (List.getElem_mem hl)
  unfold zaN
  refine M.o_bindE (asked_ends h hc h0 h1) (M.o_f rfl (M.o_f (by rw [Bool.or_eq_false_iff]; exact ⟨decide_eq_false (by omega), decide_eq_false (by omega)⟩) (M.o_bindE (together_ends hc.2 ht) (M.o_f rfl (M.o_bindE (by unfold zan; exact M.i_pure) ?_)))))
  dsimp only
  generalize R'.getD (Int.toNat i) default = r at hr hit ⊢
  have l1 := hr.l1
  have l2 := hr.lh
  have l3 := hr.h4
  refine M.o_bind (nums_out (fun x (s : Bool × Int × Int) => (s.1 = true -> r.lo <= s.2.1 /\ s.2.1 < x /\ s.2.2 <= r.hi) /\ ∀ n, r.lo <= n -> n < x -> Fl.Hit S M' ms r f n -> s.1 = true /\ s.2.1 <= n /\ n <= s.2.2) (by omega) (by omega) (by omega) ⟨fun h => (by cases h), fun n h1 h2 _ => by omega⟩ ?_) ?_
  · rintro x ⟨met, a, b⟩ hx1 hx2 ⟨k1, k2⟩
    dsimp only at k1 k2
    simp only [zar]
    refine M.o_bind (peak_out h.s (hr.rx hx1 hx2) h.mks hc.2 ht) ?_
    rintro ⟨p, q⟩ ⟨⟨c, hp⟩, c', hq⟩
    dsimp only at hp hq ⊢
    refine M.o_if (fun hb => ?_) (fun hb => ?_)
    · rw [Bool.or_eq_true, decide_eq_true_eq, decide_eq_true_eq] at hb
      refine M.o_pure ⟨fun hm => by have := k1 hm; dsimp only; omega, fun n h1 h2 hh => ?_⟩
      by_cases e : n < x
      · exact k2 n h1 e hh
      · obtain rfl : n = x := by omega
        have := hh _ _ _ _ hp hq
        omega
    · refine M.o_if (fun hm => ?_) (fun hm => ?_)
      · rw [Bool.not_eq_true'] at hm
        refine M.o_pure ⟨fun _ => by dsimp only; omega, fun n h1 h2 hh => ?_⟩
        by_cases e : n < x
        · have := (k2 n h1 e hh).1
          rw [hm] at this
          cases this
        · dsimp only
          exact ⟨rfl, by omega, by omega⟩
      · rw [Bool.not_eq_false'] at hm
        refine M.o_pure ⟨fun _ => by have := k1 hm; dsimp only; omega, fun n h1 h2 hh => ?_⟩
        dsimp only
        by_cases e : n < x
        · have := k2 n h1 e hh
          exact ⟨hm, by omega, by omega⟩
        · have := k1 hm
          exact ⟨hm, by omega, by omega⟩
  · intro s hs
    cases s with
    | inr _ => exact hs.elim
    | inl s =>
      obtain ⟨met, a, b⟩ := s
      obtain ⟨k1, k2⟩ := hs
      dsimp only at k1 k2 ⊢
      obtain ⟨n, n1, n2, n3⟩ := hit
      have hm := (k2 n n1 (by omega) n3).1
      refine M.o_f (by rw [hm]; rfl) (M.o_pure ⟨rfl, (k1 hm).1, (k1 hm).2.2, fun n h1 h2 hh => ?_⟩)
      exact (k2 n h1 (by omega) hh).2
end
end Go.Proofs.Ytlemgioaakecpaa
namespace Go.Nm
namespace Fl
theorem Rows.snoc : ∀ {l : List FRow} {a : FRow}, Rows l -> (∀ e ∈ l, e.stage < a.stage /\ e.carry <= a.carry) -> 0 <= a.stage -> a.stage <= 2000 -> 0 <= a.carry -> a.carry <= 100000 -> Rows (l ++ [a])
  | [], _, _, _, h1, h2, h3, h4 => ⟨h1, h2, h3, h4⟩
  | [b], a, h, he, h1, h2, h3, h4 => by
    have := he b (by simp)
    exact ⟨h.1, this.1, h.2.2.1, this.2, h1, h2, h3, h4⟩
  | b :: c :: r, a, h, he, h1, h2, h3, h4 => by
    obtain ⟨k1, k2, k3, k4, k5⟩ := h
    exact ⟨k1, k2, k3, k4, k5.snoc (fun e hh => he e (by simp [List.mem_cons.1 hh])) h1 h2 h3 h4⟩
/-- A site with what really was: stages that fall downstream, marks about them, and roughness that is allowed. -/
structure Truth (S : List Sect) (M : List Mrk) (R : List Rch) (t ro : List Int) : Prop where
  site : Site S M R
  m8 : M.length <= 8
  tl : t.length = S.length
  rl : ro.length = S.length
  tr : ∀ i, i < S.length -> 0 <= t.getD i 0 /\ t.getD i 0 <= 2000
  td : ∀ i j, i <= j -> j < S.length -> t.getD j 0 <= t.getD i 0
  gap : ∀ i j, i < j -> j < S.length -> (S.getD i default).place + 21 <= (S.getD j default).place
  mt : ∀ m ∈ M, ∃ j, j < S.length /\ (S.getD j default).place <= m.place /\ m.place <= (S.getD j default).place + 19 /\ m.lo <= t.getD j 0 /\ t.getD j 0 <= m.hi
  ro0 : ∀ i, i < S.length -> 1 <= ro.getD i 0 /\ ro.getD i 0 <= 400
  rt : ∀ r ∈ R, r.lo <= ro.getD (Int.toNat r.up) 0 /\ r.lo <= ro.getD (Int.toNat r.down) 0 /\ ro.getD (Int.toNat r.up) 0 <= r.hi /\ ro.getD (Int.toNat r.down) 0 <= r.hi
section
variable {S : List Sect} {M : List Mrk} {R : List Rch} {t ro : List Int} {ms : List Int}
theorem Truth.no (h : Truth S M R t ro) {a b : Mrk} (ha : a ∈ M) (hb : b ∈ M) : ¬(a.place <= b.place /\ a.hi < b.lo) := by
  rintro ⟨h1, h2⟩
  obtain ⟨i, i1, i2, i3, i4, i5⟩ := h.mt a ha
  obtain ⟨j, j1, j2, j3, j4, j5⟩ := h.mt b hb
  by_cases e : i <= j
  · have := h.td i j e j1
    omega
  · have := h.gap j i (by omega) i1
    omega
theorem Truth.tog (h : Truth S M R t ro) (hx : Ixs M ms) : Tog M ms := fun a ha b hb => by
  have h1 := hx a ha
  have h2 := hx b hb
  have l1 : Int.toNat a < M.length := by omega
  have l2 : Int.toNat b < M.length := by omega
  rw [getD_el M l1, getD_el M l2]
  exact h.no (List.getElem_mem l1) (List.getElem_mem l2)
/-- The stage that really was lies between what the marks leave. -/
theorem Truth.bet (h : Truth S M R t ro) (hx : Ixs M ms) {i : Nat} (hi : i < S.length) : stLo M ms (S.getD i default).place <= t.getD i 0 /\ t.getD i 0 <= stHi M ms (S.getD i default).place := by
  have key : ∀ k ∈ ms, ∃ j, j < S.length /\ (S.getD j default).place <= (M.getD (Int.toNat k) default).place /\ (M.getD (Int.toNat k) default).place <= (S.getD j default).place + 19 /\ (M.getD (Int.toNat k) default).lo <= t.getD j 0 /\ t.getD j 0 <= (M.getD (Int.toNat k) default).hi := fun k hk => by
    have h1 := hx k hk
    have l1 : Int.toNat k < M.length := by omega
    rw [getD_el M l1]
    exact h.mt _ (List.getElem_mem l1)
  have ht := h.tr i hi
  constructor
  · rcases stLo_ex (M := M) (p := (S.getD i default).place) ms with e | ⟨k, hk, hp, e⟩
    · omega
    · obtain ⟨j, j1, j2, j3, j4, j5⟩ := key k hk
      by_cases c : i <= j
      · have := h.td i j c j1
        omega
      · have := h.gap j i (by omega) hi
        omega
  · rcases stHi_ex (M := M) (p := (S.getD i default).place) ms with e | ⟨k, hk, hp, e⟩
    · omega
    · obtain ⟨j, j1, j2, j3, j4, j5⟩ := key k hk
      by_cases c : j <= i
      · have := h.td j i c hi
        omega
      · have := h.gap i j (by omega) j1
        omega
end
end Fl
end Go.Nm
namespace Go.Nm
open Go
/-- Whatever was known of memory is still so. -/
def Later (w w' : World) : Prop := ∀ (w0 : World) (L R : List Chunk), St w0 w L R -> St w0 w' L R
def RetE (R : Value -> World -> Prop) : Ending -> World -> Prop := fun e w => ∃ v, e = .returned v /\ R v w
/-- From here to the function's end, with nothing deferred so far. -/
def WB (P : Program) (fn : Func) (n : Nat) (c : Code) (R : Value -> World -> Prop) (σ : Env) (w : World) : Prop :=
  ∀ a, Fr [] n σ a -> c.wp P (bodyPostD P fn (RetE R)) a w
/-- The end of a function that has deferred a call which leaves memory as it was. -/
def bodyQd (P : Program) (fn : Func) (R : Value -> World -> Prop) : Post
  | .normal, σ, w | .ret, σ, w => ∀ w', Later w w' -> ∃ v, resE P fn σ w' v /\ R v w'
  | _, _, _ => False
section
variable {P : Program} {fn : Func} {n : Nat} {R : Value -> World -> Prop} {σ : Env} {w : World}
theorem ret_of_WB {f : FuncId} {c : Code} {args : Array Value}
    (hf : P.funcs[f]? = some fn) (hb : fn.body = some c) (hn : fn.ntmps = n) (hle' : Nat.ble args.size n = true)
    (h : WB P fn n c R (argE args) w) : Ret P f args w R := by
  have hle := Nat.le_of_ble_eq_true hle'
  subst hn
  refine calls_of_wp_defers hf hb (h _ ⟨rfl, ?_, fun k => ?_⟩)
  · simp; omega
  · simp only [argE, Array.getD_eq_getD_getElem?, Array.getElem?_append]
    by_cases hk : k < args.size
    · simp [hk]
    · rw [if_neg hk]
      simp only [Array.getElem?_replicate]
      have : args[k]? = none := by simp; omega
      rw [this]
      split <;> rfl
theorem WB.seq {x y : Code} (h : W P n x (thenQ (WB P fn n y R) (bodyQ P fn R)) σ w) : WB P fn n (.seq x y) R σ w := by
  intro a ha
  refine wp_seq (wp_mono ((wpIn_wide (n := 0)).1 (h [] a ha)) ?_)
  rintro e a' w' ⟨s, hs, h'⟩
  cases e with
  | normal => exact h' a' hs
  | ret =>
    obtain ⟨v, hr, hR⟩ := h'
    show Leaves P fn a'.tmps (RetE R) a'.defers .returning w'
    rw [hs.df]
    exact ⟨v, hr _ hs.get, v, rfl, hR⟩
  | _ => exact h'.elim
theorem WB.defer {id : Nat} {o1 o2 : Oper} {y : Code} {d : Nat} {v : Value} {fv : Fn} {cap : Array Value} {f : FuncId} {args : Array Value}
    (hd : Nat.blt d n = true) (hd1 : o1.dst = some d) (hg1 : o1.guard = none) (hd2 : o2.dst = none) (hg2 : o2.guard = none)
    (h1 : ∀ w, (execOp (ev σ) o1).run P w = .ok (.value v) w) (h2 : ∀ w, (execOp (ev (upd σ d v)) o2).run P w = .ok (.defer { target := .fn fv cap, args := #[] }) w)
    (hi : ∀ w, (invoke (.fn fv cap) #[]).run P w = .ok (.enter f args) w)
    (hc : ∀ w, CallsD P f args .returning w fun e u' w' => (∃ v, e = .returned v) /\ u' = .returning /\ Later w w')
    (hk : W P n y (bodyQd P fn R) (upd σ d v) w) : WB P fn n (.seq (.region id #[o1, o2] false) y) R σ w := by
  intro a ha
  refine wp_seq (wp_region ?_)
  have hd' : d < n := Nat.lt_of_lt_of_le (Nat.lt_succ_self d) (Nat.le_of_ble_eq_true hd)
  have h2' : (execOp (a.put (some d) v).eval o2).run P w = .ok (.defer { target := .fn fv cap, args := #[] }) w := by
    rw [(ha.put hd' v).eval]
    exact h2 w
  have hr : List.range (#[o1, o2] : Array Oper).size = [0, 1] := rfl
  rw [hr]
  simp only [wpOps, List.getElem?_toArray, List.getElem?_cons_zero, List.getElem?_cons_succ, Region.wanted, hg1, hg2, if_true, Oper.wp, ha.eval, h1, hd1, Oper.upon, h2', hd2]
  refine .inl (.inl ?_)
  have ha' : Fr [{ target := .fn fv cap, args := #[] }] n (upd σ d v) ({ a.put (some d) v with defers := { target := .fn fv cap, args := #[] } :: (a.put (some d) v).defers }.put none undef) := by
    have h3 := ha.put hd' v
    exact ⟨by show _ :: (a.put (some d) v).defers = _; rw [h3.df], h3.sz, h3.get⟩
  refine wp_mono ((wpIn_wide (n := 0)).1 (hk _ _ ha')) ?_
  rintro e a' w' ⟨s, hs, h'⟩
  have fin : (∀ w'', Later w' w'' -> ∃ v, resE P fn s w'' v /\ R v w'') -> Leaves P fn a'.tmps (RetE R) a'.defers .returning w' := fun h' => by
    rw [hs.df]
    refine leaves_cons (by simp) (hi w') ((hc w').mono ?_)
    rintro e u' w'' ⟨⟨v, rfl⟩, rfl, hl⟩
    obtain ⟨v', hr, hR⟩ := h' w'' hl
    exact ⟨v', hr _ hs.get, v', rfl, hR⟩
  cases e with
  | normal => exact fin h'
  | ret => exact fin h'
  | _ => exact h'.elim
theorem x_defer {x : Operand} {fv : Fn} {cap : Array Value} {ty : TypeId} {pos : String} {af : Array Edge} (hx : ev σ x = .func fv #[] cap) (w : World) :
    (execOp (ev σ) ⟨none, .defer { callee := .value x, args := #[], argTypes := #[] }, ty, pos, af, none⟩).run P w = .ok (.defer { target := .fn fv cap, args := #[] }) w := by
  simp [execOp, resolve, hx, Deferred.ofValue]
theorem x_invoke {f : FuncId} (hcf : CF P f) {cap : Array Value} (w : World) : (invoke (.fn (.func f) cap) #[]).run P w = .ok (.enter f cap) w := by
  simp [invoke, run_callFunc hcf]
end
end Go.Nm
namespace Go.Proofs.Ytlemgioaakecpaa
open Go Go.Nm
theorem ta_nil (w : World) : (Instr.typeAssert .nilIface 20 109 true).run Try.prog w = .ok (.tuple #[.agg #[I 0], .bool false]) w := by
  simp [Instr.typeAssert, go_sem]
set_option maxRecDepth 20000 in
theorem catch_idle (p q : Value) (w : World) : CallsD Try.prog 42 #[p, q] .returning w fun e u' w' => (∃ v, e = .returned v) /\ u' = .returning /\ Later w w' := by
  refine callsD_of_wpS Try.func42 rfl fun c₀ cs hu => ?_
  apply wpS_seq
  apply wpS_region
  simp [wpOpsS, go_sem, recoverD, hu, Exit.thenS, ta_nil]
  apply wpS_seq
  apply wpS_region
  simp [wpOpsS, go_sem, Exit.thenS]
  refine wpS_cond (t := false) (by simp [Act.eval, Array.replicate]) ?_
  simp only [Bool.false_eq_true, if_false]
  refine wpS_of_wp (wp_skip ?_)
  cases c₀
  simp_all [bodyPostS, results, Try.results42]
  exact fun w0 L R H => H.ext (New.alloc ..).ext
end Go.Proofs.Ytlemgioaakecpaa
section
set_option maxRecDepth 100000
set_option maxHeartbeats 16000000
namespace Go.Proofs.Ytlemgioaakecpaa
open Go Go.Nm
def zaC (a : Int) (ah : List Sect) (aa : List Mrk) (ai : List Rch) (ab : List Sect) (ac : List Mrk) (ae : List Rch) (aj : (Int × (List Sect) × (List Mrk) × (List Rch) × (List Sect) × (List Mrk) × (List Rch) × (Int -> Option Bool) × (List Int) × (List Int)) -> M (Bool × (Int -> Option Bool) × (List Int) × (List Int))) : (Nat × (Int -> Option Bool) × (List Int) × (List Int)) -> M ((Nat × (Int -> Option Bool) × (List Int) × (List Int)) ⊕ (((Int -> Option Bool) × (List Int) × (List Int)) ⊕ ((Int -> Option Bool) × (List Int) × (List Int)))) := fun (s, mp, s2, s3) =>
  bif decide ((s : Int) < (aa.length : Int)) then (
  M.bind (zaf ab ac ae a (s : Int)) fun r2 =>
  bif ((!r2) || ((mp (s : Int)).getD false)) then (
  M.pure (.inl (s + 1, mp, s2, s3)))
  else (
  M.grd (decide ((0 : Int) <= (s : Int)) && decide ((s : Int) < (16 : Int))) <|
  bif !((s3.getD s 0) == (-1)) then (
  M.bind (aj ((s3.getD s 0), ah, aa, ai, ab, ac, ae, (updF mp (s : Int) true), s2, s3)) fun (r3, ag, q0, q1) =>
  bif (((s3.getD s 0) == (-1)) || r3) then (
  M.grd (decide ((0 : Int) <= a) && decide (a < (16 : Int))) <|
  M.pure (.inr (.inl (ag, q0.set (Int.toNat a) (s : Int), q1.set s a))))
  else (
  M.pure (.inl (s + 1, ag, q0, q1))))
  else (
  bif (((s3.getD s 0) == (-1)) || false) then (
  M.grd (decide ((0 : Int) <= a) && decide (a < (16 : Int))) <|
  M.pure (.inr (.inl (updF mp (s : Int) true, s2.set (Int.toNat a) (s : Int), s3.set s a))))
  else (
  M.pure (.inl (s + 1, updF mp (s : Int) true, s2, s3))))))
  else (
  M.pure (.inr (.inr (mp, s2, s3))))
def zaB (aa : (Int × (List Sect) × (List Mrk) × (List Rch) × (List Sect) × (List Mrk) × (List Rch) × (Int -> Option Bool) × (List Int) × (List Int)) -> M (Bool × (Int -> Option Bool) × (List Int) × (List Int))) : (Int × (List Sect) × (List Mrk) × (List Rch) × (List Sect) × (List Mrk) × (List Rch) × (Int -> Option Bool) × (List Int) × (List Int)) -> M (Bool × (Int -> Option Bool) × (List Int) × (List Int)) := fun (a, ab, ac, ae, ag, ah, ai, aj, ak, al) =>
  M.bind (M.iter (zaC a ab ac ae ag ah ai aa) (0, aj, ak, al)) fun x_ => match x_ with
  | (.inl (am, l, l2)) => (
  M.pure (true, am, l, l2))
  | (.inr (ao, l3, l4)) => (
  M.pure (false, ao, l3, l4))
theorem zcE : M.Mon zaB := by
  intro n f g h a
  obtain ⟨a, aa, ab, ac, ae, ag, ah, ai, aj, ak⟩ := a
  simp only [zaB, zaC]
  repeat' (first | exact M.le_same _ _ | exact h _ | refine M.le_grd ?_ | refine M.le_if ?_ ?_ | refine M.le_bind ?_ (fun x => ?_) | refine M.le_opt ?_ | refine M.le_iter (fun x => ?_) _ | refine zcP (M.le_yl (fun s_ a_ => ?_)) _ _ _ | (rename_i x; cases x) | (rename_i x; obtain ⟨_, _⟩ := x))
def zbp (a : Int) (aa : List Sect) (ab : List Mrk) (ac : List Rch) (ae : List Sect) (ag : List Mrk) (ah : List Rch) (ai : Int -> Option Bool) (aj : List Int) (ak : List Int) : M (Bool × (Int -> Option Bool) × (List Int) × (List Int)) := M.fix zaB zcE (a, aa, ab, ac, ae, ag, ah, ai, aj, ak)
theorem zcH (n_ : Nat) : ∀ {R : List Chunk} {am : Nat} {ag : Nat} {aM : Cells} {aN : Value} {aO : Cells} {aC : Value} {aP : Cells} {aQ : Value} {bh : Nat} {aj : Nat} {aw : Nat} {aR : Cells} {aS : Value} {aT : Cells} {aU : Value} {aV : Cells} {aW : Value} {bi : Nat} {ah : Nat} {ab : Nat} {ac : Nat} {aa : Nat} {ak : Nat} (a : Int) (ax : List Sect) (ai : List Mrk) (ay : List Rch) (aq : List Sect) (au : List Mrk) (av : List Rch) (aD : Int -> Option Bool) (az : List Int) (aA : List Int) (bj : Reads R aM) (bm : Sl aM aN ax) (bn : Reads R aO) (aE : Sl aO aC ai) (bo : Reads R aP) (bp : Sl aP aQ ay) (aX : Has R (cBlk ag [aN, aC, aQ, .map (some bh)] 99)) (aY : Has R (cBlk am [Pq ag] 72)) (aZ : Reads R aR) (a6 : Sl aR aS aq) (a7 : Reads R aT) (a8 : Sl aT aU au) (ba : Reads R aV) (bb : Sl aV aW av) (bc : Has R (cBlk aw [aS, aU, aW, .map (some bi)] 99)) (bf : Has R (cBlk aj [.func (.func 23) #[Pq aw] #[]] 77)) (aF : Has R (cBlk ah [.map (some ab)] 133)) (bq : az.length = 16) (br : aA.length = 16) (al : Has R (cBlk ac [Pq aa] 100)) (bg : Has R (cBlk ak [.func (.func 64) #[] #[Pq am, Pq aj, Pq ah, Pq ac, Pq ak]] 118)) {r : (Bool × (Int -> Option Bool) × (List Int) × (List Int))} (hM : (M.fixN zaB n_ (a, ax, ai, ay, aq, au, av, aD, az, aA)).Ends r) (w : World) (H : St w w [cMap I B ab aD, cBlk aa (List.flatten [[], encF (α := Int) az, encF (α := Int) aA]) 104] R), Ret Try.prog 64 #[I a, Pq am, Pq aj, Pq ah, Pq ac, Pq ak] w fun v w' => ∃ (y0 : Bool) (y1 : Int -> Option Bool) (y2 : List Int) (y3 : List Int), (y0, y1, y2, y3) = r /\ v = B y0 /\ St w w' [cMap I B ab y1, cBlk aa (List.flatten [[], encF (α := Int) y2, encF (α := Int) y3]) 104] R /\ y2.length = 16 /\ y3.length = 16 := by
  induction n_ with
  | zero => intro R am ag aM aN aO aC aP aQ bh aj aw aR aS aT aU aV aW bi ah ab ac aa ak a ax ai ay aq au av aD az aA bj bm bn aE bo bp aX aY aZ a6 a7 a8 ba bb bc bf aF bq br al bg r hM w H; exact (M.e_fail hM).elim
  | succ n_ ih =>
    intro R am ag aM aN aO aC aP aQ bh aj aw aR aS aT aU aV aW bi ah ab ac aa ak a ax ai ay aq au av aD az aA bj bm bn aE bo bp aX aY aZ a6 a7 a8 ba bb bc bf aF bq br al bg r hM w H
    refine ret_of_W Try.func64 rfl rfl rfl ?_
    refine W.seq ?_
    refine W.region rfl ?_
    refine zA (B false) rfl ?_
    refine s_nil ?_
    refine W.seq ?_
    refine W.seq ?_
    refine W.region rfl ?_
    refine s_val (x_ld (p := Pq am) (v := Pq ag) rfl (ldb_sc Sc72 (aY.blk H) rfl)) ?_
    refine s_val (x_nc (a := ⟨ag, 0, none⟩) rfl) ?_
    refine s_val (x_fa (a := Pq ag) (v := Pq ag) rfl (fa_blk (o := 0) Fd99_0 Sz27)) ?_
    refine s_val (x_fa (a := Pq ag) (v := Oq ag 1) rfl (fa_blk (o := 0) Fd27_1 Sz24)) ?_
    refine s_val (x_ld (p := Oq ag 1) (v := aC) rfl (ldb_sc Sc24 (aX.blk H) rfl)) ?_
    have bT := (aE).len_le
    refine s_val (x_lenS T24.und rfl aE) ?_
    refine zM (I 0) rfl ?_
    refine s_nil ?_
    refine W.block ?_
    obtain ⟨bG, bt, bu⟩ := M.e_bind hM
    obtain ⟨bU, bt⟩ := M.e_iter bt
    refine W.loop (fun m σ W => ∃ (s : Nat) (mp : Int -> Option Bool) (s2 : List Int) (s3 : List Int) (ρ : Env), σ = upds ρ [(0, I a), (2, Pq aj), (3, Pq ah), (4, Pq ac), (5, Pq ak), (14, I (ai.length : Int)), (15, I (s : Int))] /\ M.iterN (zaC a ax ai ay aq au av (M.fixN zaB n_)) m (s, mp, s2, s3) = some bG /\ St w W [cMap I B ab mp, cBlk aa (List.flatten [[], encF (α := Int) s2, encF (α := Int) s3]) 104] R /\ s2.length = 16 /\ s3.length = 16) ?_ ?_
    ·exact ⟨_, 0, aD, az, aA, _, upds_of _ _ ⟨rfl, rfl, rfl, rfl, rfl, rfl, rfl, trivial⟩, bt, H, bq, br⟩
    rintro bV σ bW ⟨s, mp, s2, s3, ρ, rfl, bD, H, ao, ap⟩
    obtain ⟨bv, bw, bX, hM, aB⟩ := M.e_iterN bD
    simp only [zaC] at hM
    clear bD
    refine W.seq ?_
    refine W.region rfl ?_
    refine zC (s : Int) (ai.length : Int) (decide ((s : Int) < (ai.length : Int))) rfl rfl rfl ?_
    refine s_nil ?_
    refine W.seq ?_
    refine W.cond (decide ((s : Int) < (ai.length : Int))) rfl (fun aG => ?_) (fun aG => ?_)
    ·replace hM := M.e_t hM aG
     simp only [qy1, qy2, qy3, qy4, qy5, qy6, ne_eq, qy7] at aG
     refine W.skip ?_
     refine W.seq ?_
     refine W.block ?_
     refine W.seq ?_
     refine W.region rfl ?_
     refine zM (I (s : Int)) rfl ?_
     refine zA (I (s : Int)) rfl ?_
     refine s_nil ?_
     refine W.seq ?_
     refine W.seq ?_
     refine W.region rfl ?_
     refine s_val (x_ld (p := Pq aj) (v := .func (.func 23) #[Pq aw] #[]) rfl (ldb_sc Sc77 (bf.blk H) rfl)) ?_
     refine zM (I a) rfl ?_
     refine zM (I (s : Int)) rfl ?_
     obtain ⟨bY, bH, hM⟩ := M.e_bind hM
     refine s_callm (f := 23) (fs := [Pq aw]) rfl cf23 [I a, I (s : Int)] rfl (zas aq au av a (s : Int) (aZ.app _) a6 (a7.app _) a8 (ba.app _) bb (bc.app _) bH _ (H.gt 2)) ?_
     rintro vq bZ ⟨r2, bI, hvq, aH⟩
     subst bI
     subst vq
     try dsimp only at hM
     replace H := H.bk aH
     clear aH
     refine s_val (x_not (b := r2) rfl) ?_
     refine zM (B (!r2)) rfl ?_
     refine g_val (!(!r2)) (gy_f rfl) (fun hg => x_ld (p := Pq ah) (v := .map (some ab)) rfl (ldb_sc Sc133 (aF.blk H) rfl)) ?_
     refine g_val (!(!r2)) (gy_f rfl) (fun hg => x_mv (v := I (s : Int)) rfl) ?_
     refine g_val (!(!r2)) (gy_f rfl) (fun hg => q_look (kenc := I) (venc := B) (f := mp) (k := (s : Int)) (v := B ((mp (s : Int)).getD false)) keyIntB Try.underlying133 Al4 (by exact (gd_of (c := !(!r2)) hg (.map (some ab)))) (by exact (gd_of (c := !(!r2)) hg (I (s : Int)))) (H.get (k := 0) rfl) false (by rw [if_neg (by decide), bool_val])) ?_
     refine s_val (x_por (b := !r2) (r := (mp (s : Int)).getD false) rfl rfl (fun hb => gd_of (c := !(!r2)) (by first | exact hb | (rw [hb]; rfl) | simp_all) (B ((mp (s : Int)).getD false)))) ?_
     refine s_nil ?_
     refine W.cond ((!r2) || ((mp (s : Int)).getD false)) rfl (fun bx => ?_) (fun bx => ?_)
     ·replace hM := M.e_t hM bx
      refine W.exit ?_
      refine W.region rfl ?_
      refine zR (s : Int) 1 ((s : Int) + 1) rfl rfl rfl (by omega) ?_
      refine zM (I ((s : Int) + 1)) rfl ?_
      refine s_nil ?_
      exact ⟨bv, bw, s + 1, mp, s2, s3, _, upds_of _ _ ⟨rfl, rfl, rfl, rfl, rfl, rfl, rfl, trivial⟩, M.e_inl hM aB, H, ao, ap⟩
     replace hM := M.e_f hM bx
     refine W.skip ?_
     refine W.seq ?_
     refine W.region rfl ?_
     refine s_val (x_ld (p := Pq ah) (v := .map (some ab)) rfl (ldb_sc Sc133 (aF.blk H) rfl)) ?_
     refine zM (I (s : Int)) rfl ?_
     refine t_mapu (i := 0) (kenc := I) (venc := B) (f := mp) (k := (s : Int)) (v := true) (L' := [cMap I B ab (updF mp (s : Int) true), cBlk aa (List.flatten [[], encF (α := Int) s2, encF (α := Int) s3]) 104]) keyIntB Try.underlying133 H rfl rfl rfl rfl rfl ?_
     intro b3 H
     refine s_nil ?_
     refine W.seq ?_
     refine W.draw (fun W => St w W [] R) [(0, true), (1, true), (2, true), (3, true), (4, true), (5, false), (6, true), (7, true), (8, true), (9, true), (10, true), (11, true), (12, true), (13, true), (14, false), (15, false), (16, true)] mixed (by decide +kernel) rfl ?_
     intro b4 ae
     replace H := H.ext ae
     clear ae
     refine ⟨(H.pk []), ?_⟩
     refine d_q rfl (fun w' H => x_ld (p := Pq ac) (v := Pq aa) rfl (ldb_sc Sc100 (al.blk H) rfl)) ?_
     refine d_q rfl (fun w' H => x_mv (v := I (s : Int)) rfl) ?_
     refine d_q rfl (fun w' H => x_nc (a := ⟨aa, 0, none⟩) rfl) ?_
     refine d_q rfl (fun w' H => x_fa (a := Pq aa) (v := Oq aa 16) rfl (fa_blk (o := 0) Fd104_1 Sz102)) ?_
     obtain ⟨bJ, hM⟩ := M.e_grd hM
     simp only [Bool.and_eq_true, decide_eq_true_eq] at bJ
     refine d_q rfl (fun w' H => x_ix (a := Oq aa 16) (b := I (s : Int)) (v := .pointer (some ⟨aa, 16 + Int.toNat (s : Int) * 1, none⟩)) rfl rfl (run_indexS Try.underlying102 Sz3 (by omega) (by omega))) ?_
     refine d_l rfl ?_
     refine s_val (x_ld (p := .pointer (some ⟨aa, 16 + Int.toNat (s : Int) * 1, none⟩)) (v := I (s3.getD s 0)) rfl (ldS (α := Int) (k := 2) (off := 16) (i := s) (f := 0) (sz := 1) 0 Sc3 (H.bl 1) rfl (sgo2 ao rfl) rfl (by decide) (by have aI := ap; omega) (by omega) rfl)) ?_
     refine s_nil ⟨(H.pk []), ?_⟩
     refine d_q rfl (fun w' H => x_cmp (kd := .i64) (a := s3.getD s 0) (b := -1) (r := (s3.getD s 0) == (-1)) rfl rfl rfl) ?_
     refine d_q rfl (fun w' H => x_mv (v := B ((s3.getD s 0) == (-1))) rfl) ?_
     refine d_qg (!((s3.getD s 0) == (-1))) rfl (gy_f rfl) (fun hg => (fun w' H => x_ld (p := Pq ak) (v := .func (.func 64) #[] #[Pq am, Pq aj, Pq ah, Pq ac, Pq ak]) rfl (ldb_sc Sc118 (bg.blk H) rfl))) ?_
     refine d_qg (!((s3.getD s 0) == (-1))) rfl (gy_f rfl) (fun hg => (fun w' H => x_ld (p := Pq ac) (v := Pq aa) rfl (ldb_sc Sc100 (al.blk H) rfl))) ?_
     refine d_qg (!((s3.getD s 0) == (-1))) rfl (gy_f rfl) (fun hg => (fun w' H => x_mv (v := I (s : Int)) rfl)) ?_
     refine d_qg (!((s3.getD s 0) == (-1))) rfl (gy_f rfl) (fun hg => (fun w' H => x_nc (a := ⟨aa, 0, none⟩) (gd_of (c := !((s3.getD s 0) == (-1))) hg (Pq aa)))) ?_
     refine d_qg (!((s3.getD s 0) == (-1))) rfl (gy_f rfl) (fun hg => (fun w' H => x_fa (a := Pq aa) (v := Oq aa 16) (gd_of (c := !((s3.getD s 0) == (-1))) hg (Pq aa)) (fa_blk (o := 0) Fd104_1 Sz102))) ?_
     refine d_qg (!((s3.getD s 0) == (-1))) rfl (gy_f rfl) (fun hg => (fun w' H => x_ix (a := Oq aa 16) (b := I (s : Int)) (v := .pointer (some ⟨aa, 16 + Int.toNat (s : Int) * 1, none⟩)) (gd_of (c := !((s3.getD s 0) == (-1))) hg (Oq aa 16)) (gd_of (c := !((s3.getD s 0) == (-1))) hg (I (s : Int))) (run_indexS Try.underlying102 Sz3 (by first | omega | (have ae := hg; simp at ae; omega)) (by first | omega | (have ae := hg; simp at ae; omega))))) ?_
     refine d_l rfl ?_
     refine g_val (!((s3.getD s 0) == (-1))) (gy_f rfl) (fun hg => x_ld (p := .pointer (some ⟨aa, 16 + Int.toNat (s : Int) * 1, none⟩)) (v := I (s3.getD s 0)) (gd_of (c := !((s3.getD s 0) == (-1))) hg (.pointer (some ⟨aa, 16 + Int.toNat (s : Int) * 1, none⟩))) (ldS (α := Int) (k := 2) (off := 16) (i := s) (f := 0) (sz := 1) 0 Sc3 (H.bl 1) rfl (sgo2 ao rfl) rfl (by decide) (by have aI := ap; first | omega | (have ae := hg; simp at ae; omega)) (by omega) rfl)) ?_
     refine s_nil ⟨(H.pk []), ?_⟩
     refine d_l rfl ?_
     refine g_splitV (!((s3.getD s 0) == (-1))) (B false) (gy_f rfl) (fun aJ => ?_) (fun aJ => ?_)
     ·replace hM := M.e_t hM aJ
      obtain ⟨b5, bK, hM⟩ := M.e_bind hM
      refine s_callv (f := 64) (by exact (gd_of (c := !((s3.getD s 0) == (-1))) aJ (.func (.func 64) #[] #[Pq am, Pq aj, Pq ah, Pq ac, Pq ak]))) cf64 [I (s3.getD s 0)] (by exact (lst1 (gd_of (c := !((s3.getD s 0) == (-1))) aJ (I (s3.getD s 0))))) (ih (s3.getD s 0) ax ai ay aq au av (updF mp (s : Int) true) s2 s3 (bj.app _) bm (bn.app _) aE (bo.app _) bp (aX.app _) (aY.app _) (aZ.app _) a6 (a7.app _) a8 (ba.app _) bb (bc.app _) (bf.app _) (aF.app _) ao ap (al.app _) (bg.app _) bK _ (H.gt 0)) ?_
      rintro vq b6 ⟨r3, aK, q0, q1, bL, hvq, aH, bz, bA⟩
      subst bL
      subst vq
      try dsimp only at hM
      replace H := H.bk aH
      clear aH
      refine s_nil ⟨(H.pk []), ?_⟩
      refine d_q rfl (fun w' H => x_por (b := (s3.getD s 0) == (-1)) (r := r3) rfl rfl (fun _ => rfl)) ?_
      refine d_nil ?_
      refine W.cond (((s3.getD s 0) == (-1)) || r3) rfl (fun bB => ?_) (fun bB => ?_)
      ·replace hM := M.e_t hM bB
       refine W.seq ?_
       refine W.draw (fun W => St w W [cMap I B ab aK] R) [(0, true), (1, true), (2, true), (3, true), (4, true), (5, true), (6, true), (7, true), (8, true), (10, true), (11, true), (9, false), (12, true), (13, false)] mixed (by decide +kernel) rfl ?_
       intro b7 ae
       replace H := H.ext ae
       clear ae
       refine ⟨(H.pk [0]), ?_⟩
       refine d_q rfl (fun w' H => x_ld (p := Pq ac) (v := Pq aa) rfl (ldb_sc Sc100 (al.blk H) rfl)) ?_
       refine d_q rfl (fun w' H => x_mv (v := I a) rfl) ?_
       refine d_q rfl (fun w' H => x_ld (p := Pq ac) (v := Pq aa) rfl (ldb_sc Sc100 (al.blk H) rfl)) ?_
       refine d_q rfl (fun w' H => x_mv (v := I (s : Int)) rfl) ?_
       refine d_q rfl (fun w' H => x_mv (v := I (s : Int)) rfl) ?_
       refine d_q rfl (fun w' H => x_mv (v := I a) rfl) ?_
       refine d_q rfl (fun w' H => x_nc (a := ⟨aa, 0, none⟩) rfl) ?_
       refine d_q rfl (fun w' H => x_fa (a := Pq aa) (v := Pq aa) rfl (fa_blk (o := 0) Fd104_0 Sz102)) ?_
       obtain ⟨bM, hM⟩ := M.e_grd hM
       simp only [Bool.and_eq_true, decide_eq_true_eq] at bM
       refine d_q rfl (fun w' H => x_ix (a := Pq aa) (b := I a) (v := .pointer (some ⟨aa, 0 + Int.toNat a * 1, none⟩)) rfl rfl (run_indexS Try.underlying102 Sz3 (by omega) (by omega))) ?_
       refine d_q rfl (fun w' H => x_nc (a := ⟨aa, 0, none⟩) rfl) ?_
       refine d_q rfl (fun w' H => x_fa (a := Pq aa) (v := Oq aa 16) rfl (fa_blk (o := 0) Fd104_1 Sz102)) ?_
       refine d_l rfl ?_
       refine t_stS (α := Int) (kc := 1) (b := aa) (k := 1) (off := 0) (i := (Int.toNat a)) (f := 0) (sz := 1) (segs := [[], encF (α := Int) q0, encF (α := Int) q1]) (segs' := [[], encF (α := Int) (q0.set (Int.toNat a) (s : Int)), encF (α := Int) q1]) (l := q0) (l' := q0.set (Int.toNat a) (s : Int)) (vs := [I (s : Int)]) (L' := [cMap I B ab aK, cBlk aa (List.flatten [[], encF (α := Int) (q0.set (Int.toNat a) (s : Int)), encF (α := Int) q1]) 104]) H rfl rfl rfl Sz3 rfl rfl rfl rfl (sgo1 rfl) rfl rfl (by have aI := bz; omega) (by omega) 0 (s : Int) rfl rfl rfl rfl ?_
       intro b8 H
       have bE : (q0.set (Int.toNat a) (s : Int)).length = 16 := List.length_set.trans bz
       refine s_nil ⟨(H.pk [0]), ?_⟩
       refine d_q rfl (fun w' H => x_ix (a := Oq aa 16) (b := I (s : Int)) (v := .pointer (some ⟨aa, 16 + Int.toNat (s : Int) * 1, none⟩)) rfl rfl (run_indexS Try.underlying102 Sz3 (by omega) (by omega))) ?_
       refine d_l rfl ?_
       refine t_stS (α := Int) (kc := 1) (b := aa) (k := 2) (off := 16) (i := s) (f := 0) (sz := 1) (segs := [[], encF (α := Int) (q0.set (Int.toNat a) (s : Int)), encF (α := Int) q1]) (segs' := [[], encF (α := Int) (q0.set (Int.toNat a) (s : Int)), encF (α := Int) (q1.set s a)]) (l := q1) (l' := q1.set s a) (vs := [I a]) (L' := [cMap I B ab aK, cBlk aa (List.flatten [[], encF (α := Int) (q0.set (Int.toNat a) (s : Int)), encF (α := Int) (q1.set s a)]) 104]) H rfl rfl rfl Sz3 rfl rfl rfl rfl (sgo2 bE rfl) rfl rfl (by have aI := bA; omega) (by omega) 0 a rfl rfl rfl rfl ?_
       intro b9 H
       have bN : (q1.set s a).length = 16 := List.length_set.trans bA
       refine s_nil ⟨(H.pk [0]), ?_⟩
       refine d_nil ?_
       refine W.seq ?_
       refine W.region rfl ?_
       refine zA (B true) rfl ?_
       refine s_nil ?_
       refine W.ret ?_
       have bO := M.e_inr hM aB
       subst bO
       replace hM := bu
       try dsimp only at hM
       have aL := M.e_pure hM
       exact ⟨_, resE_tmp rfl, ⟨true, aK, (q0.set (Int.toNat a) (s : Int)), (q1.set s a), aL, rfl, H, bE, bN⟩⟩
      replace hM := M.e_f hM bB
      refine W.skip ?_
      refine W.region rfl ?_
      refine zR (s : Int) 1 ((s : Int) + 1) rfl rfl rfl (by omega) ?_
      refine zM (I ((s : Int) + 1)) rfl ?_
      refine s_nil ?_
      exact ⟨bv, bw, s + 1, aK, q0, q1, _, upds_of _ _ ⟨rfl, rfl, rfl, rfl, rfl, rfl, rfl, trivial⟩, M.e_inl hM aB, H, bz, bA⟩
     replace hM := M.e_f hM aJ
     refine s_nil ⟨(H.pk []), ?_⟩
     refine d_q rfl (fun w' H => x_por (b := (s3.getD s 0) == (-1)) (r := false) rfl rfl (fun hb => gd_of (c := !((s3.getD s 0) == (-1))) (by first | exact hb | (rw [hb]; rfl) | simp_all) (B false))) ?_
     refine d_nil ?_
     refine W.cond (((s3.getD s 0) == (-1)) || false) rfl (fun bC => ?_) (fun bC => ?_)
     ·replace hM := M.e_t hM bC
      refine W.seq ?_
      refine W.draw (fun W => St w W [cMap I B ab (updF mp (s : Int) true)] R) [(0, true), (1, true), (2, true), (3, true), (4, true), (5, true), (6, true), (7, true), (8, true), (10, true), (11, true), (9, false), (12, true), (13, false)] mixed (by decide +kernel) rfl ?_
      intro cb ae
      replace H := H.ext ae
      clear ae
      refine ⟨(H.pk [0]), ?_⟩
      refine d_q rfl (fun w' H => x_ld (p := Pq ac) (v := Pq aa) rfl (ldb_sc Sc100 (al.blk H) rfl)) ?_
      refine d_q rfl (fun w' H => x_mv (v := I a) rfl) ?_
      refine d_q rfl (fun w' H => x_ld (p := Pq ac) (v := Pq aa) rfl (ldb_sc Sc100 (al.blk H) rfl)) ?_
      refine d_q rfl (fun w' H => x_mv (v := I (s : Int)) rfl) ?_
      refine d_q rfl (fun w' H => x_mv (v := I (s : Int)) rfl) ?_
      refine d_q rfl (fun w' H => x_mv (v := I a) rfl) ?_
      refine d_q rfl (fun w' H => x_nc (a := ⟨aa, 0, none⟩) rfl) ?_
      refine d_q rfl (fun w' H => x_fa (a := Pq aa) (v := Pq aa) rfl (fa_blk (o := 0) Fd104_0 Sz102)) ?_
      obtain ⟨bP, hM⟩ := M.e_grd hM
      simp only [Bool.and_eq_true, decide_eq_true_eq] at bP
      refine d_q rfl (fun w' H => x_ix (a := Pq aa) (b := I a) (v := .pointer (some ⟨aa, 0 + Int.toNat a * 1, none⟩)) rfl rfl (run_indexS Try.underlying102 Sz3 (by omega) (by omega))) ?_
      refine d_q rfl (fun w' H => x_nc (a := ⟨aa, 0, none⟩) rfl) ?_
      refine d_q rfl (fun w' H => x_fa (a := Pq aa) (v := Oq aa 16) rfl (fa_blk (o := 0) Fd104_1 Sz102)) ?_
      refine d_l rfl ?_
      refine t_stS (α := Int) (kc := 1) (b := aa) (k := 1) (off := 0) (i := (Int.toNat a)) (f := 0) (sz := 1) (segs := [[], encF (α := Int) s2, encF (α := Int) s3]) (segs' := [[], encF (α := Int) (s2.set (Int.toNat a) (s : Int)), encF (α := Int) s3]) (l := s2) (l' := s2.set (Int.toNat a) (s : Int)) (vs := [I (s : Int)]) (L' := [cMap I B ab (updF mp (s : Int) true), cBlk aa (List.flatten [[], encF (α := Int) (s2.set (Int.toNat a) (s : Int)), encF (α := Int) s3]) 104]) H rfl rfl rfl Sz3 rfl rfl rfl rfl (sgo1 rfl) rfl rfl (by have aI := ao; omega) (by omega) 0 (s : Int) rfl rfl rfl rfl ?_
      intro cc H
      have bF : (s2.set (Int.toNat a) (s : Int)).length = 16 := List.length_set.trans ao
      refine s_nil ⟨(H.pk [0]), ?_⟩
      refine d_q rfl (fun w' H => x_ix (a := Oq aa 16) (b := I (s : Int)) (v := .pointer (some ⟨aa, 16 + Int.toNat (s : Int) * 1, none⟩)) rfl rfl (run_indexS Try.underlying102 Sz3 (by omega) (by omega))) ?_
      refine d_l rfl ?_
      refine t_stS (α := Int) (kc := 1) (b := aa) (k := 2) (off := 16) (i := s) (f := 0) (sz := 1) (segs := [[], encF (α := Int) (s2.set (Int.toNat a) (s : Int)), encF (α := Int) s3]) (segs' := [[], encF (α := Int) (s2.set (Int.toNat a) (s : Int)), encF (α := Int) (s3.set s a)]) (l := s3) (l' := s3.set s a) (vs := [I a]) (L' := [cMap I B ab (updF mp (s : Int) true), cBlk aa (List.flatten [[], encF (α := Int) (s2.set (Int.toNat a) (s : Int)), encF (α := Int) (s3.set s a)]) 104]) H rfl rfl rfl Sz3 rfl rfl rfl rfl (sgo2 bF rfl) rfl rfl (by have aI := ap; omega) (by omega) 0 a rfl rfl rfl rfl ?_
      intro ce H
      have bQ : (s3.set s a).length = 16 := List.length_set.trans ap
      refine s_nil ⟨(H.pk [0]), ?_⟩
      refine d_nil ?_
      refine W.seq ?_
      refine W.region rfl ?_
      refine zA (B true) rfl ?_
      refine s_nil ?_
      refine W.ret ?_
      have bR := M.e_inr hM aB
      subst bR
      replace hM := bu
      try dsimp only at hM
      have aL := M.e_pure hM
      exact ⟨_, resE_tmp rfl, ⟨true, (updF mp (s : Int) true), (s2.set (Int.toNat a) (s : Int)), (s3.set s a), aL, rfl, H, bF, bQ⟩⟩
     replace hM := M.e_f hM bC
     refine W.skip ?_
     refine W.region rfl ?_
     refine zR (s : Int) 1 ((s : Int) + 1) rfl rfl rfl (by omega) ?_
     refine zM (I ((s : Int) + 1)) rfl ?_
     refine s_nil ?_
     exact ⟨bv, bw, s + 1, updF mp (s : Int) true, s2, s3, _, upds_of _ _ ⟨rfl, rfl, rfl, rfl, rfl, rfl, rfl, trivial⟩, M.e_inl hM aB, H, ao, ap⟩
    replace hM := M.e_f hM aG
    simp only [qy1, qy2, qy3, qy4, qy5, qy6, ne_eq, qy7] at aG
    refine W.exit ?_
    have bS := M.e_inr hM aB
    subst bS
    replace hM := bu
    try dsimp only at hM
    refine W.seq ?_
    refine W.region rfl ?_
    refine zA (B false) rfl ?_
    refine s_nil ?_
    refine W.ret ?_
    have aL := M.e_pure hM
    exact ⟨_, resE_tmp rfl, ⟨false, mp, s2, s3, aL, rfl, H, ao, ap⟩⟩
theorem zc6 {R : List Chunk} {ac : Nat} {aw : Nat} {ax : Cells} {ay : Value} {az : Cells} {aA : Value} {aB : Cells} {aC : Value} {aK : Nat} {ae : Nat} {aD : Nat} {aE : Cells} {aF : Value} {aG : Cells} {aH : Value} {aI : Cells} {aJ : Value} {aL : Nat} {ag : Nat} {ah : Nat} {ai : Nat} {aj : Nat} {ak : Nat} (a : Int) (al : List Sect) (am : List Mrk) (ao : List Rch) (ap : List Sect) (aq : List Mrk) (au : List Rch) (av : Int -> Option Bool) (aa : List Int) (ab : List Int) (aM : Reads R ax) (aN : Sl ax ay al) (aO : Reads R az) (aP : Sl az aA am) (aQ : Reads R aB) (aR : Sl aB aC ao) (aS : Has R (cBlk aw [ay, aA, aC, .map (some aK)] 99)) (aT : Has R (cBlk ac [Pq aw] 72)) (aU : Reads R aE) (aV : Sl aE aF ap) (aW : Reads R aG) (aX : Sl aG aH aq) (aY : Reads R aI) (aZ : Sl aI aJ au) (a6 : Has R (cBlk aD [aF, aH, aJ, .map (some aL)] 99)) (a7 : Has R (cBlk ae [.func (.func 23) #[Pq aD] #[]] 77)) (a8 : Has R (cBlk ag [.map (some ah)] 133)) (ba : aa.length = 16) (bb : ab.length = 16) (bc : Has R (cBlk ai [Pq aj] 100)) (bf : Has R (cBlk ak [.func (.func 64) #[] #[Pq ac, Pq ae, Pq ag, Pq ai, Pq ak]] 118)) {r : (Bool × (Int -> Option Bool) × (List Int) × (List Int))} (hM : (zbp a al am ao ap aq au av aa ab).Ends r) (w : World) (H : St w w [cMap I B ah av, cBlk aj (List.flatten [[], encF (α := Int) aa, encF (α := Int) ab]) 104] R) : Ret Try.prog 64 #[I a, Pq ac, Pq ae, Pq ag, Pq ai, Pq ak] w fun v w' => ∃ (y0 : Bool) (y1 : Int -> Option Bool) (y2 : List Int) (y3 : List Int), (y0, y1, y2, y3) = r /\ v = B y0 /\ St w w' [cMap I B ah y1, cBlk aj (List.flatten [[], encF (α := Int) y2, encF (α := Int) y3]) 104] R /\ y2.length = 16 /\ y3.length = 16 := by
  obtain ⟨n_, hM⟩ := M.e_fix hM
  exact zcH n_ a al am ao ap aq au av aa ab aM aN aO aP aQ aR aS aT aU aV aW aX aY aZ a6 a7 a8 ba bb bc bf hM w H

def zbM : ((List Int) × (List Int) × Nat) -> M (((List Int) × (List Int) × Nat) ⊕ ((List Int) × (List Int))) := fun (s, s2, s3) =>
  bif decide ((s3 : Int) < 16) then (
  M.grd (decide ((0 : Int) <= (s3 : Int)) && decide ((s3 : Int) < (16 : Int))) <|
  M.pure (.inl (s.set s3 (-1), s2.set s3 (-1), s3 + 1)))
  else (
  M.pure (.inr (s, s2)))
def za2 (ab : List Sect) (aa : List Mrk) (ac : List Rch) : ((List Int) × (List Int) × Nat) -> M (((List Int) × (List Int) × Nat) ⊕ ((List Int) × (List Int))) := fun (s4, s5, s6) =>
  bif decide ((s6 : Int) < (aa.length : Int)) then (
  M.bind (zbp (s6 : Int) ab aa ac ab aa ac (fun _ => none) s4 s5) fun (r2, ae, q0, q1) =>
  M.pure (.inl (q0, q1, s6 + 1)))
  else (
  M.pure (.inr (s4, s5)))
def zbm (aa : List Sect) (ab : List Mrk) (ac : List Rch) : M ((List Int) × (List Int)) :=
  M.bind (M.iter (zbM) (List.replicate 16 0, List.replicate 16 0, 0)) fun (l, l2) =>
  M.bind (M.iter (za2 aa ab ac) (l, l2, 0)) fun (l3, l4) =>
  M.pure (l3, l4)
theorem zcz {R : List Chunk} {ab : Nat} {az : Cells} {aA : Value} {aB : Cells} {aq : Value} {aC : Cells} {aD : Value} {aU : Nat} (ai : List Sect) (ag : List Mrk) (aj : List Rch) (aE : Reads R az) (aF : Sl az aA ai) (aG : Reads R aB) (ao : Sl aB aq ag) (aH : Reads R aC) (aI : Sl aC aD aj) (au : Has R (cBlk ab [aA, aq, aD, .map (some aU)] 99)) {r : ((List Int) × (List Int))} (hM : (zbm ai ag aj).Ends r) (w : World) (H : St w w [] R) : Ret Try.prog 39 #[Pq ab] w fun v w' => ∃ (y0 : List Int) (y1 : List Int) (aJ : Nat), (y0, y1) = r /\ v = Pq aJ /\ St w w' [cBlk aJ (List.flatten [[], encF (α := Int) y0, encF (α := Int) y1]) 104] R /\ y0.length = 16 /\ y1.length = 16 := by
 refine ret_of_W Try.func39 rfl rfl rfl ?_
 refine W.seq ?_
 refine W.region rfl ?_
 refine t_box (v := Pq ab) (cs := [Pq ab]) H rfl rfl ?_
 intro ae bp H
 refine zA (.pointer none) rfl ?_
 refine s_nil ?_
 refine W.seq ?_
 refine W.region rfl ?_
 refine s_val (x_bld (ps := []) (zs := (List.flatten [[], encF (α := Int) (List.replicate 16 0), encF (α := Int) (List.replicate 16 0)])) (L' := (List.flatten [[], encF (α := Int) (List.replicate 16 0), encF (α := Int) (List.replicate 16 0)])) rfl Try.underlying104 Al104 rfl (Bd104 Try.underlying104) (.nil)) ?_
 refine t_box (v := .agg (List.flatten [[], encF (α := Int) (List.replicate 16 0), encF (α := Int) (List.replicate 16 0)]).toArray) (cs := (List.flatten [[], encF (α := Int) (List.replicate 16 0), encF (α := Int) (List.replicate 16 0)])) H rfl rfl ?_
 intro aa bq H
 refine t_alloc (cs := [.pointer none]) H Al100 rfl ?_
 intro ac br H
 refine t_sw 0 0 [Pq aa] (Pq aa) H rfl rfl Sz100 rfl rfl rfl rfl ?_
 intro bt H
 refine s_nil ?_
 refine W.seq ?_
 refine W.seq ?_
 refine W.region rfl ?_
 refine zM (I 0) rfl ?_
 refine s_nil ?_
 refine W.block ?_
 obtain ⟨aV, av, aW⟩ := M.e_bind hM
 obtain ⟨aX, av⟩ := M.e_iter av
 refine W.loop (fun m σ W => ∃ (s : List Int) (s2 : List Int) (s3 : Nat) (ρ : Env), σ = upds ρ [(1, Pq ae), (3, Pq ac), (11, I (s3 : Int))] /\ M.iterN (zbM) m (s, s2, s3) = some aV /\ St w W [cBlk ac [Pq aa] 100, cBlk aa (List.flatten [[], encF (α := Int) s, encF (α := Int) s2]) 104, cBlk ae [Pq ab] 72] R /\ s.length = 16 /\ s2.length = 16) ?_ ?_
 ·exact ⟨_, List.replicate 16 0, List.replicate 16 0, 0, _, upds_of _ _ ⟨rfl, rfl, rfl, trivial⟩, av, H, List.length_replicate, List.length_replicate⟩
 rintro bu σ bv ⟨s, s2, s3, ρ, rfl, aK, H, aw, ax⟩
 obtain ⟨aY, aZ, bw, hM, aL⟩ := M.e_iterN aK
 simp only [zbM] at hM
 clear aK
 refine W.seq ?_
 refine W.region rfl ?_
 refine zC (s3 : Int) 16 (decide ((s3 : Int) < 16)) rfl rfl rfl ?_
 refine s_nil ?_
 refine W.seq ?_
 refine W.cond (decide ((s3 : Int) < 16)) rfl (fun ak => ?_) (fun ak => ?_)
 ·replace hM := M.e_t hM ak
  simp only [qy1, qy2, qy3, qy4, qy5, qy6, ne_eq, qy7] at ak
  refine W.skip ?_
  refine W.seq ?_
  refine W.block ?_
  refine W.seq ?_
  refine W.region rfl ?_
  refine zM (I (s3 : Int)) rfl ?_
  refine zA (I (s3 : Int)) rfl ?_
  refine s_nil ?_
  refine W.draw (fun W => St w W [cBlk ac [Pq aa] 100, cBlk ae [Pq ab] 72] R) [(0, true), (1, true), (2, true), (3, true), (4, true), (5, true), (6, true), (8, true), (9, true), (7, false), (10, true), (11, false)] mixed (by decide +kernel) rfl ?_
  intro bx aM
  replace H := H.ext aM
  clear aM
  refine ⟨(H.pk [0, 2]), ?_⟩
  refine d_q rfl (fun w' H => x_ld (p := Pq ac) (v := Pq aa) rfl (ldb_sc Sc100 (H.bl 0) rfl)) ?_
  refine d_q rfl (fun w' H => x_mv (v := I (s3 : Int)) rfl) ?_
  refine d_q rfl (fun w' H => x_ld (p := Pq ac) (v := Pq aa) rfl (ldb_sc Sc100 (H.bl 0) rfl)) ?_
  refine d_q rfl (fun w' H => x_mv (v := I (s3 : Int)) rfl) ?_
  refine d_q rfl (fun w' H => x_nc (a := ⟨aa, 0, none⟩) rfl) ?_
  refine d_q rfl (fun w' H => x_fa (a := Pq aa) (v := Pq aa) rfl (fa_blk (o := 0) Fd104_0 Sz102)) ?_
  obtain ⟨a6, hM⟩ := M.e_grd hM
  simp only [Bool.and_eq_true, decide_eq_true_eq] at a6
  refine d_q rfl (fun w' H => x_ix (a := Pq aa) (b := I (s3 : Int)) (v := .pointer (some ⟨aa, 0 + Int.toNat (s3 : Int) * 1, none⟩)) rfl rfl (run_indexS Try.underlying102 Sz3 (by omega) (by omega))) ?_
  refine d_q rfl (fun w' H => x_nc (a := ⟨aa, 0, none⟩) rfl) ?_
  refine d_q rfl (fun w' H => x_fa (a := Pq aa) (v := Oq aa 16) rfl (fa_blk (o := 0) Fd104_1 Sz102)) ?_
  refine d_l rfl ?_
  refine t_stS (α := Int) (kc := 1) (b := aa) (k := 1) (off := 0) (i := s3) (f := 0) (sz := 1) (segs := [[], encF (α := Int) s, encF (α := Int) s2]) (segs' := [[], encF (α := Int) (s.set s3 (-1)), encF (α := Int) s2]) (l := s) (l' := s.set s3 (-1)) (vs := [I (-1)]) (L' := [cBlk ac [Pq aa] 100, cBlk aa (List.flatten [[], encF (α := Int) (s.set s3 (-1)), encF (α := Int) s2]) 104, cBlk ae [Pq ab] 72]) H rfl rfl rfl Sz3 rfl rfl rfl rfl (sgo1 rfl) rfl rfl (by have a7 := aw; omega) (by omega) 0 (-1) rfl rfl rfl rfl ?_
  intro bz H
  have aN : (s.set s3 (-1)).length = 16 := List.length_set.trans aw
  refine s_nil ⟨(H.pk [0, 2]), ?_⟩
  refine d_q rfl (fun w' H => x_ix (a := Oq aa 16) (b := I (s3 : Int)) (v := .pointer (some ⟨aa, 16 + Int.toNat (s3 : Int) * 1, none⟩)) rfl rfl (run_indexS Try.underlying102 Sz3 (by omega) (by omega))) ?_
  refine d_l rfl ?_
  refine t_stS (α := Int) (kc := 1) (b := aa) (k := 2) (off := 16) (i := s3) (f := 0) (sz := 1) (segs := [[], encF (α := Int) (s.set s3 (-1)), encF (α := Int) s2]) (segs' := [[], encF (α := Int) (s.set s3 (-1)), encF (α := Int) (s2.set s3 (-1))]) (l := s2) (l' := s2.set s3 (-1)) (vs := [I (-1)]) (L' := [cBlk ac [Pq aa] 100, cBlk aa (List.flatten [[], encF (α := Int) (s.set s3 (-1)), encF (α := Int) (s2.set s3 (-1))]) 104, cBlk ae [Pq ab] 72]) H rfl rfl rfl Sz3 rfl rfl rfl rfl (sgo2 aN rfl) rfl rfl (by have a7 := ax; omega) (by omega) 0 (-1) rfl rfl rfl rfl ?_
  intro bA H
  have a8 : (s2.set s3 (-1)).length = 16 := List.length_set.trans ax
  refine s_nil ⟨(H.pk [0, 2]), ?_⟩
  refine d_nil ?_
  refine W.region rfl ?_
  refine zR (s3 : Int) 1 ((s3 : Int) + 1) rfl rfl rfl (by omega) ?_
  refine zM (I ((s3 : Int) + 1)) rfl ?_
  refine s_nil ?_
  exact ⟨aY, aZ, s.set s3 (-1), s2.set s3 (-1), s3 + 1, _, upds_of _ _ ⟨rfl, rfl, rfl, trivial⟩, M.e_inl hM aL, H, aN, a8⟩
 replace hM := M.e_f hM ak
 simp only [qy1, qy2, qy3, qy4, qy5, qy6, ne_eq, qy7] at ak
 refine W.exit ?_
 have ba := M.e_inr hM aL
 subst ba
 replace hM := aW
 try dsimp only at hM
 refine W.seq ?_
 refine W.region rfl ?_
 refine s_val (x_ld (p := Pq ae) (v := Pq ab) rfl (ldb_sc Sc72 (H.bl 2) rfl)) ?_
 refine s_val (x_mf (fs := [Pq ab]) (cs := []) rfl rfl) ?_
 refine t_alloc (cs := [.nilFunc]) H Al77 rfl ?_
 intro ah bB H
 refine t_sw 0 0 [.func (.func 23) #[Pq ab] #[]] (.func (.func 23) #[Pq ab] #[]) H rfl rfl Sz77 rfl rfl rfl rfl ?_
 intro bC H
 refine s_nil ?_
 refine W.seq ?_
 refine W.seq ?_
 refine W.region rfl ?_
 refine s_val (x_ld (p := Pq ae) (v := Pq ab) rfl (ldb_sc Sc72 (H.bl 3) rfl)) ?_
 refine s_val (x_nc (a := ⟨ab, 0, none⟩) rfl) ?_
 refine s_val (x_fa (a := Pq ab) (v := Pq ab) rfl (fa_blk (o := 0) Fd99_0 Sz27)) ?_
 refine s_val (x_fa (a := Pq ab) (v := Oq ab 1) rfl (fa_blk (o := 0) Fd27_1 Sz24)) ?_
 refine s_val (x_ld (p := Oq ab 1) (v := aq) rfl (ldb_sc Sc24 (au.blk H) rfl)) ?_
 have bD := (ao).len_le
 refine s_val (x_lenS T24.und rfl ao) ?_
 refine zM (I 0) rfl ?_
 refine s_nil ?_
 refine W.block ?_
 obtain ⟨bb, ay, bc⟩ := M.e_bind hM
 obtain ⟨aX, ay⟩ := M.e_iter ay
 refine W.loop (fun m σ W => ∃ (s4 : List Int) (s5 : List Int) (s6 : Nat) (ρ : Env), σ = upds ρ [(1, Pq ae), (3, Pq ac), (5, Pq ah), (32, I (ag.length : Int)), (33, I (s6 : Int))] /\ M.iterN (za2 ai ag aj) m (s4, s5, s6) = some bb /\ St w W [cBlk ah [.func (.func 23) #[Pq ab] #[]] 77, cBlk ac [Pq aa] 100, cBlk aa (List.flatten [[], encF (α := Int) s4, encF (α := Int) s5]) 104, cBlk ae [Pq ab] 72] R /\ s4.length = 16 /\ s5.length = 16) ?_ ?_
 ·exact ⟨_, s, s2, 0, _, upds_of _ _ ⟨rfl, rfl, rfl, rfl, rfl, trivial⟩, ay, H, aw, ax⟩
 rintro bE σ bF ⟨s4, s5, s6, ρ, rfl, aO, H, aP, aQ⟩
 obtain ⟨bf, bg, bG, hM, aR⟩ := M.e_iterN aO
 simp only [za2] at hM
 clear aO
 refine W.seq ?_
 refine W.region rfl ?_
 refine zC (s6 : Int) (ag.length : Int) (decide ((s6 : Int) < (ag.length : Int))) rfl rfl rfl ?_
 refine s_nil ?_
 refine W.seq ?_
 refine W.cond (decide ((s6 : Int) < (ag.length : Int))) rfl (fun al => ?_) (fun al => ?_)
 ·replace hM := M.e_t hM al
  simp only [qy1, qy2, qy3, qy4, qy5, qy6, ne_eq, qy7] at al
  refine W.skip ?_
  refine W.seq ?_
  refine W.block ?_
  refine W.seq ?_
  refine W.region rfl ?_
  refine zM (I (s6 : Int)) rfl ?_
  refine zA (I (s6 : Int)) rfl ?_
  refine s_nil ?_
  refine W.seq ?_
  refine W.region rfl ?_
  refine t_mkmap (κ := Int) (ν := Bool) I B H ?_
  intro aS bH H
  refine t_alloc (cs := [.map none]) H Al133 rfl ?_
  intro ap bI H
  refine t_sw 0 0 [.map (some aS)] (.map (some aS)) H rfl rfl Sz133 rfl rfl rfl rfl ?_
  intro bJ H
  refine s_nil ?_
  refine W.seq ?_
  refine W.region rfl ?_
  refine t_alloc (cs := [.nilFunc]) H Al118 rfl ?_
  intro am bK H
  refine s_nil ?_
  refine W.seq ?_
  refine W.region rfl ?_
  refine s_val (x_mf (fs := []) (cs := [Pq ae, Pq ah, Pq ap, Pq ac, Pq am]) rfl rfl) ?_
  refine t_sw 0 0 [.func (.func 64) #[] #[Pq ae, Pq ah, Pq ap, Pq ac, Pq am]] (.func (.func 64) #[] #[Pq ae, Pq ah, Pq ap, Pq ac, Pq am]) H rfl rfl Sz118 rfl rfl rfl rfl ?_
  intro bL H
  refine s_nil ?_
  refine W.region rfl ?_
  refine s_val (x_ld (p := Pq am) (v := .func (.func 64) #[] #[Pq ae, Pq ah, Pq ap, Pq ac, Pq am]) rfl (ldb_sc Sc118 (H.bl 0) rfl)) ?_
  refine zM (I (s6 : Int)) rfl ?_
  obtain ⟨bM, bh, hM⟩ := M.e_bind hM
  refine s_callv (f := 64) rfl cf64 [I (s6 : Int)] rfl (zc6 (s6 : Int) ai ag aj ai ag aj (fun _ => none) s4 s5 (aE.app _) aF (aG.app _) ao (aH.app _) aI (au.app _) (Has.here (k := 4) rfl) (aE.app _) aF (aG.app _) ao (aH.app _) aI (au.app _) (Has.here (k := 2) rfl) (Has.here (k := 1) rfl) aP aQ (Has.here (k := 3) rfl) (Has.here (k := 0) rfl) bh _ ((H.pk [2, 5, 0, 1, 3, 4, 6]).gt 5)) ?_
  rintro vq bN ⟨r2, bO, q0, q1, bi, hvq, aT, bj, bm⟩
  subst bi
  subst vq
  try dsimp only at hM
  replace H := H.pk [2, 5, 0, 1, 3, 4, 6] |>.bk aT
  clear aT
  refine s_nil ?_
  replace H := H.pk [1, 4, 5, 6]
  refine W.region rfl ?_
  refine zR (s6 : Int) 1 ((s6 : Int) + 1) rfl rfl rfl (by omega) ?_
  refine zM (I ((s6 : Int) + 1)) rfl ?_
  refine s_nil ?_
  exact ⟨bf, bg, q0, q1, s6 + 1, _, upds_of _ _ ⟨rfl, rfl, rfl, rfl, rfl, trivial⟩, M.e_inl hM aR, (H.pk [1, 2, 0, 3]), bj, bm⟩
 replace hM := M.e_f hM al
 simp only [qy1, qy2, qy3, qy4, qy5, qy6, ne_eq, qy7] at al
 refine W.exit ?_
 have bn := M.e_inr hM aR
 subst bn
 replace hM := bc
 try dsimp only at hM
 replace H := H.pk [1, 2]
 refine W.seq ?_
 refine W.region rfl ?_
 refine s_val (x_ld (p := Pq ac) (v := Pq aa) rfl (ldb_sc Sc100 (H.bl 0) rfl)) ?_
 refine zA (Pq aa) rfl ?_
 refine s_nil ?_
 refine W.ret ?_
 have bo := M.e_pure hM
 exact ⟨_, resE_tmp rfl, ⟨s4, s5, aa, bo, rfl, (H.pk [1]), aP, aQ⟩⟩

def za5 (r0 : List Int) : (Int × (List Int)) -> M ((Int × (List Int)) ⊕ ((List Int) × (List Int))) := fun (s, l) =>
  bif s != (-1) then (
  M.grd (decide ((l.length + ([(s : Int)]).length) * 8 <= 140737488355328)) <|
  M.grd (decide ((0 : Int) <= s) && decide (s < (16 : Int))) <|
  M.pure (.inl (r0.getD (Int.toNat s) 0, l ++ ([(s : Int)]))))
  else (
  M.pure (.inr (l, l)))
def za4 (aa : List Mrk) (r0 : List Int) (r1 : List Int) : (Nat × (List (List Int))) -> M ((Nat × (List (List Int))) ⊕ ((List (List Int)) × (List (List Int)))) := fun (s2, l4) =>
  bif decide ((s2 : Int) < (aa.length : Int)) then (
  M.grd (decide ((0 : Int) <= (s2 : Int)) && decide ((s2 : Int) < (16 : Int))) <|
  bif (r1.getD s2 0) != (-1) then (
  M.pure (.inl (s2 + 1, l4)))
  else (
  M.bind (M.iter (za5 r0) ((s2 : Int), [])) fun (l2, l3) =>
  M.grd (decide ((l4.length + ([l3]).length) * 24 <= 140737488355328)) <|
  M.pure (.inl (s2 + 1, l4 ++ ([l3])))))
  else (
  M.pure (.inr (l4, l4)))
def zbq (ab : List Sect) (aa : List Mrk) (ac : List Rch) : M (List (List Int)) :=
  M.bind (zbm ab aa ac) fun (r0, r1) =>
  M.bind (M.iter (za4 aa r0 r1) (0, [])) fun (l5, l6) =>
  M.pure l6
theorem zcD {R : List Chunk} {ab : Nat} {aA : Cells} {aB : Value} {aC : Cells} {aq : Value} {aD : Cells} {aE : Value} {aS : Nat} (au : List Sect) (ae : List Mrk) (av : List Rch) (aT : Reads R aA) (aU : Sl aA aB au) (aV : Reads R aC) (aw : Sl aC aq ae) (aW : Reads R aD) (aX : Sl aD aE av) (aF : Has R (cBlk ab [aB, aq, aE, .map (some aS)] 99)) {r : (List (List Int))} (hM : (zbq au ae av).Ends r) (w : World) (H : St w w [] R) : Ret Try.prog 22 #[Pq ab] w fun v w' => ∃ (y0 : List (List Int)) (u0 : Value) (rr1 : List (Raw 0)) (aG : Base), y0 = r /\ v = u0 /\ St w w' [cOwn (α := Raw 0) 28 u0 rr1, cRo aG] R /\ RepR (α := List Int) aG.cells rr1 y0 := by
 refine ret_of_W Try.func22 rfl rfl rfl ?_
 refine W.seq ?_
 refine W.region rfl ?_
 refine zA (.slice none 0 0) rfl ?_
 refine s_nil ?_
 refine W.seq ?_
 refine W.region rfl ?_
 refine zM (Pq ab) rfl ?_
 obtain ⟨bE, aY, hM⟩ := M.e_bind hM
 refine s_call cf39 [Pq ab] rfl (zcz au ae av (aT.app _) aU (aV.app _) aw (aW.app _) aX (aF.app _) aY _ (H.gt 0)) ?_
 rintro vq bF ⟨r0, r1, aa, aZ, hvq, aH, aI, a6⟩
 subst aZ
 subst vq
 try dsimp only at hM
 replace H := H.bk aH
 clear aH
 refine zA (Pq aa) rfl ?_
 refine s_nil ?_
 refine W.seq ?_
 refine W.region rfl ?_
 refine zA (.slice none 0 0) rfl ?_
 refine s_nil ?_
 refine W.seq ?_
 refine W.seq ?_
 refine W.region rfl ?_
 refine zM (Pq ab) rfl ?_
 refine s_val (x_nc (a := ⟨ab, 0, none⟩) rfl) ?_
 refine s_val (x_fa (a := Pq ab) (v := Pq ab) rfl (fa_blk (o := 0) Fd99_0 Sz27)) ?_
 refine s_val (x_fa (a := Pq ab) (v := Oq ab 1) rfl (fa_blk (o := 0) Fd27_1 Sz24)) ?_
 refine s_val (x_ld (p := Oq ab 1) (v := aq) rfl (ldb_sc Sc24 (aF.blk H) rfl)) ?_
 have bG := (aw).len_le
 refine s_val (x_lenS T24.und rfl aw) ?_
 refine zM (I 0) rfl ?_
 refine s_nil ?_
 refine W.block ?_
 obtain ⟨aJ, H⟩ := H.emptyE
 replace H := H.nilOwn (α := Raw 0) 28
 have a7 : RepR (α := List Int) (n := 0) aJ.cells [] [] := .nil
 obtain ⟨a8, ax, ba⟩ := M.e_bind hM
 obtain ⟨bb, ax⟩ := M.e_iter ax
 refine W.loop (fun m σ W => ∃ (s2 : Nat) (l4 : List (List Int)) (ac : Value) (ag : List (Raw 0)) (B_l4 : Base) (ρ : Env), σ = upds ρ [(3, Pq aa), (4, ac), (15, I (ae.length : Int)), (16, I (s2 : Int))] /\ M.iterN (za4 ae r0 r1) m (s2, l4) = some a8 /\ St w W [cOwn (α := Raw 0) 28 ac ag, cRo B_l4, cBlk aa (List.flatten [[], encF (α := Int) r0, encF (α := Int) r1]) 104] R /\ RepR (α := List Int) B_l4.cells ag l4) ?_ ?_
 ·exact ⟨_, 0, [], (.slice none 0 0), [], aJ, _, upds_of _ _ ⟨rfl, rfl, rfl, rfl, trivial⟩, ax, H, a7⟩
 rintro bH σ bI ⟨s2, l4, ac, ag, B_l4, ρ, rfl, aK, H, aj⟩
 obtain ⟨aL, aM, bJ, hM, ay⟩ := M.e_iterN aK
 simp only [za4] at hM
 clear aK
 refine W.seq ?_
 refine W.region rfl ?_
 refine zC (s2 : Int) (ae.length : Int) (decide ((s2 : Int) < (ae.length : Int))) rfl rfl rfl ?_
 refine s_nil ?_
 refine W.seq ?_
 refine W.cond (decide ((s2 : Int) < (ae.length : Int))) rfl (fun ak => ?_) (fun ak => ?_)
 ·replace hM := M.e_t hM ak
  simp only [qy1, qy2, qy3, qy4, qy5, qy6, ne_eq, qy7] at ak
  refine W.skip ?_
  refine W.seq ?_
  refine W.block ?_
  refine W.seq ?_
  refine W.region rfl ?_
  refine zM (I (s2 : Int)) rfl ?_
  refine zA (I (s2 : Int)) rfl ?_
  refine s_nil ?_
  refine W.seq ?_
  refine W.seq ?_
  refine W.region rfl ?_
  refine zM (Pq aa) rfl ?_
  refine zM (I (s2 : Int)) rfl ?_
  refine s_val (x_nc (a := ⟨aa, 0, none⟩) rfl) ?_
  refine s_val (x_fa (a := Pq aa) (v := Oq aa 16) rfl (fa_blk (o := 0) Fd104_1 Sz102)) ?_
  obtain ⟨bc, hM⟩ := M.e_grd hM
  simp only [Bool.and_eq_true, decide_eq_true_eq] at bc
  refine s_val (x_ix (a := Oq aa 16) (b := I (s2 : Int)) (v := .pointer (some ⟨aa, 16 + Int.toNat (s2 : Int) * 1, none⟩)) rfl rfl (run_indexS Try.underlying102 Sz3 (by omega) (by omega))) ?_
  refine s_val (x_ld (p := .pointer (some ⟨aa, 16 + Int.toNat (s2 : Int) * 1, none⟩)) (v := I (r1.getD s2 0)) rfl (ldS (α := Int) (k := 2) (off := 16) (i := s2) (f := 0) (sz := 1) 0 Sc3 (H.bl 2) rfl (sgo2 aI rfl) rfl (by decide) (by have bf := a6; omega) (by omega) rfl)) ?_
  refine zC (r1.getD s2 0) (-1) ((r1.getD s2 0) != (-1)) rfl rfl rfl ?_
  refine s_nil ?_
  refine W.cond ((r1.getD s2 0) != (-1)) rfl (fun al => ?_) (fun al => ?_)
  ·replace hM := M.e_t hM al
   simp only [qy1, qy2, qy3, qy4, qy5, qy6, ne_eq, qy7] at al
   refine W.exit ?_
   refine W.region rfl ?_
   refine zR (s2 : Int) 1 ((s2 : Int) + 1) rfl rfl rfl (by omega) ?_
   refine zM (I ((s2 : Int) + 1)) rfl ?_
   refine s_nil ?_
   exact ⟨aL, aM, s2 + 1, l4, ac, ag, B_l4, _, upds_of _ _ ⟨rfl, rfl, rfl, rfl, trivial⟩, M.e_inl hM ay, H, aj⟩
  replace hM := M.e_f hM al
  simp only [qy1, qy2, qy3, qy4, qy5, qy6, ne_eq, qy7] at al
  refine W.skip ?_
  refine W.seq ?_
  refine W.region rfl ?_
  refine zA (.slice none 0 0) rfl ?_
  refine s_nil ?_
  refine W.seq ?_
  refine W.seq ?_
  refine W.region rfl ?_
  refine zM (I (s2 : Int)) rfl ?_
  refine zA (I (s2 : Int)) rfl ?_
  refine s_nil ?_
  refine W.block ?_
  replace H := H.nilOwn (α := Int) 3
  obtain ⟨bg, az, bh⟩ := M.e_bind hM
  obtain ⟨bb, az⟩ := M.e_iter az
  refine W.loop (fun m σ W => ∃ (s : Int) (l : List Int) (ah : Value) (ρ : Env), σ = upds ρ [(3, Pq aa), (4, ac), (6, ah), (7, I s), (15, I (ae.length : Int)), (16, I (s2 : Int))] /\ M.iterN (za5 r0) m (s, l) = some bg /\ St w W [cOwn (α := Int) 3 ah l, cOwn (α := Raw 0) 28 ac ag, cRo B_l4, cBlk aa (List.flatten [[], encF (α := Int) r0, encF (α := Int) r1]) 104] R) ?_ ?_
  ·exact ⟨_, (s2 : Int), [], (.slice none 0 0), _, upds_of _ _ ⟨rfl, rfl, rfl, rfl, rfl, rfl, trivial⟩, az, H⟩
  rintro bK σ bL ⟨s, l, ah, ρ, rfl, aN, H⟩
  obtain ⟨bi, bj, bM, hM, aO⟩ := M.e_iterN aN
  simp only [za5] at hM
  clear aN
  refine W.seq ?_
  refine W.seq ?_
  refine W.region rfl ?_
  refine zM (I s) rfl ?_
  refine zC s (-1) (s != (-1)) rfl rfl rfl ?_
  refine s_nil ?_
  refine W.cond (s != (-1)) rfl (fun am => ?_) (fun am => ?_)
  ·replace hM := M.e_t hM am
   simp only [qy1, qy2, qy3, qy4, qy5, qy6, ne_eq, qy7] at am
   refine W.skip ?_
   refine W.seq ?_
   refine W.block ?_
   refine W.region rfl ?_
   refine zM ah rfl ?_
   refine zM (I s) rfl ?_
   refine t_bs (α := Int) T28 [I s] [(s : Int)] H rfl (.cons rfl (Flat.rep_enc _ (s : Int)) <| .nil) rfl rfl rfl ?_
   intro bm bN H
   obtain ⟨bn, hM⟩ := M.e_grd hM
   simp only [Bool.and_eq_true, decide_eq_true_eq] at bn
   refine t_app (α := Int) (k := 1) (l := l) (l2 := [(s : Int)]) (l' := l ++ ([(s : Int)])) (vy := bm) T28 rfl H rfl rfl rfl (H.os 0) (H.ol 0) (rfl) (by first | omega | (simp only [List.length_nil] at *; omega)) ?_
   intro aP bO H
   replace H := H.nf
   refine zA aP rfl ?_
   refine s_nil ?_
   refine W.region rfl ?_
   refine zM (Pq aa) rfl ?_
   refine zM (I s) rfl ?_
   refine s_val (x_nc (a := ⟨aa, 0, none⟩) rfl) ?_
   refine s_val (x_fa (a := Pq aa) (v := Pq aa) rfl (fa_blk (o := 0) Fd104_0 Sz102)) ?_
   obtain ⟨bo, hM⟩ := M.e_grd hM
   simp only [Bool.and_eq_true, decide_eq_true_eq] at bo
   refine s_val (x_ix (a := Pq aa) (b := I s) (v := .pointer (some ⟨aa, 0 + Int.toNat s * 1, none⟩)) rfl rfl (run_indexS Try.underlying102 Sz3 (by omega) (by omega))) ?_
   refine s_val (x_ld (p := .pointer (some ⟨aa, 0 + Int.toNat s * 1, none⟩)) (v := I (r0.getD (Int.toNat s) 0)) rfl (ldS (α := Int) (k := 1) (off := 0) (i := (Int.toNat s)) (f := 0) (sz := 1) 0 Sc3 (H.bl 4) rfl (sgo1 rfl) rfl (by decide) (by have bf := aI; omega) (by omega) rfl)) ?_
   refine zA (I (r0.getD (Int.toNat s) 0)) rfl ?_
   refine s_nil ?_
   exact ⟨bi, bj, r0.getD (Int.toNat s) 0, l ++ ([(s : Int)]), aP, _, upds_of _ _ ⟨rfl, rfl, rfl, rfl, rfl, rfl, trivial⟩, M.e_inl hM aO, (H.pk [1, 2, 3, 4])⟩
  replace hM := M.e_f hM am
  simp only [qy1, qy2, qy3, qy4, qy5, qy6, ne_eq, qy7] at am
  refine W.exit ?_
  have bp := M.e_inr hM aO
  subst bp
  replace hM := bh
  try dsimp only at hM
  refine W.region rfl ?_
  refine zM ac rfl ?_
  refine zM ah rfl ?_
  obtain ⟨bP, H⟩ := H.emptyE
  obtain ⟨bQ, H, bq⟩ := H.freezeE (k := 1) rfl
  replace H := H.nf
  have ao := bq
  obtain ⟨br, H, bR, bt⟩ := H.joinE (i := 0) (j := 1) rfl rfl
  replace ao := ao.mono bt
  obtain ⟨ai, aQ⟩ : ∃ r : Raw 0, r.cs = [ah] := ⟨Raw.of [ah] rfl (by simp only [List.all_cons, List.all_nil, Bool.true_and, Bool.and_true, Sl.oc ao]; try rfl), rfl⟩
  have bu : RepR (α := List Int) br.cells [ai] [l] := .cons (by rw [aQ]; exact ⟨_, rfl, ao⟩) <| .nil
  refine t_bs (α := Raw 0) T75 [ah] [ai] H rfl (.cons (by rw [show (Flat.enc ai : List Value) = ai.cs from rfl, aQ]; exact Sl.cells ao) (Flat.rep_enc _ _) <| .nil) rfl rfl rfl ?_
  intro bv bS H
  replace H := H.nf
  obtain ⟨bw, hM⟩ := M.e_grd hM
  simp only [Bool.and_eq_true, decide_eq_true_eq] at bw
  have ap := bu
  obtain ⟨bx, H, bz, bA⟩ := H.joinE (i := 5) (j := 1) rfl rfl
  replace aj := aj.mono bz
  replace ap := ap.mono bA
  have bB := aj.app ap
  refine t_app (α := Raw 0) (k := 5) (l := ag) (l2 := [ai]) (l' := ag ++ ([ai])) (vy := bv) T75 rfl H rfl rfl rfl (H.os 1) (H.ol 1) (rfl) (by have a_ := aj.len; have b_ := ap.len; (try simp only [List.length_nil] at *); first | omega | (rw [a_, b_]; omega)) ?_
  intro aR bT H
  replace H := H.nf
  refine zA aR rfl ?_
  refine s_nil ?_
  replace H := H.pk [0, 5, 6, 7]
  refine W.region rfl ?_
  refine zR (s2 : Int) 1 ((s2 : Int) + 1) rfl rfl rfl (by omega) ?_
  refine zM (I ((s2 : Int) + 1)) rfl ?_
  refine s_nil ?_
  exact ⟨aL, aM, s2 + 1, l4 ++ ([l]), aR, ag ++ ([ai]), bx, _, upds_of _ _ ⟨rfl, rfl, rfl, rfl, trivial⟩, M.e_inl hM ay, (H.pk [1, 0, 3]), bB⟩
 replace hM := M.e_f hM ak
 simp only [qy1, qy2, qy3, qy4, qy5, qy6, ne_eq, qy7] at ak
 refine W.exit ?_
 have bC := M.e_inr hM ay
 subst bC
 replace hM := ba
 try dsimp only at hM
 refine W.seq ?_
 refine W.region rfl ?_
 refine zM ac rfl ?_
 refine zA ac rfl ?_
 refine s_nil ?_
 refine W.ret ?_
 have bD := M.e_pure hM
 exact ⟨_, resE_tmp rfl, ⟨l4, ac, ag, B_l4, bD, rfl, (H.pk [0, 1]), aj⟩⟩

def zbe (s_Sections : List Sect) (s_Marks : List Mrk) (s_Reaches : List Rch) (r2 : List (List Int)) (l6 : List Int) (s3 : Nat) : Nat -> M (Nat ⊕ (Unit ⊕ Unit)) := fun s2 =>
  bif decide ((s2 : Int) < (r2.length : Int)) then (
  M.grd (decide ((s2 : Int) < (r2.length : Int))) <|
  M.grd ((!((s3 : Int) != (s2 : Int)) || (decide ((s3 : Int) < (l6.length : Int))))) <|
  M.grd ((!(((s3 : Int) != (s2 : Int)) && (decide ((l6.getD s3 0) < ((r2.getD s3 ([])).length : Int)))) || (decide ((s2 : Int) < (l6.length : Int))))) <|
  M.grd ((!((((s3 : Int) != (s2 : Int)) && (decide ((l6.getD s3 0) < ((r2.getD s3 ([])).length : Int)))) && (decide ((l6.getD s2 0) < ((r2.getD s2 ([])).length : Int)))) || (decide ((s3 : Int) < (l6.length : Int))))) <|
  M.grd ((!((((s3 : Int) != (s2 : Int)) && (decide ((l6.getD s3 0) < ((r2.getD s3 ([])).length : Int)))) && (decide ((l6.getD s2 0) < ((r2.getD s2 ([])).length : Int)))) || (decide ((0 : Int) <= (l6.getD s3 0)) && decide ((l6.getD s3 0) < ((r2.getD s3 ([])).length : Int))))) <|
  M.grd ((!((((s3 : Int) != (s2 : Int)) && (decide ((l6.getD s3 0) < ((r2.getD s3 ([])).length : Int)))) && (decide ((l6.getD s2 0) < ((r2.getD s2 ([])).length : Int)))) || (decide ((s2 : Int) < (l6.length : Int))))) <|
  M.grd ((!((((s3 : Int) != (s2 : Int)) && (decide ((l6.getD s3 0) < ((r2.getD s3 ([])).length : Int)))) && (decide ((l6.getD s2 0) < ((r2.getD s2 ([])).length : Int)))) || (decide ((0 : Int) <= (l6.getD s2 0)) && decide ((l6.getD s2 0) < ((r2.getD s2 ([])).length : Int))))) <|
  M.bind (M.opt ((((s3 : Int) != (s2 : Int)) && (decide ((l6.getD s3 0) < ((r2.getD s3 ([])).length : Int)))) && (decide ((l6.getD s2 0) < ((r2.getD s2 ([])).length : Int)))) (zaf s_Sections s_Marks s_Reaches ((r2.getD s3 ([])).getD (Int.toNat (l6.getD s3 0)) 0) ((r2.getD s2 ([])).getD (Int.toNat (l6.getD s2 0)) 0)) false) fun r3 =>
  bif (((((s3 : Int) != (s2 : Int)) && (decide ((l6.getD s3 0) < ((r2.getD s3 ([])).length : Int)))) && (decide ((l6.getD s2 0) < ((r2.getD s2 ([])).length : Int)))) && r3) then (
  M.grd (decide ((s3 : Int) < (l6.length : Int))) <|
  M.grd (decide ((-9223372036854775808 : Int) <= ((l6.getD s3 0) + 1)) && decide (((l6.getD s3 0) + 1) <= (9223372036854775807 : Int))) <|
  M.pure (.inr (.inl ())))
  else (
  M.pure (.inl (s2 + 1))))
  else (
  M.pure (.inr (.inr ())))
def zaK (s_Sections : List Sect) (s_Marks : List Mrk) (s_Reaches : List Rch) (r2 : List (List Int)) (l6 : List Int) : Nat -> M (Nat ⊕ (((List Int) × (List Int)) ⊕ Unit)) := fun s3 =>
  bif decide ((s3 : Int) < (r2.length : Int)) then (
  M.grd (decide ((s3 : Int) < (r2.length : Int))) <|
  M.bind (M.iter (zbe s_Sections s_Marks s_Reaches r2 l6 s3) 0) fun x_ => match x_ with
  | (.inl (_ : Unit)) => (
  M.pure (.inr (.inl (l6.set s3 ((l6.getD s3 0) + 1 : Int), l6.set s3 ((l6.getD s3 0) + 1 : Int)))))
  | (.inr (_ : Unit)) => (
  M.pure (.inl (s3 + 1))))
  else (
  M.pure (.inr (.inr ())))
def zaI (r2 : List (List Int)) (l6 : List Int) : (Nat × (List Int)) -> M ((Nat × (List Int)) ⊕ ((List Int) × (List Int))) := fun (s4, l3) =>
  bif decide ((s4 : Int) < (r2.length : Int)) then (
  M.grd (decide ((s4 : Int) < (r2.length : Int))) <|
  M.grd (decide ((s4 : Int) < (l6.length : Int))) <|
  bif decide ((l6.getD s4 0) < ((r2.getD s4 ([])).length : Int)) then (
  M.grd (decide ((0 : Int) <= (l6.getD s4 0)) && decide ((l6.getD s4 0) < ((r2.getD s4 ([])).length : Int))) <|
  M.grd (decide ((l3.length + ([((r2.getD s4 ([])).getD (Int.toNat (l6.getD s4 0)) 0 : Int)]).length) * 8 <= 140737488355328)) <|
  M.pure (.inl (s4 + 1, l3 ++ ([((r2.getD s4 ([])).getD (Int.toNat (l6.getD s4 0)) 0 : Int)]))))
  else (
  M.pure (.inl (s4 + 1, l3))))
  else (
  M.pure (.inr (l3, l3)))
def zbu (s_Sections : List Sect) (s_Marks : List Mrk) (s_Reaches : List Rch) (r2 : List (List Int)) : (List Int) -> M ((List Int) ⊕ ((List Int) × (List Int))) := fun l6 =>
  M.bind (M.iter (zaK s_Sections s_Marks s_Reaches r2 l6) 0) fun x_ => match x_ with
  | (.inl (l, l2)) => (
  M.pure (.inl l2))
  | (.inr (_ : Unit)) => (
  M.bind (M.iter (zaI r2 l6) (0, [])) fun (l4, l5) =>
  M.grd (decide (l5.length <= 1000000)) <|
  M.pure (.inr (isort l5, l6)))
def zaP (s_Sections : List Sect) (s_Marks : List Mrk) (s_Reaches : List Rch) : M ((List Int) × Int) :=
  M.bind (zam s_Sections s_Marks s_Reaches) fun x_ => match x_ with
  | (.inl r1) => (
  bif r1 != 0 then (
  M.pure (([]), r1))
  else (
  M.fail))
  | (.inr aa) => (
  bif aa != 0 then (
  M.fail)
  else (
  M.bind (zbq s_Sections s_Marks s_Reaches) fun r2 =>
  M.grd (decide ((0 : Int) <= (r2.length : Int)) && decide ((8 : Int) * (r2.length : Int) <= 281474976710656) && decide ((r2.length : Int) <= (9223372036854775807 : Int))) <|
  M.bind (M.iter (zbu s_Sections s_Marks s_Reaches r2) (List.replicate (r2.length) (0 : Int))) fun (l7, l8) =>
  M.pure (l7, 0)))
theorem zcm {R : List Chunk} {bg : Cells} {ai : Value} {bh : Cells} {aj : Value} {bi : Cells} {ak : Value} (s_Sections : List Sect) (s_Marks : List Mrk) (s_Reaches : List Rch) (aS : Reads R bg) (aT : Sl bg ai s_Sections) (aU : Reads R bh) (aV : Sl bh aj s_Marks) (aW : Reads R bi) (aX : Sl bi ak s_Reaches) {r : ((List Int) × Int)} (hM : (zaP s_Sections s_Marks s_Reaches).Ends r) (w : World) (H : St w w [] R) : Ret Try.prog 10 #[.agg #[ai, aj, ak]] w fun v w' => ∃ (y0 : List Int) (y1 : Int) (u0 : Value), (y0, y1) = r /\ v = .tuple #[u0, I y1] /\ St w w' [cOwn (α := Int) 3 u0 y0] R := by
 refine ret_of_W Try.func10 rfl rfl rfl ?_
 refine W.seq ?_
 refine W.region rfl ?_
 refine t_box (v := .agg #[ai, aj, ak]) (cs := [ai, aj, ak]) H rfl rfl ?_
 intro aA ck H
 refine zA (.slice none 0 0) rfl ?_
 refine zA (I 0) rfl ?_
 refine s_nil ?_
 refine W.jumpS 0 rfl ?_
 refine W.seq ?_
 refine W.region rfl ?_
 refine s_val (x_ld (p := Pq aA) (v := .agg #[ai, aj, ak]) rfl (ldb_ag (ds := [ai, aj, ak]) Ag27 Sz27 (H.bl 0) rfl rfl)) ?_
 obtain ⟨cn, bB, hM⟩ := M.e_bind hM
 refine s_call cf21 [.agg #[ai, aj, ak]] rfl (zbd s_Sections s_Marks s_Reaches (aS.app _) aT (aU.app _) aV (aW.app _) aX bB _ (H.gt 1)) ?_
 rintro vq co (⟨r1, bC, hvq, aB⟩ | ⟨az, al, aq, bD, hvq, aB⟩)
 ·subst bC
  subst vq
  try dsimp only at hM
  replace H := H.bk aB
  clear aB
  refine zM (.tuple #[.pointer none, I r1]) rfl ?_
  refine zX [.pointer none, I r1] (.pointer none) rfl rfl ?_
  refine zX [.pointer none, I r1] (I r1) rfl rfl ?_
  refine zA (.pointer none) rfl ?_
  refine zA (I r1) rfl ?_
  refine s_nil ?_
  refine W.seq ?_
  refine W.seq ?_
  refine W.region rfl ?_
  refine zM (I r1) rfl ?_
  refine zC r1 0 (r1 != 0) rfl rfl rfl ?_
  refine s_nil ?_
  refine W.cond (r1 != 0) rfl (fun aQ => ?_) (fun aQ => ?_)
  ·replace hM := M.e_t hM aQ
   simp only [qy1, qy2, qy3, qy4, qy5, qy6, ne_eq, qy7] at aQ
   refine W.seq ?_
   refine W.region rfl ?_
   refine zM (I r1) rfl ?_
   refine zA (.slice none 0 0) rfl ?_
   refine zA (I r1) rfl ?_
   refine s_nil ?_
   refine W.ret ?_
   have aL := M.e_pure hM
   replace H := H.nilOwn (α := Int) 3
   exact ⟨_, resE_tmp2 rfl, ⟨([]), r1, (.slice none 0 0), aL, rfl, (H.pk [0])⟩⟩
  replace hM := M.e_f hM aQ
  exact (M.e_fail hM).elim
 subst bD
 subst vq
 try dsimp only at hM
 replace H := H.bk aB
 clear aB
 refine zM (.tuple #[Pq al, I az]) rfl ?_
 refine zX [Pq al, I az] (Pq al) rfl rfl ?_
 refine zX [Pq al, I az] (I az) rfl rfl ?_
 refine zA (Pq al) rfl ?_
 refine zA (I az) rfl ?_
 refine s_nil ?_
 refine W.seq ?_
 refine W.seq ?_
 refine W.region rfl ?_
 refine zM (I az) rfl ?_
 refine zC az 0 (az != 0) rfl rfl rfl ?_
 refine s_nil ?_
 refine W.cond (az != 0) rfl (fun aR => ?_) (fun aR => ?_)
 ·replace hM := M.e_t hM aR
  exact (M.e_fail hM).elim
 replace hM := M.e_f hM aR
 simp only [qy1, qy2, qy3, qy4, qy5, qy6, ne_eq, qy7] at aR
 refine W.skip ?_
 refine W.seq ?_
 refine W.region rfl ?_
 refine zM (Pq al) rfl ?_
 obtain ⟨cp, bE, hM⟩ := M.e_bind hM
 refine s_call cf22 [Pq al] rfl (zcD s_Sections s_Marks s_Reaches (aS.app _) aT (aU.app _) aV (aW.app _) aX (Has.here (k := 0) rfl) bE _ (H.gt 3)) ?_
 rintro vq cq ⟨r2, ah, aD, aE, bF, hvq, aB, au⟩
 subst bF
 subst vq
 try dsimp only at hM
 replace H := H.bk aB
 clear aB
 refine zA ah rfl ?_
 refine s_nil ?_
 refine W.seq ?_
 refine W.region rfl ?_
 refine zM ah rfl ?_
 have cr := ((rowSl rfl (H.get (k := 0) rfl) (roLe _ (H.get (k := 1) rfl)) au)).len_le
 refine s_val (x_lenS T75.und rfl (rowSl rfl (H.get (k := 0) rfl) (roLe _ (H.get (k := 1) rfl)) au)) ?_
 obtain ⟨bG, hM⟩ := M.e_grd hM
 simp only [Bool.and_eq_true, decide_eq_true_eq] at bG
 refine t_mk (α := Int) T28 (0 : Int) rfl (n := (r2.length : Int)) H rfl rfl (by omega) (by omega) (by omega) ?_
 intro bj ct H
 replace H := H.nf
 refine zA bj rfl ?_
 refine s_nil ?_
 obtain ⟨bH, aY, bI⟩ := M.e_bind hM
 obtain ⟨aZ, aY⟩ := M.e_iter aY
 refine W.jumpL (fun m σ W => ∃ (l6 : List Int) (ab : Value) (ρ : Env), σ = upds ρ [(4, Pq al), (6, ah), (7, ab)] /\ M.iterN (zbu s_Sections s_Marks s_Reaches r2) m l6 = some bH /\ St w W [cOwn (α := Int) 3 ab l6, cOwn (α := Raw 0) 28 ah aD, cRo aE, cBlk al [ai, aj, ak, .map (some aq)] 99, cMemI encSpt aq (zaa s_Sections s_Marks s_Reaches), cBlk aA [ai, aj, ak] 27] R) ?_ ?_
 ·exact ⟨_, List.replicate (r2.length) (0 : Int), bj, _, upds_of _ _ ⟨rfl, rfl, rfl, trivial⟩, aY, H⟩
 rintro cv σ cw ⟨l6, ab, ρ, rfl, bm, H⟩
 obtain ⟨bJ, bK, cx, hM, bn⟩ := M.e_iterN bm
 simp only [zbu] at hM
 clear bm
 refine W.seq ?_
 refine W.seq ?_
 refine W.region rfl ?_
 refine zM ah rfl ?_
 have cy := ((rowSl rfl (H.get (k := 1) rfl) (roLe _ (H.get (k := 2) rfl)) au)).len_le
 refine s_val (x_lenS T75.und rfl (rowSl rfl (H.get (k := 1) rfl) (roLe _ (H.get (k := 2) rfl)) au)) ?_
 refine zM (I 0) rfl ?_
 refine s_nil ?_
 refine W.block ?_
 obtain ⟨bL, a6, bo⟩ := M.e_bind hM
 obtain ⟨aZ, a6⟩ := M.e_iter a6
 refine W.loop (fun m σ W => ∃ (s3 : Nat) (ρ : Env), σ = upds ρ [(4, Pq al), (6, ah), (7, ab), (28, ah), (29, I (r2.length : Int)), (30, I (s3 : Int))] /\ M.iterN (zaK s_Sections s_Marks s_Reaches r2 l6) m s3 = some bL /\ St w W [cOwn (α := Int) 3 ab l6, cOwn (α := Raw 0) 28 ah aD, cRo aE, cBlk al [ai, aj, ak, .map (some aq)] 99, cMemI encSpt aq (zaa s_Sections s_Marks s_Reaches), cBlk aA [ai, aj, ak] 27] R) ?_ ?_
 ·exact ⟨_, 0, _, upds_of _ _ ⟨rfl, rfl, rfl, rfl, rfl, rfl, trivial⟩, a6, H⟩
 rintro cz σ cA ⟨s3, ρ, rfl, bp, H⟩
 obtain ⟨bM, bN, cB, hM, a7⟩ := M.e_iterN bp
 simp only [zaK] at hM
 clear bp
 refine W.seq ?_
 refine W.region rfl ?_
 refine zC (s3 : Int) (r2.length : Int) (decide ((s3 : Int) < (r2.length : Int))) rfl rfl rfl ?_
 refine s_nil ?_
 refine W.seq ?_
 refine W.cond (decide ((s3 : Int) < (r2.length : Int))) rfl (fun aM => ?_) (fun aM => ?_)
 ·replace hM := M.e_t hM aM
  simp only [qy1, qy2, qy3, qy4, qy5, qy6, ne_eq, qy7] at aM
  refine W.skip ?_
  refine W.seq ?_
  refine W.block ?_
  refine W.seq ?_
  refine W.region rfl ?_
  refine zM (I (s3 : Int)) rfl ?_
  obtain ⟨bO, hM⟩ := M.e_grd hM
  simp only [Bool.and_eq_true, decide_eq_true_eq] at bO
  refine s_val (x_ix (a := ah) (b := I (s3 : Int)) (v := vat ah 1 (Int.toNat (s3 : Int))) rfl rfl (Sl.ix (α := List Int) T75.und T75.size (rowSl rfl (H.get (k := 1) rfl) (roLe _ (H.get (k := 2) rfl)) au) (by omega) (by omega))) ?_
  obtain ⟨av, bP, aJ⟩ := List_at (rowSl rfl (H.get (k := 1) rfl) (roLe _ (H.get (k := 2) rfl)) au) (i := (s3 : Int)) (by omega) (by omega)
  replace aJ : Sl _ av (r2.getD s3 ([])) := aJ
  have cC := aJ.len_le
  refine s_val (x_ld (p := vat ah 1 (Int.toNat (s3 : Int))) (v := av) rfl (ld_sc Sc28 (At.mono (bP) (Cells.sup_le (H.ol 1) (roLe _ (H.get (k := 2) rfl)))))) ?_
  refine zA (I (s3 : Int)) rfl ?_
  refine zA av rfl ?_
  refine s_nil ?_
  refine W.seq ?_
  refine W.region rfl ?_
  refine zM ah rfl ?_
  have cD := ((rowSl rfl (H.get (k := 1) rfl) (roLe _ (H.get (k := 2) rfl)) au)).len_le
  refine s_val (x_lenS T75.und rfl (rowSl rfl (H.get (k := 1) rfl) (roLe _ (H.get (k := 2) rfl)) au)) ?_
  refine zM (I 0) rfl ?_
  refine s_nil ?_
  refine W.block ?_
  obtain ⟨bQ, a8, bq⟩ := M.e_bind hM
  obtain ⟨aZ, a8⟩ := M.e_iter a8
  refine W.loop (fun m σ W => ∃ (s2 : Nat) (ρ : Env), σ = upds ρ [(4, Pq al), (6, ah), (7, ab), (8, I (s3 : Int)), (9, av), (28, ah), (29, I (r2.length : Int)), (30, I (s3 : Int)), (35, ah), (36, I (r2.length : Int)), (37, I (s2 : Int))] /\ M.iterN (zbe s_Sections s_Marks s_Reaches r2 l6 s3) m s2 = some bQ /\ St w W [cOwn (α := Int) 3 ab l6, cOwn (α := Raw 0) 28 ah aD, cRo aE, cBlk al [ai, aj, ak, .map (some aq)] 99, cMemI encSpt aq (zaa s_Sections s_Marks s_Reaches), cBlk aA [ai, aj, ak] 27] R) ?_ ?_
  ·exact ⟨_, 0, _, upds_of _ _ ⟨rfl, rfl, rfl, rfl, rfl, rfl, rfl, rfl, rfl, rfl, rfl, trivial⟩, a8, H⟩
  rintro cE σ cF ⟨s2, ρ, rfl, br, H⟩
  obtain ⟨bR, bS, cG, hM, ba⟩ := M.e_iterN br
  simp only [zbe] at hM
  clear br
  refine W.seq ?_
  refine W.region rfl ?_
  refine zC (s2 : Int) (r2.length : Int) (decide ((s2 : Int) < (r2.length : Int))) rfl rfl rfl ?_
  refine s_nil ?_
  refine W.seq ?_
  refine W.cond (decide ((s2 : Int) < (r2.length : Int))) rfl (fun aN => ?_) (fun aN => ?_)
  ·replace hM := M.e_t hM aN
   simp only [qy1, qy2, qy3, qy4, qy5, qy6, ne_eq, qy7] at aN
   refine W.skip ?_
   refine W.seq ?_
   refine W.block ?_
   refine W.seq ?_
   refine W.region rfl ?_
   refine zM (I (s2 : Int)) rfl ?_
   obtain ⟨bT, hM⟩ := M.e_grd hM
   simp only [Bool.and_eq_true, decide_eq_true_eq] at bT
   refine s_val (x_ix (a := ah) (b := I (s2 : Int)) (v := vat ah 1 (Int.toNat (s2 : Int))) rfl rfl (Sl.ix (α := List Int) T75.und T75.size (rowSl rfl (H.get (k := 1) rfl) (roLe _ (H.get (k := 2) rfl)) au) (by omega) (by omega))) ?_
   obtain ⟨aw, bU, aK⟩ := List_at (rowSl rfl (H.get (k := 1) rfl) (roLe _ (H.get (k := 2) rfl)) au) (i := (s2 : Int)) (by omega) (by omega)
   replace aK : Sl _ aw (r2.getD s2 ([])) := aK
   have cH := aK.len_le
   refine s_val (x_ld (p := vat ah 1 (Int.toNat (s2 : Int))) (v := aw) rfl (ld_sc Sc28 (At.mono (bU) (Cells.sup_le (H.ol 1) (roLe _ (H.get (k := 2) rfl)))))) ?_
   refine zA (I (s2 : Int)) rfl ?_
   refine zA aw rfl ?_
   refine s_nil ?_
   refine W.seq ?_
   refine W.draw (fun W => St w W [cOwn (α := Int) 3 ab l6, cOwn (α := Raw 0) 28 ah aD, cRo aE, cBlk al [ai, aj, ak, .map (some aq)] 99, cMemI encSpt aq (zaa s_Sections s_Marks s_Reaches), cBlk aA [ai, aj, ak] 27] R) [(0, true), (1, true), (2, true), (3, true), (4, true), (5, true), (6, true), (7, true), (8, true), (9, true), (10, true), (11, true), (12, true), (13, true), (14, true), (15, true), (16, true), (17, true), (18, true), (19, true), (20, true), (21, true), (22, true), (23, true), (24, true), (25, true), (26, true), (27, true), (28, true), (29, true), (30, true), (31, true), (32, true), (33, true), (34, true), (35, true), (36, true), (37, false), (38, true)] mixed (by decide +kernel) rfl ?_
   intro cI ac
   replace H := H.ext ac
   clear ac
   refine ⟨(H.pk [0, 1, 2, 3, 4, 5]), ?_⟩
   refine d_q rfl (fun w' H => x_mv (v := I (s3 : Int)) rfl) ?_
   refine d_q rfl (fun w' H => x_mv (v := I (s2 : Int)) rfl) ?_
   refine d_q rfl (fun w' H => x_cmp (kd := .i64) (a := (s3 : Int)) (b := (s2 : Int)) (r := (s3 : Int) != (s2 : Int)) rfl rfl rfl) ?_
   refine d_q rfl (fun w' H => x_mv (v := B ((s3 : Int) != (s2 : Int))) rfl) ?_
   refine d_qg ((s3 : Int) != (s2 : Int)) rfl (gy_t rfl) (fun hg => (fun w' H => x_mv (v := ab) rfl)) ?_
   refine d_qg ((s3 : Int) != (s2 : Int)) rfl (gy_t rfl) (fun hg => (fun w' H => x_mv (v := I (s3 : Int)) rfl)) ?_
   obtain ⟨aF, hM⟩ := M.e_grd hM
   replace aF := M.imp_of aF
   simp only [Bool.and_eq_true, decide_eq_true_eq] at aF
   refine d_qg ((s3 : Int) != (s2 : Int)) rfl (gy_t rfl) (fun hg => (fun w' H => x_ix (a := ab) (b := I (s3 : Int)) (v := vat ab 1 (Int.toNat (s3 : Int))) (gd_of (c := (s3 : Int) != (s2 : Int)) hg (ab)) (gd_of (c := (s3 : Int) != (s2 : Int)) hg (I (s3 : Int))) (Sl.ix (α := Int) T28.und T28.size (H.os 0) (by have aa := aF.resolve_left (by rw [hg]; decide); first | exact aa | exact aa.1 | exact aa.2 | omega | (have ac := hg; simp at ac; omega)) (by have aa := aF.resolve_left (by rw [hg]; decide); first | exact aa | exact aa.1 | exact aa.2 | omega | (have ac := hg; simp at ac; omega))))) ?_
   refine d_qg ((s3 : Int) != (s2 : Int)) rfl (gy_t rfl) (fun hg => (fun w' H => x_ld (p := vat ab 1 (Int.toNat (s3 : Int))) (v := I (l6.getD s3 0)) (gd_of (c := (s3 : Int) != (s2 : Int)) hg (vat ab 1 (Int.toNat (s3 : Int)))) (ld_sc Sc3 (At.mono (Int_at (H.os 0) (i := (s3 : Int)) (by have aa := aF.resolve_left (by rw [hg]; decide); first | exact aa | exact aa.1 | exact aa.2 | omega | (have ac := hg; simp at ac; omega)) (by have aa := aF.resolve_left (by rw [hg]; decide); first | exact aa | exact aa.1 | exact aa.2 | omega | (have ac := hg; simp at ac; omega))) (H.ol 0))))) ?_
   refine d_qg ((s3 : Int) != (s2 : Int)) rfl (gy_t rfl) (fun hg => (fun w' H => x_mv (v := av) rfl)) ?_
   refine d_qg ((s3 : Int) != (s2 : Int)) rfl (gy_t rfl) (fun hg => (fun w' H => x_lenS T28.und (gd_of (c := (s3 : Int) != (s2 : Int)) hg (av)) aJ)) ?_
   refine d_qg ((s3 : Int) != (s2 : Int)) rfl (gy_t rfl) (fun hg => (fun w' H => x_cmp (kd := .i64) (a := l6.getD s3 0) (b := ((r2.getD s3 ([])).length : Int)) (r := decide ((l6.getD s3 0) < ((r2.getD s3 ([])).length : Int))) (gd_of (c := (s3 : Int) != (s2 : Int)) hg (I (l6.getD s3 0))) (gd_of (c := (s3 : Int) != (s2 : Int)) hg (I ((r2.getD s3 ([])).length : Int))) rfl)) ?_
   refine d_q rfl (fun w' H => x_pand (b := (s3 : Int) != (s2 : Int)) (r := decide ((l6.getD s3 0) < ((r2.getD s3 ([])).length : Int))) rfl (fun hb => gd_of (c := (s3 : Int) != (s2 : Int)) (by first | exact hb | (rw [hb]; rfl) | simp_all) (B (decide ((l6.getD s3 0) < ((r2.getD s3 ([])).length : Int))))) rfl) ?_
   refine d_q rfl (fun w' H => x_mv (v := B (((s3 : Int) != (s2 : Int)) && (decide ((l6.getD s3 0) < ((r2.getD s3 ([])).length : Int))))) rfl) ?_
   refine d_qg (((s3 : Int) != (s2 : Int)) && (decide ((l6.getD s3 0) < ((r2.getD s3 ([])).length : Int)))) rfl (gy_t rfl) (fun hg => (fun w' H => x_mv (v := ab) rfl)) ?_
   refine d_qg (((s3 : Int) != (s2 : Int)) && (decide ((l6.getD s3 0) < ((r2.getD s3 ([])).length : Int)))) rfl (gy_t rfl) (fun hg => (fun w' H => x_mv (v := I (s2 : Int)) rfl)) ?_
   obtain ⟨aG, hM⟩ := M.e_grd hM
   replace aG := M.imp_of aG
   simp only [Bool.and_eq_true, decide_eq_true_eq] at aG
   refine d_qg (((s3 : Int) != (s2 : Int)) && (decide ((l6.getD s3 0) < ((r2.getD s3 ([])).length : Int)))) rfl (gy_t rfl) (fun hg => (fun w' H => x_ix (a := ab) (b := I (s2 : Int)) (v := vat ab 1 (Int.toNat (s2 : Int))) (gd_of (c := (((s3 : Int) != (s2 : Int)) && (decide ((l6.getD s3 0) < ((r2.getD s3 ([])).length : Int))))) hg (ab)) (gd_of (c := (((s3 : Int) != (s2 : Int)) && (decide ((l6.getD s3 0) < ((r2.getD s3 ([])).length : Int))))) hg (I (s2 : Int))) (Sl.ix (α := Int) T28.und T28.size (H.os 0) (by have aa := aG.resolve_left (by rw [hg]; decide); first | exact aa | exact aa.1 | exact aa.2 | omega | (have ac := hg; simp at ac; omega)) (by have aa := aG.resolve_left (by rw [hg]; decide); first | exact aa | exact aa.1 | exact aa.2 | omega | (have ac := hg; simp at ac; omega))))) ?_
   refine d_qg (((s3 : Int) != (s2 : Int)) && (decide ((l6.getD s3 0) < ((r2.getD s3 ([])).length : Int)))) rfl (gy_t rfl) (fun hg => (fun w' H => x_ld (p := vat ab 1 (Int.toNat (s2 : Int))) (v := I (l6.getD s2 0)) (gd_of (c := (((s3 : Int) != (s2 : Int)) && (decide ((l6.getD s3 0) < ((r2.getD s3 ([])).length : Int))))) hg (vat ab 1 (Int.toNat (s2 : Int)))) (ld_sc Sc3 (At.mono (Int_at (H.os 0) (i := (s2 : Int)) (by have aa := aG.resolve_left (by rw [hg]; decide); first | exact aa | exact aa.1 | exact aa.2 | omega | (have ac := hg; simp at ac; omega)) (by have aa := aG.resolve_left (by rw [hg]; decide); first | exact aa | exact aa.1 | exact aa.2 | omega | (have ac := hg; simp at ac; omega))) (H.ol 0))))) ?_
   refine d_qg (((s3 : Int) != (s2 : Int)) && (decide ((l6.getD s3 0) < ((r2.getD s3 ([])).length : Int)))) rfl (gy_t rfl) (fun hg => (fun w' H => x_mv (v := aw) rfl)) ?_
   refine d_qg (((s3 : Int) != (s2 : Int)) && (decide ((l6.getD s3 0) < ((r2.getD s3 ([])).length : Int)))) rfl (gy_t rfl) (fun hg => (fun w' H => x_lenS T28.und (gd_of (c := (((s3 : Int) != (s2 : Int)) && (decide ((l6.getD s3 0) < ((r2.getD s3 ([])).length : Int))))) hg (aw)) aK)) ?_
   refine d_qg (((s3 : Int) != (s2 : Int)) && (decide ((l6.getD s3 0) < ((r2.getD s3 ([])).length : Int)))) rfl (gy_t rfl) (fun hg => (fun w' H => x_cmp (kd := .i64) (a := l6.getD s2 0) (b := ((r2.getD s2 ([])).length : Int)) (r := decide ((l6.getD s2 0) < ((r2.getD s2 ([])).length : Int))) (gd_of (c := (((s3 : Int) != (s2 : Int)) && (decide ((l6.getD s3 0) < ((r2.getD s3 ([])).length : Int))))) hg (I (l6.getD s2 0))) (gd_of (c := (((s3 : Int) != (s2 : Int)) && (decide ((l6.getD s3 0) < ((r2.getD s3 ([])).length : Int))))) hg (I ((r2.getD s2 ([])).length : Int))) rfl)) ?_
   refine d_q rfl (fun w' H => x_pand (b := (((s3 : Int) != (s2 : Int)) && (decide ((l6.getD s3 0) < ((r2.getD s3 ([])).length : Int))))) (r := decide ((l6.getD s2 0) < ((r2.getD s2 ([])).length : Int))) rfl (fun hb => gd_of (c := (((s3 : Int) != (s2 : Int)) && (decide ((l6.getD s3 0) < ((r2.getD s3 ([])).length : Int))))) (by first | exact hb | (rw [hb]; rfl) | simp_all) (B (decide ((l6.getD s2 0) < ((r2.getD s2 ([])).length : Int))))) rfl) ?_
   refine d_q rfl (fun w' H => x_mv (v := B ((((s3 : Int) != (s2 : Int)) && (decide ((l6.getD s3 0) < ((r2.getD s3 ([])).length : Int)))) && (decide ((l6.getD s2 0) < ((r2.getD s2 ([])).length : Int))))) rfl) ?_
   refine d_qg ((((s3 : Int) != (s2 : Int)) && (decide ((l6.getD s3 0) < ((r2.getD s3 ([])).length : Int)))) && (decide ((l6.getD s2 0) < ((r2.getD s2 ([])).length : Int)))) rfl (gy_t rfl) (fun hg => (fun w' H => x_mv (v := Pq al) rfl)) ?_
   refine d_qg ((((s3 : Int) != (s2 : Int)) && (decide ((l6.getD s3 0) < ((r2.getD s3 ([])).length : Int)))) && (decide ((l6.getD s2 0) < ((r2.getD s2 ([])).length : Int)))) rfl (gy_t rfl) (fun hg => (fun w' H => x_mv (v := av) rfl)) ?_
   refine d_qg ((((s3 : Int) != (s2 : Int)) && (decide ((l6.getD s3 0) < ((r2.getD s3 ([])).length : Int)))) && (decide ((l6.getD s2 0) < ((r2.getD s2 ([])).length : Int)))) rfl (gy_t rfl) (fun hg => (fun w' H => x_mv (v := ab) rfl)) ?_
   refine d_qg ((((s3 : Int) != (s2 : Int)) && (decide ((l6.getD s3 0) < ((r2.getD s3 ([])).length : Int)))) && (decide ((l6.getD s2 0) < ((r2.getD s2 ([])).length : Int)))) rfl (gy_t rfl) (fun hg => (fun w' H => x_mv (v := I (s3 : Int)) rfl)) ?_
   obtain ⟨am, hM⟩ := M.e_grd hM
   replace am := M.imp_of am
   simp only [Bool.and_eq_true, decide_eq_true_eq] at am
   refine d_qg ((((s3 : Int) != (s2 : Int)) && (decide ((l6.getD s3 0) < ((r2.getD s3 ([])).length : Int)))) && (decide ((l6.getD s2 0) < ((r2.getD s2 ([])).length : Int)))) rfl (gy_t rfl) (fun hg => (fun w' H => x_ix (a := ab) (b := I (s3 : Int)) (v := vat ab 1 (Int.toNat (s3 : Int))) (gd_of (c := ((((s3 : Int) != (s2 : Int)) && (decide ((l6.getD s3 0) < ((r2.getD s3 ([])).length : Int)))) && (decide ((l6.getD s2 0) < ((r2.getD s2 ([])).length : Int))))) hg (ab)) (gd_of (c := ((((s3 : Int) != (s2 : Int)) && (decide ((l6.getD s3 0) < ((r2.getD s3 ([])).length : Int)))) && (decide ((l6.getD s2 0) < ((r2.getD s2 ([])).length : Int))))) hg (I (s3 : Int))) (Sl.ix (α := Int) T28.und T28.size (H.os 0) (by have aa := am.resolve_left (by rw [hg]; decide); first | exact aa | exact aa.1 | exact aa.2 | omega | (have ac := hg; simp at ac; omega)) (by have aa := am.resolve_left (by rw [hg]; decide); first | exact aa | exact aa.1 | exact aa.2 | omega | (have ac := hg; simp at ac; omega))))) ?_
   refine d_qg ((((s3 : Int) != (s2 : Int)) && (decide ((l6.getD s3 0) < ((r2.getD s3 ([])).length : Int)))) && (decide ((l6.getD s2 0) < ((r2.getD s2 ([])).length : Int)))) rfl (gy_t rfl) (fun hg => (fun w' H => x_ld (p := vat ab 1 (Int.toNat (s3 : Int))) (v := I (l6.getD s3 0)) (gd_of (c := ((((s3 : Int) != (s2 : Int)) && (decide ((l6.getD s3 0) < ((r2.getD s3 ([])).length : Int)))) && (decide ((l6.getD s2 0) < ((r2.getD s2 ([])).length : Int))))) hg (vat ab 1 (Int.toNat (s3 : Int)))) (ld_sc Sc3 (At.mono (Int_at (H.os 0) (i := (s3 : Int)) (by have aa := am.resolve_left (by rw [hg]; decide); first | exact aa | exact aa.1 | exact aa.2 | omega | (have ac := hg; simp at ac; omega)) (by have aa := am.resolve_left (by rw [hg]; decide); first | exact aa | exact aa.1 | exact aa.2 | omega | (have ac := hg; simp at ac; omega))) (H.ol 0))))) ?_
   obtain ⟨ao, hM⟩ := M.e_grd hM
   replace ao := M.imp_of ao
   simp only [Bool.and_eq_true, decide_eq_true_eq] at ao
   refine d_qg ((((s3 : Int) != (s2 : Int)) && (decide ((l6.getD s3 0) < ((r2.getD s3 ([])).length : Int)))) && (decide ((l6.getD s2 0) < ((r2.getD s2 ([])).length : Int)))) rfl (gy_t rfl) (fun hg => (fun w' H => x_ix (a := av) (b := I (l6.getD s3 0)) (v := vat av 1 (Int.toNat (l6.getD s3 0))) (gd_of (c := ((((s3 : Int) != (s2 : Int)) && (decide ((l6.getD s3 0) < ((r2.getD s3 ([])).length : Int)))) && (decide ((l6.getD s2 0) < ((r2.getD s2 ([])).length : Int))))) hg (av)) (gd_of (c := ((((s3 : Int) != (s2 : Int)) && (decide ((l6.getD s3 0) < ((r2.getD s3 ([])).length : Int)))) && (decide ((l6.getD s2 0) < ((r2.getD s2 ([])).length : Int))))) hg (I (l6.getD s3 0))) (Sl.ix (α := Int) T28.und T28.size aJ (by have aa := am.resolve_left (by rw [hg]; decide); have ae := ao.resolve_left (by rw [hg]; decide); first | exact aa | exact aa.1 | exact aa.2 | exact ae | exact ae.1 | exact ae.2 | omega | (have ac := hg; simp at ac; omega)) (by have aa := am.resolve_left (by rw [hg]; decide); have ae := ao.resolve_left (by rw [hg]; decide); first | exact aa | exact aa.1 | exact aa.2 | exact ae | exact ae.1 | exact ae.2 | omega | (have ac := hg; simp at ac; omega))))) ?_
   refine d_qg ((((s3 : Int) != (s2 : Int)) && (decide ((l6.getD s3 0) < ((r2.getD s3 ([])).length : Int)))) && (decide ((l6.getD s2 0) < ((r2.getD s2 ([])).length : Int)))) rfl (gy_t rfl) (fun hg => (fun w' H => x_ld (p := vat av 1 (Int.toNat (l6.getD s3 0))) (v := I ((r2.getD s3 ([])).getD (Int.toNat (l6.getD s3 0)) 0)) (gd_of (c := ((((s3 : Int) != (s2 : Int)) && (decide ((l6.getD s3 0) < ((r2.getD s3 ([])).length : Int)))) && (decide ((l6.getD s2 0) < ((r2.getD s2 ([])).length : Int))))) hg (vat av 1 (Int.toNat (l6.getD s3 0)))) (ld_sc Sc3 (At.mono (Int_at aJ (i := l6.getD s3 0) (by have aa := am.resolve_left (by rw [hg]; decide); have ae := ao.resolve_left (by rw [hg]; decide); first | exact aa | exact aa.1 | exact aa.2 | exact ae | exact ae.1 | exact ae.2 | omega | (have ac := hg; simp at ac; omega)) (by have aa := am.resolve_left (by rw [hg]; decide); have ae := ao.resolve_left (by rw [hg]; decide); first | exact aa | exact aa.1 | exact aa.2 | exact ae | exact ae.1 | exact ae.2 | omega | (have ac := hg; simp at ac; omega))) (Cells.sup_le (H.ol 1) (roLe _ (H.get (k := 2) rfl))))))) ?_
   refine d_qg ((((s3 : Int) != (s2 : Int)) && (decide ((l6.getD s3 0) < ((r2.getD s3 ([])).length : Int)))) && (decide ((l6.getD s2 0) < ((r2.getD s2 ([])).length : Int)))) rfl (gy_t rfl) (fun hg => (fun w' H => x_mv (v := aw) rfl)) ?_
   refine d_qg ((((s3 : Int) != (s2 : Int)) && (decide ((l6.getD s3 0) < ((r2.getD s3 ([])).length : Int)))) && (decide ((l6.getD s2 0) < ((r2.getD s2 ([])).length : Int)))) rfl (gy_t rfl) (fun hg => (fun w' H => x_mv (v := ab) rfl)) ?_
   refine d_qg ((((s3 : Int) != (s2 : Int)) && (decide ((l6.getD s3 0) < ((r2.getD s3 ([])).length : Int)))) && (decide ((l6.getD s2 0) < ((r2.getD s2 ([])).length : Int)))) rfl (gy_t rfl) (fun hg => (fun w' H => x_mv (v := I (s2 : Int)) rfl)) ?_
   obtain ⟨ax, hM⟩ := M.e_grd hM
   replace ax := M.imp_of ax
   simp only [Bool.and_eq_true, decide_eq_true_eq] at ax
   refine d_qg ((((s3 : Int) != (s2 : Int)) && (decide ((l6.getD s3 0) < ((r2.getD s3 ([])).length : Int)))) && (decide ((l6.getD s2 0) < ((r2.getD s2 ([])).length : Int)))) rfl (gy_t rfl) (fun hg => (fun w' H => x_ix (a := ab) (b := I (s2 : Int)) (v := vat ab 1 (Int.toNat (s2 : Int))) (gd_of (c := ((((s3 : Int) != (s2 : Int)) && (decide ((l6.getD s3 0) < ((r2.getD s3 ([])).length : Int)))) && (decide ((l6.getD s2 0) < ((r2.getD s2 ([])).length : Int))))) hg (ab)) (gd_of (c := ((((s3 : Int) != (s2 : Int)) && (decide ((l6.getD s3 0) < ((r2.getD s3 ([])).length : Int)))) && (decide ((l6.getD s2 0) < ((r2.getD s2 ([])).length : Int))))) hg (I (s2 : Int))) (Sl.ix (α := Int) T28.und T28.size (H.os 0) (by have aa := am.resolve_left (by rw [hg]; decide); have ae := ao.resolve_left (by rw [hg]; decide); have ag := ax.resolve_left (by rw [hg]; decide); first | exact aa | exact aa.1 | exact aa.2 | exact ae | exact ae.1 | exact ae.2 | exact ag | exact ag.1 | exact ag.2 | omega | (have ac := hg; simp at ac; omega)) (by have aa := am.resolve_left (by rw [hg]; decide); have ae := ao.resolve_left (by rw [hg]; decide); have ag := ax.resolve_left (by rw [hg]; decide); first | exact aa | exact aa.1 | exact aa.2 | exact ae | exact ae.1 | exact ae.2 | exact ag | exact ag.1 | exact ag.2 | omega | (have ac := hg; simp at ac; omega))))) ?_
   refine d_qg ((((s3 : Int) != (s2 : Int)) && (decide ((l6.getD s3 0) < ((r2.getD s3 ([])).length : Int)))) && (decide ((l6.getD s2 0) < ((r2.getD s2 ([])).length : Int)))) rfl (gy_t rfl) (fun hg => (fun w' H => x_ld (p := vat ab 1 (Int.toNat (s2 : Int))) (v := I (l6.getD s2 0)) (gd_of (c := ((((s3 : Int) != (s2 : Int)) && (decide ((l6.getD s3 0) < ((r2.getD s3 ([])).length : Int)))) && (decide ((l6.getD s2 0) < ((r2.getD s2 ([])).length : Int))))) hg (vat ab 1 (Int.toNat (s2 : Int)))) (ld_sc Sc3 (At.mono (Int_at (H.os 0) (i := (s2 : Int)) (by have aa := am.resolve_left (by rw [hg]; decide); have ae := ao.resolve_left (by rw [hg]; decide); have ag := ax.resolve_left (by rw [hg]; decide); first | exact aa | exact aa.1 | exact aa.2 | exact ae | exact ae.1 | exact ae.2 | exact ag | exact ag.1 | exact ag.2 | omega | (have ac := hg; simp at ac; omega)) (by have aa := am.resolve_left (by rw [hg]; decide); have ae := ao.resolve_left (by rw [hg]; decide); have ag := ax.resolve_left (by rw [hg]; decide); first | exact aa | exact aa.1 | exact aa.2 | exact ae | exact ae.1 | exact ae.2 | exact ag | exact ag.1 | exact ag.2 | omega | (have ac := hg; simp at ac; omega))) (H.ol 0))))) ?_
   obtain ⟨aH, hM⟩ := M.e_grd hM
   replace aH := M.imp_of aH
   simp only [Bool.and_eq_true, decide_eq_true_eq] at aH
   refine d_qg ((((s3 : Int) != (s2 : Int)) && (decide ((l6.getD s3 0) < ((r2.getD s3 ([])).length : Int)))) && (decide ((l6.getD s2 0) < ((r2.getD s2 ([])).length : Int)))) rfl (gy_t rfl) (fun hg => (fun w' H => x_ix (a := aw) (b := I (l6.getD s2 0)) (v := vat aw 1 (Int.toNat (l6.getD s2 0))) (gd_of (c := ((((s3 : Int) != (s2 : Int)) && (decide ((l6.getD s3 0) < ((r2.getD s3 ([])).length : Int)))) && (decide ((l6.getD s2 0) < ((r2.getD s2 ([])).length : Int))))) hg (aw)) (gd_of (c := ((((s3 : Int) != (s2 : Int)) && (decide ((l6.getD s3 0) < ((r2.getD s3 ([])).length : Int)))) && (decide ((l6.getD s2 0) < ((r2.getD s2 ([])).length : Int))))) hg (I (l6.getD s2 0))) (Sl.ix (α := Int) T28.und T28.size aK (by have aa := am.resolve_left (by rw [hg]; decide); have ae := ao.resolve_left (by rw [hg]; decide); have ag := ax.resolve_left (by rw [hg]; decide); have ap := aH.resolve_left (by rw [hg]; decide); first | exact aa | exact aa.1 | exact aa.2 | exact ae | exact ae.1 | exact ae.2 | exact ag | exact ag.1 | exact ag.2 | exact ap | exact ap.1 | exact ap.2 | omega | (have ac := hg; simp at ac; omega)) (by have aa := am.resolve_left (by rw [hg]; decide); have ae := ao.resolve_left (by rw [hg]; decide); have ag := ax.resolve_left (by rw [hg]; decide); have ap := aH.resolve_left (by rw [hg]; decide); first | exact aa | exact aa.1 | exact aa.2 | exact ae | exact ae.1 | exact ae.2 | exact ag | exact ag.1 | exact ag.2 | exact ap | exact ap.1 | exact ap.2 | omega | (have ac := hg; simp at ac; omega))))) ?_
   refine d_qg ((((s3 : Int) != (s2 : Int)) && (decide ((l6.getD s3 0) < ((r2.getD s3 ([])).length : Int)))) && (decide ((l6.getD s2 0) < ((r2.getD s2 ([])).length : Int)))) rfl (gy_t rfl) (fun hg => (fun w' H => x_ld (p := vat aw 1 (Int.toNat (l6.getD s2 0))) (v := I ((r2.getD s2 ([])).getD (Int.toNat (l6.getD s2 0)) 0)) (gd_of (c := ((((s3 : Int) != (s2 : Int)) && (decide ((l6.getD s3 0) < ((r2.getD s3 ([])).length : Int)))) && (decide ((l6.getD s2 0) < ((r2.getD s2 ([])).length : Int))))) hg (vat aw 1 (Int.toNat (l6.getD s2 0)))) (ld_sc Sc3 (At.mono (Int_at aK (i := l6.getD s2 0) (by have aa := am.resolve_left (by rw [hg]; decide); have ae := ao.resolve_left (by rw [hg]; decide); have ag := ax.resolve_left (by rw [hg]; decide); have ap := aH.resolve_left (by rw [hg]; decide); first | exact aa | exact aa.1 | exact aa.2 | exact ae | exact ae.1 | exact ae.2 | exact ag | exact ag.1 | exact ag.2 | exact ap | exact ap.1 | exact ap.2 | omega | (have ac := hg; simp at ac; omega)) (by have aa := am.resolve_left (by rw [hg]; decide); have ae := ao.resolve_left (by rw [hg]; decide); have ag := ax.resolve_left (by rw [hg]; decide); have ap := aH.resolve_left (by rw [hg]; decide); first | exact aa | exact aa.1 | exact aa.2 | exact ae | exact ae.1 | exact ae.2 | exact ag | exact ag.1 | exact ag.2 | exact ap | exact ap.1 | exact ap.2 | omega | (have ac := hg; simp at ac; omega))) (Cells.sup_le (H.ol 1) (roLe _ (H.get (k := 2) rfl))))))) ?_
   refine d_l rfl ?_
   obtain ⟨r3, bV, hM⟩ := M.e_bind hM
   refine t_gcall ((((s3 : Int) != (s2 : Int)) && (decide ((l6.getD s3 0) < ((r2.getD s3 ([])).length : Int)))) && (decide ((l6.getD s2 0) < ((r2.getD s2 ([])).length : Int)))) (gy_t rfl) cf23 (B r3) (fun _ => [Pq al, I ((r2.getD s3 ([])).getD (Int.toNat (l6.getD s3 0)) 0), I ((r2.getD s2 ([])).getD (Int.toNat (l6.getD s2 0)) 0)]) (fun hg => lst3 (gd_of (c := ((((s3 : Int) != (s2 : Int)) && (decide ((l6.getD s3 0) < ((r2.getD s3 ([])).length : Int)))) && (decide ((l6.getD s2 0) < ((r2.getD s2 ([])).length : Int))))) hg (Pq al)) (gd_of (c := ((((s3 : Int) != (s2 : Int)) && (decide ((l6.getD s3 0) < ((r2.getD s3 ([])).length : Int)))) && (decide ((l6.getD s2 0) < ((r2.getD s2 ([])).length : Int))))) hg (I ((r2.getD s3 ([])).getD (Int.toNat (l6.getD s3 0)) 0))) (gd_of (c := ((((s3 : Int) != (s2 : Int)) && (decide ((l6.getD s3 0) < ((r2.getD s3 ([])).length : Int)))) && (decide ((l6.getD s2 0) < ((r2.getD s2 ([])).length : Int))))) hg (I ((r2.getD s2 ([])).getD (Int.toNat (l6.getD s2 0)) 0)))) H (fun hg => (zas s_Sections s_Marks s_Reaches ((r2.getD s3 ([])).getD (Int.toNat (l6.getD s3 0)) 0) ((r2.getD s2 ([])).getD (Int.toNat (l6.getD s2 0)) 0) (aS.app _) aT (aU.app _) aV (aW.app _) aX (Has.here (k := 3) rfl) (M.e_opt bV hg) _ (H.give (A := []) rfl)).mono fun v_ w_ ⟨y_, aL, bW, H_⟩ => by subst aL; exact ⟨bW, H.via H_⟩) ?_
   intro cJ H
   refine s_nil ⟨(H.pk [0, 1, 2, 3, 4, 5]), ?_⟩
   refine d_q rfl (fun w' H => x_pand (b := ((((s3 : Int) != (s2 : Int)) && (decide ((l6.getD s3 0) < ((r2.getD s3 ([])).length : Int)))) && (decide ((l6.getD s2 0) < ((r2.getD s2 ([])).length : Int))))) (r := r3) rfl (fun hb => gd_of (c := ((((s3 : Int) != (s2 : Int)) && (decide ((l6.getD s3 0) < ((r2.getD s3 ([])).length : Int)))) && (decide ((l6.getD s2 0) < ((r2.getD s2 ([])).length : Int))))) (by first | exact hb | (rw [hb]; rfl) | simp_all) (B r3)) rfl) ?_
   refine d_nil ?_
   refine W.cond (((((s3 : Int) != (s2 : Int)) && (decide ((l6.getD s3 0) < ((r2.getD s3 ([])).length : Int)))) && (decide ((l6.getD s2 0) < ((r2.getD s2 ([])).length : Int)))) && r3) rfl (fun bb => ?_) (fun bb => ?_)
   ·replace hM := M.e_t hM bb
    refine W.seq ?_
    refine W.region rfl ?_
    refine zM ab rfl ?_
    refine zM (I (s3 : Int)) rfl ?_
    obtain ⟨bX, hM⟩ := M.e_grd hM
    simp only [Bool.and_eq_true, decide_eq_true_eq] at bX
    refine s_val (x_ix (a := ab) (b := I (s3 : Int)) (v := vat ab 1 (Int.toNat (s3 : Int))) rfl rfl (Sl.ix (α := Int) T28.und T28.size (H.os 0) (by omega) (by omega))) ?_
    refine s_val (x_ld (p := vat ab 1 (Int.toNat (s3 : Int))) (v := I (l6.getD s3 0)) rfl (ld_sc Sc3 (At.mono (Int_at (H.os 0) (i := (s3 : Int)) (by omega) (by omega)) (H.ol 0)))) ?_
    obtain ⟨bY, hM⟩ := M.e_grd hM
    simp only [Bool.and_eq_true, decide_eq_true_eq] at bY
    refine zR (l6.getD s3 0) 1 ((l6.getD s3 0) + 1) rfl rfl rfl (by omega) ?_
    refine s_val (x_ix (a := ab) (b := I (s3 : Int)) (v := vat ab 1 (Int.toNat (s3 : Int))) rfl rfl (Sl.ix (α := Int) T28.und T28.size (H.os 0) (by omega) (by omega))) ?_
    refine t_ost (k := 0) (i := (s3 : Int)) (l := l6) (l' := l6.set s3 ((l6.getD s3 0) + 1 : Int)) (val := I ((l6.getD s3 0) + 1)) (L' := [cOwn (α := Int) 3 ab (l6.set s3 ((l6.getD s3 0) + 1 : Int)), cOwn (α := Raw 0) 28 ah aD, cRo aE, cBlk al [ai, aj, ak, .map (some aq)] 99, cMemI encSpt aq (zaa s_Sections s_Marks s_Reaches), cBlk aA [ai, aj, ak] 27]) H rfl Sz3 (by omega) (by omega) ((l6.getD s3 0) + 1 : Int) rfl rfl rfl rfl rfl ?_
    intro cK H
    refine s_nil ?_
    refine W.goto ?_
    have bZ := M.e_inr hM ba
    subst bZ
    replace hM := bq
    try dsimp only at hM
    have b3 := M.e_inr hM a7
    subst b3
    replace hM := bo
    try dsimp only at hM
    exact ⟨rfl, bJ, bK, l6.set s3 ((l6.getD s3 0) + 1 : Int), ab, _, upds_of _ _ ⟨rfl, rfl, rfl, trivial⟩, M.e_inl hM bn, H⟩
   replace hM := M.e_f hM bb
   refine W.skip ?_
   refine W.region rfl ?_
   refine zR (s2 : Int) 1 ((s2 : Int) + 1) rfl rfl rfl (by omega) ?_
   refine zM (I ((s2 : Int) + 1)) rfl ?_
   refine s_nil ?_
   exact ⟨bR, bS, s2 + 1, _, upds_of _ _ ⟨rfl, rfl, rfl, rfl, rfl, rfl, rfl, rfl, rfl, rfl, rfl, trivial⟩, M.e_inl hM ba, H⟩
  replace hM := M.e_f hM aN
  simp only [qy1, qy2, qy3, qy4, qy5, qy6, ne_eq, qy7] at aN
  refine W.exit ?_
  have b4 := M.e_inr hM ba
  subst b4
  replace hM := bq
  try dsimp only at hM
  refine W.region rfl ?_
  refine zR (s3 : Int) 1 ((s3 : Int) + 1) rfl rfl rfl (by omega) ?_
  refine zM (I ((s3 : Int) + 1)) rfl ?_
  refine s_nil ?_
  exact ⟨bM, bN, s3 + 1, _, upds_of _ _ ⟨rfl, rfl, rfl, rfl, rfl, rfl, trivial⟩, M.e_inl hM a7, H⟩
 replace hM := M.e_f hM aM
 simp only [qy1, qy2, qy3, qy4, qy5, qy6, ne_eq, qy7] at aM
 refine W.exit ?_
 have b5 := M.e_inr hM a7
 subst b5
 replace hM := bo
 try dsimp only at hM
 refine W.seq ?_
 refine W.region rfl ?_
 refine zA (.slice none 0 0) rfl ?_
 refine s_nil ?_
 refine W.seq ?_
 refine W.seq ?_
 refine W.region rfl ?_
 refine zM ah rfl ?_
 have cL := ((rowSl rfl (H.get (k := 1) rfl) (roLe _ (H.get (k := 2) rfl)) au)).len_le
 refine s_val (x_lenS T75.und rfl (rowSl rfl (H.get (k := 1) rfl) (roLe _ (H.get (k := 2) rfl)) au)) ?_
 refine zM (I 0) rfl ?_
 refine s_nil ?_
 refine W.block ?_
 replace H := H.nilOwn (α := Int) 3
 obtain ⟨b6, bc, b7⟩ := M.e_bind hM
 obtain ⟨aZ, bc⟩ := M.e_iter bc
 refine W.loop (fun m σ W => ∃ (s4 : Nat) (l3 : List Int) (ay : Value) (ρ : Env), σ = upds ρ [(7, ab), (12, ay), (89, ah), (90, I (r2.length : Int)), (91, I (s4 : Int))] /\ M.iterN (zaI r2 l6) m (s4, l3) = some b6 /\ St w W [cOwn (α := Int) 3 ay l3, cOwn (α := Int) 3 ab l6, cOwn (α := Raw 0) 28 ah aD, cRo aE, cBlk al [ai, aj, ak, .map (some aq)] 99, cMemI encSpt aq (zaa s_Sections s_Marks s_Reaches), cBlk aA [ai, aj, ak] 27] R) ?_ ?_
 ·exact ⟨_, 0, [], (.slice none 0 0), _, upds_of _ _ ⟨rfl, rfl, rfl, rfl, rfl, trivial⟩, bc, H⟩
 rintro cM σ cN ⟨s4, l3, ay, ρ, rfl, bt, H⟩
 obtain ⟨bu, bv, cO, hM, bf⟩ := M.e_iterN bt
 simp only [zaI] at hM
 clear bt
 refine W.seq ?_
 refine W.region rfl ?_
 refine zC (s4 : Int) (r2.length : Int) (decide ((s4 : Int) < (r2.length : Int))) rfl rfl rfl ?_
 refine s_nil ?_
 refine W.seq ?_
 refine W.cond (decide ((s4 : Int) < (r2.length : Int))) rfl (fun aO => ?_) (fun aO => ?_)
 ·replace hM := M.e_t hM aO
  simp only [qy1, qy2, qy3, qy4, qy5, qy6, ne_eq, qy7] at aO
  refine W.skip ?_
  refine W.seq ?_
  refine W.block ?_
  refine W.seq ?_
  refine W.region rfl ?_
  refine zM (I (s4 : Int)) rfl ?_
  obtain ⟨b8, hM⟩ := M.e_grd hM
  simp only [Bool.and_eq_true, decide_eq_true_eq] at b8
  refine s_val (x_ix (a := ah) (b := I (s4 : Int)) (v := vat ah 1 (Int.toNat (s4 : Int))) rfl rfl (Sl.ix (α := List Int) T75.und T75.size (rowSl rfl (H.get (k := 2) rfl) (roLe _ (H.get (k := 3) rfl)) au) (by omega) (by omega))) ?_
  obtain ⟨aC, b9, aI⟩ := List_at (rowSl rfl (H.get (k := 2) rfl) (roLe _ (H.get (k := 3) rfl)) au) (i := (s4 : Int)) (by omega) (by omega)
  replace aI : Sl _ aC (r2.getD s4 ([])) := aI
  have cP := aI.len_le
  refine s_val (x_ld (p := vat ah 1 (Int.toNat (s4 : Int))) (v := aC) rfl (ld_sc Sc28 (At.mono (b9) (Cells.sup_le (H.ol 2) (roLe _ (H.get (k := 3) rfl)))))) ?_
  refine zA (I (s4 : Int)) rfl ?_
  refine zA aC rfl ?_
  refine s_nil ?_
  refine W.seq ?_
  refine W.region rfl ?_
  refine zM ab rfl ?_
  refine zM (I (s4 : Int)) rfl ?_
  obtain ⟨cb, hM⟩ := M.e_grd hM
  simp only [Bool.and_eq_true, decide_eq_true_eq] at cb
  refine s_val (x_ix (a := ab) (b := I (s4 : Int)) (v := vat ab 1 (Int.toNat (s4 : Int))) rfl rfl (Sl.ix (α := Int) T28.und T28.size (H.os 1) (by omega) (by omega))) ?_
  refine s_val (x_ld (p := vat ab 1 (Int.toNat (s4 : Int))) (v := I (l6.getD s4 0)) rfl (ld_sc Sc3 (At.mono (Int_at (H.os 1) (i := (s4 : Int)) (by omega) (by omega)) (H.ol 1)))) ?_
  refine zM aC rfl ?_
  have cQ := (aI).len_le
  refine s_val (x_lenS T28.und rfl aI) ?_
  refine zC (l6.getD s4 0) ((r2.getD s4 ([])).length : Int) (decide ((l6.getD s4 0) < ((r2.getD s4 ([])).length : Int))) rfl rfl rfl ?_
  refine s_nil ?_
  refine W.cond (decide ((l6.getD s4 0) < ((r2.getD s4 ([])).length : Int))) rfl (fun aP => ?_) (fun aP => ?_)
  ·replace hM := M.e_t hM aP
   simp only [qy1, qy2, qy3, qy4, qy5, qy6, ne_eq, qy7] at aP
   refine W.region rfl ?_
   refine zM ay rfl ?_
   refine zM aC rfl ?_
   refine zM ab rfl ?_
   refine zM (I (s4 : Int)) rfl ?_
   refine s_val (x_ix (a := ab) (b := I (s4 : Int)) (v := vat ab 1 (Int.toNat (s4 : Int))) rfl rfl (Sl.ix (α := Int) T28.und T28.size (H.os 1) (by omega) (by omega))) ?_
   refine s_val (x_ld (p := vat ab 1 (Int.toNat (s4 : Int))) (v := I (l6.getD s4 0)) rfl (ld_sc Sc3 (At.mono (Int_at (H.os 1) (i := (s4 : Int)) (by omega) (by omega)) (H.ol 1)))) ?_
   obtain ⟨cc, hM⟩ := M.e_grd hM
   simp only [Bool.and_eq_true, decide_eq_true_eq] at cc
   refine s_val (x_ix (a := aC) (b := I (l6.getD s4 0)) (v := vat aC 1 (Int.toNat (l6.getD s4 0))) rfl rfl (Sl.ix (α := Int) T28.und T28.size aI (by omega) (by omega))) ?_
   refine s_val (x_ld (p := vat aC 1 (Int.toNat (l6.getD s4 0))) (v := I ((r2.getD s4 ([])).getD (Int.toNat (l6.getD s4 0)) 0)) rfl (ld_sc Sc3 (At.mono (Int_at aI (i := l6.getD s4 0) (by omega) (by omega)) (Cells.sup_le (H.ol 2) (roLe _ (H.get (k := 3) rfl)))))) ?_
   refine t_bs (α := Int) T28 [I ((r2.getD s4 ([])).getD (Int.toNat (l6.getD s4 0)) 0)] [((r2.getD s4 ([])).getD (Int.toNat (l6.getD s4 0)) 0 : Int)] H rfl (.cons rfl (Flat.rep_enc _ ((r2.getD s4 ([])).getD (Int.toNat (l6.getD s4 0)) 0 : Int)) <| .nil) rfl rfl rfl ?_
   intro ce cR H
   obtain ⟨cf, hM⟩ := M.e_grd hM
   simp only [Bool.and_eq_true, decide_eq_true_eq] at cf
   refine t_app (α := Int) (k := 1) (l := l3) (l2 := [((r2.getD s4 ([])).getD (Int.toNat (l6.getD s4 0)) 0 : Int)]) (l' := l3 ++ ([((r2.getD s4 ([])).getD (Int.toNat (l6.getD s4 0)) 0 : Int)])) (vy := ce) T28 rfl H rfl rfl rfl (H.os 0) (H.ol 0) (rfl) (by first | omega | (simp only [List.length_nil] at *; omega)) ?_
   intro bw cS H
   replace H := H.nf
   refine zA bw rfl ?_
   refine s_nil ?_
   refine W.region rfl ?_
   refine zR (s4 : Int) 1 ((s4 : Int) + 1) rfl rfl rfl (by omega) ?_
   refine zM (I ((s4 : Int) + 1)) rfl ?_
   refine s_nil ?_
   exact ⟨bu, bv, s4 + 1, l3 ++ ([((r2.getD s4 ([])).getD (Int.toNat (l6.getD s4 0)) 0 : Int)]), bw, _, upds_of _ _ ⟨rfl, rfl, rfl, rfl, rfl, trivial⟩, M.e_inl hM bf, (H.pk [1, 2, 3, 4, 5, 6, 7])⟩
  replace hM := M.e_f hM aP
  simp only [qy1, qy2, qy3, qy4, qy5, qy6, ne_eq, qy7] at aP
  refine W.skip ?_
  refine W.region rfl ?_
  refine zR (s4 : Int) 1 ((s4 : Int) + 1) rfl rfl rfl (by omega) ?_
  refine zM (I ((s4 : Int) + 1)) rfl ?_
  refine s_nil ?_
  exact ⟨bu, bv, s4 + 1, l3, ay, _, upds_of _ _ ⟨rfl, rfl, rfl, rfl, rfl, trivial⟩, M.e_inl hM bf, H⟩
 replace hM := M.e_f hM aO
 simp only [qy1, qy2, qy3, qy4, qy5, qy6, ne_eq, qy7] at aO
 refine W.exit ?_
 have cg := M.e_inr hM bf
 subst cg
 replace hM := b7
 try dsimp only at hM
 refine W.seq ?_
 refine W.region rfl ?_
 refine zM ay rfl ?_
 obtain ⟨ch, hM⟩ := M.e_grd hM
 simp only [Bool.and_eq_true, decide_eq_true_eq] at ch
 refine s_call cf24 [ay] rfl (sort_any (H.get (k := 0) rfl) (by omega)) ?_
 rintro _ ci ⟨rfl, bx, bz, bA⟩
 replace H : St w ci [cOwn (α := Int) 3 ay (isort l3), cOwn (α := Int) 3 ab l6, cOwn (α := Raw 0) 28 ah aD, cRo aE, cBlk al [ai, aj, ak, .map (some aq)] 99, cMemI encSpt aq (zaa s_Sections s_Marks s_Reaches), cBlk aA [ai, aj, ak] 27] R := H.sorted (k := 0) rfl bx bz bA rfl
 clear bx bz bA
 refine s_nil ?_
 refine W.seq ?_
 refine W.region rfl ?_
 refine zM ay rfl ?_
 refine zA ay rfl ?_
 refine zA (I 0) rfl ?_
 refine s_nil ?_
 refine W.ret ?_
 have cj := M.e_inr hM bn
 subst cj
 replace hM := bI
 try dsimp only at hM
 have aL := M.e_pure hM
 exact ⟨_, resE_tmp2 rfl, ⟨(isort l3), 0, ay, aL, rfl, (H.pk [0])⟩⟩

def zbX (i : Int) (ab : List Sect) (aa : List Mrk) (ac : List Rch) : M Bool :=
  M.bind (zab i 0 ((aa.length : Int) - 1)) fun r2 =>
  M.pure r2
theorem zc9 {R : List Chunk} {ac : Nat} {aa : Nat} {ag : Cells} {ah : Value} {ai : Cells} {ae : Value} {aj : Cells} {ak : Value} {aq : Nat} (i : Int) (al : List Sect) (ab : List Mrk) (am : List Rch) (az : Reads R ag) (aA : Sl ag ah al) (aB : Reads R ai) (ao : Sl ai ae ab) (aC : Reads R aj) (aD : Sl aj ak am) (au : Has R (cBlk aa [ah, ae, ak, .map (some aq)] 99)) (av : Has R (cBlk ac [Pq aa] 72)) {r : Bool} (hM : (zbX i al ab am).Ends r) (w : World) (H : St w w [] R) : Ret Try.prog 76 #[I i, Pq ac] w fun v w' => ∃ (y0 : Bool), y0 = r /\ v = B y0 /\ St w w' [] R := by
 refine ret_of_W Try.func76 rfl rfl rfl ?_
 refine W.seq ?_
 refine W.region rfl ?_
 refine zA (B false) rfl ?_
 refine s_nil ?_
 refine W.seq ?_
 refine W.region rfl ?_
 refine zM (I i) rfl ?_
 refine s_val (x_ld (p := Pq ac) (v := Pq aa) rfl (ldb_sc Sc72 (av.blk H) rfl)) ?_
 refine s_val (x_nc (a := ⟨aa, 0, none⟩) rfl) ?_
 refine s_val (x_fa (a := Pq aa) (v := Pq aa) rfl (fa_blk (o := 0) Fd99_0 Sz27)) ?_
 refine s_val (x_fa (a := Pq aa) (v := Oq aa 1) rfl (fa_blk (o := 0) Fd27_1 Sz24)) ?_
 refine s_val (x_ld (p := Oq aa 1) (v := ae) rfl (ldb_sc Sc24 (au.blk H) rfl)) ?_
 have aE := (ao).len_le
 refine s_val (x_lenS T24.und rfl ao) ?_
 refine zR (ab.length : Int) 1 ((ab.length : Int) - 1) rfl rfl rfl (by omega) ?_
 obtain ⟨aF, aw, hM⟩ := M.e_bind hM
 refine s_call cf34 [I i, I 0, I ((ab.length : Int) - 1)] rfl (zac i 0 ((ab.length : Int) - 1) aw _ (H.gt 0)) ?_
 rintro vq aG ⟨r2, ax, hvq, ap⟩
 subst ax
 subst vq
 try dsimp only at hM
 replace H := H.bk ap
 clear ap
 refine zA (B r2) rfl ?_
 refine s_nil ?_
 refine W.ret ?_
 have ay := M.e_pure hM
 exact ⟨_, resE_tmp rfl, ⟨r2, ay, rfl, H⟩⟩

def zbZ (j : Int) (aa : List Sect) (ab : List Mrk) (ac : List Rch) (ae : Int) : M Bool :=
  M.bind (zaf aa ab ac ae j) fun r2 =>
  M.bind (M.opt (!r2) (zaf aa ab ac j ae) false) fun r3 =>
  M.pure (r2 || r3)
theorem zda {R : List Chunk} {ac : Nat} {ab : Nat} {ak : Cells} {al : Value} {am : Cells} {ao : Value} {ap : Cells} {aq : Value} {aE : Nat} {ae : Nat} (j : Int) (ag : List Sect) (ah : List Mrk) (ai : List Rch) (aa : Int) (au : Reads R ak) (av : Sl ak al ag) (aw : Reads R am) (ax : Sl am ao ah) (ay : Reads R ap) (az : Sl ap aq ai) (aA : Has R (cBlk ab [al, ao, aq, .map (some aE)] 99)) (aB : Has R (cBlk ac [Pq ab] 72)) (aC : Has R (cBlk ae [I aa] 3)) {r : Bool} (hM : (zbZ j ag ah ai aa).Ends r) (w : World) (H : St w w [] R) : Ret Try.prog 77 #[I j, Pq ac, Pq ae] w fun v w' => ∃ (y0 : Bool), y0 = r /\ v = B y0 /\ St w w' [] R := by
 refine ret_of_W Try.func77 rfl rfl rfl ?_
 refine W.seq ?_
 refine W.region rfl ?_
 refine zA (B false) rfl ?_
 refine s_nil ?_
 refine W.seq ?_
 refine W.region rfl ?_
 refine s_val (x_ld (p := Pq ac) (v := Pq ab) rfl (ldb_sc Sc72 (aB.blk H) rfl)) ?_
 refine s_val (x_ld (p := Pq ae) (v := I aa) rfl (ldb_sc Sc3 (aC.blk H) rfl)) ?_
 refine zM (I j) rfl ?_
 obtain ⟨aJ, aF, hM⟩ := M.e_bind hM
 refine s_call cf23 [Pq ab, I aa, I j] rfl (zas ag ah ai aa j (au.app _) av (aw.app _) ax (ay.app _) az (aA.app _) aF _ (H.gt 0)) ?_
 rintro vq aK ⟨r2, aG, hvq, aD⟩
 subst aG
 subst vq
 try dsimp only at hM
 replace H := H.bk aD
 clear aD
 refine zM (B r2) rfl ?_
 refine g_val (!r2) (gy_f rfl) (fun hg => x_ld (p := Pq ac) (v := Pq ab) rfl (ldb_sc Sc72 (aB.blk H) rfl)) ?_
 refine g_val (!r2) (gy_f rfl) (fun hg => x_mv (v := I j) rfl) ?_
 refine g_val (!r2) (gy_f rfl) (fun hg => x_ld (p := Pq ae) (v := I aa) rfl (ldb_sc Sc3 (aC.blk H) rfl)) ?_
 obtain ⟨r3, aH, hM⟩ := M.e_bind hM
 refine t_gcall (!r2) (gy_f rfl) cf23 (B r3) (fun _ => [Pq ab, I j, I aa]) (fun hg => lst3 (gd_of (c := !r2) hg (Pq ab)) (gd_of (c := !r2) hg (I j)) (gd_of (c := !r2) hg (I aa))) H (fun hg => (zas ag ah ai j aa (au.app _) av (aw.app _) ax (ay.app _) az (aA.app _) (M.e_opt aH hg) _ (H.give (A := []) rfl)).mono fun v_ w_ ⟨y_, aj, aI, H_⟩ => by subst aj; exact ⟨aI, H.via H_⟩) ?_
 intro aL H
 refine s_val (x_por (b := r2) (r := r3) rfl rfl (fun hb => gd_of (c := !r2) (by first | exact hb | (rw [hb]; rfl) | simp_all) (B r3))) ?_
 refine zA (B (r2 || r3)) rfl ?_
 refine s_nil ?_
 refine W.ret ?_
 have aj := M.e_pure hM
 exact ⟨_, resE_tmp rfl, ⟨(r2 || r3), aj, rfl, H⟩⟩

def zcb (aa : List Sect) (ab : List Mrk) (ac : List Rch) (row : List Int) : ((List Bool) × Bool × Nat) -> M (((List Bool) × Bool × Nat) ⊕ (Bool × (List Bool))) := fun (ar, out, s) =>
  bif decide ((s : Int) < (row.length : Int)) then (
  M.grd (decide ((s : Int) < (row.length : Int))) <|
  M.grd (decide ((0 : Int) <= (row.getD s 0)) && decide ((row.getD s 0) < (16 : Int))) <|
  M.bind (M.opt out (zap (row.take s) (fun ae => zbZ ae aa ab ac (row.getD s 0))) false) fun r3 =>
  M.pure (.inl (ar.set (Int.toNat (row.getD s 0)) true, (out && r3), s + 1)))
  else (
  M.pure (.inr (out, ar)))
def zcv (aa : List Sect) (ab : List Mrk) (ac : List Rch) (row : List Int) (met : List Bool) : M (Bool × (List Bool)) :=
  M.bind (M.opt (!((row.length : Int) == 0)) (zap row (fun ae => zbX ae aa ab ac)) false) fun r2 =>
  bif (((row.length : Int) == 0) || (!r2)) then (
  M.fail)
  else (
  M.bind (M.iter (zcb aa ab ac row) (met, true, 0)) fun (out2, ag) =>
  M.pure (out2, ag))
theorem zc5 {R : List Chunk} {ag : Nat} {aI : Cells} {aJ : Value} {aK : Cells} {aL : Value} {aM : Cells} {aN : Value} {aY : Nat} {aO : Cells} {aa : Value} {ac : Nat} (ah : List Sect) (ai : List Mrk) (aj : List Rch) (row : List Int) (met : List Bool) (aP : Reads R aI) (aQ : Sl aI aJ ah) (aR : Reads R aK) (aS : Sl aK aL ai) (aT : Reads R aM) (aU : Sl aM aN aj) (aV : Has R (cBlk ag [aJ, aL, aN, .map (some aY)] 99)) (av : Reads R aO) (ae : Sl aO aa row) (aZ : met.length = 16) {r : (Bool × (List Bool))} (hM : (zcv ah ai aj row met).Ends r) (w : World) (H : St w w [cBlk ac (encB met) 111] R) : Ret Try.prog 43 #[Pq ag, aa, Pq ac] w fun v w' => ∃ (y0 : Bool) (y1 : List Bool), (y0, y1) = r /\ v = B y0 /\ St w w' [cBlk ac (encB y1) 111] R /\ y1.length = 16 := by
 refine ret_of_W Try.func43 rfl rfl rfl ?_
 refine W.seq ?_
 refine W.region rfl ?_
 refine t_box (v := Pq ag) (cs := [Pq ag]) H rfl rfl ?_
 intro ab br H
 refine zA (B false) rfl ?_
 refine s_nil ?_
 refine W.seq ?_
 refine W.seq ?_
 refine W.region rfl ?_
 refine zM aa rfl ?_
 have bt := (ae).len_le
 refine s_val (x_lenS T28.und rfl ae) ?_
 refine zC (row.length : Int) 0 ((row.length : Int) == 0) rfl rfl rfl ?_
 refine zM (B ((row.length : Int) == 0)) rfl ?_
 refine g_val (!((row.length : Int) == 0)) (gy_f rfl) (fun hg => x_mv (v := aa) rfl) ?_
 refine g_val (!((row.length : Int) == 0)) (gy_f rfl) (fun hg => x_mf (fs := []) (cs := [Pq ab]) rfl rfl) ?_
 obtain ⟨r2, a6, hM⟩ := M.e_bind hM
 refine t_gcall (!((row.length : Int) == 0)) (gy_f rfl) cf46 (B r2) (fun _ => [aa, .func (.func 76) #[] #[Pq ab]]) (fun hg => lst2 (gd_of (c := !((row.length : Int) == 0)) hg (aa)) (gd_of (c := !((row.length : Int) == 0)) hg (.func (.func 76) #[] #[Pq ab]))) H (fun hg => (zbv row (fun ak => zbX ak ah ai aj) (av.app _) ae ⟨76, [Pq ab], rfl, cf76, fun ao a7 a8 aw ak ba ax bb ay az => by obtain rfl := Arg.int ay; exact (zc9 ak ah ai aj (Reads.app (aP.app _) _) aQ (Reads.app (aR.app _) _) aS (Reads.app (aT.app _) _) aU (Has.app (aV.app _) _) (Has.app (Has.here (k := 0) rfl) _) az ao (St.refl ax)).mono fun aw ao ⟨bc, aA, aB, aC⟩ => by subst aA; exact ⟨aB, aC⟩⟩ (M.e_opt a6 hg) _ (H.give (A := []) rfl)).mono fun v_ w_ ⟨y_, ap, aD, H_⟩ => by subst ap; exact ⟨aD, H.via H_⟩) ?_
 intro bu H
 refine g_val (!((row.length : Int) == 0)) (gy_f rfl) (fun hg => x_not (b := r2) (gd_of (c := !((row.length : Int) == 0)) hg (B r2))) ?_
 refine s_val (x_por (b := (row.length : Int) == 0) (r := !r2) rfl rfl (fun hb => gd_of (c := !((row.length : Int) == 0)) (by first | exact hb | (rw [hb]; rfl) | simp_all) (B (!r2)))) ?_
 refine s_nil ?_
 refine W.cond (((row.length : Int) == 0) || (!r2)) rfl (fun aE => ?_) (fun aE => ?_)
 ·replace hM := M.e_t hM aE
  refine W.region rfl ?_
  exact (M.e_fail hM).elim
 replace hM := M.e_f hM aE
 refine W.skip ?_
 refine W.seq ?_
 refine W.region rfl ?_
 refine zA (B true) rfl ?_
 refine s_nil ?_
 refine W.seq ?_
 refine W.seq ?_
 refine W.region rfl ?_
 refine zM aa rfl ?_
 have bv := (ae).len_le
 refine s_val (x_lenS T28.und rfl ae) ?_
 refine zM (I 0) rfl ?_
 refine s_nil ?_
 refine W.block ?_
 obtain ⟨bf, aF, bg⟩ := M.e_bind hM
 obtain ⟨bw, aF⟩ := M.e_iter aF
 refine W.loop (fun m σ W => ∃ (ar : List Bool) (out : Bool) (s : Nat) (ρ : Env), σ = upds ρ [(1, aa), (2, Pq ac), (3, Pq ab), (7, B out), (21, aa), (22, I (row.length : Int)), (23, I (s : Int))] /\ M.iterN (zcb ah ai aj row) m (ar, out, s) = some bf /\ St w W [cBlk ab [Pq ag] 72, cBlk ac (encB ar) 111] R /\ ar.length = 16) ?_ ?_
 ·exact ⟨_, met, true, 0, _, upds_of _ _ ⟨rfl, rfl, rfl, rfl, rfl, rfl, rfl, trivial⟩, aF, H, aZ⟩
 rintro bx σ bz ⟨ar, out, s, ρ, rfl, aW, H, aG⟩
 obtain ⟨bh, bi, bA, hM, aX⟩ := M.e_iterN aW
 simp only [zcb] at hM
 clear aW
 refine W.seq ?_
 refine W.region rfl ?_
 refine zC (s : Int) (row.length : Int) (decide ((s : Int) < (row.length : Int))) rfl rfl rfl ?_
 refine s_nil ?_
 refine W.seq ?_
 refine W.cond (decide ((s : Int) < (row.length : Int))) rfl (fun aq => ?_) (fun aq => ?_)
 ·replace hM := M.e_t hM aq
  simp only [qy1, qy2, qy3, qy4, qy5, qy6, ne_eq, qy7] at aq
  refine W.skip ?_
  refine W.seq ?_
  refine W.block ?_
  refine W.seq ?_
  refine W.region rfl ?_
  refine zM (I (s : Int)) rfl ?_
  obtain ⟨bj, hM⟩ := M.e_grd hM
  simp only [Bool.and_eq_true, decide_eq_true_eq] at bj
  refine s_val (x_ix (a := aa) (b := I (s : Int)) (v := vat aa 1 (Int.toNat (s : Int))) rfl rfl (Sl.ix (α := Int) T28.und T28.size ae (by omega) (by omega))) ?_
  refine s_val (x_ld (p := vat aa 1 (Int.toNat (s : Int))) (v := I (row.getD s 0)) rfl (ld_sc Sc3 (At.mono (Int_at ae (i := (s : Int)) (by omega) (by omega)) (av.at H)))) ?_
  refine t_alloc (cs := [I 0]) H Al3 rfl ?_
  intro al bB H
  refine zA (I (s : Int)) rfl ?_
  refine t_sw 0 0 [I (row.getD s 0)] (I (row.getD s 0)) H rfl rfl Sz3 rfl rfl rfl rfl ?_
  intro bC H
  refine s_nil ?_
  refine W.seq ?_
  refine W.draw (fun W => St w W [cBlk al [I (row.getD s 0)] 3, cBlk ab [Pq ag] 72] R) [(0, true), (1, true), (2, true), (3, true), (4, false)] mixed (by decide +kernel) rfl ?_
  intro bD am
  replace H := H.ext am
  clear am
  refine ⟨(H.pk [0, 1]), ?_⟩
  refine d_q rfl (fun w' H => x_mv (v := Pq ac) rfl) ?_
  refine d_q rfl (fun w' H => x_ld (p := Pq al) (v := I (row.getD s 0)) rfl (ldb_sc Sc3 (H.bl 0) rfl)) ?_
  refine d_q rfl (fun w' H => x_nc (a := ⟨ac, 0, none⟩) rfl) ?_
  obtain ⟨bm, hM⟩ := M.e_grd hM
  simp only [Bool.and_eq_true, decide_eq_true_eq] at bm
  refine d_q rfl (fun w' H => x_ix (a := Pq ac) (b := I (row.getD s 0)) (v := .pointer (some ⟨ac, 0 + Int.toNat (row.getD s 0), none⟩)) rfl rfl (run_indexArr Try.underlying111 Sz4 (by omega) (by omega))) ?_
  refine d_l rfl ?_
  refine t_stArr (k := 2) (b := ac) (l := ar) (l' := ar.set (Int.toNat (row.getD s 0)) true) (i := row.getD s 0) (v := true) (L' := [cBlk al [I (row.getD s 0)] 3, cBlk ab [Pq ag] 72, cBlk ac (encB (ar.set (Int.toNat (row.getD s 0)) true)) 111]) H rfl rfl rfl Sz4 (by omega) (by have bE := aG; omega) rfl rfl ?_
  intro bF H
  have bn : (ar.set (Int.toNat (row.getD s 0)) true).length = 16 := List.length_set.trans aG
  refine s_nil ⟨(H.pk [0, 1]), ?_⟩
  refine d_nil ?_
  refine W.region rfl ?_
  refine zM (B out) rfl ?_
  refine zM (B out) rfl ?_
  refine g_val out (gy_t rfl) (fun hg => x_mv (v := aa) rfl) ?_
  refine g_val out (gy_t rfl) (fun hg => x_mv (v := I (s : Int)) rfl) ?_
  obtain ⟨au, bo, aH⟩ := gd_ex (c := out) fun hg => sl_hi T28.und T28.size ae (j := (s : Int)) (by first | omega | (have am := hg; simp at am; omega)) (by first | omega | (have am := hg; simp at am; omega))
  replace aH : out = true -> Sl _ au (row.take s) := aH
  refine g_val out (gy_t rfl) (fun hg => x_sl (v := aa) (u := au) (lo' := none) (hi' := some (I (s : Int))) (mx' := none) (gd_of (c := out) hg (aa)) rfl (congrArg some (gd_of (c := out) hg (I (s : Int)))) rfl (bo hg _)) ?_
  refine g_val out (gy_t rfl) (fun hg => x_mf (fs := []) (cs := [Pq ab, Pq al]) rfl rfl) ?_
  obtain ⟨r3, bp, hM⟩ := M.e_bind hM
  refine t_gcall out (gy_t rfl) cf46 (B r3) (fun _ => [au, .func (.func 77) #[] #[Pq ab, Pq al]]) (fun hg => lst2 (gd_of (c := out) hg (au)) (gd_of (c := out) hg (.func (.func 77) #[] #[Pq ab, Pq al]))) H (fun hg => (zbv (row.take s) (fun ak => zbZ ak ah ai aj (row.getD s 0)) (av.app _) (aH hg) ⟨77, [Pq ab, Pq al], rfl, cf77, fun ao a7 a8 aw ak ba ax bb ay az => by obtain rfl := Arg.int ay; exact (zda ak ah ai aj (row.getD s 0) (Reads.app (aP.app _) _) aQ (Reads.app (aR.app _) _) aS (Reads.app (aT.app _) _) aU (Has.app (aV.app _) _) (Has.app (Has.here (k := 1) rfl) _) (Has.app (Has.here (k := 0) rfl) _) az ao (St.refl ax)).mono fun aw ao ⟨bc, aA, aB, aC⟩ => by subst aA; exact ⟨aB, aC⟩⟩ (M.e_opt bp hg) _ (H.give (A := []) rfl)).mono fun v_ w_ ⟨y_, ap, aD, H_⟩ => by subst ap; exact ⟨aD, H.via H_⟩) ?_
  intro bG H
  refine s_val (x_pand (b := out) (r := r3) rfl (fun hb => gd_of (c := out) (by first | exact hb | (rw [hb]; rfl) | simp_all) (B r3)) rfl) ?_
  refine zA (B (out && r3)) rfl ?_
  refine s_nil ?_
  refine W.region rfl ?_
  refine zR (s : Int) 1 ((s : Int) + 1) rfl rfl rfl (by omega) ?_
  refine zM (I ((s : Int) + 1)) rfl ?_
  refine s_nil ?_
  exact ⟨bh, bi, ar.set (Int.toNat (row.getD s 0)) true, (out && r3), s + 1, _, upds_of _ _ ⟨rfl, rfl, rfl, rfl, rfl, rfl, rfl, trivial⟩, M.e_inl hM aX, (H.pk [1, 2]), bn⟩
 replace hM := M.e_f hM aq
 simp only [qy1, qy2, qy3, qy4, qy5, qy6, ne_eq, qy7] at aq
 refine W.exit ?_
 have bq := M.e_inr hM aX
 subst bq
 replace hM := bg
 try dsimp only at hM
 refine W.seq ?_
 refine W.region rfl ?_
 refine zM (B out) rfl ?_
 refine zA (B out) rfl ?_
 refine s_nil ?_
 refine W.ret ?_
 have ap := M.e_pure hM
 exact ⟨_, resE_tmp rfl, ⟨out, ar, ap, rfl, (H.pk [1]), aG⟩⟩

def zbN (s : List Bool) (f : Bool -> M Bool) : Nat -> M (Nat ⊕ (Int ⊕ Unit)) := fun s2 =>
  bif decide ((s2 : Int) < (s.length : Int)) then (
  M.grd (decide ((s2 : Int) < (s.length : Int))) <|
  M.bind (f (s.getD s2 false)) fun r2 =>
  bif r2 then (
  M.pure (.inr (.inl (s2 : Int))))
  else (
  M.pure (.inl (s2 + 1))))
  else (
  M.pure (.inr (.inr ())))
def zcp (s : List Bool) (f : Bool -> M Bool) : M Int :=
  M.bind (M.iter (zbN s f) 0) fun x_ => match x_ with
  | (.inl s3) => (
  M.pure s3)
  | (.inr (_ : Unit)) => (
  M.pure (-1))
theorem zcS {R : List Chunk} {ak : Cells} {aa : Value} {ac : Value} (s : List Bool) (f : Bool -> M Bool) (ao : Reads R ak) (ae : Sl ak aa s) (ap : FnM Try.prog R ac f) {r : Int} (hM : (zcp s f).Ends r) (w : World) (H : St w w [] R) : Ret Try.prog 100 #[aa, ac] w fun v w' => ∃ (y0 : Int), y0 = r /\ v = I y0 /\ St w w' [] R := by
 refine ret_of_W Try.func100 rfl rfl rfl ?_
 refine W.seq ?_
 refine W.region rfl ?_
 refine zA (I 0) rfl ?_
 refine s_nil ?_
 refine W.seq ?_
 refine W.seq ?_
 refine W.region rfl ?_
 refine zM aa rfl ?_
 have aA := (ae).len_le
 refine s_val (x_lenS T115.und rfl ae) ?_
 refine zM (I 0) rfl ?_
 refine s_nil ?_
 refine W.block ?_
 obtain ⟨aq, ag, al⟩ := M.e_bind hM
 obtain ⟨aB, ag⟩ := M.e_iter ag
 refine W.loop (fun m σ W => ∃ (s2 : Nat) (ρ : Env), σ = upds ρ [(0, aa), (1, ac), (7, I (s.length : Int)), (8, I (s2 : Int))] /\ M.iterN (zbN s f) m s2 = some aq /\ St w W [] R) ?_ ?_
 ·exact ⟨_, 0, _, upds_of _ _ ⟨rfl, rfl, rfl, rfl, trivial⟩, ag, H⟩
 rintro aC σ aD ⟨s2, ρ, rfl, am, H⟩
 obtain ⟨au, av, aE, hM, ah⟩ := M.e_iterN am
 simp only [zbN] at hM
 clear am
 refine W.seq ?_
 refine W.region rfl ?_
 refine zC (s2 : Int) (s.length : Int) (decide ((s2 : Int) < (s.length : Int))) rfl rfl rfl ?_
 refine s_nil ?_
 refine W.seq ?_
 refine W.cond (decide ((s2 : Int) < (s.length : Int))) rfl (fun ab => ?_) (fun ab => ?_)
 ·replace hM := M.e_t hM ab
  simp only [qy1, qy2, qy3, qy4, qy5, qy6, ne_eq, qy7] at ab
  refine W.skip ?_
  refine W.seq ?_
  refine W.block ?_
  refine W.seq ?_
  refine W.region rfl ?_
  refine zM (I (s2 : Int)) rfl ?_
  refine zA (I (s2 : Int)) rfl ?_
  refine s_nil ?_
  refine W.seq ?_
  refine W.region rfl ?_
  refine zM ac rfl ?_
  refine zM aa rfl ?_
  refine zM (I (s2 : Int)) rfl ?_
  obtain ⟨aw, hM⟩ := M.e_grd hM
  simp only [Bool.and_eq_true, decide_eq_true_eq] at aw
  refine s_val (x_ix (a := aa) (b := I (s2 : Int)) (v := vat aa 1 (Int.toNat (s2 : Int))) rfl rfl (Sl.ix (α := Bool) T115.und T115.size ae (by omega) (by omega))) ?_
  refine s_val (x_ld (p := vat aa 1 (Int.toNat (s2 : Int))) (v := B (s.getD s2 false)) rfl (ld_sc Sc4 (At.mono (Bool_at ae (i := (s2 : Int)) (by omega) (by omega)) (ao.at H)))) ?_
  obtain ⟨r2, ax, hM⟩ := M.e_bind hM
  refine t_callM H ap rfl rfl (s.getD s2 false) Reads.none (show Arg (fun _ => none) (B (s.getD s2 false)) (s.getD s2 false) from ⟨[B (s.getD s2 false)], rfl, rfl⟩) ax ?_
  intro aF H
  refine s_nil ?_
  refine W.cond r2 rfl (fun ai => ?_) (fun ai => ?_)
  ·replace hM := M.e_t hM ai
   refine W.seq ?_
   refine W.region rfl ?_
   refine zM (I (s2 : Int)) rfl ?_
   refine zA (I (s2 : Int)) rfl ?_
   refine s_nil ?_
   refine W.ret ?_
   have ay := M.e_inr hM ah
   subst ay
   replace hM := al
   try dsimp only at hM
   have aj := M.e_pure hM
   exact ⟨_, resE_tmp rfl, ⟨(s2 : Int), aj, rfl, H⟩⟩
  replace hM := M.e_f hM ai
  refine W.skip ?_
  refine W.region rfl ?_
  refine zR (s2 : Int) 1 ((s2 : Int) + 1) rfl rfl rfl (by omega) ?_
  refine zM (I ((s2 : Int) + 1)) rfl ?_
  refine s_nil ?_
  exact ⟨au, av, s2 + 1, _, upds_of _ _ ⟨rfl, rfl, rfl, rfl, trivial⟩, M.e_inl hM ah, H⟩
 replace hM := M.e_f hM ab
 simp only [qy1, qy2, qy3, qy4, qy5, qy6, ne_eq, qy7] at ab
 refine W.exit ?_
 have az := M.e_inr hM ah
 subst az
 replace hM := al
 try dsimp only at hM
 refine W.seq ?_
 refine W.region rfl ?_
 refine zA (I (-1)) rfl ?_
 refine s_nil ?_
 refine W.ret ?_
 have aj := M.e_pure hM
 exact ⟨_, resE_tmp rfl, ⟨(-1), aj, rfl, H⟩⟩

def zcu (s : List Bool) (f : Bool -> M Bool) : M Bool :=
  M.bind (zcp s f) fun r2 =>
  M.pure (decide (0 <= r2))
theorem zcT {R : List Chunk} {ac : Cells} {aa : Value} {ab : Value} (s : List Bool) (f : Bool -> M Bool) (ag : Reads R ac) (ah : Sl ac aa s) (ai : FnM Try.prog R ab f) {r : Bool} (hM : (zcu s f).Ends r) (w : World) (H : St w w [] R) : Ret Try.prog 78 #[aa, ab] w fun v w' => ∃ (y0 : Bool), y0 = r /\ v = B y0 /\ St w w' [] R := by
 refine ret_of_W Try.func78 rfl rfl rfl ?_
 refine W.seq ?_
 refine W.region rfl ?_
 refine zA (B false) rfl ?_
 refine s_nil ?_
 refine W.seq ?_
 refine W.region rfl ?_
 refine zM aa rfl ?_
 refine zM ab rfl ?_
 obtain ⟨am, aj, hM⟩ := M.e_bind hM
 refine s_call cf100 [aa, ab] rfl (zcS s f (ag.app _) ah (ai.app _) aj _ (H.gt 0)) ?_
 rintro vq ao ⟨r2, ak, hvq, ae⟩
 subst ak
 subst vq
 try dsimp only at hM
 replace H := H.bk ae
 clear ae
 refine zC r2 0 (decide (0 <= r2)) rfl rfl rfl ?_
 refine zA (B (decide (0 <= r2))) rfl ?_
 refine s_nil ?_
 refine W.ret ?_
 have al := M.e_pure hM
 exact ⟨_, resE_tmp rfl, ⟨(decide (0 <= r2)), al, rfl, H⟩⟩

def zb6 (x : Bool) (aa : Bool -> M Bool) : M Bool :=
  M.bind (aa x) fun r2 =>
  M.pure (!r2)
theorem zcW {R : List Chunk} {aa : Nat} {ab : Value} (x : Bool) (ac : Bool -> M Bool) (ae : FnM Try.prog R ab ac) (ag : Has R (cBlk aa [ab] 116)) {r : Bool} (hM : (zb6 x ac).Ends r) (w : World) (H : St w w [] R) : Ret Try.prog 79 #[B x, Pq aa] w fun v w' => ∃ (y0 : Bool), y0 = r /\ v = B y0 /\ St w w' [] R := by
 refine ret_of_W Try.func79 rfl rfl rfl ?_
 refine W.seq ?_
 refine W.region rfl ?_
 refine zA (B false) rfl ?_
 refine s_nil ?_
 refine W.seq ?_
 refine W.region rfl ?_
 refine s_val (x_ld (p := Pq aa) (v := ab) rfl (ldb_sc Sc116 (ag.blk H) rfl)) ?_
 refine zM (B x) rfl ?_
 obtain ⟨r2, ah, hM⟩ := M.e_bind hM
 refine t_callM H ae rfl rfl x Reads.none (show Arg (fun _ => none) (B x) x from ⟨[B x], rfl, rfl⟩) ah ?_
 intro aj H
 refine s_val (x_not (b := r2) rfl) ?_
 refine zA (B (!r2)) rfl ?_
 refine s_nil ?_
 refine W.ret ?_
 have ai := M.e_pure hM
 exact ⟨_, resE_tmp rfl, ⟨(!r2), ai, rfl, H⟩⟩

def zcg (l : List Bool) (so : Bool -> M Bool) : M Bool :=
  M.bind (zcu l (fun aa => zb6 aa so)) fun r2 =>
  M.pure (!r2)
theorem zcy {R : List Chunk} {ag : Cells} {aa : Value} {ab : Value} (l : List Bool) (so : Bool -> M Bool) (ak : Reads R ag) (al : Sl ag aa l) (ah : FnM Try.prog R ab so) {r : Bool} (hM : (zcg l so).Ends r) (w : World) (H : St w w [] R) : Ret Try.prog 44 #[aa, ab] w fun v w' => ∃ (y0 : Bool), y0 = r /\ v = B y0 /\ St w w' [] R := by
 refine ret_of_W Try.func44 rfl rfl rfl ?_
 refine W.seq ?_
 refine W.region rfl ?_
 refine t_box (v := ab) (cs := [ab]) H rfl (FnM.cells ah) ?_
 intro ac aA H
 refine zA (B false) rfl ?_
 refine s_nil ?_
 refine W.seq ?_
 refine W.region rfl ?_
 refine zM aa rfl ?_
 refine s_val (x_mf (fs := []) (cs := [Pq ac]) rfl rfl) ?_
 obtain ⟨aB, am, hM⟩ := M.e_bind hM
 refine s_call cf78 [aa, .func (.func 79) #[] #[Pq ac]] rfl (zcT l (fun ae => zb6 ae so) (ak.app _) al ⟨79, [Pq ac], rfl, cf79, fun ai aC aD ao ae aE ap aF aq au => by obtain ⟨_, rfl, rfl⟩ := aq; exact (zcW ae so (FnM.app (ah.app _) _) (Has.app (Has.here (k := 0) rfl) _) au ai (St.refl ap)).mono fun ao ai ⟨aG, av, aw, ax⟩ => by subst av; exact ⟨aw, ax⟩⟩ am _ (H.gt 1)) ?_
 rintro vq aH ⟨r2, ay, hvq, aj⟩
 subst ay
 subst vq
 try dsimp only at hM
 replace H := H.bk aj
 clear aj
 refine s_val (x_not (b := r2) rfl) ?_
 refine zA (B (!r2)) rfl ?_
 refine s_nil ?_
 refine W.ret ?_
 have az := M.e_pure hM
 exact ⟨_, resE_tmp rfl, ⟨(!r2), az, rfl, (H.pk [])⟩⟩

def zb4 (x : Bool) : M Bool :=
  M.pure x
theorem zdi {R : List Chunk}  (x : Bool)  {r : Bool} (hM : (zb4 x).Ends r) (w : World) (H : St w w [] R) : Ret Try.prog 45 #[B x] w fun v w' => ∃ (y0 : Bool), y0 = r /\ v = B y0 /\ St w w' [] R := by
 refine ret_of_W Try.func45 rfl rfl rfl ?_
 refine W.seq ?_
 refine W.region rfl ?_
 refine zA (B false) rfl ?_
 refine s_nil ?_
 refine W.seq ?_
 refine W.region rfl ?_
 refine zM (B x) rfl ?_
 refine zA (B x) rfl ?_
 refine s_nil ?_
 refine W.ret ?_
 have aa := M.e_pure hM
 exact ⟨_, resE_tmp rfl, ⟨x, aa, rfl, H⟩⟩

def zb1 (s_Sections : List Sect) (s_Marks : List Mrk) (s_Reaches : List Rch) (rows : List (List Int)) : (Bool × (List Bool) × Nat) -> M ((Bool × (List Bool) × Nat) ⊕ (Bool × (List Bool))) := fun (s2, ar, s3) =>
  bif decide ((s3 : Int) < (rows.length : Int)) then (
  M.grd (decide ((s3 : Int) < (rows.length : Int))) <|
  M.bind (zcv s_Sections s_Marks s_Reaches (rows.getD s3 ([])) ar) fun (r2, aa) =>
  bif !r2 then (
  M.pure (.inl (false, aa, s3 + 1)))
  else (
  M.pure (.inl (s2, aa, s3 + 1))))
  else (
  M.pure (.inr (s2, ar)))
def zco (s_Sections : List Sect) (s_Marks : List Mrk) (s_Reaches : List Rch) (many : Int) (rows : List (List Int)) : M (Bool × Int) :=
  M.bind (zam s_Sections s_Marks s_Reaches) fun x_ => match x_ with
  | (.inl r1) => (
  bif r1 != 0 then (
  M.pure (false, r1))
  else (
  M.fail))
  | (.inr aa) => (
  bif aa != 0 then (
  M.fail)
  else (
  bif decide (16 < (rows.length : Int)) then (
  M.pure (false, 3))
  else (
  M.bind (M.iter (zb1 s_Sections s_Marks s_Reaches rows) (decide ((rows.length : Int) <= many), List.replicate 16 false, 0)) fun (s4, ab) =>
  M.grd ((!s4 || (decide ((0 : Int) <= (s_Marks.length : Int)) && decide ((s_Marks.length : Int) <= (16 : Int))))) <|
  M.bind (M.opt s4 (zcg (ab.take (Int.toNat (s_Marks.length : Int))) (fun ac => zb4 ac)) false) fun r3 =>
  M.pure ((s4 && r3), 0))))
theorem zcA {R : List Chunk} {aH : Cells} {ae : Value} {aI : Cells} {ab : Value} {aJ : Cells} {ag : Value} {aK : Cells} {aj : Value} (s_Sections : List Sect) (s_Marks : List Mrk) (s_Reaches : List Rch) (many : Int) (rows : List (List Int)) (aL : Reads R aH) (aM : Sl aH ae s_Sections) (aN : Reads R aI) (az : Sl aI ab s_Marks) (aO : Reads R aJ) (aP : Sl aJ ag s_Reaches) (aQ : Reads R aK) (am : Sl aK aj rows) {r : (Bool × Int)} (hM : (zco s_Sections s_Marks s_Reaches many rows).Ends r) (w : World) (H : St w w [] R) : Ret Try.prog 28 #[.agg #[ae, ab, ag], I many, aj] w fun v w' => ∃ (y0 : Bool) (y1 : Int), (y0, y1) = r /\ v = .tuple #[B y0, I y1] /\ St w w' [] R := by
 refine ret_of_WB Try.func28 rfl rfl rfl ?_
 refine WB.seq ?_
 refine W.region rfl ?_
 refine t_box (v := .agg #[ae, ab, ag]) (cs := [ae, ab, ag]) H rfl rfl ?_
 intro ao bI H
 refine t_alloc (cs := [B false]) H Al4 rfl ?_
 intro au bJ H
 refine t_alloc (cs := [I 0]) H Al48 rfl ?_
 intro ah bK H
 refine s_nil ?_
 refine WB.seq ?_
 refine W.region rfl ?_
 refine s_val (x_ld (p := Pq ao) (v := .agg #[ae, ab, ag]) rfl (ldb_ag (ds := [ae, ab, ag]) Ag27 Sz27 (H.bl 2) rfl rfl)) ?_
 obtain ⟨bL, aZ, hM⟩ := M.e_bind hM
 refine s_call cf21 [.agg #[ae, ab, ag]] rfl (zbd s_Sections s_Marks s_Reaches (aL.app _) aM (aN.app _) az (aO.app _) aP aZ _ (H.gt 3)) ?_
 rintro vq bM (⟨r1, a6, hvq, ap⟩ | ⟨ac, ak, aR, a7, hvq, ap⟩)
 ·subst a6
  subst vq
  try dsimp only at hM
  replace H := H.bk ap
  clear ap
  refine zM (.tuple #[.pointer none, I r1]) rfl ?_
  refine zX [.pointer none, I r1] (.pointer none) rfl rfl ?_
  refine zX [.pointer none, I r1] (I r1) rfl rfl ?_
  refine zA (.pointer none) rfl ?_
  refine t_sw 0 0 [I r1] (I r1) H rfl rfl Sz48 rfl rfl rfl rfl ?_
  intro bN H
  refine s_nil ?_
  refine WB.seq ?_
  refine W.block ?_
  refine W.seq ?_
  refine W.region rfl ?_
  refine s_val (x_ld (p := Pq ah) (v := I r1) rfl (ldb_sc Sc48 (H.bl 0) rfl)) ?_
  refine zC r1 0 (r1 != 0) rfl rfl rfl ?_
  refine zA (B (r1 != 0)) rfl ?_
  refine s_nil ?_
  refine W.cond (r1 != 0) rfl (fun aA => ?_) (fun aA => ?_)
  ·replace hM := M.e_t hM aA
   simp only [qy1, qy2, qy3, qy4, qy5, qy6, ne_eq, qy7] at aA
   refine W.seq ?_
   refine W.drawT (fun W => St w W [cBlk ao [ae, ab, ag] 27] R) (.l2 0 (.l 1 (.l 2 .nil)) 1 (.l 0 (.l 2 .nil))) mixed (by decide +kernel) rfl ?_
   intro bO ai
   replace H := H.ext ai
   clear ai
   refine ⟨(H.pk [2]), ?_⟩
   refine t_l2 rfl rfl ?_ ?_
   ·skip
    refine s_val (x_ld (p := Pq ah) (v := I r1) rfl (ldb_sc Sc48 (H.bl 0) rfl)) ?_
    refine s_nil ⟨(H.pk [2]), ?_⟩
    refine t_l rfl ?_
    refine t_sw 1 0 [B false] (B false) H rfl rfl Sz4 rfl rfl rfl rfl ?_
    intro bP H
    refine s_nil ⟨(H.pk [2]), ?_⟩
    refine t_l rfl ?_
    refine t_sw 0 0 [I r1] (I r1) H rfl rfl Sz48 rfl rfl rfl rfl ?_
    intro bQ H
    refine s_nil ⟨(H.pk [2]), ?_⟩
    refine t_nil ?_
    refine W.ret ?_
    have a8 := (H.bl 1)
    have ba := (H.bl 0)
    have al := M.e_pure hM
    exact ⟨_, (resE_ofn (vs := [B false, I r1]) rfl rfl (.cell (v := B false) rfl (run_loadVar_sc Sc4 a8 rfl) <| .cell (v := I r1) rfl (run_loadVar_sc Sc48 ba rfl) <| .nil)), ⟨false, r1, al, rfl, (H.pk [])⟩⟩
   skip
   refine t_sw 1 0 [B false] (B false) H rfl rfl Sz4 rfl rfl rfl rfl ?_
   intro bR H
   refine s_nil ⟨(H.pk [2]), ?_⟩
   refine t_l rfl ?_
   refine s_val (x_ld (p := Pq ah) (v := I r1) rfl (ldb_sc Sc48 (H.bl 0) rfl)) ?_
   refine s_nil ⟨(H.pk [2]), ?_⟩
   refine t_l rfl ?_
   refine t_sw 0 0 [I r1] (I r1) H rfl rfl Sz48 rfl rfl rfl rfl ?_
   intro bS H
   refine s_nil ⟨(H.pk [2]), ?_⟩
   refine t_nil ?_
   refine W.ret ?_
   have bb := (H.bl 1)
   have bc := (H.bl 0)
   have al := M.e_pure hM
   exact ⟨_, (resE_ofn (vs := [B false, I r1]) rfl rfl (.cell (v := B false) rfl (run_loadVar_sc Sc4 bb rfl) <| .cell (v := I r1) rfl (run_loadVar_sc Sc48 bc rfl) <| .nil)), ⟨false, r1, al, rfl, (H.pk [])⟩⟩
  replace hM := M.e_f hM aA
  exact (M.e_fail hM).elim
 subst a7
 subst vq
 try dsimp only at hM
 replace H := H.bk ap
 clear ap
 refine zM (.tuple #[Pq ak, I ac]) rfl ?_
 refine zX [Pq ak, I ac] (Pq ak) rfl rfl ?_
 refine zX [Pq ak, I ac] (I ac) rfl rfl ?_
 refine zA (Pq ak) rfl ?_
 refine t_sw 2 0 [I ac] (I ac) H rfl rfl Sz48 rfl rfl rfl rfl ?_
 intro bT H
 refine s_nil ?_
 refine WB.seq ?_
 refine W.block ?_
 refine W.seq ?_
 refine W.region rfl ?_
 refine s_val (x_ld (p := Pq ah) (v := I ac) rfl (ldb_sc Sc48 (H.bl 2) rfl)) ?_
 refine zC ac 0 (ac != 0) rfl rfl rfl ?_
 refine zA (B (ac != 0)) rfl ?_
 refine s_nil ?_
 refine W.cond (ac != 0) rfl (fun aB => ?_) (fun aB => ?_)
 ·replace hM := M.e_t hM aB
  exact (M.e_fail hM).elim
 replace hM := M.e_f hM aB
 simp only [qy1, qy2, qy3, qy4, qy5, qy6, ne_eq, qy7] at aB
 refine W.seq ?_
 refine W.region rfl ?_
 refine zM aj rfl ?_
 have bU := (am).len_le
 refine s_val (x_lenS T75.und rfl am) ?_
 refine zC (rows.length : Int) 16 (decide (16 < (rows.length : Int))) rfl rfl rfl ?_
 refine zA (B (decide (16 < (rows.length : Int)))) rfl ?_
 refine s_nil ?_
 refine W.cond (decide (16 < (rows.length : Int))) rfl (fun aw => ?_) (fun aw => ?_)
 ·replace hM := M.e_t hM aw
  simp only [qy1, qy2, qy3, qy4, qy5, qy6, ne_eq, qy7] at aw
  refine W.seq ?_
  refine W.region rfl ?_
  refine t_sw 3 0 [B false] (B false) H rfl rfl Sz4 rfl rfl rfl rfl ?_
  intro bV H
  refine t_sw 2 0 [I 3] (I 3) H rfl rfl Sz48 rfl rfl rfl rfl ?_
  intro bW H
  refine s_nil ?_
  replace H := H.pk [2, 3]
  refine W.ret ?_
  have bf := (H.bl 1)
  have bg := (H.bl 0)
  have al := M.e_pure hM
  exact ⟨_, (resE_ofn (vs := [B false, I 3]) rfl rfl (.cell (v := B false) rfl (run_loadVar_sc Sc4 bf rfl) <| .cell (v := I 3) rfl (run_loadVar_sc Sc48 bg rfl) <| .nil)), ⟨false, 3, al, rfl, (H.pk [])⟩⟩
 replace hM := M.e_f hM aw
 simp only [qy1, qy2, qy3, qy4, qy5, qy6, ne_eq, qy7] at aw
 refine W.skip ?_
 refine WB.defer (d := 25) (v := .func (.func 42) #[] #[Pq au, Pq ah]) (fv := .func 42) (cap := #[Pq au, Pq ah]) (f := 42) (args := #[Pq au, Pq ah]) rfl rfl rfl rfl rfl (fun _ => x_mf (fs := []) (cs := [Pq au, Pq ah]) rfl rfl) (x_defer rfl) (x_invoke cf42) (fun w_ => catch_idle _ _ w_) ?_
 refine W.seq ?_
 refine W.region rfl ?_
 refine t_alloc (cs := encB (List.replicate 16 false)) H Al111 rfl ?_
 intro aq bX H
 have bh : (List.replicate 16 false).length = 16 := by simp
 refine s_nil ?_
 refine W.seq ?_
 refine W.region rfl ?_
 refine zM aj rfl ?_
 have bY := (am).len_le
 refine s_val (x_lenS T75.und rfl am) ?_
 refine zM (I many) rfl ?_
 refine zC (rows.length : Int) many (decide ((rows.length : Int) <= many)) rfl rfl rfl ?_
 refine t_sw 4 0 [B (decide ((rows.length : Int) <= many))] (B (decide ((rows.length : Int) <= many))) H rfl rfl Sz4 rfl rfl rfl rfl ?_
 intro bZ H
 refine s_nil ?_
 refine W.seq ?_
 refine W.seq ?_
 refine W.region rfl ?_
 refine zM aj rfl ?_
 have b3 := (am).len_le
 refine s_val (x_lenS T75.und rfl am) ?_
 refine zM (I 0) rfl ?_
 refine s_nil ?_
 refine W.block ?_
 obtain ⟨bi, aD, bj⟩ := M.e_bind hM
 obtain ⟨b4, aD⟩ := M.e_iter aD
 refine W.loop (fun m σ W => ∃ (s2 : Bool) (ar : List Bool) (s3 : Nat) (ρ : Env), σ = upds ρ [(3, Pq ao), (6, Pq au), (7, Pq ah), (8, Pq ak), (9, Pq aq), (30, aj), (31, I (rows.length : Int)), (32, I (s3 : Int))] /\ M.iterN (zb1 s_Sections s_Marks s_Reaches rows) m (s2, ar, s3) = some bi /\ St w W [cBlk aq (encB ar) 111, cBlk ak [ae, ab, ag, .map (some aR)] 99, cMemI encSpt aR (zaa s_Sections s_Marks s_Reaches), cBlk ah [I ac] 48, cBlk au [B s2] 4, cBlk ao [ae, ab, ag] 27] R /\ ar.length = 16) ?_ ?_
 ·exact ⟨_, decide ((rows.length : Int) <= many), List.replicate 16 false, 0, _, upds_of _ _ ⟨rfl, rfl, rfl, rfl, rfl, rfl, rfl, rfl, trivial⟩, aD, H, bh⟩
 rintro b5 σ b6 ⟨s2, ar, s3, ρ, rfl, aS, H, aT⟩
 obtain ⟨aU, aV, b7, hM, aE⟩ := M.e_iterN aS
 simp only [zb1] at hM
 clear aS
 refine W.seq ?_
 refine W.region rfl ?_
 refine zC (s3 : Int) (rows.length : Int) (decide ((s3 : Int) < (rows.length : Int))) rfl rfl rfl ?_
 refine s_nil ?_
 refine W.seq ?_
 refine W.cond (decide ((s3 : Int) < (rows.length : Int))) rfl (fun ax => ?_) (fun ax => ?_)
 ·replace hM := M.e_t hM ax
  simp only [qy1, qy2, qy3, qy4, qy5, qy6, ne_eq, qy7] at ax
  refine W.skip ?_
  refine W.seq ?_
  refine W.block ?_
  refine W.seq ?_
  refine W.region rfl ?_
  obtain ⟨bm, hM⟩ := M.e_grd hM
  simp only [Bool.and_eq_true, decide_eq_true_eq] at bm
  refine s_val (x_ix (a := aj) (b := I (s3 : Int)) (v := vat aj 1 (Int.toNat (s3 : Int))) rfl rfl (Sl.ix (α := List Int) T75.und T75.size am (by omega) (by omega))) ?_
  obtain ⟨ay, bn, aC⟩ := List_at am (i := (s3 : Int)) (by omega) (by omega)
  replace aC : Sl _ ay (rows.getD s3 ([])) := aC
  have b8 := aC.len_le
  refine s_val (x_ld (p := vat aj 1 (Int.toNat (s3 : Int))) (v := ay) rfl (ld_sc Sc28 (At.mono (bn) (aQ.at H)))) ?_
  refine zA ay rfl ?_
  refine s_nil ?_
  refine W.seq ?_
  refine W.region rfl ?_
  refine zM (Pq ak) rfl ?_
  refine zM ay rfl ?_
  obtain ⟨b9, bo, hM⟩ := M.e_bind hM
  refine s_call cf43 [Pq ak, ay, Pq aq] rfl (zc5 s_Sections s_Marks s_Reaches (rows.getD s3 ([])) ar (aL.app _) aM (aN.app _) az (aO.app _) aP (Has.here (k := 0) rfl) (aQ.app _) aC aT bo _ (H.gt 5)) ?_
  rintro vq cb ⟨r2, aW, bp, hvq, ap, aX⟩
  subst bp
  subst vq
  try dsimp only at hM
  replace H := H.bk ap
  clear ap
  refine s_val (x_not (b := r2) rfl) ?_
  refine s_nil ?_
  refine W.cond (!r2) rfl (fun aF => ?_) (fun aF => ?_)
  ·replace hM := M.e_t hM aF
   refine W.region rfl ?_
   refine t_sw 4 0 [B false] (B false) H rfl rfl Sz4 rfl rfl rfl rfl ?_
   intro cc H
   refine s_nil ?_
   refine W.region rfl ?_
   refine zR (s3 : Int) 1 ((s3 : Int) + 1) rfl rfl rfl (by omega) ?_
   refine zM (I ((s3 : Int) + 1)) rfl ?_
   refine s_nil ?_
   exact ⟨aU, aV, false, aW, s3 + 1, _, upds_of _ _ ⟨rfl, rfl, rfl, rfl, rfl, rfl, rfl, rfl, trivial⟩, M.e_inl hM aE, H, aX⟩
  replace hM := M.e_f hM aF
  refine W.skip ?_
  refine W.region rfl ?_
  refine zR (s3 : Int) 1 ((s3 : Int) + 1) rfl rfl rfl (by omega) ?_
  refine zM (I ((s3 : Int) + 1)) rfl ?_
  refine s_nil ?_
  exact ⟨aU, aV, s2, aW, s3 + 1, _, upds_of _ _ ⟨rfl, rfl, rfl, rfl, rfl, rfl, rfl, rfl, trivial⟩, M.e_inl hM aE, H, aX⟩
 replace hM := M.e_f hM ax
 simp only [qy1, qy2, qy3, qy4, qy5, qy6, ne_eq, qy7] at ax
 refine W.exit ?_
 have bq := M.e_inr hM aE
 subst bq
 replace hM := bj
 try dsimp only at hM
 replace H := H.pk [0, 3, 4, 5]
 refine W.seq ?_
 refine W.region rfl ?_
 refine s_val (x_ld (p := Pq au) (v := B s2) rfl (ldb_sc Sc4 (H.bl 2) rfl)) ?_
 refine zM (B s2) rfl ?_
 refine g_val s2 (gy_t rfl) (fun hg => x_fa (a := Pq ao) (v := Oq ao 1) rfl (fa_blk (o := 0) Fd27_1 Sz24)) ?_
 refine g_val s2 (gy_t rfl) (fun hg => x_ld (p := Oq ao 1) (v := ab) (gd_of (c := s2) hg (Oq ao 1)) (ldb_sc Sc24 (H.bl 3) rfl)) ?_
 have ce := (az).len_le
 refine g_val s2 (gy_t rfl) (fun hg => x_lenS T24.und (gd_of (c := s2) hg (ab)) az) ?_
 obtain ⟨av, hM⟩ := M.e_grd hM
 replace av := M.imp_of av
 simp only [Bool.and_eq_true, decide_eq_true_eq] at av
 obtain ⟨br, H, bt⟩ := St.freezeB H (k := 0) (n := 16) rfl (by have h_ := aT; omega) (by omega)
 replace H := H.nf
 have bu : s2 = true -> Sl br.cells (.slice (some ⟨aq, 0, none⟩) (Int.toNat (s_Marks.length : Int)) 16) (ar.take (Int.toNat (s_Marks.length : Int))) := fun hg => bt (s_Marks.length : Int) (by have aa := av.resolve_left (by rw [hg]; decide); first | exact aa | exact aa.1 | exact aa.2 | omega | (have ai := hg; simp at ai; omega)) (by have aa := av.resolve_left (by rw [hg]; decide); first | exact aa | exact aa.1 | exact aa.2 | omega | (have ai := hg; simp at ai; omega))
 refine g_val s2 (gy_t rfl) (fun hg => x_sl (v := Pq aq) (u := (.slice (some ⟨aq, 0, none⟩) (Int.toNat (s_Marks.length : Int)) 16)) (lo' := none) (hi' := some (I (s_Marks.length : Int))) (mx' := none) rfl rfl (congrArg some (gd_of (c := s2) hg (I (s_Marks.length : Int)))) rfl (run_sliceB Try.underlying111 Sz4 (by have aa := av.resolve_left (by rw [hg]; decide); first | exact aa | exact aa.1 | exact aa.2 | omega | (have ai := hg; simp at ai; omega)) (by have aa := av.resolve_left (by rw [hg]; decide); first | exact aa | exact aa.1 | exact aa.2 | omega | (have ai := hg; simp at ai; omega)))) ?_
 obtain ⟨r3, bv, hM⟩ := M.e_bind hM
 refine t_gcall s2 (gy_t rfl) cf44 (B r3) (fun _ => [(.slice (some ⟨aq, 0, none⟩) (Int.toNat (s_Marks.length : Int)) 16), .func (.func 45) #[] #[]]) (fun hg => lst2 (gd_of (c := s2) hg ((.slice (some ⟨aq, 0, none⟩) (Int.toNat (s_Marks.length : Int)) 16))) rfl) H (fun hg => (zcy (ar.take (Int.toNat (s_Marks.length : Int))) (fun aG => zb4 aG) (Reads.of (k := 0) rfl roLe) (bu hg) ⟨45, [], rfl, cf45, fun aY cf cg bw aG ch bx ci bz bA => by obtain ⟨_, rfl, rfl⟩ := bz; exact (zdi aG bA aY (St.refl bx)).mono fun bw aY ⟨cj, bB, bC, bD⟩ => by subst bB; exact ⟨bC, bD⟩⟩ (M.e_opt bv hg) _ (H.give (A := []) rfl)).mono fun v_ w_ ⟨y_, al, bE, H_⟩ => by subst al; exact ⟨bE, H.via H_⟩) ?_
 intro ck H
 refine s_val (x_pand (b := s2) (r := r3) rfl (fun hb => gd_of (c := s2) (by first | exact hb | (rw [hb]; rfl) | simp_all) (B r3)) rfl) ?_
 refine t_sw 2 0 [B (s2 && r3)] (B (s2 && r3)) H rfl rfl Sz4 rfl rfl rfl rfl ?_
 intro cn H
 refine t_sw 1 0 [I 0] (I 0) H rfl rfl Sz48 rfl rfl rfl rfl ?_
 intro co H
 refine s_nil ?_
 replace H := H.pk [1, 2]
 refine W.ret ?_
 intro cp bF
 replace H := bF _ _ _ H
 replace H := H.nf
 have bG := (H.bl 1)
 have bH := (H.bl 0)
 have al := M.e_pure hM
 exact ⟨_, (resE_ofn (vs := [B (s2 && r3), I 0]) rfl rfl (.cell (v := B (s2 && r3)) rfl (run_loadVar_sc Sc4 bG rfl) <| .cell (v := I 0) rfl (run_loadVar_sc Sc48 bH rfl) <| .nil)), ⟨(s2 && r3), 0, al, rfl, (H.pk [])⟩⟩

end Go.Proofs.Ytlemgioaakecpaa
end
namespace Go.Nm
namespace Fl
theorem rep_get {n i : Nat} {x d : Int} (h : i < n) : (List.replicate n x).getD i d = x := by
  simp [List.getD, List.getElem?_replicate, h]
def ones (n : Nat) : List (List Int) := (List.range n).map fun i : Nat => [(i : Int)]
def ints (n : Nat) : List Int := (List.range n).map fun i : Nat => (i : Int)
theorem ints_len (n : Nat) : (ints n).length = n := by simp [ints]
theorem ints_succ (n : Nat) : ints (n + 1) = ints n ++ [(n : Int)] := by unfold ints; rw [List.range_succ, List.map_append]; rfl
theorem ones_len (n : Nat) : (ones n).length = n := by simp [ones]
theorem ones_get {n i : Nat} (h : i < n) : (ones n).getD i [] = [(i : Int)] := by
  rw [getD_el _ (by rw [ones_len]; exact h)]
  simp [ones]
end Fl
end Go.Nm
namespace Go.Proofs.Ytlemgioaakecpaa
open Go Go.Nm
section
variable {S : List Sect} {M' : List Mrk} {R' : List Rch}
theorem linked1_ends (hno : ∀ a b : Int, 0 <= a -> a < M'.length -> 0 <= b -> b < M'.length -> (zaf S M' R' a b).Ends false) {a : Int} (h0 : 0 <= a) (h1 : a < M'.length) (mp : Int -> Option Bool) (n l : List Int) :
    (zbp a S M' R' S M' R' mp n l).Ends (false, mp, n, l) := by
  unfold zbp
  refine M.i_fix ?_
  simp only [zaB]
  refine M.i_bind (a := (Sum.inr (mp, n, l) : ((Int -> Option Bool) × List Int × List Int) ⊕ ((Int -> Option Bool) × List Int × List Int))) ?_ M.i_pure
  refine M.i_for (fun i => (i, mp, n, l)) M'.length (fun i hi => ?_) ?_
  · simp only [zaC]
    exact M.i_t (decide_eq_true (by omega)) (M.i_bind (hno _ _ h0 h1 (by omega) (by omega)) (M.i_t rfl M.i_pure))
  · simp only [zaC]
    exact M.i_f (decide_eq_false (by omega)) M.i_pure
theorem linked_ends (hno : ∀ a b : Int, 0 <= a -> a < M'.length -> 0 <= b -> b < M'.length -> (zaf S M' R' a b).Ends false) :
    (zbm S M' R').Ends (List.replicate 16 (-1), List.replicate 16 (-1)) := by
  unfold zbm
  refine M.i_bind (a := (List.replicate 16 (-1), List.replicate 16 (-1))) ⟨50, by kernel_rfl⟩ (M.i_bind (a := (List.replicate 16 (-1), List.replicate 16 (-1))) ?_ M.i_pure)
  refine M.i_for (fun i => (List.replicate 16 (-1), List.replicate 16 (-1), i)) M'.length (fun i hi => ?_) ?_
  · simp only [za2]
    exact M.i_t (decide_eq_true (by omega)) (M.i_bind (linked1_ends hno (by omega) (by omega) _ _ _) M.i_pure)
  · simp only [za2]
    exact M.i_f (decide_eq_false (by omega)) M.i_pure
theorem rows_ends (hn : M'.length <= 16) (hno : ∀ a b : Int, 0 <= a -> a < M'.length -> 0 <= b -> b < M'.length -> (zaf S M' R' a b).Ends false) :
    (zbq S M' R').Ends (Fl.ones M'.length) := by
  unfold zbq
  refine M.i_bind (linked_ends hno) (M.i_bind (a := (Fl.ones M'.length, Fl.ones M'.length)) ?_ M.i_pure)
  refine M.i_for (fun i => (i, Fl.ones i)) M'.length (fun i hi => ?_) ?_
  · simp only [za4]
    refine M.i_t (decide_eq_true (by omega)) (M.i_grd (gA2 (by omega) (by omega)) (M.i_f (by rw [Fl.rep_get (by omega)]; rfl) (M.i_bind (a := ([(i : Int)], [(i : Int)])) ?_ (M.i_grd (decide_eq_true (by rw [Fl.ones_len]; simp; omega)) ?_))))
    · refine M.i_next (s' := (-1, [(i : Int)])) ?_ (M.i_stop ?_)
      · simp only [za5]
        refine M.i_t (by rw [bne_iff_ne]; omega) (M.i_grd (by simp) (M.i_grd (gA2 (by omega) (by omega)) ?_))
        rw [Int.toNat_natCast, Fl.rep_get (by omega), List.nil_append]
        exact M.i_pure
      · simp only [za5]
        exact M.i_f rfl M.i_pure
    · have e : Fl.ones (i + 1) = Fl.ones i ++ [[(i : Int)]] := by unfold Fl.ones; rw [List.range_succ, List.map_append]; rfl
      rw [e]
      exact M.i_pure
  · simp only [za4]
    exact M.i_f (decide_eq_false (by omega)) M.i_pure
theorem Most_out (h : Fl.Site S M' R') (hno : ∀ a b : Int, 0 <= a -> a < M'.length -> 0 <= b -> b < M'.length -> (zaf S M' R' a b).Ends false) :
    (zaP S M' R').Out (fun x => x.2 = 0 /\ x.1.length = M'.length) := by
  have hm := h.m
  unfold zaP
  refine M.o_bindE (opened_ends h) (M.o_f rfl (M.o_bindE (rows_ends hm.2 hno) (M.o_grd (gA3 (by rw [Fl.ones_len]; omega) (by rw [Fl.ones_len]; omega) (by rw [Fl.ones_len]; omega)) ?_)))
  rw [Fl.ones_len]
  refine M.o_bindE (a := (isort (Fl.ints M'.length), List.replicate M'.length (0 : Int))) (M.i_stop ?_) (M.o_pure ⟨rfl, ?_⟩)
  · simp only [zbu]
    refine M.i_bind (a := (Sum.inr () : (List Int × List Int) ⊕ Unit)) ?_ (M.i_bind (a := (Fl.ints M'.length, Fl.ints M'.length)) ?_ (M.i_grd (decide_eq_true (by rw [Fl.ints_len]; omega)) M.i_pure))
    · refine M.i_for (fun i => i) M'.length (fun i hi => ?_) ?_
      · simp only [zaK, Fl.ones_len]
        refine M.i_t (decide_eq_true (by omega)) (M.i_grd (decide_eq_true (by omega)) (M.i_bind (a := (Sum.inr () : Unit ⊕ Unit)) ?_ M.i_pure))
        refine M.i_for (fun k => k) M'.length (fun k hk => ?_) ?_
        · simp only [zbe, Fl.ones_len, Fl.ones_get hi, Fl.ones_get hk, Fl.rep_get hi, Fl.rep_get hk, List.length_replicate]
          refine M.i_t (decide_eq_true (by omega)) (M.i_grd (decide_eq_true (by omega)) (M.i_grd (gOr (by omega)) (M.i_grd (gOr (by omega)) (M.i_grd (gOr (by omega)) (M.i_grd (gOr2 (by omega) (by simp)) (M.i_grd (gOr (by omega)) (M.i_grd (gOr2 (by omega) (by simp)) (M.i_bind (M.i_opt (r := false) (fun _ => hno _ _ (by simp) (by simp; omega) (by simp) (by simp; omega)) (fun _ => rfl)) (M.i_f (Bool.and_false _) M.i_pure)))))))))
        · simp only [zbe, Fl.ones_len]
          exact M.i_f (decide_eq_false (by omega)) M.i_pure
      · simp only [zaK, Fl.ones_len]
        exact M.i_f (decide_eq_false (by omega)) M.i_pure
    · refine M.i_for (fun i => (i, Fl.ints i)) M'.length (fun i hi => ?_) ?_
      · simp only [zaI, Fl.ones_len, Fl.ones_get hi, Fl.rep_get hi, List.length_replicate]
        refine M.i_t (decide_eq_true (by omega)) (M.i_grd (decide_eq_true (by omega)) (M.i_grd (decide_eq_true (by omega)) (M.i_t (decide_eq_true (by simp)) (M.i_grd (gA2 (by omega) (by simp)) (M.i_grd (decide_eq_true (by rw [Fl.ints_len]; simp; omega)) ?_)))))
        rw [Fl.ints_succ]
        exact M.i_pure
      · simp only [zaI, Fl.ones_len]
        exact M.i_f (decide_eq_false (by omega)) M.i_pure
  · have := (isort_perm (Fl.ints M'.length)).length_eq
    rw [this]
    exact Fl.ints_len _
end
end Go.Proofs.Ytlemgioaakecpaa
section
set_option maxRecDepth 100000
set_option maxHeartbeats 16000000
namespace Go.Proofs.Ytlemgioaakecpaa
open Go Go.Nm
def zbQ (bytes : List UInt8) : M (Int × Int) :=
  M.pure (0, 0)
theorem zcB {R : List Chunk} {ab : Cells} {aa : Value} (bytes : List UInt8) (ai : Reads R ab) (ag : Sl ab aa bytes) {r : (Int × Int)} (hM : (zbQ bytes).Ends r) (w : World) (H : St w w [] R) : Ret Try.prog 6 #[aa] w fun v w' => ∃ (y0 : Int) (y1 : Int) (ac : Nat), (y0, y1) = r /\ v = Pq ac /\ St w w' [cBlk ac [aa, I y0, I y1] 68] R := by
 refine ret_of_W Try.func6 rfl rfl rfl ?_
 refine W.seq ?_
 refine W.region rfl ?_
 refine zA (.pointer none) rfl ?_
 refine s_nil ?_
 refine W.seq ?_
 refine W.region rfl ?_
 refine zM aa rfl ?_
 refine s_val (x_bld (ps := [(0, aa)]) (zs := [.slice none 0 0, I 0, I 0]) (L' := [aa, I 0, I 0]) rfl Try.underlying68 Al68 rfl (Bd68 Try.underlying68) (.cons (cs := [aa]) (Sl.cells ag) rfl rfl rfl rfl <| .nil)) ?_
 refine t_box (v := .agg #[aa, I 0, I 0]) (cs := [aa, I 0, I 0]) H rfl rfl ?_
 intro ae aj H
 refine zA (Pq ae) rfl ?_
 refine s_nil ?_
 refine W.ret ?_
 have ah := M.e_pure hM
 exact ⟨_, resE_tmp rfl, ⟨0, 0, ae, ah, rfl, H⟩⟩

def zbk (s_used : Int) (s_mix : Int) (n : Int) (b : Int) : M (Int × Int × Int) :=
  M.grd (decide ((-9223372036854775808 : Int) <= (5 * s_mix)) && decide ((5 * s_mix) <= (9223372036854775807 : Int))) <|
  M.grd (decide ((-9223372036854775808 : Int) <= ((5 * s_mix) + b)) && decide (((5 * s_mix) + b) <= (9223372036854775807 : Int))) <|
  M.grd (decide ((-9223372036854775808 : Int) <= (((5 * s_mix) + b) + 1)) && decide ((((5 * s_mix) + b) + 1) <= (9223372036854775807 : Int))) <|
  M.grd (decide ((0 : Int) <= (((5 * s_mix) + b) + 1)) && decide ((0 : Int) < 251)) <|
  M.grd (decide ((-9223372036854775808 : Int) <= (s_used + 1)) && decide ((s_used + 1) <= (9223372036854775807 : Int))) <|
  bif decide (256 < n) then (
  M.grd (decide ((-9223372036854775808 : Int) <= (256 * b)) && decide ((256 * b) <= (9223372036854775807 : Int))) <|
  M.grd (decide ((-9223372036854775808 : Int) <= ((256 * b) + ((((5 * s_mix) + b) + 1) % 251))) && decide (((256 * b) + ((((5 * s_mix) + b) + 1) % 251)) <= (9223372036854775807 : Int))) <|
  M.grd (decide ((0 : Int) <= ((256 * b) + ((((5 * s_mix) + b) + 1) % 251))) && decide ((0 : Int) < n)) <|
  M.pure ((((256 * b) + ((((5 * s_mix) + b) + 1) % 251)) % n), (s_used + 1), ((((5 * s_mix) + b) + 1) % 251)))
  else (
  M.grd (decide ((0 : Int) <= b) && decide ((0 : Int) < n)) <|
  M.pure ((b % n), (s_used + 1), ((((5 * s_mix) + b) + 1) % 251)))
def zad (s_bytes : List UInt8) (s_used : Int) (s_mix : Int) (n : Int) : M (Int × Int × Int) :=
  bif ((decide (n < 2)) || ((s_bytes.length : Int) == 0)) then (
  M.pure (0, s_used, s_mix))
  else (
  M.grd (decide ((0 : Int) <= s_used) && decide ((0 : Int) < (s_bytes.length : Int))) <|
  M.grd (decide ((0 : Int) <= (s_used % (s_bytes.length : Int))) && decide ((s_used % (s_bytes.length : Int)) < (s_bytes.length : Int))) <|
  M.grd (decide ((0 : Int) <= ((s_bytes.getD (Int.toNat (s_used % (s_bytes.length : Int))) 0).toNat : Int)) && decide (((s_bytes.getD (Int.toNat (s_used % (s_bytes.length : Int))) 0).toNat : Int) < (256 : Int))) <|
  bif decide ((s_bytes.length : Int) <= s_used) then (
  M.grd (decide ((-9223372036854775808 : Int) <= (11 * s_mix)) && decide ((11 * s_mix) <= (9223372036854775807 : Int))) <|
  M.grd (decide (0 <= s_used) && decide (s_used <= (9223372036854775807 : Int)) && decide ((0 : Int) < (s_bytes.length : Int))) <|
  M.grd (decide ((-9223372036854775808 : Int) <= ((11 * s_mix) + (s_used / (s_bytes.length : Int)))) && decide (((11 * s_mix) + (s_used / (s_bytes.length : Int))) <= (9223372036854775807 : Int))) <|
  M.grd (decide ((-9223372036854775808 : Int) <= (((s_bytes.getD (Int.toNat (s_used % (s_bytes.length : Int))) 0).toNat : Int) + ((11 * s_mix) + (s_used / (s_bytes.length : Int))))) && decide ((((s_bytes.getD (Int.toNat (s_used % (s_bytes.length : Int))) 0).toNat : Int) + ((11 * s_mix) + (s_used / (s_bytes.length : Int)))) <= (9223372036854775807 : Int))) <|
  zbk s_used s_mix n (((s_bytes.getD (Int.toNat (s_used % (s_bytes.length : Int))) 0).toNat : Int) + ((11 * s_mix) + (s_used / (s_bytes.length : Int)))))
  else (
  zbk s_used s_mix n ((s_bytes.getD (Int.toNat (s_used % (s_bytes.length : Int))) 0).toNat : Int)))
theorem zae {R : List Chunk} {aa : Nat} {ak : Cells} {ab : Value} (s_bytes : List UInt8) (s_used : Int) (s_mix : Int) (n : Int) (al : Reads R ak) (ac : Sl ak ab s_bytes) {r : (Int × Int × Int)} (hM : (zad s_bytes s_used s_mix n).Ends r) (w : World) (H : St w w [cBlk aa [ab, I s_used, I s_mix] 68] R) : Ret Try.prog 9 #[Pq aa, I n] w fun v w' => ∃ (y0 : Int) (y1 : Int) (y2 : Int), (y0, y1, y2) = r /\ v = I y0 /\ St w w' [cBlk aa [ab, I y1, I y2] 68] R := by
 refine ret_of_W Try.func9 rfl rfl rfl ?_
 refine W.seq ?_
 refine W.region rfl ?_
 refine zA (I 0) rfl ?_
 refine s_nil ?_
 refine W.seq ?_
 refine W.seq ?_
 refine W.region rfl ?_
 refine zM (I n) rfl ?_
 refine zC n 2 (decide (n < 2)) rfl rfl rfl ?_
 refine zM (B (decide (n < 2))) rfl ?_
 refine g_val (!(decide (n < 2))) (gy_f rfl) (fun hg => x_mv (v := Pq aa) rfl) ?_
 refine g_val (!(decide (n < 2))) (gy_f rfl) (fun hg => x_nc (a := ⟨aa, 0, none⟩) (gd_of (c := !(decide (n < 2))) hg (Pq aa))) ?_
 refine g_val (!(decide (n < 2))) (gy_f rfl) (fun hg => x_fa (a := Pq aa) (v := Pq aa) (gd_of (c := !(decide (n < 2))) hg (Pq aa)) (fa_blk (o := 0) Fd68_0 Sz22)) ?_
 refine g_val (!(decide (n < 2))) (gy_f rfl) (fun hg => x_ld (p := Pq aa) (v := ab) (gd_of (c := !(decide (n < 2))) hg (Pq aa)) (ldb_sc Sc22 (H.bl 0) rfl)) ?_
 have aG := (ac).len_le
 refine g_val (!(decide (n < 2))) (gy_f rfl) (fun hg => x_lenS T22.und (gd_of (c := !(decide (n < 2))) hg (ab)) ac) ?_
 refine g_val (!(decide (n < 2))) (gy_f rfl) (fun hg => x_cmp (kd := .i64) (a := (s_bytes.length : Int)) (b := 0) (r := (s_bytes.length : Int) == 0) (gd_of (c := !(decide (n < 2))) hg (I (s_bytes.length : Int))) rfl rfl) ?_
 refine s_val (x_por (b := decide (n < 2)) (r := (s_bytes.length : Int) == 0) rfl rfl (fun hb => gd_of (c := !(decide (n < 2))) (by first | exact hb | (rw [hb]; rfl) | simp_all) (B ((s_bytes.length : Int) == 0)))) ?_
 refine s_nil ?_
 refine W.cond ((decide (n < 2)) || ((s_bytes.length : Int) == 0)) rfl (fun aj => ?_) (fun aj => ?_)
 ·replace hM := M.e_t hM aj
  refine W.seq ?_
  refine W.region rfl ?_
  refine zA (I 0) rfl ?_
  refine s_nil ?_
  refine W.ret ?_
  have ag := M.e_pure hM
  exact ⟨_, resE_tmp rfl, ⟨0, s_used, s_mix, ag, rfl, H⟩⟩
 replace hM := M.e_f hM aj
 refine W.skip ?_
 refine W.seq ?_
 refine W.draw (fun W => St w W [cBlk aa [ab, I s_used, I s_mix] 68] R) [(0, true), (1, true), (2, true), (3, true), (4, true), (5, true), (6, true), (7, true), (8, true), (9, true), (10, true), (11, true), (12, true), (13, true), (14, true), (15, true), (16, true), (17, true)] mixed (by decide +kernel) rfl ?_
 intro aH ae
 replace H := H.ext ae
 clear ae
 refine ⟨(H.pk [0]), ?_⟩
 refine d_q rfl (fun w' H => x_mv (v := Pq aa) rfl) ?_
 refine d_q rfl (fun w' H => x_nc (a := ⟨aa, 0, none⟩) rfl) ?_
 refine d_q rfl (fun w' H => x_fa (a := Pq aa) (v := Pq aa) rfl (fa_blk (o := 0) Fd68_0 Sz22)) ?_
 refine d_q rfl (fun w' H => x_ld (p := Pq aa) (v := ab) rfl (ldb_sc Sc22 (H.bl 0) rfl)) ?_
 refine d_q rfl (fun w' H => x_mv (v := Pq aa) rfl) ?_
 refine d_q rfl (fun w' H => x_nc (a := ⟨aa, 0, none⟩) rfl) ?_
 refine d_q rfl (fun w' H => x_fa (a := Pq aa) (v := Oq aa 1) rfl (fa_blk (o := 0) Fd68_1 Sz3)) ?_
 refine d_q rfl (fun w' H => x_ld (p := Oq aa 1) (v := I s_used) rfl (ldb_sc Sc3 (H.bl 0) rfl)) ?_
 refine d_q rfl (fun w' H => x_mv (v := Pq aa) rfl) ?_
 refine d_q rfl (fun w' H => x_nc (a := ⟨aa, 0, none⟩) rfl) ?_
 refine d_q rfl (fun w' H => x_fa (a := Pq aa) (v := Pq aa) rfl (fa_blk (o := 0) Fd68_0 Sz22)) ?_
 refine d_q rfl (fun w' H => x_ld (p := Pq aa) (v := ab) rfl (ldb_sc Sc22 (H.bl 0) rfl)) ?_
 have aI := (ac).len_le
 refine d_q rfl (fun w' H => x_lenS T22.und rfl ac) ?_
 obtain ⟨am, hM⟩ := M.e_grd hM
 simp only [Bool.and_eq_true, decide_eq_true_eq] at am
 refine d_q rfl (fun w' H => x_rem' (a := s_used) (b := (s_bytes.length : Int)) rfl rfl (by omega)) ?_
 obtain ⟨ao, hM⟩ := M.e_grd hM
 simp only [Bool.and_eq_true, decide_eq_true_eq] at ao
 refine d_q rfl (fun w' H => x_ix (a := ab) (b := I (s_used % (s_bytes.length : Int))) (v := vat ab 1 (Int.toNat (s_used % (s_bytes.length : Int)))) rfl rfl (Sl.ix (α := UInt8) T22.und T22.size ac (by omega) (by omega))) ?_
 refine d_q rfl (fun w' H => x_ld (p := vat ab 1 (Int.toNat (s_used % (s_bytes.length : Int)))) (v := .int .u8 (((s_bytes.getD (Int.toNat (s_used % (s_bytes.length : Int))) 0).toNat : Int))) rfl (ld_sc Sc5 (At.mono (UInt8_at ac (i := s_used % (s_bytes.length : Int)) (by omega) (by omega)) (al.at H)))) ?_
 obtain ⟨ap, hM⟩ := M.e_grd hM
 simp only [Bool.and_eq_true, decide_eq_true_eq] at ap
 refine d_q rfl (fun w' H => x_conv64 (kd := .u8) (a := ((s_bytes.getD (Int.toNat (s_used % (s_bytes.length : Int))) 0).toNat : Int)) Try.underlying5 Try.underlying3 rfl (by omega)) ?_
 refine d_q rfl (fun w' H => x_as (v := I ((s_bytes.getD (Int.toNat (s_used % (s_bytes.length : Int))) 0).toNat : Int)) rfl) ?_
 refine d_nil ?_
 refine W.seqJ (fun σ W => ∃ (b : Int) (ρ : Env), σ = upds ρ [(0, Pq aa), (1, I n), (5, I b)] /\ (zbk s_used s_mix n b).Ends r /\ St w W [cBlk aa [ab, I s_used, I s_mix] 68] R) ?_ ?_
 ·skip
  refine W.seq ?_
  refine W.draw (fun W => St w W [cBlk aa [ab, I s_used, I s_mix] 68] R) [(0, true), (1, true), (2, true), (3, true), (4, true), (5, true), (6, true), (7, true), (8, true), (9, true)] mixed (by decide +kernel) rfl ?_
  intro aJ ae
  replace H := H.ext ae
  clear ae
  refine ⟨(H.pk [0]), ?_⟩
  refine d_q rfl (fun w' H => x_mv (v := Pq aa) rfl) ?_
  refine d_q rfl (fun w' H => x_nc (a := ⟨aa, 0, none⟩) rfl) ?_
  refine d_q rfl (fun w' H => x_fa (a := Pq aa) (v := Oq aa 1) rfl (fa_blk (o := 0) Fd68_1 Sz3)) ?_
  refine d_q rfl (fun w' H => x_ld (p := Oq aa 1) (v := I s_used) rfl (ldb_sc Sc3 (H.bl 0) rfl)) ?_
  refine d_q rfl (fun w' H => x_mv (v := Pq aa) rfl) ?_
  refine d_q rfl (fun w' H => x_nc (a := ⟨aa, 0, none⟩) rfl) ?_
  refine d_q rfl (fun w' H => x_fa (a := Pq aa) (v := Pq aa) rfl (fa_blk (o := 0) Fd68_0 Sz22)) ?_
  refine d_q rfl (fun w' H => x_ld (p := Pq aa) (v := ab) rfl (ldb_sc Sc22 (H.bl 0) rfl)) ?_
  have aK := (ac).len_le
  refine d_q rfl (fun w' H => x_lenS T22.und rfl ac) ?_
  refine d_q rfl (fun w' H => x_cmp (kd := .i64) (a := s_used) (b := (s_bytes.length : Int)) (r := decide ((s_bytes.length : Int) <= s_used)) rfl rfl rfl) ?_
  refine d_nil ?_
  refine W.cond (decide ((s_bytes.length : Int) <= s_used)) rfl (fun ah => ?_) (fun ah => ?_)
  ·replace hM := M.e_t hM ah
   simp only [qy1, qy2, qy3, qy4, qy5, qy6, ne_eq, qy7] at ah
   refine W.draw (fun W => St w W [cBlk aa [ab, I s_used, I s_mix] 68] R) [(0, true), (1, true), (2, true), (3, true), (4, true), (5, true), (6, true), (7, true), (8, true), (9, true), (10, true), (11, true), (12, true), (13, true), (14, true), (15, true), (16, true), (17, true), (18, true)] mixed (by decide +kernel) rfl ?_
   intro aL ae
   replace H := H.ext ae
   clear ae
   refine ⟨(H.pk [0]), ?_⟩
   refine d_q rfl (fun w' H => x_mv (v := I ((s_bytes.getD (Int.toNat (s_used % (s_bytes.length : Int))) 0).toNat : Int)) rfl) ?_
   refine d_q rfl (fun w' H => x_mv (v := Pq aa) rfl) ?_
   refine d_q rfl (fun w' H => x_nc (a := ⟨aa, 0, none⟩) rfl) ?_
   refine d_q rfl (fun w' H => x_fa (a := Pq aa) (v := Oq aa 2) rfl (fa_blk (o := 0) Fd68_2 Sz3)) ?_
   refine d_q rfl (fun w' H => x_ld (p := Oq aa 2) (v := I s_mix) rfl (ldb_sc Sc3 (H.bl 0) rfl)) ?_
   obtain ⟨aq, hM⟩ := M.e_grd hM
   simp only [Bool.and_eq_true, decide_eq_true_eq] at aq
   refine d_q rfl (fun w' H => x_ari (a := 11) (b := s_mix) (r := 11 * s_mix) rfl rfl rfl (by omega)) ?_
   refine d_q rfl (fun w' H => x_mv (v := Pq aa) rfl) ?_
   refine d_q rfl (fun w' H => x_nc (a := ⟨aa, 0, none⟩) rfl) ?_
   refine d_q rfl (fun w' H => x_fa (a := Pq aa) (v := Oq aa 1) rfl (fa_blk (o := 0) Fd68_1 Sz3)) ?_
   refine d_q rfl (fun w' H => x_ld (p := Oq aa 1) (v := I s_used) rfl (ldb_sc Sc3 (H.bl 0) rfl)) ?_
   refine d_q rfl (fun w' H => x_mv (v := Pq aa) rfl) ?_
   refine d_q rfl (fun w' H => x_nc (a := ⟨aa, 0, none⟩) rfl) ?_
   refine d_q rfl (fun w' H => x_fa (a := Pq aa) (v := Pq aa) rfl (fa_blk (o := 0) Fd68_0 Sz22)) ?_
   refine d_q rfl (fun w' H => x_ld (p := Pq aa) (v := ab) rfl (ldb_sc Sc22 (H.bl 0) rfl)) ?_
   have aM := (ac).len_le
   refine d_q rfl (fun w' H => x_lenS T22.und rfl ac) ?_
   obtain ⟨au, hM⟩ := M.e_grd hM
   simp only [Bool.and_eq_true, decide_eq_true_eq] at au
   refine d_q rfl (fun w' H => x_quo (a := s_used) (b := (s_bytes.length : Int)) rfl rfl (by omega)) ?_
   obtain ⟨av, hM⟩ := M.e_grd hM
   simp only [Bool.and_eq_true, decide_eq_true_eq] at av
   refine d_q rfl (fun w' H => x_ari (a := 11 * s_mix) (b := s_used / (s_bytes.length : Int)) (r := (11 * s_mix) + (s_used / (s_bytes.length : Int))) rfl rfl rfl (by omega)) ?_
   obtain ⟨aw, hM⟩ := M.e_grd hM
   simp only [Bool.and_eq_true, decide_eq_true_eq] at aw
   refine d_q rfl (fun w' H => x_ari (a := ((s_bytes.getD (Int.toNat (s_used % (s_bytes.length : Int))) 0).toNat : Int)) (b := (11 * s_mix) + (s_used / (s_bytes.length : Int))) (r := ((s_bytes.getD (Int.toNat (s_used % (s_bytes.length : Int))) 0).toNat : Int) + ((11 * s_mix) + (s_used / (s_bytes.length : Int)))) rfl rfl rfl (by omega)) ?_
   refine d_q rfl (fun w' H => x_as (v := I (((s_bytes.getD (Int.toNat (s_used % (s_bytes.length : Int))) 0).toNat : Int) + ((11 * s_mix) + (s_used / (s_bytes.length : Int))))) rfl) ?_
   refine d_nil ?_
   exact ⟨((s_bytes.getD (Int.toNat (s_used % (s_bytes.length : Int))) 0).toNat : Int) + ((11 * s_mix) + (s_used / (s_bytes.length : Int))), _, upds_of _ _ ⟨rfl, rfl, rfl, trivial⟩, hM, H⟩
  replace hM := M.e_f hM ah
  simp only [qy1, qy2, qy3, qy4, qy5, qy6, ne_eq, qy7] at ah
  refine W.skip ?_
  exact ⟨((s_bytes.getD (Int.toNat (s_used % (s_bytes.length : Int))) 0).toNat : Int), _, upds_of _ _ ⟨rfl, rfl, rfl, trivial⟩, hM, H⟩
 rintro _ aN ⟨b, ρ, rfl, hM, H⟩
 unfold zbk at hM
 refine W.seq ?_
 refine W.region rfl ?_
 refine zM (Pq aa) rfl ?_
 refine zM (Pq aa) rfl ?_
 refine s_val (x_nc (a := ⟨aa, 0, none⟩) rfl) ?_
 refine s_val (x_fa (a := Pq aa) (v := Oq aa 2) rfl (fa_blk (o := 0) Fd68_2 Sz3)) ?_
 refine s_val (x_ld (p := Oq aa 2) (v := I s_mix) rfl (ldb_sc Sc3 (H.bl 0) rfl)) ?_
 obtain ⟨ax, hM⟩ := M.e_grd hM
 simp only [Bool.and_eq_true, decide_eq_true_eq] at ax
 refine zR 5 s_mix (5 * s_mix) rfl rfl rfl (by omega) ?_
 refine zM (I b) rfl ?_
 obtain ⟨ay, hM⟩ := M.e_grd hM
 simp only [Bool.and_eq_true, decide_eq_true_eq] at ay
 refine zR (5 * s_mix) b ((5 * s_mix) + b) rfl rfl rfl (by omega) ?_
 obtain ⟨az, hM⟩ := M.e_grd hM
 simp only [Bool.and_eq_true, decide_eq_true_eq] at az
 refine zR ((5 * s_mix) + b) 1 (((5 * s_mix) + b) + 1) rfl rfl rfl (by omega) ?_
 obtain ⟨aA, hM⟩ := M.e_grd hM
 simp only [Bool.and_eq_true, decide_eq_true_eq] at aA
 refine s_val (x_rem' (a := ((5 * s_mix) + b) + 1) (b := 251) rfl rfl (by omega)) ?_
 refine s_val (x_nc (a := ⟨aa, 0, none⟩) rfl) ?_
 refine s_val (x_fa (a := Pq aa) (v := Oq aa 2) rfl (fa_blk (o := 0) Fd68_2 Sz3)) ?_
 refine t_sw 0 2 [I ((((5 * s_mix) + b) + 1) % 251)] (I ((((5 * s_mix) + b) + 1) % 251)) H rfl rfl Sz3 rfl rfl rfl rfl ?_
 intro aO H
 refine s_nil ?_
 refine W.seq ?_
 refine W.region rfl ?_
 refine zM (Pq aa) rfl ?_
 refine s_val (x_nc (a := ⟨aa, 0, none⟩) rfl) ?_
 refine s_val (x_fa (a := Pq aa) (v := Oq aa 1) rfl (fa_blk (o := 0) Fd68_1 Sz3)) ?_
 refine s_val (x_ld (p := Oq aa 1) (v := I s_used) rfl (ldb_sc Sc3 (H.bl 0) rfl)) ?_
 obtain ⟨aB, hM⟩ := M.e_grd hM
 simp only [Bool.and_eq_true, decide_eq_true_eq] at aB
 refine zR s_used 1 (s_used + 1) rfl rfl rfl (by omega) ?_
 refine s_val (x_nc (a := ⟨aa, 0, none⟩) rfl) ?_
 refine s_val (x_fa (a := Pq aa) (v := Oq aa 1) rfl (fa_blk (o := 0) Fd68_1 Sz3)) ?_
 refine t_sw 0 1 [I (s_used + 1)] (I (s_used + 1)) H rfl rfl Sz3 rfl rfl rfl rfl ?_
 intro aP H
 refine s_nil ?_
 refine W.seq ?_
 refine W.seq ?_
 refine W.region rfl ?_
 refine zM (I n) rfl ?_
 refine zC n 256 (decide (256 < n)) rfl rfl rfl ?_
 refine s_nil ?_
 refine W.cond (decide (256 < n)) rfl (fun ai => ?_) (fun ai => ?_)
 ·replace hM := M.e_t hM ai
  simp only [qy1, qy2, qy3, qy4, qy5, qy6, ne_eq, qy7] at ai
  refine W.region rfl ?_
  refine zM (I b) rfl ?_
  obtain ⟨aC, hM⟩ := M.e_grd hM
  simp only [Bool.and_eq_true, decide_eq_true_eq] at aC
  refine zR 256 b (256 * b) rfl rfl rfl (by omega) ?_
  refine zM (Pq aa) rfl ?_
  refine s_val (x_nc (a := ⟨aa, 0, none⟩) rfl) ?_
  refine s_val (x_fa (a := Pq aa) (v := Oq aa 2) rfl (fa_blk (o := 0) Fd68_2 Sz3)) ?_
  refine s_val (x_ld (p := Oq aa 2) (v := I ((((5 * s_mix) + b) + 1) % 251)) rfl (ldb_sc Sc3 (H.bl 0) rfl)) ?_
  obtain ⟨aD, hM⟩ := M.e_grd hM
  simp only [Bool.and_eq_true, decide_eq_true_eq] at aD
  refine zR (256 * b) ((((5 * s_mix) + b) + 1) % 251) ((256 * b) + ((((5 * s_mix) + b) + 1) % 251)) rfl rfl rfl (by omega) ?_
  refine zA (I ((256 * b) + ((((5 * s_mix) + b) + 1) % 251))) rfl ?_
  refine s_nil ?_
  refine W.seq ?_
  refine W.region rfl ?_
  refine zM (I ((256 * b) + ((((5 * s_mix) + b) + 1) % 251))) rfl ?_
  refine zM (I n) rfl ?_
  obtain ⟨aE, hM⟩ := M.e_grd hM
  simp only [Bool.and_eq_true, decide_eq_true_eq] at aE
  refine s_val (x_rem' (a := (256 * b) + ((((5 * s_mix) + b) + 1) % 251)) (b := n) rfl rfl (by omega)) ?_
  refine zA (I (((256 * b) + ((((5 * s_mix) + b) + 1) % 251)) % n)) rfl ?_
  refine s_nil ?_
  refine W.ret ?_
  have ag := M.e_pure hM
  exact ⟨_, resE_tmp rfl, ⟨(((256 * b) + ((((5 * s_mix) + b) + 1) % 251)) % n), (s_used + 1), ((((5 * s_mix) + b) + 1) % 251), ag, rfl, H⟩⟩
 replace hM := M.e_f hM ai
 simp only [qy1, qy2, qy3, qy4, qy5, qy6, ne_eq, qy7] at ai
 refine W.skip ?_
 refine W.seq ?_
 refine W.region rfl ?_
 refine zM (I b) rfl ?_
 refine zM (I n) rfl ?_
 obtain ⟨aF, hM⟩ := M.e_grd hM
 simp only [Bool.and_eq_true, decide_eq_true_eq] at aF
 refine s_val (x_rem' (a := b) (b := n) rfl rfl (by omega)) ?_
 refine zA (I (b % n)) rfl ?_
 refine s_nil ?_
 refine W.ret ?_
 have ag := M.e_pure hM
 exact ⟨_, resE_tmp rfl, ⟨(b % n), (s_used + 1), ((((5 * s_mix) + b) + 1) % 251), ag, rfl, H⟩⟩

def zag (s_bytes : List UInt8) (s_used : Int) (s_mix : Int) (lo : Int) (hi : Int) : M (Int × Int × Int) :=
  M.grd (decide ((-9223372036854775808 : Int) <= (hi - lo)) && decide ((hi - lo) <= (9223372036854775807 : Int))) <|
  M.grd (decide ((-9223372036854775808 : Int) <= ((hi - lo) + 1)) && decide (((hi - lo) + 1) <= (9223372036854775807 : Int))) <|
  M.bind (zad s_bytes s_used s_mix ((hi - lo) + 1)) fun (r2, q1, q2) =>
  M.grd (decide ((-9223372036854775808 : Int) <= (lo + r2)) && decide ((lo + r2) <= (9223372036854775807 : Int))) <|
  M.pure ((lo + r2), q1, q2)
theorem zah {R : List Chunk} {aa : Nat} {ac : Cells} {ab : Value} (s_bytes : List UInt8) (s_used : Int) (s_mix : Int) (lo : Int) (hi : Int) (ag : Reads R ac) (ah : Sl ac ab s_bytes) {r : (Int × Int × Int)} (hM : (zag s_bytes s_used s_mix lo hi).Ends r) (w : World) (H : St w w [cBlk aa [ab, I s_used, I s_mix] 68] R) : Ret Try.prog 17 #[Pq aa, I lo, I hi] w fun v w' => ∃ (y0 : Int) (y1 : Int) (y2 : Int), (y0, y1, y2) = r /\ v = I y0 /\ St w w' [cBlk aa [ab, I y1, I y2] 68] R := by
 refine ret_of_W Try.func17 rfl rfl rfl ?_
 refine W.seq ?_
 refine W.region rfl ?_
 refine zA (I 0) rfl ?_
 refine s_nil ?_
 refine W.seq ?_
 refine W.region rfl ?_
 refine zM (I lo) rfl ?_
 refine zM (Pq aa) rfl ?_
 refine zM (I hi) rfl ?_
 refine zM (I lo) rfl ?_
 obtain ⟨ai, hM⟩ := M.e_grd hM
 simp only [Bool.and_eq_true, decide_eq_true_eq] at ai
 refine zR hi lo (hi - lo) rfl rfl rfl (by omega) ?_
 obtain ⟨aj, hM⟩ := M.e_grd hM
 simp only [Bool.and_eq_true, decide_eq_true_eq] at aj
 refine zR (hi - lo) 1 ((hi - lo) + 1) rfl rfl rfl (by omega) ?_
 obtain ⟨ap, ak, hM⟩ := M.e_bind hM
 refine s_call cf9 [Pq aa, I ((hi - lo) + 1)] rfl (zae s_bytes s_used s_mix ((hi - lo) + 1) (ag.app _) ah ak _ (H.gt 0)) ?_
 rintro vq aq ⟨r2, q1, q2, al, hvq, ae⟩
 subst al
 subst vq
 try dsimp only at hM
 replace H := H.bk ae
 clear ae
 obtain ⟨am, hM⟩ := M.e_grd hM
 simp only [Bool.and_eq_true, decide_eq_true_eq] at am
 refine zR lo r2 (lo + r2) rfl rfl rfl (by omega) ?_
 refine zA (I (lo + r2)) rfl ?_
 refine s_nil ?_
 refine W.ret ?_
 have ao := M.e_pure hM
 exact ⟨_, resE_tmp rfl, ⟨(lo + r2), q1, q2, ao, rfl, H⟩⟩

end Go.Proofs.Ytlemgioaakecpaa
end
