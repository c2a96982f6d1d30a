/- Part 5 of the texts on which the proof rests. Conditions: none. -/
import Derived.Test.YtbaehghammbjdaaGreatZE4
set_option linter.unusedVariables false
set_option linter.unusedSimpArgs false
set_option linter.unusedSectionVars false
section
set_option maxRecDepth 100000
set_option maxHeartbeats 16000000
namespace Go.Proofs.YtbaehghammbjdaaGreat
open Go Go.Nm
def zaE (l : List Int) : M (List Int) :=
  M.grd (decide ((([] : List Int).length + l.length) * 8 <= 140737488355328)) <|
  M.pure l
theorem zag {R : List Chunk} {ab : Cells} {aa : Value} (l : List Int) (ae : Reads R ab) (ag : Sl ab aa l) {r : (List Int)} (hM : (zaE l).Ends r) (w : World) (H : St w w [] R) : Ret Tryz.prog 9 #[aa] w fun v w' => ∃ (y0 : List Int) (u0 : Value), y0 = r /\ v = u0 /\ St w w' [cOwn (α := Int) 3 u0 y0] R := by
 refine ret_of_W Tryz.func9 rfl rfl rfl <| W.seq <| W.region rfl <| zA (.slice none 0 0) rfl <| s_nil <| W.seq <| W.region rfl <| zA (.slice none 0 0) rfl <| s_nil <| W.seq <| W.region rfl ?_;refine zM (.slice none 0 0) rfl <| zM aa rfl ?_
 replace H := H.nilOwn (α := Int) 3
 obtain ⟨ai, hM⟩ := M.e_gd hM;refine t_app (α := Int) (k := 0) (l := []) (l2 := l) (l' := l) (vy := aa) T22 rfl H rfl rfl rfl ag (ae.at H) (List.nil_append _) (by first | omega | (simp only [List.length_nil] at *; omega)) ?_;intro ac aj H;replace H := H.nf;refine zA ac rfl <| s_nil ?_;refine W.ret ?_
 have ah := M.e_pure hM
 exact ⟨_, resE_tmp rfl, ⟨l, ac, ah, rfl, H⟩⟩

def zcA (l : List Span) : M (List Span) :=
  M.grd (decide ((([] : List Span).length + l.length) * 16 <= 140737488355328)) <|
  M.pure l
theorem za9 {R : List Chunk} {ab : Cells} {aa : Value} (l : List Span) (ae : Reads R ab) (ag : Sl ab aa l) {r : (List Span)} (hM : (zcA l).Ends r) (w : World) (H : St w w [] R) : Ret Tryz.prog 44 #[aa] w fun v w' => ∃ (y0 : List Span) (u0 : Value), y0 = r /\ v = u0 /\ St w w' [cOwn (α := Span) 26 u0 y0] R := by
 refine ret_of_W Tryz.func44 rfl rfl rfl <| W.seq <| W.region rfl <| zA (.slice none 0 0) rfl <| s_nil <| W.seq <| W.region rfl <| zA (.slice none 0 0) rfl <| s_nil <| W.seq <| W.region rfl ?_;refine zM (.slice none 0 0) rfl <| zM aa rfl ?_
 replace H := H.nilOwn (α := Span) 26
 obtain ⟨ai, hM⟩ := M.e_gd hM;refine t_app (α := Span) (k := 0) (l := []) (l2 := l) (l' := l) (vy := aa) T23 rfl H rfl rfl rfl ag (ae.at H) (List.nil_append _) (by first | omega | (simp only [List.length_nil] at *; omega)) ?_;intro ac aj H;replace H := H.nf;refine zA ac rfl <| s_nil ?_;refine W.ret ?_
 have ah := M.e_pure hM
 exact ⟨_, resE_tmp rfl, ⟨l, ac, ah, rfl, H⟩⟩

def zc7 (l : List Town) : M (List Town) :=
  M.grd (decide ((([] : List Town).length + l.length) * 24 <= 140737488355328)) <|
  M.pure l
theorem zcu {R : List Chunk} {ab : Cells} {aa : Value} (l : List Town) (ae : Reads R ab) (ag : Sl ab aa l) {r : (List Town)} (hM : (zc7 l).Ends r) (w : World) (H : St w w [] R) : Ret Tryz.prog 45 #[aa] w fun v w' => ∃ (y0 : List Town) (u0 : Value), y0 = r /\ v = u0 /\ St w w' [cOwn (α := Town) 91 u0 y0] R := by
 refine ret_of_W Tryz.func45 rfl rfl rfl <| W.seq <| W.region rfl <| zA (.slice none 0 0) rfl <| s_nil <| W.seq <| W.region rfl <| zA (.slice none 0 0) rfl <| s_nil <| W.seq <| W.region rfl ?_;refine zM (.slice none 0 0) rfl <| zM aa rfl ?_
 replace H := H.nilOwn (α := Town) 91
 obtain ⟨ai, hM⟩ := M.e_gd hM;refine t_app (α := Town) (k := 0) (l := []) (l2 := l) (l' := l) (vy := aa) T24 rfl H rfl rfl rfl ag (ae.at H) (List.nil_append _) (by first | omega | (simp only [List.length_nil] at *; omega)) ?_;intro ac aj H;replace H := H.nf;refine zA ac rfl <| s_nil ?_;refine W.ret ?_
 have ah := M.e_pure hM
 exact ⟨_, resE_tmp rfl, ⟨l, ac, ah, rfl, H⟩⟩

def zbY (aa : List Flood) : (Nat × (List Flood)) -> M ((Nat × (List Flood)) ⊕ ((List Flood) × (List Flood))) := fun (i, l) =>
  bif decide ((i : Int) < (aa.length : Int)) then (
  M.grd (decide ((i : Int) < (aa.length : Int))) <|
  M.bind (zaE ((aa.getD i default).stages)) fun r6 =>
  M.grd (decide ((l.length + ([(⟨((aa.getD i default).spring : Int), r6⟩ : Flood)]).length) * 32 <= 140737488355328)) <|
  M.pure (.inl (i + 1, l ++ ([(⟨((aa.getD i default).spring : Int), r6⟩ : Flood)]))))
  else (
  M.pure (.inr (l, l)))
def zcC (aa ab : Int) (ac : List Flood) (r2 : List Int) (r3 : List Span) (r4 : List Int) (r5 : List Town) : M ((List Int) × (List Span) × (List Int) × (List Town) × Int × Int × (List Flood)) :=
  M.bind (M.iter (zbY ac) (0, [])) fun (l2, l3) =>
  M.pure (r2, r3, r4, r5, aa, ab, l3)
def zcT (aa : List Int) (ab : List Span) (ac : List Int) (ae : List Town) (ag ah : Int) (ai : List Flood) : M ((List Int) × (List Span) × (List Int) × (List Town) × Int × Int × (List Flood)) :=
  M.bind (zaE aa) fun r2 =>
  M.bind (zcA ab) fun r3 =>
  M.bind (zaE ac) fun r4 =>
  M.bind (zc7 ae) fun r5 =>
  zcC ag ah ai r2 r3 r4 r5
theorem zea {R : List Chunk} {bz : Cells} {az : Value} {bA : Cells} {ay : Value} {bB : Cells} {ax : Value} {bC : Cells} {aw : Value} {bD : Cells} {au : Value} (aR : List Int) (aL : List Span) (aJ : List Int) (aB : List Town) (ah : Int) (ai : Int) (aj : List Flood) (bE : Reads R bz) (bF : Sl bz az aR) (bh : Reads R bA) (bi : Sl bA ay aL) (aS : Reads R bB) (aT : Sl bB ax aJ) (aM : Reads R bC) (aN : Sl bC aw aB) (aU : Reads R bD) (aA : Sl bD au aj) {r : ((List Int) × (List Span) × (List Int) × (List Town) × Int × Int × (List Flood))} (hM : (zcT aR aL aJ aB ah ai aj).Ends r) (w : World) (H : St w w [] R) : Ret Tryz.prog 8 #[.agg #[az, ay, ax, aw, I ah, I ai, au]] w fun v w' => ∃ (y0 : List Int) (y1 : List Span) (y2 : List Int) (y3 : List Town) (y4 : Int) (y5 : Int) (y6 : List Flood) (u0 : Value) (u1 : Value) (u2 : Value) (u3 : Value) (u4 : Value) (rr5 : List (Raw 1)) (bG : Base), (y0, y1, y2, y3, y4, y5, y6) = r /\ v = .agg #[u0, u1, u2, u3, I y4, I y5, u4] /\ St w w' [cOwn (α := Int) 3 u0 y0, cOwn (α := Span) 26 u1 y1, cOwn (α := Int) 3 u2 y2, cOwn (α := Town) 91 u3 y3, cOwn (α := Raw 1) 85 u4 rr5, cRo bG] R /\ RepR (α := Flood) bG.cells rr5 y6 := by
 refine ret_of_W Tryz.func8 rfl rfl rfl <| W.seq <| W.region rfl ?_;refine t_bx [az, ay, ax, aw, I ah, I ai, au] H rfl ?_;intro av cY H;refine t_alloc (cs := [.slice none 0 0, .slice none 0 0, .slice none 0 0, .slice none 0 0, I 0, I 0, .slice none 0 0]) H Al29 rfl ?_;intro aK cZ H;refine s_nil ?_;refine W.seqJ (fun σ W => ∃ (al : Nat) (r2 : List Int) (r3 : List Span) (r4 : List Int) (r5 : List Town) (ag : Value) (ac : Value) (ab : Value) (aa : Value) (ρ : Env), σ = upds ρ [(1, Pq av), (2, Pq aK), (3, Pq al)] /\ (zcC ah ai aj r2 r3 r4 r5).Ends r /\ St w W [cBlk al [ag, ac, ab, aa, I ah, I ai, .slice none 0 0] 29, cOwn (α := Town) 91 aa r5, cOwn (α := Int) 3 ab r4, cOwn (α := Span) 26 ac r3, cOwn (α := Int) 3 ag r2, cBlk aK [.slice none 0 0, .slice none 0 0, .slice none 0 0, .slice none 0 0, I 0, I 0, .slice none 0 0] 29, cBlk av [az, ay, ax, aw, I ah, I ai, au] 29] R) ?_ ?_
 ·skip
  refine W.drawT (fun W => St w W [cBlk aK [.slice none 0 0, .slice none 0 0, .slice none 0 0, .slice none 0 0, I 0, I 0, .slice none 0 0] 29, cBlk av [az, ay, ax, aw, I ah, I ai, au] 29] R) (.q 0 (.q 1 (.q 3 (.q 4 (.q 6 (.q 7 (.q 9 (.q 10 (.q 12 (.q 13 (.l2 2 (.l2 5 (.l2 8 (.l2 11 (.q 14 (.l 15 (.l 16 .nil))) 15 (.l 11 (.q 14 (.l 16 .nil)))) 15 (.l 8 (.l 11 (.q 14 (.l 16 .nil))))) 15 (.l 5 (.l 8 (.l 11 (.q 14 (.l 16 .nil)))))) 15 (.l 2 (.l 5 (.l 8 (.l 11 (.q 14 (.l 16 .nil))))))))))))))))) mixed (by decide +kernel) rfl ?_;intro c6 aO;replace H := H.ext aO;clear aO
  refine ⟨(H.pk [0, 1]), ?_⟩
  refine t_q rfl (fun w' H => x_fa (v := Pq av) rfl (fa_blk (o := 0) Fd29_0 Sz22)) <| t_q rfl (fun w' H => x_ld (v := az) rfl (ldb_sc Sc22 (H.bl 1) rfl)) <| t_q rfl (fun w' H => x_fa (v := Oq av 1) rfl (fa_blk (o := 0) Fd29_1 Sz23)) <| t_q rfl (fun w' H => x_ld (v := ay) rfl (ldb_sc Sc23 (H.bl 1) rfl)) <| t_q rfl (fun w' H => x_fa (v := Oq av 2) rfl (fa_blk (o := 0) Fd29_2 Sz22)) <| t_q rfl (fun w' H => x_ld (v := ax) rfl (ldb_sc Sc22 (H.bl 1) rfl)) <| t_q rfl (fun w' H => x_fa (v := Oq av 3) rfl (fa_blk (o := 0) Fd29_3 Sz24)) <| t_q rfl (fun w' H => x_ld (v := aw) rfl (ldb_sc Sc24 (H.bl 1) rfl)) <| t_q rfl (fun w' H => x_fa (v := Oq av 4) rfl (fa_blk (o := 0) Fd29_4 Sz26)) <| t_q rfl (fun w' H => x_ld (v := .agg #[I ah, I ai]) rfl (ldb_ag (ds := [I ah, I ai]) Ag26 Sz26 (H.bl 1) rfl rfl)) ?_;refine t_l2 rfl rfl ?_ ?_
  ·skip
   obtain ⟨c7, bO, hM⟩ := M.e_bind hM;refine s_call cf9 [az] rfl (zag aR (bE.app _) bF bO _ (H.gt 2)) ?_
   rintro vq c8 ⟨r2, ag, rfl, hvq, ae⟩
   subst vq;(try dsimp only at hM);replace H := H.bk ae;clear ae
   have aV := Sl.cells (H.os 0)
   have c9 := Sl.oc (H.os 0)
   refine s_nil ⟨(H.pk [1, 2]), ?_⟩
   refine t_l2 rfl rfl ?_ ?_
   ·skip
    obtain ⟨da, bP, hM⟩ := M.e_bind hM;refine s_call cf44 [ay] rfl (za9 aL (bh.app _) bi bP _ (H.gt 3)) ?_
    rintro vq db ⟨r3, ac, rfl, hvq, ae⟩
    subst vq;(try dsimp only at hM);replace H := H.bk ae;clear ae
    have bj := Sl.cells (H.os 0)
    have dc := Sl.oc (H.os 0)
    refine s_nil ⟨(H.pk [2, 3]), ?_⟩
    refine t_l2 rfl rfl ?_ ?_
    ·skip
     obtain ⟨dd, bQ, hM⟩ := M.e_bind hM;refine s_call cf9 [ax] rfl (zag aJ (aS.app _) aT bQ _ (H.gt 4)) ?_
     rintro vq de ⟨r4, ab, rfl, hvq, ae⟩
     subst vq;(try dsimp only at hM);replace H := H.bk ae;clear ae
     have bH := Sl.cells (H.os 0)
     have dg := Sl.oc (H.os 0)
     refine s_nil ⟨(H.pk [3, 4]), ?_⟩
     refine t_l2 rfl rfl ?_ ?_
     ·skip
      obtain ⟨di, bR, hM⟩ := M.e_bind hM;refine s_call cf45 [aw] rfl (zcu aB (aM.app _) aN bR _ (H.gt 5)) ?_
      rintro vq dk ⟨r5, aa, rfl, hvq, ae⟩
      subst vq;(try dsimp only at hM);replace H := H.bk ae;clear ae
      have bS := Sl.cells (H.os 0)
      have dq := Sl.oc (H.os 0)
      refine s_nil ⟨(H.pk [4, 5]), ?_⟩
      refine t_q rfl (fun w' H => x_bld (ps := [(0, ag), (1, ac), (2, ab), (3, aa), (4, .agg #[I ah, I ai])]) (zs := [.slice none 0 0, .slice none 0 0, .slice none 0 0, .slice none 0 0, I 0, I 0, .slice none 0 0]) (L' := [ag, ac, ab, aa, I ah, I ai, .slice none 0 0]) rfl Tryz.underlying29 Al29 rfl (Bd29 Tryz.underlying29) (.cons (cs := [ag]) aV rfl rfl rfl rfl <| .cons (cs := [ac]) bj rfl rfl rfl rfl <| .cons (cs := [ab]) bH rfl rfl rfl rfl <| .cons (cs := [aa]) bS rfl rfl rfl rfl <| .cons (cs := [I ah, I ai]) rfl rfl rfl rfl rfl <| .nil)) <| t_l rfl ?_;refine t_alloc (cs := [.slice none 0 0, .slice none 0 0, .slice none 0 0, .slice none 0 0, I 0, I 0, .slice none 0 0]) H Al29 rfl ?_;intro al dr H
      refine s_nil ⟨(H.pk [5, 6]), ?_⟩
      refine t_l rfl ?_;refine t_sw 0 0 [ag, ac, ab, aa, I ah, I ai, .slice none 0 0] (.agg #[ag, ac, ab, aa, I ah, I ai, .slice none 0 0]) H rfl rfl Sz29 rfl rfl rfl (by simp only [List.all_cons, List.all_nil, Bool.true_and, Bool.and_true, Sl.oc (H.os 4), Sl.oc (H.os 3), Sl.oc (H.os 2), Sl.oc (H.os 1)]; try rfl) ?_;intro dt H
      refine s_nil ⟨(H.pk [5, 6]), ?_⟩
      refine t_nil ?_
      exact ⟨al, r2, r3, r4, r5, ag, ac, ab, aa, _, upds_of _ _ ⟨rfl, rfl, rfl, trivial⟩, hM, H⟩
     skip
     refine t_alloc (cs := [.slice none 0 0, .slice none 0 0, .slice none 0 0, .slice none 0 0, I 0, I 0, .slice none 0 0]) H Al29 rfl ?_;intro al du H
     refine s_nil ⟨(H.pk [4, 5]), ?_⟩
     refine t_l rfl ?_;obtain ⟨dv, bT, hM⟩ := M.e_bind hM;refine s_call cf45 [aw] rfl (zcu aB (aM.app _) aN bT _ (H.gt 6)) ?_
     rintro vq dw ⟨r5, aa, rfl, hvq, ae⟩
     subst vq;(try dsimp only at hM);replace H := H.bk ae;clear ae
     have bU := Sl.cells (H.os 0)
     have dx := Sl.oc (H.os 0)
     refine s_nil ⟨(H.pk [5, 6]), ?_⟩
     refine t_q rfl (fun w' H => x_bld (ps := [(0, ag), (1, ac), (2, ab), (3, aa), (4, .agg #[I ah, I ai])]) (zs := [.slice none 0 0, .slice none 0 0, .slice none 0 0, .slice none 0 0, I 0, I 0, .slice none 0 0]) (L' := [ag, ac, ab, aa, I ah, I ai, .slice none 0 0]) rfl Tryz.underlying29 Al29 rfl (Bd29 Tryz.underlying29) (.cons (cs := [ag]) aV rfl rfl rfl rfl <| .cons (cs := [ac]) bj rfl rfl rfl rfl <| .cons (cs := [ab]) bH rfl rfl rfl rfl <| .cons (cs := [aa]) bU rfl rfl rfl rfl <| .cons (cs := [I ah, I ai]) rfl rfl rfl rfl rfl <| .nil)) <| t_l rfl ?_;refine t_sw 1 0 [ag, ac, ab, aa, I ah, I ai, .slice none 0 0] (.agg #[ag, ac, ab, aa, I ah, I ai, .slice none 0 0]) H rfl rfl Sz29 rfl rfl rfl (by simp only [List.all_cons, List.all_nil, Bool.true_and, Bool.and_true, Sl.oc (H.os 4), Sl.oc (H.os 3), Sl.oc (H.os 2), Sl.oc (H.os 0)]; try rfl) ?_;intro dy H
     refine s_nil ⟨(H.pk [5, 6]), ?_⟩
     refine t_nil ?_
     exact ⟨al, r2, r3, r4, r5, ag, ac, ab, aa, _, upds_of _ _ ⟨rfl, rfl, rfl, trivial⟩, hM, (H.pk [1, 0, 2, 3, 4, 5, 6])⟩
    skip
    refine t_alloc (cs := [.slice none 0 0, .slice none 0 0, .slice none 0 0, .slice none 0 0, I 0, I 0, .slice none 0 0]) H Al29 rfl ?_;intro al dz H
    refine s_nil ⟨(H.pk [3, 4]), ?_⟩
    refine t_l rfl ?_;obtain ⟨dA, bV, hM⟩ := M.e_bind hM;refine s_call cf9 [ax] rfl (zag aJ (aS.app _) aT bV _ (H.gt 5)) ?_
    rintro vq dB ⟨r4, ab, rfl, hvq, ae⟩
    subst vq;(try dsimp only at hM);replace H := H.bk ae;clear ae
    have bW := Sl.cells (H.os 0)
    have dC := Sl.oc (H.os 0)
    refine s_nil ⟨(H.pk [4, 5]), ?_⟩
    refine t_l rfl ?_;obtain ⟨dD, bX, hM⟩ := M.e_bind hM;refine s_call cf45 [aw] rfl (zcu aB (aM.app _) aN bX _ (H.gt 6)) ?_
    rintro vq dE ⟨r5, aa, rfl, hvq, ae⟩
    subst vq;(try dsimp only at hM);replace H := H.bk ae;clear ae
    have bY := Sl.cells (H.os 0)
    have dF := Sl.oc (H.os 0)
    refine s_nil ⟨(H.pk [5, 6]), ?_⟩
    refine t_q rfl (fun w' H => x_bld (ps := [(0, ag), (1, ac), (2, ab), (3, aa), (4, .agg #[I ah, I ai])]) (zs := [.slice none 0 0, .slice none 0 0, .slice none 0 0, .slice none 0 0, I 0, I 0, .slice none 0 0]) (L' := [ag, ac, ab, aa, I ah, I ai, .slice none 0 0]) rfl Tryz.underlying29 Al29 rfl (Bd29 Tryz.underlying29) (.cons (cs := [ag]) aV rfl rfl rfl rfl <| .cons (cs := [ac]) bj rfl rfl rfl rfl <| .cons (cs := [ab]) bW rfl rfl rfl rfl <| .cons (cs := [aa]) bY rfl rfl rfl rfl <| .cons (cs := [I ah, I ai]) rfl rfl rfl rfl rfl <| .nil)) <| t_l rfl ?_;refine t_sw 2 0 [ag, ac, ab, aa, I ah, I ai, .slice none 0 0] (.agg #[ag, ac, ab, aa, I ah, I ai, .slice none 0 0]) H rfl rfl Sz29 rfl rfl rfl (by simp only [List.all_cons, List.all_nil, Bool.true_and, Bool.and_true, Sl.oc (H.os 4), Sl.oc (H.os 3), Sl.oc (H.os 1), Sl.oc (H.os 0)]; try rfl) ?_;intro dG H
    refine s_nil ⟨(H.pk [5, 6]), ?_⟩
    refine t_nil ?_
    exact ⟨al, r2, r3, r4, r5, ag, ac, ab, aa, _, upds_of _ _ ⟨rfl, rfl, rfl, trivial⟩, hM, (H.pk [2, 0, 1, 3, 4, 5, 6])⟩
   skip
   refine t_alloc (cs := [.slice none 0 0, .slice none 0 0, .slice none 0 0, .slice none 0 0, I 0, I 0, .slice none 0 0]) H Al29 rfl ?_;intro al dH H
   refine s_nil ⟨(H.pk [2, 3]), ?_⟩
   refine t_l rfl ?_;obtain ⟨dJ, bZ, hM⟩ := M.e_bind hM;refine s_call cf44 [ay] rfl (za9 aL (bh.app _) bi bZ _ (H.gt 4)) ?_
   rintro vq dK ⟨r3, ac, rfl, hvq, ae⟩
   subst vq;(try dsimp only at hM);replace H := H.bk ae;clear ae
   have b4 := Sl.cells (H.os 0)
   have dL := Sl.oc (H.os 0)
   refine s_nil ⟨(H.pk [3, 4]), ?_⟩
   refine t_l rfl ?_;obtain ⟨dM, b7, hM⟩ := M.e_bind hM;refine s_call cf9 [ax] rfl (zag aJ (aS.app _) aT b7 _ (H.gt 5)) ?_
   rintro vq dN ⟨r4, ab, rfl, hvq, ae⟩
   subst vq;(try dsimp only at hM);replace H := H.bk ae;clear ae
   have b8 := Sl.cells (H.os 0)
   have dO := Sl.oc (H.os 0)
   refine s_nil ⟨(H.pk [4, 5]), ?_⟩
   refine t_l rfl ?_;obtain ⟨dP, b9, hM⟩ := M.e_bind hM;refine s_call cf45 [aw] rfl (zcu aB (aM.app _) aN b9 _ (H.gt 6)) ?_
   rintro vq dQ ⟨r5, aa, rfl, hvq, ae⟩
   subst vq;(try dsimp only at hM);replace H := H.bk ae;clear ae
   have ca := Sl.cells (H.os 0)
   have dR := Sl.oc (H.os 0)
   refine s_nil ⟨(H.pk [5, 6]), ?_⟩
   refine t_q rfl (fun w' H => x_bld (ps := [(0, ag), (1, ac), (2, ab), (3, aa), (4, .agg #[I ah, I ai])]) (zs := [.slice none 0 0, .slice none 0 0, .slice none 0 0, .slice none 0 0, I 0, I 0, .slice none 0 0]) (L' := [ag, ac, ab, aa, I ah, I ai, .slice none 0 0]) rfl Tryz.underlying29 Al29 rfl (Bd29 Tryz.underlying29) (.cons (cs := [ag]) aV rfl rfl rfl rfl <| .cons (cs := [ac]) b4 rfl rfl rfl rfl <| .cons (cs := [ab]) b8 rfl rfl rfl rfl <| .cons (cs := [aa]) ca rfl rfl rfl rfl <| .cons (cs := [I ah, I ai]) rfl rfl rfl rfl rfl <| .nil)) <| t_l rfl ?_;refine t_sw 3 0 [ag, ac, ab, aa, I ah, I ai, .slice none 0 0] (.agg #[ag, ac, ab, aa, I ah, I ai, .slice none 0 0]) H rfl rfl Sz29 rfl rfl rfl (by simp only [List.all_cons, List.all_nil, Bool.true_and, Bool.and_true, Sl.oc (H.os 4), Sl.oc (H.os 2), Sl.oc (H.os 1), Sl.oc (H.os 0)]; try rfl) ?_;intro dS H
   refine s_nil ⟨(H.pk [5, 6]), ?_⟩
   refine t_nil ?_
   exact ⟨al, r2, r3, r4, r5, ag, ac, ab, aa, _, upds_of _ _ ⟨rfl, rfl, rfl, trivial⟩, hM, (H.pk [3, 0, 1, 2, 4, 5, 6])⟩
  skip
  refine t_alloc (cs := [.slice none 0 0, .slice none 0 0, .slice none 0 0, .slice none 0 0, I 0, I 0, .slice none 0 0]) H Al29 rfl ?_;intro al dT H
  refine s_nil ⟨(H.pk [1, 2]), ?_⟩
  refine t_l rfl ?_;obtain ⟨dU, cb, hM⟩ := M.e_bind hM;refine s_call cf9 [az] rfl (zag aR (bE.app _) bF cb _ (H.gt 3)) ?_
  rintro vq dV ⟨r2, ag, rfl, hvq, ae⟩
  subst vq;(try dsimp only at hM);replace H := H.bk ae;clear ae
  have cc := Sl.cells (H.os 0)
  have dW := Sl.oc (H.os 0)
  refine s_nil ⟨(H.pk [2, 3]), ?_⟩
  refine t_l rfl ?_;obtain ⟨dX, ce, hM⟩ := M.e_bind hM;refine s_call cf44 [ay] rfl (za9 aL (bh.app _) bi ce _ (H.gt 4)) ?_
  rintro vq dY ⟨r3, ac, rfl, hvq, ae⟩
  subst vq;(try dsimp only at hM);replace H := H.bk ae;clear ae
  have cf := Sl.cells (H.os 0)
  have dZ := Sl.oc (H.os 0)
  refine s_nil ⟨(H.pk [3, 4]), ?_⟩
  refine t_l rfl ?_;obtain ⟨d6, cg, hM⟩ := M.e_bind hM;refine s_call cf9 [ax] rfl (zag aJ (aS.app _) aT cg _ (H.gt 5)) ?_
  rintro vq d7 ⟨r4, ab, rfl, hvq, ae⟩
  subst vq;(try dsimp only at hM);replace H := H.bk ae;clear ae
  have ck := Sl.cells (H.os 0)
  have d8 := Sl.oc (H.os 0)
  refine s_nil ⟨(H.pk [4, 5]), ?_⟩
  refine t_l rfl ?_;obtain ⟨d9, cl, hM⟩ := M.e_bind hM;refine s_call cf45 [aw] rfl (zcu aB (aM.app _) aN cl _ (H.gt 6)) ?_
  rintro vq ea ⟨r5, aa, rfl, hvq, ae⟩
  subst vq;(try dsimp only at hM);replace H := H.bk ae;clear ae
  have cm := Sl.cells (H.os 0)
  have eb := Sl.oc (H.os 0)
  refine s_nil ⟨(H.pk [5, 6]), ?_⟩
  refine t_q rfl (fun w' H => x_bld (ps := [(0, ag), (1, ac), (2, ab), (3, aa), (4, .agg #[I ah, I ai])]) (zs := [.slice none 0 0, .slice none 0 0, .slice none 0 0, .slice none 0 0, I 0, I 0, .slice none 0 0]) (L' := [ag, ac, ab, aa, I ah, I ai, .slice none 0 0]) rfl Tryz.underlying29 Al29 rfl (Bd29 Tryz.underlying29) (.cons (cs := [ag]) cc rfl rfl rfl rfl <| .cons (cs := [ac]) cf rfl rfl rfl rfl <| .cons (cs := [ab]) ck rfl rfl rfl rfl <| .cons (cs := [aa]) cm rfl rfl rfl rfl <| .cons (cs := [I ah, I ai]) rfl rfl rfl rfl rfl <| .nil)) <| t_l rfl ?_;refine t_sw 4 0 [ag, ac, ab, aa, I ah, I ai, .slice none 0 0] (.agg #[ag, ac, ab, aa, I ah, I ai, .slice none 0 0]) H rfl rfl Sz29 rfl rfl rfl (by simp only [List.all_cons, List.all_nil, Bool.true_and, Bool.and_true, Sl.oc (H.os 3), Sl.oc (H.os 2), Sl.oc (H.os 1), Sl.oc (H.os 0)]; try rfl) ?_;intro ec H
  refine s_nil ⟨(H.pk [5, 6]), ?_⟩
  refine t_nil ?_
  exact ⟨al, r2, r3, r4, r5, ag, ac, ab, aa, _, upds_of _ _ ⟨rfl, rfl, rfl, trivial⟩, hM, (H.pk [4, 0, 1, 2, 3, 5, 6])⟩
 rintro _ ed ⟨al, r2, r3, r4, r5, ag, ac, ab, aa, ρ, rfl, hM, H⟩
 unfold zcC at hM
 refine W.seq <| W.seq <| W.region rfl <| zA (I 0) rfl <| s_nil <| W.block ?_
 obtain ⟨bI, H⟩ := H.emptyE
 replace H := H.nilOwn (α := Raw 1) 85
 have cn : RepR (α := Flood) (n := 1) bI.cells [] [] := .nil
 obtain ⟨co, bm, cp⟩ := M.e_bind hM
 obtain ⟨ee, bm⟩ := M.e_iter bm
 refine W.loop (fun m σ W => ∃ (i : Nat) (l : List Flood) (aq : Value) (ao : List (Raw 1)) (B_l : Base) (ρ : Env), σ = upds ρ [(1, Pq av), (2, Pq aK), (3, Pq al), (4, I (i : Int))] /\ M.iterN (zbY aj) m (i, l) = some co /\ St w W [cOwn (α := Raw 1) 85 aq ao, cRo B_l, cBlk al [ag, ac, ab, aa, I ah, I ai, aq] 29, cOwn (α := Town) 91 aa r5, cOwn (α := Int) 3 ab r4, cOwn (α := Span) 26 ac r3, cOwn (α := Int) 3 ag r2, cBlk aK [.slice none 0 0, .slice none 0 0, .slice none 0 0, .slice none 0 0, I 0, I 0, .slice none 0 0] 29, cBlk av [az, ay, ax, aw, I ah, I ai, au] 29] R /\ RepR (α := Flood) B_l.cells ao l) ?_ ?_
 ·exact ⟨_, 0, [], (.slice none 0 0), [], bI, _, upds_of _ _ ⟨rfl, rfl, rfl, rfl, trivial⟩, bm, H, cn⟩
 rintro ef σ eg ⟨i, l, aq, ao, B_l, ρ, rfl, bJ, H, am⟩
 obtain ⟨aW, aX, eh, hM, aP⟩ := M.e_iterN bJ
 simp only [zbY] at hM
 clear bJ;refine W.seq <| W.seq <| W.region rfl <| zM (I (i : Int)) rfl <| s_val (x_fa (v := Oq av 6) rfl (fa_blk (o := 0) Fd29_5 Sz27)) <| s_val (x_ld (v := au) rfl (ldb_sc Sc27 (H.bl 8) rfl)) ?_
 have ei := (aA).len_le
 refine s_val (x_lenS T27.und rfl aA) <| zC (i : Int) (aj.length : Int) (decide ((i : Int) < (aj.length : Int))) rfl rfl rfl <| s_nil ?_
 refine W.cond (decide ((i : Int) < (aj.length : Int))) rfl (fun aC => ?_) (fun aC => ?_)
 ·replace hM := M.e_t hM aC
  replace aC := dI aC
  refine W.skip <| W.seq <| W.block ?_;refine W.drawT (fun W => St w W [cRo B_l, cOwn (α := Town) 91 aa r5, cOwn (α := Int) 3 ab r4, cOwn (α := Span) 26 ac r3, cOwn (α := Int) 3 ag r2, cBlk aK [.slice none 0 0, .slice none 0 0, .slice none 0 0, .slice none 0 0, I 0, I 0, .slice none 0 0] 29, cBlk av [az, ay, ax, aw, I ah, I ai, au] 29] R) (.q 0 (.q 2 (.q 3 (.q 4 (.q 5 (.q 6 (.q 7 (.q 8 (.q 9 (.q 10 (.q 11 (.q 12 (.q 13 (.l2 1 (.l 14 (.l 15 (.l 16 (.l 17 (.q 18 (.l 19 .nil)))))) 14 (.l2 1 (.l 15 (.l 16 (.l 17 (.q 18 (.l 19 .nil))))) 15 (.l2 1 (.l 16 (.l 17 (.q 18 (.l 19 .nil)))) 16 (.l 1 (.l 17 (.q 18 (.l 19 .nil)))))))))))))))))))) mixed (by decide +kernel) rfl ?_;intro ej aO;replace H := H.ext aO;clear aO
  refine ⟨(H.pk [1, 3, 4, 5, 6, 7, 8]), ?_⟩
  refine t_q rfl (fun w' H => x_fa (v := Oq al 6) rfl (fa_blk (o := 0) Fd29_5 Sz27)) <| t_q rfl (fun w' H => x_fa (v := Oq av 6) rfl (fa_blk (o := 0) Fd29_5 Sz27)) <| t_q rfl (fun w' H => x_ld (v := au) rfl (ldb_sc Sc27 (H.bl 6) rfl)) <| t_q rfl (fun w' H => x_mv (v := I (i : Int)) rfl) ?_;obtain ⟨em, hM⟩ := M.e_gd hM;refine t_q rfl (fun w' H => x_ix (v := vat au 2 (Int.toNat (i : Int))) rfl rfl (Sl.ix (α := Flood) T27.und T27.size aA (by omega) (by omega))) <| t_q rfl (fun w' H => x_fa (v := fat (vat au 2 (Int.toNat (i : Int))) 0) rfl (fa_pl Fd85_0 Sz3 (Sl.pl (i := (i : Int)) aA (by omega) (by omega)))) <| t_q rfl (fun w' H => x_ld (v := I ((aj.getD i default).spring)) rfl (ld_sc Sc3 (At.mono (Flood_at0 aA (i := (i : Int)) (by omega) (by omega)) (aU.at H)))) <| t_q rfl (fun w' H => x_fa (v := Oq av 6) rfl (fa_blk (o := 0) Fd29_5 Sz27)) <| t_q rfl (fun w' H => x_ld (v := au) rfl (ldb_sc Sc27 (H.bl 6) rfl)) <| t_q rfl (fun w' H => x_mv (v := I (i : Int)) rfl) <| t_q rfl (fun w' H => x_ix (v := vat au 2 (Int.toNat (i : Int))) rfl rfl (Sl.ix (α := Flood) T27.und T27.size aA (by omega) (by omega))) <| t_q rfl (fun w' H => x_fa (v := fat (vat au 2 (Int.toNat (i : Int))) 1) rfl (fa_pl Fd85_1 Sz22 (Sl.pl (i := (i : Int)) aA (by omega) (by omega)))) ?_
  obtain ⟨aY, cq, aQ⟩ := Flood_at1 aA (i := (i : Int)) (by omega) (by omega)
  replace aQ : Sl _ aY (aj.getD i default).stages := aQ
  have en := aQ.len_le
  refine t_q rfl (fun w' H => x_ld (v := aY) rfl (ld_sc Sc22 (At.mono (cq) (aU.at H)))) ?_;refine t_l2 rfl rfl ?_ ?_
  ·skip
   refine s_val (x_ld (v := aq) rfl (ldb_sc Sc27 (H.bl 2) rfl)) ?_
   have eo := Sl.cells (H.os 0)
   have ep := Sl.oc (H.os 0)
   refine s_nil ⟨(H.pk [1, 3, 4, 5, 6, 7, 8]), ?_⟩
   refine t_l rfl ?_;obtain ⟨eq, cu, hM⟩ := M.e_bind hM;refine s_call cf9 [aY] rfl (zag ((aj.getD i default).stages) (aU.app _) aQ cu _ (H.gt 9)) ?_
   rintro vq er ⟨r6, ak, rfl, hvq, ae⟩
   subst vq;(try dsimp only at hM);replace H := H.bk ae;clear ae
   have eu := Sl.cells (H.os 0)
   have ew := Sl.oc (H.os 0)
   refine s_nil ⟨(H.pk [2, 4, 5, 6, 7, 8, 9]), ?_⟩
   refine t_l rfl <| s_val (x_bld (ps := [(0, I ((aj.getD i default).spring)), (1, ak)]) (zs := [I 0, .slice none 0 0]) (L' := [I ((aj.getD i default).spring), ak]) rfl Tryz.underlying85 Al85 rfl (Bd85 Tryz.underlying85) (.cons (cs := [I ((aj.getD i default).spring)]) rfl rfl rfl rfl rfl <| .cons (cs := [ak]) (Sl.cells (H.os 0)) rfl rfl rfl rfl <| .nil)) ?_
   refine s_nil ⟨(H.pk [2, 4, 5, 6, 7, 8, 9]), ?_⟩
   refine t_l rfl ?_
   obtain ⟨bn, H⟩ := H.emptyE
   obtain ⟨bo, H, cw⟩ := H.freezeE (k := 1) rfl
   replace H := H.nf
   have aZ := cw
   obtain ⟨aD, H, ez, cx⟩ := H.joinE (i := 0) (j := 1) rfl rfl
   replace aZ := aZ.mono cx
   obtain ⟨aE, bK⟩ : ∃ r : Raw 1, r.cs = [I ((aj.getD i default).spring), ak] := ⟨Raw.of [I ((aj.getD i default).spring), ak] rfl (by simp only [List.all_cons, List.all_nil, Bool.true_and, Bool.and_true, Sl.oc aZ]; try rfl), rfl⟩
   have cy : RepR (α := Flood) aD.cells [aE] [(⟨((aj.getD i default).spring : Int), r6⟩ : Flood)] := .cons (by rw [bK]; exact ⟨_, rfl, aZ⟩) <| .nil
   refine t_bs (α := Raw 1) T27 [.agg #[I ((aj.getD i default).spring), ak]] [aE] H rfl (.cons (by rw [show (Flat.enc aE : List Value) = aE.cs from rfl, bK]; rfl) (Flat.rep_enc _ _) <| .nil) rfl rfl rfl ?_;intro cz eA H;replace H := H.nf
   have eB := Sl.cells (H.os 0)
   have eC := Sl.oc (H.os 0)
   refine s_nil ⟨(H.pk [5, 7, 8, 9, 10, 11, 12]), ?_⟩
   refine t_l rfl ?_;obtain ⟨eD, hM⟩ := M.e_gd hM
   have a6 := cy
   obtain ⟨aF, H, cA, cB⟩ := H.joinE (i := 5) (j := 1) rfl rfl
   replace am := am.mono cA
   replace a6 := a6.mono cB
   have bp := am.app a6
   refine t_app (α := Raw 1) (k := 5) (l := ao) (l2 := [aE]) (l' := ao ++ ([aE])) (vy := cz) T27 rfl H rfl rfl rfl (H.os 1) (H.ol 1) (rfl) (by have a_ := am.len; have b_ := a6.len; (try simp only [List.length_nil] at *); first | omega | (rw [a_, b_]; omega)) ?_;intro bq eE H;replace H := H.nf
   have eF := Sl.cells (H.os 5)
   have eG := Sl.oc (H.os 5)
   refine s_nil ⟨(H.pk [6, 8, 9, 10, 11, 12, 13]), ?_⟩
   refine t_q rfl (fun w' H => x_fa (v := Oq al 6) rfl (fa_blk (o := 0) Fd29_5 Sz27)) <| t_l rfl ?_;refine t_sw 7 6 [bq] bq H rfl rfl Sz27 (Sl.cells (rowSl rfl (H.get (k := 5) rfl) (roLe _ (H.get (k := 0) rfl)) bp)) rfl rfl (by simp only [List.all_cons, List.all_nil, Bool.true_and, Bool.and_true, Sl.oc (rowSl rfl (H.get (k := 5) rfl) (roLe _ (H.get (k := 0) rfl)) bp)]; try rfl) ?_;intro eH H
   refine s_nil ⟨(H.pk [6, 8, 9, 10, 11, 12, 13]), ?_⟩
   refine t_nil ?_;replace H := H.pk [0, 5, 6, 7, 8, 9, 10, 11, 12, 13];refine W.region rfl <| zM (I (i : Int)) rfl <| zR (i : Int) 1 ((i : Int) + 1) rfl rfl rfl (by omega) <| zA (I ((i : Int) + 1)) rfl <| s_nil ?_
   exact ⟨aW, aX, i + 1, l ++ ([(⟨((aj.getD i default).spring : Int), r6⟩ : Flood)]), bq, ao ++ ([aE]), aF, _, upds_of _ _ ⟨rfl, rfl, rfl, rfl, trivial⟩, M.e_inl hM aP, (H.pk [1, 0, 3, 4, 5, 6, 7, 8, 9]), bp⟩
  skip
  obtain ⟨eI, cC, hM⟩ := M.e_bind hM;refine s_call cf9 [aY] rfl (zag ((aj.getD i default).stages) (aU.app _) aQ cC _ (H.gt 9)) ?_
  rintro vq eJ ⟨r6, ak, rfl, hvq, ae⟩
  subst vq;(try dsimp only at hM);replace H := H.bk ae;clear ae
  have eK := Sl.cells (H.os 0)
  have eL := Sl.oc (H.os 0)
  have eM := Sl.cells (H.os 1)
  have eN := Sl.oc (H.os 1)
  refine s_nil ⟨(H.pk [2, 4, 5, 6, 7, 8, 9]), ?_⟩
  obtain ⟨eO, hM⟩ := M.e_gd hM;refine t_l2 rfl rfl ?_ ?_
  ·skip
   refine s_val (x_ld (v := aq) rfl (ldb_sc Sc27 (H.bl 3) rfl)) ?_
   refine s_nil ⟨(H.pk [2, 4, 5, 6, 7, 8, 9]), ?_⟩
   refine t_l rfl <| s_val (x_bld (ps := [(0, I ((aj.getD i default).spring)), (1, ak)]) (zs := [I 0, .slice none 0 0]) (L' := [I ((aj.getD i default).spring), ak]) rfl Tryz.underlying85 Al85 rfl (Bd85 Tryz.underlying85) (.cons (cs := [I ((aj.getD i default).spring)]) rfl rfl rfl rfl rfl <| .cons (cs := [ak]) (Sl.cells (H.os 0)) rfl rfl rfl rfl <| .nil)) ?_
   refine s_nil ⟨(H.pk [2, 4, 5, 6, 7, 8, 9]), ?_⟩
   refine t_l rfl ?_
   obtain ⟨bn, H⟩ := H.emptyE
   obtain ⟨bo, H, cD⟩ := H.freezeE (k := 1) rfl
   replace H := H.nf
   have a7 := cD
   obtain ⟨aD, H, eP, cE⟩ := H.joinE (i := 0) (j := 1) rfl rfl
   replace a7 := a7.mono cE
   obtain ⟨aG, bL⟩ : ∃ r : Raw 1, r.cs = [I ((aj.getD i default).spring), ak] := ⟨Raw.of [I ((aj.getD i default).spring), ak] rfl (by simp only [List.all_cons, List.all_nil, Bool.true_and, Bool.and_true, Sl.oc a7]; try rfl), rfl⟩
   have cF : RepR (α := Flood) aD.cells [aG] [(⟨((aj.getD i default).spring : Int), r6⟩ : Flood)] := .cons (by rw [bL]; exact ⟨_, rfl, a7⟩) <| .nil
   refine t_bs (α := Raw 1) T27 [.agg #[I ((aj.getD i default).spring), ak]] [aG] H rfl (.cons (by rw [show (Flat.enc aG : List Value) = aG.cs from rfl, bL]; rfl) (Flat.rep_enc _ _) <| .nil) rfl rfl rfl ?_;intro cG eQ H;replace H := H.nf
   have eR := Sl.cells (H.os 0)
   have eS := Sl.oc (H.os 0)
   refine s_nil ⟨(H.pk [5, 7, 8, 9, 10, 11, 12]), ?_⟩
   refine t_l rfl ?_
   have a8 := cF
   obtain ⟨aF, H, cH, cI⟩ := H.joinE (i := 5) (j := 1) rfl rfl
   replace am := am.mono cH
   replace a8 := a8.mono cI
   have br := am.app a8
   refine t_app (α := Raw 1) (k := 5) (l := ao) (l2 := [aG]) (l' := ao ++ ([aG])) (vy := cG) T27 rfl H rfl rfl rfl (H.os 1) (H.ol 1) (rfl) (by have a_ := am.len; have b_ := a8.len; (try simp only [List.length_nil] at *); first | omega | (rw [a_, b_]; omega)) ?_;intro bt eT H;replace H := H.nf
   have eU := Sl.cells (H.os 5)
   have eV := Sl.oc (H.os 5)
   refine s_nil ⟨(H.pk [6, 8, 9, 10, 11, 12, 13]), ?_⟩
   refine t_q rfl (fun w' H => x_fa (v := Oq al 6) rfl (fa_blk (o := 0) Fd29_5 Sz27)) <| t_l rfl ?_;refine t_sw 7 6 [bt] bt H rfl rfl Sz27 (Sl.cells (rowSl rfl (H.get (k := 5) rfl) (roLe _ (H.get (k := 0) rfl)) br)) rfl rfl (by simp only [List.all_cons, List.all_nil, Bool.true_and, Bool.and_true, Sl.oc (rowSl rfl (H.get (k := 5) rfl) (roLe _ (H.get (k := 0) rfl)) br)]; try rfl) ?_;intro eW H
   refine s_nil ⟨(H.pk [6, 8, 9, 10, 11, 12, 13]), ?_⟩
   refine t_nil ?_;replace H := H.pk [0, 5, 6, 7, 8, 9, 10, 11, 12, 13];refine W.region rfl <| zM (I (i : Int)) rfl <| zR (i : Int) 1 ((i : Int) + 1) rfl rfl rfl (by omega) <| zA (I ((i : Int) + 1)) rfl <| s_nil ?_
   exact ⟨aW, aX, i + 1, l ++ ([(⟨((aj.getD i default).spring : Int), r6⟩ : Flood)]), bt, ao ++ ([aG]), aF, _, upds_of _ _ ⟨rfl, rfl, rfl, rfl, trivial⟩, M.e_inl hM aP, (H.pk [1, 0, 3, 4, 5, 6, 7, 8, 9]), br⟩
  skip
  refine s_val (x_bld (ps := [(0, I ((aj.getD i default).spring)), (1, ak)]) (zs := [I 0, .slice none 0 0]) (L' := [I ((aj.getD i default).spring), ak]) rfl Tryz.underlying85 Al85 rfl (Bd85 Tryz.underlying85) (.cons (cs := [I ((aj.getD i default).spring)]) rfl rfl rfl rfl rfl <| .cons (cs := [ak]) (Sl.cells (H.os 0)) rfl rfl rfl rfl <| .nil)) ?_
  refine s_nil ⟨(H.pk [2, 4, 5, 6, 7, 8, 9]), ?_⟩
  refine t_l2 rfl rfl ?_ ?_
  ·skip
   refine s_val (x_ld (v := aq) rfl (ldb_sc Sc27 (H.bl 3) rfl)) ?_
   refine s_nil ⟨(H.pk [2, 4, 5, 6, 7, 8, 9]), ?_⟩
   refine t_l rfl ?_
   obtain ⟨bn, H⟩ := H.emptyE
   obtain ⟨bo, H, cJ⟩ := H.freezeE (k := 1) rfl
   replace H := H.nf
   have ba := cJ
   obtain ⟨aD, H, eX, cK⟩ := H.joinE (i := 0) (j := 1) rfl rfl
   replace ba := ba.mono cK
   obtain ⟨aH, bM⟩ : ∃ r : Raw 1, r.cs = [I ((aj.getD i default).spring), ak] := ⟨Raw.of [I ((aj.getD i default).spring), ak] rfl (by simp only [List.all_cons, List.all_nil, Bool.true_and, Bool.and_true, Sl.oc ba]; try rfl), rfl⟩
   have cL : RepR (α := Flood) aD.cells [aH] [(⟨((aj.getD i default).spring : Int), r6⟩ : Flood)] := .cons (by rw [bM]; exact ⟨_, rfl, ba⟩) <| .nil
   refine t_bs (α := Raw 1) T27 [.agg #[I ((aj.getD i default).spring), ak]] [aH] H rfl (.cons (by rw [show (Flat.enc aH : List Value) = aH.cs from rfl, bM]; rfl) (Flat.rep_enc _ _) <| .nil) rfl rfl rfl ?_;intro cM eY H;replace H := H.nf
   have eZ := Sl.cells (H.os 0)
   have e7 := Sl.oc (H.os 0)
   refine s_nil ⟨(H.pk [5, 7, 8, 9, 10, 11, 12]), ?_⟩
   refine t_l rfl ?_
   have bc := cL
   obtain ⟨aF, H, cN, cO⟩ := H.joinE (i := 5) (j := 1) rfl rfl
   replace am := am.mono cN
   replace bc := bc.mono cO
   have bu := am.app bc
   refine t_app (α := Raw 1) (k := 5) (l := ao) (l2 := [aH]) (l' := ao ++ ([aH])) (vy := cM) T27 rfl H rfl rfl rfl (H.os 1) (H.ol 1) (rfl) (by have a_ := am.len; have b_ := bc.len; (try simp only [List.length_nil] at *); first | omega | (rw [a_, b_]; omega)) ?_;intro bv e8 H;replace H := H.nf
   have e9 := Sl.cells (H.os 5)
   have fg := Sl.oc (H.os 5)
   refine s_nil ⟨(H.pk [6, 8, 9, 10, 11, 12, 13]), ?_⟩
   refine t_q rfl (fun w' H => x_fa (v := Oq al 6) rfl (fa_blk (o := 0) Fd29_5 Sz27)) <| t_l rfl ?_;refine t_sw 7 6 [bv] bv H rfl rfl Sz27 (Sl.cells (rowSl rfl (H.get (k := 5) rfl) (roLe _ (H.get (k := 0) rfl)) bu)) rfl rfl (by simp only [List.all_cons, List.all_nil, Bool.true_and, Bool.and_true, Sl.oc (rowSl rfl (H.get (k := 5) rfl) (roLe _ (H.get (k := 0) rfl)) bu)]; try rfl) ?_;intro fh H
   refine s_nil ⟨(H.pk [6, 8, 9, 10, 11, 12, 13]), ?_⟩
   refine t_nil ?_;replace H := H.pk [0, 5, 6, 7, 8, 9, 10, 11, 12, 13];refine W.region rfl <| zM (I (i : Int)) rfl <| zR (i : Int) 1 ((i : Int) + 1) rfl rfl rfl (by omega) <| zA (I ((i : Int) + 1)) rfl <| s_nil ?_
   exact ⟨aW, aX, i + 1, l ++ ([(⟨((aj.getD i default).spring : Int), r6⟩ : Flood)]), bv, ao ++ ([aH]), aF, _, upds_of _ _ ⟨rfl, rfl, rfl, rfl, trivial⟩, M.e_inl hM aP, (H.pk [1, 0, 3, 4, 5, 6, 7, 8, 9]), bu⟩
  skip
  obtain ⟨bn, H⟩ := H.emptyE
  obtain ⟨bo, H, cP⟩ := H.freezeE (k := 1) rfl
  replace H := H.nf
  have bf := cP
  obtain ⟨aD, H, fi, cQ⟩ := H.joinE (i := 0) (j := 1) rfl rfl
  replace bf := bf.mono cQ
  obtain ⟨aI, bN⟩ : ∃ r : Raw 1, r.cs = [I ((aj.getD i default).spring), ak] := ⟨Raw.of [I ((aj.getD i default).spring), ak] rfl (by simp only [List.all_cons, List.all_nil, Bool.true_and, Bool.and_true, Sl.oc bf]; try rfl), rfl⟩
  have cR : RepR (α := Flood) aD.cells [aI] [(⟨((aj.getD i default).spring : Int), r6⟩ : Flood)] := .cons (by rw [bN]; exact ⟨_, rfl, bf⟩) <| .nil
  refine t_bs (α := Raw 1) T27 [.agg #[I ((aj.getD i default).spring), ak]] [aI] H rfl (.cons (by rw [show (Flat.enc aI : List Value) = aI.cs from rfl, bN]; rfl) (Flat.rep_enc _ _) <| .nil) rfl rfl rfl ?_;intro cS fj H;replace H := H.nf
  have fk := Sl.cells (H.os 0)
  have fm := Sl.oc (H.os 0)
  refine s_nil ⟨(H.pk [5, 7, 8, 9, 10, 11, 12]), ?_⟩
  refine t_l rfl <| s_val (x_ld (v := aq) rfl (ldb_sc Sc27 (H.bl 6) rfl)) ?_
  refine s_nil ⟨(H.pk [5, 7, 8, 9, 10, 11, 12]), ?_⟩
  refine t_l rfl ?_
  have bg := cR
  obtain ⟨aF, H, cT, cU⟩ := H.joinE (i := 5) (j := 1) rfl rfl
  replace am := am.mono cT
  replace bg := bg.mono cU
  have bw := am.app bg
  refine t_app (α := Raw 1) (k := 5) (l := ao) (l2 := [aI]) (l' := ao ++ ([aI])) (vy := cS) T27 rfl H rfl rfl rfl (H.os 1) (H.ol 1) (rfl) (by have a_ := am.len; have b_ := bg.len; (try simp only [List.length_nil] at *); first | omega | (rw [a_, b_]; omega)) ?_;intro bx fo H;replace H := H.nf
  have fp := Sl.cells (H.os 5)
  have fq := Sl.oc (H.os 5)
  refine s_nil ⟨(H.pk [6, 8, 9, 10, 11, 12, 13]), ?_⟩
  refine t_q rfl (fun w' H => x_fa (v := Oq al 6) rfl (fa_blk (o := 0) Fd29_5 Sz27)) <| t_l rfl ?_;refine t_sw 7 6 [bx] bx H rfl rfl Sz27 (Sl.cells (rowSl rfl (H.get (k := 5) rfl) (roLe _ (H.get (k := 0) rfl)) bw)) rfl rfl (by simp only [List.all_cons, List.all_nil, Bool.true_and, Bool.and_true, Sl.oc (rowSl rfl (H.get (k := 5) rfl) (roLe _ (H.get (k := 0) rfl)) bw)]; try rfl) ?_;intro fu H
  refine s_nil ⟨(H.pk [6, 8, 9, 10, 11, 12, 13]), ?_⟩
  refine t_nil ?_;replace H := H.pk [0, 5, 6, 7, 8, 9, 10, 11, 12, 13];refine W.region rfl <| zM (I (i : Int)) rfl <| zR (i : Int) 1 ((i : Int) + 1) rfl rfl rfl (by omega) <| zA (I ((i : Int) + 1)) rfl <| s_nil ?_
  exact ⟨aW, aX, i + 1, l ++ ([(⟨((aj.getD i default).spring : Int), r6⟩ : Flood)]), bx, ao ++ ([aI]), aF, _, upds_of _ _ ⟨rfl, rfl, rfl, rfl, trivial⟩, M.e_inl hM aP, (H.pk [1, 0, 3, 4, 5, 6, 7, 8, 9]), bw⟩
 replace hM := M.e_f hM aC
 replace aC := dI aC
 refine W.exit ?_
 have cV := M.e_inr hM aP
 subst cV;replace hM := cp;(try dsimp only at hM);refine W.seq <| W.region rfl <| s_val (x_ld (v := .agg #[ag, ac, ab, aa, I ah, I ai, aq]) rfl (ldb_ag (ds := [ag, ac, ab, aa, I ah, I ai, aq]) Ag29 Sz29 (H.bl 2) rfl rfl)) ?_;refine t_sw 7 0 [ag, ac, ab, aa, I ah, I ai, aq] (.agg #[ag, ac, ab, aa, I ah, I ai, aq]) H rfl rfl Sz29 rfl rfl rfl (by simp only [List.all_cons, List.all_nil, Bool.true_and, Bool.and_true, Sl.oc (H.os 6), Sl.oc (H.os 5), Sl.oc (H.os 4), Sl.oc (H.os 3), Sl.oc (rowSl rfl (H.get (k := 0) rfl) (roLe _ (H.get (k := 1) rfl)) am)]; try rfl) ?_;intro fv H;refine s_nil ?_;replace H := H.pk [0, 1, 3, 4, 5, 6, 7];refine W.ret ?_
 have cW := (H.bl 6)
 have cX := M.e_pure hM
 exact ⟨_, (resE_of1 (v := .agg #[ag, ac, ab, aa, I ah, I ai, aq]) rfl (.cell (v := .agg #[ag, ac, ab, aa, I ah, I ai, aq]) rfl (run_loadVar_ag (ds := [ag, ac, ab, aa, I ah, I ai, aq]) Ag29 Sz29 cW rfl rfl) <| .nil)), ⟨r2, r3, r4, r5, ah, ai, l, ag, ac, ab, aa, aq, ao, B_l, cX, rfl, (H.pk [5, 4, 3, 2, 0, 1]), am⟩⟩

def zb5 (aa : List Town) : (Nat × (List Town)) -> M ((Nat × (List Town)) ⊕ ((List Town) × (List Town))) := fun (i, l) =>
  bif decide ((i : Int) < (aa.length : Int)) then (
  M.grd (decide ((i : Int) < (aa.length : Int))) <|
  M.grd (decide ((l.length + ([(aa.getD i default)]).length) * 24 <= 140737488355328)) <|
  M.pure (.inl (i + 1, l ++ ([(aa.getD i default)]))))
  else (
  M.pure (.inr (l, l)))
def zb1 (aa : List Flood) : (Nat × (List Flood)) -> M ((Nat × (List Flood)) ⊕ ((List Flood) × (List Flood))) := fun (i2, l4) =>
  bif decide ((i2 : Int) < (aa.length : Int)) then (
  M.grd (decide ((i2 : Int) < (aa.length : Int))) <|
  M.grd (decide ((l4.length + ([(aa.getD i2 default)]).length) * 32 <= 140737488355328)) <|
  M.pure (.inl (i2 + 1, l4 ++ ([(aa.getD i2 default)]))))
  else (
  M.pure (.inr (l4, l4)))
def zcE (aa : List Town) (ab ac : Int) (ae : List Flood) (r2 : List Int) (r3 : List Span) (r4 : List Int) : M ((List Int) × (List Span) × (List Int) × (List Town) × Int × Int × (List Flood)) :=
  M.bind (M.iter (zb5 aa) (0, [])) fun (l2, l3) =>
  M.bind (M.iter (zb1 ae) (0, [])) fun (l5, l6) =>
  M.pure (r2, r3, r4, l3, ab, ac, l6)
def zcX (aa : List Int) (ab : List Span) (ac : List Int) (ae : List Town) (ag ah : Int) (ai : List Flood) : M ((List Int) × (List Span) × (List Int) × (List Town) × Int × Int × (List Flood)) :=
  M.bind (zaE aa) fun r2 =>
  M.bind (zcA ab) fun r3 =>
  M.bind (zaE ac) fun r4 =>
  zcE ae ag ah ai r2 r3 r4
theorem zeA {R : List Chunk} {bn : Cells} {av : Value} {bo : Cells} {aq : Value} {bp : Cells} {ao : Value} {bq : Cells} {aw : Value} {aI : Cells} {ax : Value} (aN : List Int) (aK : List Span) (aJ : List Int) (ah : List Town) (ac : Int) (ae : Int) (ak : List Flood) (br : Reads R bn) (bt : Sl bn av aN) (aW : Reads R bo) (aX : Sl bo aq aK) (aO : Reads R bp) (aP : Sl bp ao aJ) (bG : Reads R bq) (aQ : Sl bq aw ah) (ay : Reads R aI) (aR : Sl aI ax ak) {r : ((List Int) × (List Span) × (List Int) × (List Town) × Int × Int × (List Flood))} (hM : (zcX aN aK aJ ah ac ae ak).Ends r) (w : World) (H : St w w [] R) : Ret Tryz.prog 10 #[.agg #[av, aq, ao, aw, I ac, I ae, ax]] w fun v w' => ∃ (y0 : List Int) (y1 : List Span) (y2 : List Int) (y3 : List Town) (y4 : Int) (y5 : Int) (y6 : List Flood) (u0 : Value) (u1 : Value) (u2 : Value) (u3 : Value) (u4 : Value) (rr5 : List (Raw 1)) (bu : Base), (y0, y1, y2, y3, y4, y5, y6) = r /\ v = .agg #[u0, u1, u2, u3, I y4, I y5, u4] /\ St w w' [cOwn (α := Int) 3 u0 y0, cOwn (α := Span) 26 u1 y1, cOwn (α := Int) 3 u2 y2, cOwn (α := Town) 92 u3 y3, cOwn (α := Raw 1) 93 u4 rr5, cRo bu] R /\ RepR (α := Flood) (Cells.sup aI bu.cells) rr5 y6 := by
 refine ret_of_W Tryz.func10 rfl rfl rfl <| W.seq <| W.region rfl ?_;refine t_bx [av, aq, ao, aw, I ac, I ae, ax] H rfl ?_;intro al cu H;refine t_alloc (cs := [.slice none 0 0, .slice none 0 0, .slice none 0 0, .slice none 0 0, I 0, I 0, .slice none 0 0]) H Al37 rfl ?_;intro aB cw H;refine s_nil ?_;refine W.seqJ (fun σ W => ∃ (aj : Nat) (r2 : List Int) (r3 : List Span) (r4 : List Int) (ag : Value) (ab : Value) (aa : Value) (ρ : Env), σ = upds ρ [(1, Pq al), (2, Pq aB), (3, Pq aj)] /\ (zcE ah ac ae ak r2 r3 r4).Ends r /\ St w W [cBlk aj [ag, ab, aa, .slice none 0 0, I ac, I ae, .slice none 0 0] 37, cOwn (α := Int) 3 aa r4, cOwn (α := Span) 26 ab r3, cOwn (α := Int) 3 ag r2, cBlk aB [.slice none 0 0, .slice none 0 0, .slice none 0 0, .slice none 0 0, I 0, I 0, .slice none 0 0] 37, cBlk al [av, aq, ao, aw, I ac, I ae, ax] 29] R) ?_ ?_
 ·skip
  refine W.drawT (fun W => St w W [cBlk aB [.slice none 0 0, .slice none 0 0, .slice none 0 0, .slice none 0 0, I 0, I 0, .slice none 0 0] 37, cBlk al [av, aq, ao, aw, I ac, I ae, ax] 29] R) (.q 0 (.q 1 (.q 3 (.q 4 (.q 6 (.q 7 (.q 9 (.q 10 (.l2 2 (.l2 5 (.l2 8 (.q 11 (.l 12 (.l 13 .nil))) 12 (.l 8 (.q 11 (.l 13 .nil)))) 12 (.l 5 (.l 8 (.q 11 (.l 13 .nil))))) 12 (.l 2 (.l 5 (.l 8 (.q 11 (.l 13 .nil)))))))))))))) mixed (by decide +kernel) rfl ?_;intro cx aC;replace H := H.ext aC;clear aC
  refine ⟨(H.pk [0, 1]), ?_⟩
  refine t_q rfl (fun w' H => x_fa (v := Pq al) rfl (fa_blk (o := 0) Fd29_0 Sz22)) <| t_q rfl (fun w' H => x_ld (v := av) rfl (ldb_sc Sc22 (H.bl 1) rfl)) <| t_q rfl (fun w' H => x_fa (v := Oq al 1) rfl (fa_blk (o := 0) Fd29_1 Sz23)) <| t_q rfl (fun w' H => x_ld (v := aq) rfl (ldb_sc Sc23 (H.bl 1) rfl)) <| t_q rfl (fun w' H => x_fa (v := Oq al 2) rfl (fa_blk (o := 0) Fd29_2 Sz22)) <| t_q rfl (fun w' H => x_ld (v := ao) rfl (ldb_sc Sc22 (H.bl 1) rfl)) <| t_q rfl (fun w' H => x_fa (v := Oq al 4) rfl (fa_blk (o := 0) Fd29_4 Sz26)) <| t_q rfl (fun w' H => x_ld (v := .agg #[I ac, I ae]) rfl (ldb_ag (ds := [I ac, I ae]) Ag26 Sz26 (H.bl 1) rfl rfl)) ?_;refine t_l2 rfl rfl ?_ ?_
  ·skip
   obtain ⟨cy, bH, hM⟩ := M.e_bind hM;refine s_call cf9 [av] rfl (zag aN (br.app _) bt bH _ (H.gt 2)) ?_
   rintro vq cz ⟨r2, ag, rfl, hvq, ai⟩
   subst vq;(try dsimp only at hM);replace H := H.bk ai;clear ai
   have aY := Sl.cells (H.os 0)
   have cA := Sl.oc (H.os 0)
   refine s_nil ⟨(H.pk [1, 2]), ?_⟩
   refine t_l2 rfl rfl ?_ ?_
   ·skip
    obtain ⟨cB, bI, hM⟩ := M.e_bind hM;refine s_call cf44 [aq] rfl (za9 aK (aW.app _) aX bI _ (H.gt 3)) ?_
    rintro vq cC ⟨r3, ab, rfl, hvq, ai⟩
    subst vq;(try dsimp only at hM);replace H := H.bk ai;clear ai
    have bv := Sl.cells (H.os 0)
    have cD := Sl.oc (H.os 0)
    refine s_nil ⟨(H.pk [2, 3]), ?_⟩
    refine t_l2 rfl rfl ?_ ?_
    ·skip
     obtain ⟨cE, bJ, hM⟩ := M.e_bind hM;refine s_call cf9 [ao] rfl (zag aJ (aO.app _) aP bJ _ (H.gt 4)) ?_
     rintro vq cF ⟨r4, aa, rfl, hvq, ai⟩
     subst vq;(try dsimp only at hM);replace H := H.bk ai;clear ai
     have bK := Sl.cells (H.os 0)
     have cG := Sl.oc (H.os 0)
     refine s_nil ⟨(H.pk [3, 4]), ?_⟩
     refine t_q rfl (fun w' H => x_bld (ps := [(0, ag), (1, ab), (2, aa), (4, .agg #[I ac, I ae])]) (zs := [.slice none 0 0, .slice none 0 0, .slice none 0 0, .slice none 0 0, I 0, I 0, .slice none 0 0]) (L' := [ag, ab, aa, .slice none 0 0, I ac, I ae, .slice none 0 0]) rfl Tryz.underlying37 Al37 rfl (Bd37 Tryz.underlying37) (.cons (cs := [ag]) aY rfl rfl rfl rfl <| .cons (cs := [ab]) bv rfl rfl rfl rfl <| .cons (cs := [aa]) bK rfl rfl rfl rfl <| .cons (cs := [I ac, I ae]) rfl rfl rfl rfl rfl <| .nil)) <| t_l rfl ?_;refine t_alloc (cs := [.slice none 0 0, .slice none 0 0, .slice none 0 0, .slice none 0 0, I 0, I 0, .slice none 0 0]) H Al37 rfl ?_;intro aj cH H
     refine s_nil ⟨(H.pk [4, 5]), ?_⟩
     refine t_l rfl ?_;refine t_sw 0 0 [ag, ab, aa, .slice none 0 0, I ac, I ae, .slice none 0 0] (.agg #[ag, ab, aa, .slice none 0 0, I ac, I ae, .slice none 0 0]) H rfl rfl Sz37 rfl rfl rfl (by simp only [List.all_cons, List.all_nil, Bool.true_and, Bool.and_true, Sl.oc (H.os 3), Sl.oc (H.os 2), Sl.oc (H.os 1)]; try rfl) ?_;intro cI H
     refine s_nil ⟨(H.pk [4, 5]), ?_⟩
     refine t_nil ?_
     exact ⟨aj, r2, r3, r4, ag, ab, aa, _, upds_of _ _ ⟨rfl, rfl, rfl, trivial⟩, hM, H⟩
    skip
    refine t_alloc (cs := [.slice none 0 0, .slice none 0 0, .slice none 0 0, .slice none 0 0, I 0, I 0, .slice none 0 0]) H Al37 rfl ?_;intro aj cJ H
    refine s_nil ⟨(H.pk [3, 4]), ?_⟩
    refine t_l rfl ?_;obtain ⟨cK, bL, hM⟩ := M.e_bind hM;refine s_call cf9 [ao] rfl (zag aJ (aO.app _) aP bL _ (H.gt 5)) ?_
    rintro vq cL ⟨r4, aa, rfl, hvq, ai⟩
    subst vq;(try dsimp only at hM);replace H := H.bk ai;clear ai
    have bM := Sl.cells (H.os 0)
    have cM := Sl.oc (H.os 0)
    refine s_nil ⟨(H.pk [4, 5]), ?_⟩
    refine t_q rfl (fun w' H => x_bld (ps := [(0, ag), (1, ab), (2, aa), (4, .agg #[I ac, I ae])]) (zs := [.slice none 0 0, .slice none 0 0, .slice none 0 0, .slice none 0 0, I 0, I 0, .slice none 0 0]) (L' := [ag, ab, aa, .slice none 0 0, I ac, I ae, .slice none 0 0]) rfl Tryz.underlying37 Al37 rfl (Bd37 Tryz.underlying37) (.cons (cs := [ag]) aY rfl rfl rfl rfl <| .cons (cs := [ab]) bv rfl rfl rfl rfl <| .cons (cs := [aa]) bM rfl rfl rfl rfl <| .cons (cs := [I ac, I ae]) rfl rfl rfl rfl rfl <| .nil)) <| t_l rfl ?_;refine t_sw 1 0 [ag, ab, aa, .slice none 0 0, I ac, I ae, .slice none 0 0] (.agg #[ag, ab, aa, .slice none 0 0, I ac, I ae, .slice none 0 0]) H rfl rfl Sz37 rfl rfl rfl (by simp only [List.all_cons, List.all_nil, Bool.true_and, Bool.and_true, Sl.oc (H.os 3), Sl.oc (H.os 2), Sl.oc (H.os 0)]; try rfl) ?_;intro cN H
    refine s_nil ⟨(H.pk [4, 5]), ?_⟩
    refine t_nil ?_
    exact ⟨aj, r2, r3, r4, ag, ab, aa, _, upds_of _ _ ⟨rfl, rfl, rfl, trivial⟩, hM, (H.pk [1, 0, 2, 3, 4, 5])⟩
   skip
   refine t_alloc (cs := [.slice none 0 0, .slice none 0 0, .slice none 0 0, .slice none 0 0, I 0, I 0, .slice none 0 0]) H Al37 rfl ?_;intro aj cO H
   refine s_nil ⟨(H.pk [2, 3]), ?_⟩
   refine t_l rfl ?_;obtain ⟨cP, bN, hM⟩ := M.e_bind hM;refine s_call cf44 [aq] rfl (za9 aK (aW.app _) aX bN _ (H.gt 4)) ?_
   rintro vq cQ ⟨r3, ab, rfl, hvq, ai⟩
   subst vq;(try dsimp only at hM);replace H := H.bk ai;clear ai
   have bO := Sl.cells (H.os 0)
   have cR := Sl.oc (H.os 0)
   refine s_nil ⟨(H.pk [3, 4]), ?_⟩
   refine t_l rfl ?_;obtain ⟨cS, bP, hM⟩ := M.e_bind hM;refine s_call cf9 [ao] rfl (zag aJ (aO.app _) aP bP _ (H.gt 5)) ?_
   rintro vq cT ⟨r4, aa, rfl, hvq, ai⟩
   subst vq;(try dsimp only at hM);replace H := H.bk ai;clear ai
   have bQ := Sl.cells (H.os 0)
   have cU := Sl.oc (H.os 0)
   refine s_nil ⟨(H.pk [4, 5]), ?_⟩
   refine t_q rfl (fun w' H => x_bld (ps := [(0, ag), (1, ab), (2, aa), (4, .agg #[I ac, I ae])]) (zs := [.slice none 0 0, .slice none 0 0, .slice none 0 0, .slice none 0 0, I 0, I 0, .slice none 0 0]) (L' := [ag, ab, aa, .slice none 0 0, I ac, I ae, .slice none 0 0]) rfl Tryz.underlying37 Al37 rfl (Bd37 Tryz.underlying37) (.cons (cs := [ag]) aY rfl rfl rfl rfl <| .cons (cs := [ab]) bO rfl rfl rfl rfl <| .cons (cs := [aa]) bQ rfl rfl rfl rfl <| .cons (cs := [I ac, I ae]) rfl rfl rfl rfl rfl <| .nil)) <| t_l rfl ?_;refine t_sw 2 0 [ag, ab, aa, .slice none 0 0, I ac, I ae, .slice none 0 0] (.agg #[ag, ab, aa, .slice none 0 0, I ac, I ae, .slice none 0 0]) H rfl rfl Sz37 rfl rfl rfl (by simp only [List.all_cons, List.all_nil, Bool.true_and, Bool.and_true, Sl.oc (H.os 3), Sl.oc (H.os 1), Sl.oc (H.os 0)]; try rfl) ?_;intro cV H
   refine s_nil ⟨(H.pk [4, 5]), ?_⟩
   refine t_nil ?_
   exact ⟨aj, r2, r3, r4, ag, ab, aa, _, upds_of _ _ ⟨rfl, rfl, rfl, trivial⟩, hM, (H.pk [2, 0, 1, 3, 4, 5])⟩
  skip
  refine t_alloc (cs := [.slice none 0 0, .slice none 0 0, .slice none 0 0, .slice none 0 0, I 0, I 0, .slice none 0 0]) H Al37 rfl ?_;intro aj cW H
  refine s_nil ⟨(H.pk [1, 2]), ?_⟩
  refine t_l rfl ?_;obtain ⟨cX, bR, hM⟩ := M.e_bind hM;refine s_call cf9 [av] rfl (zag aN (br.app _) bt bR _ (H.gt 3)) ?_
  rintro vq cY ⟨r2, ag, rfl, hvq, ai⟩
  subst vq;(try dsimp only at hM);replace H := H.bk ai;clear ai
  have bS := Sl.cells (H.os 0)
  have cZ := Sl.oc (H.os 0)
  refine s_nil ⟨(H.pk [2, 3]), ?_⟩
  refine t_l rfl ?_;obtain ⟨c6, bT, hM⟩ := M.e_bind hM;refine s_call cf44 [aq] rfl (za9 aK (aW.app _) aX bT _ (H.gt 4)) ?_
  rintro vq c7 ⟨r3, ab, rfl, hvq, ai⟩
  subst vq;(try dsimp only at hM);replace H := H.bk ai;clear ai
  have bU := Sl.cells (H.os 0)
  have c8 := Sl.oc (H.os 0)
  refine s_nil ⟨(H.pk [3, 4]), ?_⟩
  refine t_l rfl ?_;obtain ⟨c9, bV, hM⟩ := M.e_bind hM;refine s_call cf9 [ao] rfl (zag aJ (aO.app _) aP bV _ (H.gt 5)) ?_
  rintro vq da ⟨r4, aa, rfl, hvq, ai⟩
  subst vq;(try dsimp only at hM);replace H := H.bk ai;clear ai
  have bW := Sl.cells (H.os 0)
  have db := Sl.oc (H.os 0)
  refine s_nil ⟨(H.pk [4, 5]), ?_⟩
  refine t_q rfl (fun w' H => x_bld (ps := [(0, ag), (1, ab), (2, aa), (4, .agg #[I ac, I ae])]) (zs := [.slice none 0 0, .slice none 0 0, .slice none 0 0, .slice none 0 0, I 0, I 0, .slice none 0 0]) (L' := [ag, ab, aa, .slice none 0 0, I ac, I ae, .slice none 0 0]) rfl Tryz.underlying37 Al37 rfl (Bd37 Tryz.underlying37) (.cons (cs := [ag]) bS rfl rfl rfl rfl <| .cons (cs := [ab]) bU rfl rfl rfl rfl <| .cons (cs := [aa]) bW rfl rfl rfl rfl <| .cons (cs := [I ac, I ae]) rfl rfl rfl rfl rfl <| .nil)) <| t_l rfl ?_;refine t_sw 3 0 [ag, ab, aa, .slice none 0 0, I ac, I ae, .slice none 0 0] (.agg #[ag, ab, aa, .slice none 0 0, I ac, I ae, .slice none 0 0]) H rfl rfl Sz37 rfl rfl rfl (by simp only [List.all_cons, List.all_nil, Bool.true_and, Bool.and_true, Sl.oc (H.os 2), Sl.oc (H.os 1), Sl.oc (H.os 0)]; try rfl) ?_;intro dc H
  refine s_nil ⟨(H.pk [4, 5]), ?_⟩
  refine t_nil ?_
  exact ⟨aj, r2, r3, r4, ag, ab, aa, _, upds_of _ _ ⟨rfl, rfl, rfl, trivial⟩, hM, (H.pk [3, 0, 1, 2, 4, 5])⟩
 rintro _ dd ⟨aj, r2, r3, r4, ag, ab, aa, ρ, rfl, hM, H⟩
 unfold zcE at hM
 refine W.seq <| W.seq <| W.region rfl <| zA (I 0) rfl <| s_nil <| W.block ?_
 replace H := H.nilOwn (α := Town) 92
 obtain ⟨bX, aZ, bY⟩ := M.e_bind hM
 obtain ⟨bZ, aZ⟩ := M.e_iter aZ
 refine W.loop (fun m σ W => ∃ (i : Nat) (l : List Town) (am : Value) (ρ : Env), σ = upds ρ [(1, Pq al), (2, Pq aB), (3, Pq aj), (4, I (i : Int))] /\ M.iterN (zb5 ah) m (i, l) = some bX /\ St w W [cOwn (α := Town) 92 am l, cBlk aj [ag, ab, aa, am, I ac, I ae, .slice none 0 0] 37, cOwn (α := Int) 3 aa r4, cOwn (α := Span) 26 ab r3, cOwn (α := Int) 3 ag r2, cBlk aB [.slice none 0 0, .slice none 0 0, .slice none 0 0, .slice none 0 0, I 0, I 0, .slice none 0 0] 37, cBlk al [av, aq, ao, aw, I ac, I ae, ax] 29] R) ?_ ?_
 ·exact ⟨_, 0, [], (.slice none 0 0), _, upds_of _ _ ⟨rfl, rfl, rfl, rfl, trivial⟩, aZ, H⟩
 rintro de σ dg ⟨i, l, am, ρ, rfl, bw, H⟩
 obtain ⟨bx, bz, di, hM, a6⟩ := M.e_iterN bw
 simp only [zb5] at hM
 clear bw;refine W.seq <| W.seq <| W.region rfl <| zM (I (i : Int)) rfl <| s_val (x_fa (v := Oq al 3) rfl (fa_blk (o := 0) Fd29_3 Sz24)) <| s_val (x_ld (v := aw) rfl (ldb_sc Sc24 (H.bl 6) rfl)) ?_
 have dk := (aQ).len_le
 refine s_val (x_lenS T24.und rfl aQ) <| zC (i : Int) (ah.length : Int) (decide ((i : Int) < (ah.length : Int))) rfl rfl rfl <| s_nil ?_
 refine W.cond (decide ((i : Int) < (ah.length : Int))) rfl (fun aE => ?_) (fun aE => ?_)
 ·replace hM := M.e_t hM aE
  replace aE := dI aE
  refine W.skip <| W.seq <| W.block ?_;refine W.drawT (fun W => St w W [cOwn (α := Int) 3 aa r4, cOwn (α := Span) 26 ab r3, cOwn (α := Int) 3 ag r2, cBlk aB [.slice none 0 0, .slice none 0 0, .slice none 0 0, .slice none 0 0, I 0, I 0, .slice none 0 0] 37, cBlk al [av, aq, ao, aw, I ac, I ae, ax] 29] R) (.q 0 (.q 2 (.q 3 (.q 4 (.q 5 (.q 6 (.l2 1 (.l 7 (.l 8 (.q 9 (.l 10 .nil)))) 7 (.l 1 (.l 8 (.q 9 (.l 10 .nil))))))))))) mixed (by decide +kernel) rfl ?_;intro dq aC;replace H := H.ext aC;clear aC
  refine ⟨(H.pk [2, 3, 4, 5, 6]), ?_⟩
  refine t_q rfl (fun w' H => x_fa (v := Oq aj 3) rfl (fa_blk (o := 0) Fd37_3 Sz34)) <| t_q rfl (fun w' H => x_fa (v := Oq al 3) rfl (fa_blk (o := 0) Fd29_3 Sz24)) <| t_q rfl (fun w' H => x_ld (v := aw) rfl (ldb_sc Sc24 (H.bl 4) rfl)) <| t_q rfl (fun w' H => x_mv (v := I (i : Int)) rfl) ?_;obtain ⟨dr, hM⟩ := M.e_gd hM;refine t_q rfl (fun w' H => x_ix (v := vat aw 3 (Int.toNat (i : Int))) rfl rfl (Sl.ix (α := Town) T24.und T24.size aQ (by omega) (by omega))) <| t_q rfl (fun w' H => x_ld (v := .agg #[I ((ah.getD i default).station), I ((ah.getD i default).lead), I ((ah.getD i default).alarm)]) rfl (ld_ag Ag91 Sz91 (At.mono (Town_atA aQ (i := (i : Int)) (by omega) (by omega)) (bG.at H)))) ?_;obtain ⟨dt, hM⟩ := M.e_gd hM;refine t_l2 rfl rfl ?_ ?_
  ·skip
   refine s_val (x_ld (v := am) rfl (ldb_sc Sc34 (H.bl 1) rfl)) ?_
   have du := Sl.cells (H.os 0)
   have dv := Sl.oc (H.os 0)
   refine s_nil ⟨(H.pk [2, 3, 4, 5, 6]), ?_⟩
   refine t_l rfl ?_;refine t_bs (α := Town) T34 [.agg #[I ((ah.getD i default).station), I ((ah.getD i default).lead), I ((ah.getD i default).alarm)]] [(ah.getD i default)] H rfl (.cons rfl (Flat.rep_enc _ (ah.getD i default)) <| .nil) rfl rfl rfl ?_;intro b4 dw H
   have dx := Sl.cells (H.os 0)
   have dy := Sl.oc (H.os 0)
   refine s_nil ⟨(H.pk [3, 4, 5, 6, 7]), ?_⟩
   refine t_l rfl ?_;refine t_app (α := Town) (k := 1) (l := l) (l2 := [(ah.getD i default)]) (l' := l ++ ([(ah.getD i default)])) (vy := b4) T34 rfl H rfl rfl rfl (H.os 0) (H.ol 0) (rfl) (by first | omega | (simp only [List.length_nil] at *; omega)) ?_;intro a7 dz H;replace H := H.nf
   have dA := Sl.cells (H.os 1)
   have dB := Sl.oc (H.os 1)
   refine s_nil ⟨(H.pk [3, 4, 5, 6, 7]), ?_⟩
   refine t_q rfl (fun w' H => x_fa (v := Oq aj 3) rfl (fa_blk (o := 0) Fd37_3 Sz34)) <| t_l rfl ?_;refine t_sw 2 3 [a7] a7 H rfl rfl Sz34 (Sl.cells (H.os 1)) rfl rfl (by simp only [List.all_cons, List.all_nil, Bool.true_and, Bool.and_true, Sl.oc (H.os 1)]; try rfl) ?_;intro dC H
   refine s_nil ⟨(H.pk [3, 4, 5, 6, 7]), ?_⟩
   refine t_nil <| W.region rfl <| zM (I (i : Int)) rfl <| zR (i : Int) 1 ((i : Int) + 1) rfl rfl rfl (by omega) <| zA (I ((i : Int) + 1)) rfl <| s_nil ?_
   exact ⟨bx, bz, i + 1, l ++ ([(ah.getD i default)]), a7, _, upds_of _ _ ⟨rfl, rfl, rfl, rfl, trivial⟩, M.e_inl hM a6, (H.pk [1, 2, 3, 4, 5, 6, 7])⟩
  skip
  refine t_bs (α := Town) T34 [.agg #[I ((ah.getD i default).station), I ((ah.getD i default).lead), I ((ah.getD i default).alarm)]] [(ah.getD i default)] H rfl (.cons rfl (Flat.rep_enc _ (ah.getD i default)) <| .nil) rfl rfl rfl ?_;intro b7 dD H
  have dE := Sl.cells (H.os 0)
  have dF := Sl.oc (H.os 0)
  have dG := Sl.cells (H.os 1)
  have dH := Sl.oc (H.os 1)
  refine s_nil ⟨(H.pk [3, 4, 5, 6, 7]), ?_⟩
  refine t_l rfl <| s_val (x_ld (v := am) rfl (ldb_sc Sc34 (H.bl 2) rfl)) ?_
  refine s_nil ⟨(H.pk [3, 4, 5, 6, 7]), ?_⟩
  refine t_l rfl ?_;refine t_app (α := Town) (k := 1) (l := l) (l2 := [(ah.getD i default)]) (l' := l ++ ([(ah.getD i default)])) (vy := b7) T34 rfl H rfl rfl rfl (H.os 0) (H.ol 0) (rfl) (by first | omega | (simp only [List.length_nil] at *; omega)) ?_;intro a8 dJ H;replace H := H.nf
  have dK := Sl.cells (H.os 1)
  have dL := Sl.oc (H.os 1)
  refine s_nil ⟨(H.pk [3, 4, 5, 6, 7]), ?_⟩
  refine t_q rfl (fun w' H => x_fa (v := Oq aj 3) rfl (fa_blk (o := 0) Fd37_3 Sz34)) <| t_l rfl ?_;refine t_sw 2 3 [a8] a8 H rfl rfl Sz34 (Sl.cells (H.os 1)) rfl rfl (by simp only [List.all_cons, List.all_nil, Bool.true_and, Bool.and_true, Sl.oc (H.os 1)]; try rfl) ?_;intro dM H
  refine s_nil ⟨(H.pk [3, 4, 5, 6, 7]), ?_⟩
  refine t_nil <| W.region rfl <| zM (I (i : Int)) rfl <| zR (i : Int) 1 ((i : Int) + 1) rfl rfl rfl (by omega) <| zA (I ((i : Int) + 1)) rfl <| s_nil ?_
  exact ⟨bx, bz, i + 1, l ++ ([(ah.getD i default)]), a8, _, upds_of _ _ ⟨rfl, rfl, rfl, rfl, trivial⟩, M.e_inl hM a6, (H.pk [1, 2, 3, 4, 5, 6, 7])⟩
 replace hM := M.e_f hM aE
 replace aE := dI aE
 refine W.exit ?_
 have b8 := M.e_inr hM a6
 subst b8;replace hM := bY;(try dsimp only at hM);refine W.seq <| W.seq <| W.region rfl <| zA (I 0) rfl <| s_nil <| W.block ?_
 obtain ⟨bA, H⟩ := H.emptyE
 replace H := H.nilOwn (α := Raw 1) 93
 have ba : RepR (α := Flood) (n := 1) bA.cells [] [] := .nil
 replace ba := ba.mono (Cells.sup_r (ay.at H) (roLe _ (H.get (k := 1) rfl)))
 obtain ⟨b9, bc, ca⟩ := M.e_bind hM
 obtain ⟨bZ, bc⟩ := M.e_iter bc
 refine W.loop (fun m σ W => ∃ (i2 : Nat) (l4 : List Flood) (au : Value) (az : List (Raw 1)) (B_l4 : Base) (ρ : Env), σ = upds ρ [(1, Pq al), (2, Pq aB), (3, Pq aj), (5, I (i2 : Int))] /\ M.iterN (zb1 ak) m (i2, l4) = some b9 /\ St w W [cOwn (α := Raw 1) 93 au az, cRo B_l4, cOwn (α := Town) 92 am l, cBlk aj [ag, ab, aa, am, I ac, I ae, au] 37, cOwn (α := Int) 3 aa r4, cOwn (α := Span) 26 ab r3, cOwn (α := Int) 3 ag r2, cBlk aB [.slice none 0 0, .slice none 0 0, .slice none 0 0, .slice none 0 0, I 0, I 0, .slice none 0 0] 37, cBlk al [av, aq, ao, aw, I ac, I ae, ax] 29] R /\ RepR (α := Flood) (Cells.sup aI B_l4.cells) az l4) ?_ ?_
 ·exact ⟨_, 0, [], (.slice none 0 0), [], bA, _, upds_of _ _ ⟨rfl, rfl, rfl, rfl, trivial⟩, bc, H, ba⟩
 rintro dN σ dO ⟨i2, l4, au, az, B_l4, ρ, rfl, bB, H, aA⟩
 obtain ⟨bC, bD, dP, hM, bf⟩ := M.e_iterN bB
 simp only [zb1] at hM
 clear bB;refine W.seq <| W.seq <| W.region rfl <| zM (I (i2 : Int)) rfl <| s_val (x_fa (v := Oq al 6) rfl (fa_blk (o := 0) Fd29_5 Sz27)) <| s_val (x_ld (v := ax) rfl (ldb_sc Sc27 (H.bl 8) rfl)) ?_
 have dQ := (aR).len_le
 refine s_val (x_lenS T27.und rfl aR) <| zC (i2 : Int) (ak.length : Int) (decide ((i2 : Int) < (ak.length : Int))) rfl rfl rfl <| s_nil ?_
 refine W.cond (decide ((i2 : Int) < (ak.length : Int))) rfl (fun aF => ?_) (fun aF => ?_)
 ·replace hM := M.e_t hM aF
  replace aF := dI aF
  refine W.skip <| W.seq <| W.block ?_;refine W.drawT (fun W => St w W [cRo B_l4, cOwn (α := Town) 92 am l, cOwn (α := Int) 3 aa r4, cOwn (α := Span) 26 ab r3, cOwn (α := Int) 3 ag r2, cBlk aB [.slice none 0 0, .slice none 0 0, .slice none 0 0, .slice none 0 0, I 0, I 0, .slice none 0 0] 37, cBlk al [av, aq, ao, aw, I ac, I ae, ax] 29] R) (.q 0 (.q 2 (.q 3 (.q 4 (.q 5 (.q 6 (.l2 1 (.l 7 (.l 8 (.q 9 (.l 10 .nil)))) 7 (.l 1 (.l 8 (.q 9 (.l 10 .nil))))))))))) mixed (by decide +kernel) rfl ?_;intro dR aC;replace H := H.ext aC;clear aC
  refine ⟨(H.pk [1, 2, 4, 5, 6, 7, 8]), ?_⟩
  refine t_q rfl (fun w' H => x_fa (v := Oq aj 6) rfl (fa_blk (o := 0) Fd37_5 Sz35)) <| t_q rfl (fun w' H => x_fa (v := Oq al 6) rfl (fa_blk (o := 0) Fd29_5 Sz27)) <| t_q rfl (fun w' H => x_ld (v := ax) rfl (ldb_sc Sc27 (H.bl 6) rfl)) <| t_q rfl (fun w' H => x_mv (v := I (i2 : Int)) rfl) ?_;obtain ⟨dS, hM⟩ := M.e_gd hM;refine t_q rfl (fun w' H => x_ix (v := vat ax 2 (Int.toNat (i2 : Int))) rfl rfl (Sl.ix (α := Flood) T27.und T27.size aR (by omega) (by omega))) ?_
  obtain ⟨aD, cb, aL⟩ := Flood_atA aR (i := (i2 : Int)) (by omega) (by omega)
  replace aL : Sl _ aD (ak.getD i2 default).stages := aL
  have dT := aL.len_le
  refine t_q rfl (fun w' H => x_ld (v := .agg #[I ((ak.getD i2 default).spring), aD]) rfl (ld_ag Ag85 Sz85 (At.mono cb (ay.at H)))) ?_;obtain ⟨dU, hM⟩ := M.e_gd hM;refine t_l2 rfl rfl ?_ ?_
  ·skip
   refine s_val (x_ld (v := au) rfl (ldb_sc Sc35 (H.bl 3) rfl)) ?_
   have dV := Sl.cells (H.os 0)
   have dW := Sl.oc (H.os 0)
   refine s_nil ⟨(H.pk [1, 2, 4, 5, 6, 7, 8]), ?_⟩
   refine t_l rfl ?_
   obtain ⟨aM, H⟩ := H.emptyE
   have aS := aL
   replace aS := aS.mono (Cells.sup_l _ aM.cells)
   obtain ⟨aG, bE⟩ : ∃ r : Raw 1, r.cs = [I ((ak.getD i2 default).spring), aD] := ⟨Raw.of [I ((ak.getD i2 default).spring), aD] rfl (by simp only [List.all_cons, List.all_nil, Bool.true_and, Bool.and_true, Sl.oc aS]; try rfl), rfl⟩
   have cc : RepR (α := Flood) (Cells.sup aI aM.cells) [aG] [(ak.getD i2 default)] := .cons (by rw [bE]; exact ⟨_, rfl, aS⟩) <| .nil
   refine t_bs (α := Raw 1) T35 [.agg #[I ((ak.getD i2 default).spring), aD]] [aG] H rfl (.cons (by rw [show (Flat.enc aG : List Value) = aG.cs from rfl, bE]; rfl) (Flat.rep_enc _ _) <| .nil) rfl rfl rfl ?_;intro ce dX H;replace H := H.nf
   have dY := Sl.cells (H.os 0)
   have dZ := Sl.oc (H.os 0)
   refine s_nil ⟨(H.pk [3, 4, 6, 7, 8, 9, 10]), ?_⟩
   refine t_l rfl ?_
   have aT := cc
   obtain ⟨bg, H, cf, cg⟩ := H.joinE (i := 3) (j := 1) rfl rfl
   replace aA := aA.mono (Cells.sup_mono cf (ay.at H) (roLe _ (H.get (k := 0) rfl)))
   replace aT := aT.mono (Cells.sup_mono cg (ay.at H) (roLe _ (H.get (k := 0) rfl)))
   have bh := aA.app aT
   refine t_app (α := Raw 1) (k := 3) (l := az) (l2 := [aG]) (l' := az ++ ([aG])) (vy := ce) T35 rfl H rfl rfl rfl (H.os 1) (H.ol 1) (rfl) (by have a_ := aA.len; have b_ := aT.len; (try simp only [List.length_nil] at *); first | omega | (rw [a_, b_]; omega)) ?_;intro bi d6 H;replace H := H.nf
   have d7 := Sl.cells (H.os 3)
   have d8 := Sl.oc (H.os 3)
   refine s_nil ⟨(H.pk [4, 5, 7, 8, 9, 10, 11]), ?_⟩
   refine t_q rfl (fun w' H => x_fa (v := Oq aj 6) rfl (fa_blk (o := 0) Fd37_5 Sz35)) <| t_l rfl ?_;refine t_sw 6 6 [bi] bi H rfl rfl Sz35 (Sl.cells (rowSl rfl (H.get (k := 3) rfl) (Cells.sup_le (ay.at H) (roLe _ (H.get (k := 0) rfl))) bh)) rfl rfl (by simp only [List.all_cons, List.all_nil, Bool.true_and, Bool.and_true, Sl.oc (rowSl rfl (H.get (k := 3) rfl) (Cells.sup_le (ay.at H) (roLe _ (H.get (k := 0) rfl))) bh)]; try rfl) ?_;intro d9 H
   refine s_nil ⟨(H.pk [4, 5, 7, 8, 9, 10, 11]), ?_⟩
   refine t_nil ?_;replace H := H.pk [0, 3, 4, 5, 6, 7, 8, 9, 10, 11];refine W.region rfl <| zM (I (i2 : Int)) rfl <| zR (i2 : Int) 1 ((i2 : Int) + 1) rfl rfl rfl (by omega) <| zA (I ((i2 : Int) + 1)) rfl <| s_nil ?_
   exact ⟨bC, bD, i2 + 1, l4 ++ ([(ak.getD i2 default)]), bi, az ++ ([aG]), bg, _, upds_of _ _ ⟨rfl, rfl, rfl, rfl, trivial⟩, M.e_inl hM bf, (H.pk [1, 0, 3, 4, 5, 6, 7, 8, 9]), bh⟩
  skip
  obtain ⟨aM, H⟩ := H.emptyE
  have aU := aL
  replace aU := aU.mono (Cells.sup_l _ aM.cells)
  obtain ⟨aH, bF⟩ : ∃ r : Raw 1, r.cs = [I ((ak.getD i2 default).spring), aD] := ⟨Raw.of [I ((ak.getD i2 default).spring), aD] rfl (by simp only [List.all_cons, List.all_nil, Bool.true_and, Bool.and_true, Sl.oc aU]; try rfl), rfl⟩
  have ck : RepR (α := Flood) (Cells.sup aI aM.cells) [aH] [(ak.getD i2 default)] := .cons (by rw [bF]; exact ⟨_, rfl, aU⟩) <| .nil
  refine t_bs (α := Raw 1) T35 [.agg #[I ((ak.getD i2 default).spring), aD]] [aH] H rfl (.cons (by rw [show (Flat.enc aH : List Value) = aH.cs from rfl, bF]; rfl) (Flat.rep_enc _ _) <| .nil) rfl rfl rfl ?_;intro cl ea H;replace H := H.nf
  have eb := Sl.cells (H.os 0)
  have ec := Sl.oc (H.os 0)
  have ed := Sl.cells (H.os 2)
  have ee := Sl.oc (H.os 2)
  refine s_nil ⟨(H.pk [3, 4, 6, 7, 8, 9, 10]), ?_⟩
  refine t_l rfl <| s_val (x_ld (v := au) rfl (ldb_sc Sc35 (H.bl 5) rfl)) ?_
  refine s_nil ⟨(H.pk [3, 4, 6, 7, 8, 9, 10]), ?_⟩
  refine t_l rfl ?_
  have aV := ck
  obtain ⟨bg, H, cm, cn⟩ := H.joinE (i := 3) (j := 1) rfl rfl
  replace aA := aA.mono (Cells.sup_mono cm (ay.at H) (roLe _ (H.get (k := 0) rfl)))
  replace aV := aV.mono (Cells.sup_mono cn (ay.at H) (roLe _ (H.get (k := 0) rfl)))
  have bj := aA.app aV
  refine t_app (α := Raw 1) (k := 3) (l := az) (l2 := [aH]) (l' := az ++ ([aH])) (vy := cl) T35 rfl H rfl rfl rfl (H.os 1) (H.ol 1) (rfl) (by have a_ := aA.len; have b_ := aV.len; (try simp only [List.length_nil] at *); first | omega | (rw [a_, b_]; omega)) ?_;intro bm ef H;replace H := H.nf
  have eg := Sl.cells (H.os 3)
  have eh := Sl.oc (H.os 3)
  refine s_nil ⟨(H.pk [4, 5, 7, 8, 9, 10, 11]), ?_⟩
  refine t_q rfl (fun w' H => x_fa (v := Oq aj 6) rfl (fa_blk (o := 0) Fd37_5 Sz35)) <| t_l rfl ?_;refine t_sw 6 6 [bm] bm H rfl rfl Sz35 (Sl.cells (rowSl rfl (H.get (k := 3) rfl) (Cells.sup_le (ay.at H) (roLe _ (H.get (k := 0) rfl))) bj)) rfl rfl (by simp only [List.all_cons, List.all_nil, Bool.true_and, Bool.and_true, Sl.oc (rowSl rfl (H.get (k := 3) rfl) (Cells.sup_le (ay.at H) (roLe _ (H.get (k := 0) rfl))) bj)]; try rfl) ?_;intro ei H
  refine s_nil ⟨(H.pk [4, 5, 7, 8, 9, 10, 11]), ?_⟩
  refine t_nil ?_;replace H := H.pk [0, 3, 4, 5, 6, 7, 8, 9, 10, 11];refine W.region rfl <| zM (I (i2 : Int)) rfl <| zR (i2 : Int) 1 ((i2 : Int) + 1) rfl rfl rfl (by omega) <| zA (I ((i2 : Int) + 1)) rfl <| s_nil ?_
  exact ⟨bC, bD, i2 + 1, l4 ++ ([(ak.getD i2 default)]), bm, az ++ ([aH]), bg, _, upds_of _ _ ⟨rfl, rfl, rfl, rfl, trivial⟩, M.e_inl hM bf, (H.pk [1, 0, 3, 4, 5, 6, 7, 8, 9]), bj⟩
 replace hM := M.e_f hM aF
 replace aF := dI aF
 refine W.exit ?_
 have co := M.e_inr hM bf
 subst co;replace hM := ca;(try dsimp only at hM);refine W.seq <| W.region rfl <| s_val (x_ld (v := .agg #[ag, ab, aa, am, I ac, I ae, au]) rfl (ldb_ag (ds := [ag, ab, aa, am, I ac, I ae, au]) Ag37 Sz37 (H.bl 3) rfl rfl)) ?_;refine t_sw 7 0 [ag, ab, aa, am, I ac, I ae, au] (.agg #[ag, ab, aa, am, I ac, I ae, au]) H rfl rfl Sz37 rfl rfl rfl (by simp only [List.all_cons, List.all_nil, Bool.true_and, Bool.and_true, Sl.oc (H.os 6), Sl.oc (H.os 5), Sl.oc (H.os 4), Sl.oc (H.os 2), Sl.oc (rowSl rfl (H.get (k := 0) rfl) (Cells.sup_le (ay.at H) (roLe _ (H.get (k := 1) rfl))) aA)]; try rfl) ?_;intro ej H;refine s_nil ?_;replace H := H.pk [0, 1, 2, 4, 5, 6, 7];refine W.ret ?_
 have cp := (H.bl 6)
 have cq := M.e_pure hM
 exact ⟨_, (resE_of1 (v := .agg #[ag, ab, aa, am, I ac, I ae, au]) rfl (.cell (v := .agg #[ag, ab, aa, am, I ac, I ae, au]) rfl (run_loadVar_ag (ds := [ag, ab, aa, am, I ac, I ae, au]) Ag37 Sz37 cp rfl rfl) <| .nil)), ⟨r2, r3, r4, l, ac, ae, l4, ag, ab, aa, am, au, az, B_l4, cq, rfl, (H.pk [5, 4, 3, 2, 0, 1]), aA⟩⟩

def zb2 (a b : List Span) : Nat -> M (Nat ⊕ (Unit ⊕ Unit)) := fun i =>
  bif decide ((i : Int) < (a.length : Int)) then (
  M.grd (decide ((i : Int) < (a.length : Int))) <|
  M.grd (decide ((i : Int) < (b.length : Int))) <|
  bif !(decide ((a.getD i default) = (b.getD i default))) then (
  M.pure (.inr (.inl ())))
  else (
  M.pure (.inl (i + 1))))
  else (
  M.pure (.inr (.inr ())))
def zcG (a b : List Span) : M Bool :=
  bif (a.length : Int) != (b.length : Int) then (
  M.pure false)
  else (
  M.bind (M.iter (zb2 a b) 0) fun x_ => match x_ with
  | (.inl (_ : Unit)) => (
  M.pure false)
  | (.inr (_ : Unit)) => (
  M.pure true))
theorem zeT {R : List Chunk} {am : Cells} {aa : Value} {ao : Cells} {ae : Value} (a : List Span) (b : List Span) (aw : Reads R am) (ag : Sl am aa a) (ax : Reads R ao) (ai : Sl ao ae b) {r : Bool} (hM : (zcG a b).Ends r) (w : World) (H : St w w [] R) : Ret Tryz.prog 59 #[aa, ae] w fun v w' => ∃ (y0 : Bool), y0 = r /\ v = B y0 /\ St w w' [] R := by
 refine ret_of_W Tryz.func59 rfl rfl rfl <| W.seq <| W.region rfl <| zA (B false) rfl <| s_nil <| W.seq <| W.seq <| W.region rfl <| zM aa rfl ?_
 have aD := (ag).len_le
 refine s_val (x_lenS T23.und rfl ag) <| zM ae rfl ?_
 have aE := (ai).len_le
 refine s_val (x_lenS T23.und rfl ai) <| zC (a.length : Int) (b.length : Int) ((a.length : Int) != (b.length : Int)) rfl rfl rfl <| s_nil ?_
 refine W.cond ((a.length : Int) != (b.length : Int)) rfl (fun ab => ?_) (fun ab => ?_)
 ·replace hM := M.e_t hM ab
  replace ab := dI ab
  refine W.seq <| W.region rfl <| zA (B false) rfl <| s_nil ?_;refine W.ret ?_
  have ah := M.e_pure hM
  exact ⟨_, resE_tmp rfl, ⟨false, ah, rfl, H⟩⟩
 replace hM := M.e_f hM ab
 replace ab := dI ab
 refine W.skip <| W.seq <| W.seq <| W.region rfl <| zA (I 0) rfl <| s_nil <| W.block ?_;obtain ⟨ay, aj, aq⟩ := M.e_bind hM
 obtain ⟨aF, aj⟩ := M.e_iter aj
 refine W.loop (fun m σ W => ∃ (i : Nat) (ρ : Env), σ = upds ρ [(0, aa), (1, ae), (5, I (i : Int))] /\ M.iterN (zb2 a b) m i = some ay /\ St w W [] R) ?_ ?_
 ·exact ⟨_, 0, _, upds_of _ _ ⟨rfl, rfl, rfl, trivial⟩, aj, H⟩
 rintro aG σ aH ⟨i, ρ, rfl, au, H⟩
 obtain ⟨az, aA, aI, hM, ak⟩ := M.e_iterN au
 simp only [zb2] at hM
 clear au;refine W.seq <| W.seq <| W.region rfl <| zM (I (i : Int)) rfl <| zM aa rfl ?_
 have aJ := (ag).len_le
 refine s_val (x_lenS T23.und rfl ag) <| zC (i : Int) (a.length : Int) (decide ((i : Int) < (a.length : Int))) rfl rfl rfl <| s_nil ?_
 refine W.cond (decide ((i : Int) < (a.length : Int))) rfl (fun ac => ?_) (fun ac => ?_)
 ·replace hM := M.e_t hM ac
  replace ac := dI ac
  refine W.skip <| W.seq <| W.block <| W.seq ?_;refine W.draw (fun W => St w W [] R) [(0, true), (1, true), (2, true), (3, true), (4, true), (5, true), (6, true), (7, true), (8, true)] mixed (by decide +kernel) rfl ?_;intro aK av;replace H := H.ext av;clear av
  refine ⟨(H.pk []), ?_⟩
  refine d_q rfl (fun w' H => x_mv (v := aa) rfl) <| d_q rfl (fun w' H => x_mv (v := I (i : Int)) rfl) ?_;obtain ⟨aL, hM⟩ := M.e_gd hM;refine d_q rfl (fun w' H => x_ix (v := vat aa 2 (Int.toNat (i : Int))) rfl rfl (Sl.ix (α := Span) T23.und T23.size ag (by omega) (by omega))) <| d_q rfl (fun w' H => x_ld (v := .agg #[I ((a.getD i default).lo), I ((a.getD i default).hi)]) rfl (ld_ag Ag26 Sz26 (At.mono (Span_atA ag (i := (i : Int)) (by omega) (by omega)) (aw.at H)))) <| d_q rfl (fun w' H => x_mv (v := ae) rfl) <| d_q rfl (fun w' H => x_mv (v := I (i : Int)) rfl) ?_;obtain ⟨aM, hM⟩ := M.e_gd hM;refine d_q rfl (fun w' H => x_ix (v := vat ae 2 (Int.toNat (i : Int))) rfl rfl (Sl.ix (α := Span) T23.und T23.size ai (by omega) (by omega))) <| d_q rfl (fun w' H => x_ld (v := .agg #[I ((b.getD i default).lo), I ((b.getD i default).hi)]) rfl (ld_ag Ag26 Sz26 (At.mono (Span_atA ai (i := (i : Int)) (by omega) (by omega)) (ax.at H)))) <| d_q rfl (fun w' H => x_neS (eqT26 (a.getD i default) (b.getD i default) _) gdT26 rfl rfl) ?_;refine d_nil ?_
  refine W.cond (!(decide ((a.getD i default) = (b.getD i default)))) rfl (fun al => ?_) (fun al => ?_)
  ·replace hM := M.e_t hM al;refine W.seq <| W.region rfl <| zA (B false) rfl <| s_nil ?_;refine W.ret ?_
   have aB := M.e_inr hM ak
   subst aB;replace hM := aq;(try dsimp only at hM)
   have ah := M.e_pure hM
   exact ⟨_, resE_tmp rfl, ⟨false, ah, rfl, H⟩⟩
  replace hM := M.e_f hM al;refine W.skip <| W.region rfl <| zM (I (i : Int)) rfl <| zR (i : Int) 1 ((i : Int) + 1) rfl rfl rfl (by omega) <| zA (I ((i : Int) + 1)) rfl <| s_nil ?_
  exact ⟨az, aA, i + 1, _, upds_of _ _ ⟨rfl, rfl, rfl, trivial⟩, M.e_inl hM ak, H⟩
 replace hM := M.e_f hM ac
 replace ac := dI ac
 refine W.exit ?_
 have aC := M.e_inr hM ak
 subst aC;replace hM := aq;(try dsimp only at hM);refine W.seq <| W.region rfl <| zA (B true) rfl <| s_nil ?_;refine W.ret ?_
 have ah := M.e_pure hM
 exact ⟨_, resE_tmp rfl, ⟨true, ah, rfl, H⟩⟩

def zb6 (a b : List Town) : Nat -> M (Nat ⊕ (Unit ⊕ Unit)) := fun i =>
  bif decide ((i : Int) < (a.length : Int)) then (
  M.grd (decide ((i : Int) < (a.length : Int))) <|
  M.grd (decide ((i : Int) < (b.length : Int))) <|
  bif !(decide ((a.getD i default) = (b.getD i default))) then (
  M.pure (.inr (.inl ())))
  else (
  M.pure (.inl (i + 1))))
  else (
  M.pure (.inr (.inr ())))
def zcR (a b : List Town) : M Bool :=
  bif (a.length : Int) != (b.length : Int) then (
  M.pure false)
  else (
  M.bind (M.iter (zb6 a b) 0) fun x_ => match x_ with
  | (.inl (_ : Unit)) => (
  M.pure false)
  | (.inr (_ : Unit)) => (
  M.pure true))
theorem zer {R : List Chunk} {am : Cells} {aa : Value} {ao : Cells} {ae : Value} (a : List Town) (b : List Town) (aw : Reads R am) (ag : Sl am aa a) (ax : Reads R ao) (ai : Sl ao ae b) {r : Bool} (hM : (zcR a b).Ends r) (w : World) (H : St w w [] R) : Ret Tryz.prog 60 #[aa, ae] w fun v w' => ∃ (y0 : Bool), y0 = r /\ v = B y0 /\ St w w' [] R := by
 refine ret_of_W Tryz.func60 rfl rfl rfl <| W.seq <| W.region rfl <| zA (B false) rfl <| s_nil <| W.seq <| W.seq <| W.region rfl <| zM aa rfl ?_
 have aD := (ag).len_le
 refine s_val (x_lenS T24.und rfl ag) <| zM ae rfl ?_
 have aE := (ai).len_le
 refine s_val (x_lenS T24.und rfl ai) <| zC (a.length : Int) (b.length : Int) ((a.length : Int) != (b.length : Int)) rfl rfl rfl <| s_nil ?_
 refine W.cond ((a.length : Int) != (b.length : Int)) rfl (fun ab => ?_) (fun ab => ?_)
 ·replace hM := M.e_t hM ab
  replace ab := dI ab
  refine W.seq <| W.region rfl <| zA (B false) rfl <| s_nil ?_;refine W.ret ?_
  have ah := M.e_pure hM
  exact ⟨_, resE_tmp rfl, ⟨false, ah, rfl, H⟩⟩
 replace hM := M.e_f hM ab
 replace ab := dI ab
 refine W.skip <| W.seq <| W.seq <| W.region rfl <| zA (I 0) rfl <| s_nil <| W.block ?_;obtain ⟨ay, aj, aq⟩ := M.e_bind hM
 obtain ⟨aF, aj⟩ := M.e_iter aj
 refine W.loop (fun m σ W => ∃ (i : Nat) (ρ : Env), σ = upds ρ [(0, aa), (1, ae), (5, I (i : Int))] /\ M.iterN (zb6 a b) m i = some ay /\ St w W [] R) ?_ ?_
 ·exact ⟨_, 0, _, upds_of _ _ ⟨rfl, rfl, rfl, trivial⟩, aj, H⟩
 rintro aG σ aH ⟨i, ρ, rfl, au, H⟩
 obtain ⟨az, aA, aI, hM, ak⟩ := M.e_iterN au
 simp only [zb6] at hM
 clear au;refine W.seq <| W.seq <| W.region rfl <| zM (I (i : Int)) rfl <| zM aa rfl ?_
 have aJ := (ag).len_le
 refine s_val (x_lenS T24.und rfl ag) <| zC (i : Int) (a.length : Int) (decide ((i : Int) < (a.length : Int))) rfl rfl rfl <| s_nil ?_
 refine W.cond (decide ((i : Int) < (a.length : Int))) rfl (fun ac => ?_) (fun ac => ?_)
 ·replace hM := M.e_t hM ac
  replace ac := dI ac
  refine W.skip <| W.seq <| W.block <| W.seq ?_;refine W.draw (fun W => St w W [] R) [(0, true), (1, true), (2, true), (3, true), (4, true), (5, true), (6, true), (7, true), (8, true)] mixed (by decide +kernel) rfl ?_;intro aK av;replace H := H.ext av;clear av
  refine ⟨(H.pk []), ?_⟩
  refine d_q rfl (fun w' H => x_mv (v := aa) rfl) <| d_q rfl (fun w' H => x_mv (v := I (i : Int)) rfl) ?_;obtain ⟨aL, hM⟩ := M.e_gd hM;refine d_q rfl (fun w' H => x_ix (v := vat aa 3 (Int.toNat (i : Int))) rfl rfl (Sl.ix (α := Town) T24.und T24.size ag (by omega) (by omega))) <| d_q rfl (fun w' H => x_ld (v := .agg #[I ((a.getD i default).station), I ((a.getD i default).lead), I ((a.getD i default).alarm)]) rfl (ld_ag Ag91 Sz91 (At.mono (Town_atA ag (i := (i : Int)) (by omega) (by omega)) (aw.at H)))) <| d_q rfl (fun w' H => x_mv (v := ae) rfl) <| d_q rfl (fun w' H => x_mv (v := I (i : Int)) rfl) ?_;obtain ⟨aM, hM⟩ := M.e_gd hM;refine d_q rfl (fun w' H => x_ix (v := vat ae 3 (Int.toNat (i : Int))) rfl rfl (Sl.ix (α := Town) T24.und T24.size ai (by omega) (by omega))) <| d_q rfl (fun w' H => x_ld (v := .agg #[I ((b.getD i default).station), I ((b.getD i default).lead), I ((b.getD i default).alarm)]) rfl (ld_ag Ag91 Sz91 (At.mono (Town_atA ai (i := (i : Int)) (by omega) (by omega)) (ax.at H)))) <| d_q rfl (fun w' H => x_neS (eqT91 (a.getD i default) (b.getD i default) _) gdT91 rfl rfl) ?_;refine d_nil ?_
  refine W.cond (!(decide ((a.getD i default) = (b.getD i default)))) rfl (fun al => ?_) (fun al => ?_)
  ·replace hM := M.e_t hM al;refine W.seq <| W.region rfl <| zA (B false) rfl <| s_nil ?_;refine W.ret ?_
   have aB := M.e_inr hM ak
   subst aB;replace hM := aq;(try dsimp only at hM)
   have ah := M.e_pure hM
   exact ⟨_, resE_tmp rfl, ⟨false, ah, rfl, H⟩⟩
  replace hM := M.e_f hM al;refine W.skip <| W.region rfl <| zM (I (i : Int)) rfl <| zR (i : Int) 1 ((i : Int) + 1) rfl rfl rfl (by omega) <| zA (I ((i : Int) + 1)) rfl <| s_nil ?_
  exact ⟨az, aA, i + 1, _, upds_of _ _ ⟨rfl, rfl, rfl, trivial⟩, M.e_inl hM ak, H⟩
 replace hM := M.e_f hM ac
 replace ac := dI ac
 refine W.exit ?_
 have aC := M.e_inr hM ak
 subst aC;replace hM := aq;(try dsimp only at hM);refine W.seq <| W.region rfl <| zA (B true) rfl <| s_nil ?_;refine W.ret ?_
 have ah := M.e_pure hM
 exact ⟨_, resE_tmp rfl, ⟨true, ah, rfl, H⟩⟩

def zch (aa ab : List Flood) : Nat -> M (Nat ⊕ (Unit ⊕ Unit)) := fun i =>
  bif decide ((i : Int) < (aa.length : Int)) then (
  M.grd (decide ((i : Int) < (aa.length : Int))) <|
  M.grd (decide ((i : Int) < (ab.length : Int))) <|
  M.bind (M.opt (!(((aa.getD i default).spring) != ((ab.getD i default).spring))) (zab ((aa.getD i default).stages) ((ab.getD i default).stages)) false) fun r6 =>
  bif ((((aa.getD i default).spring) != ((ab.getD i default).spring)) || (!r6)) then (
  M.pure (.inr (.inl ())))
  else (
  M.pure (.inl (i + 1))))
  else (
  M.pure (.inr (.inr ())))
def zcJ (ac : List Int) (ae : List Span) (ag : List Int) (ah : List Town) (ai aj : Int) (aa : List Flood) (ak : List Int) (al : List Span) (am : List Int) (ao : List Town) (aq au : Int) (ab : List Flood) : M Bool :=
  M.bind (zab ac ak) fun r2 =>
  M.bind (M.opt (!(!r2)) (zcG ae al) false) fun r3 =>
  M.bind (M.opt (!((!r2) || (!r3))) (zab ag am) false) fun r4 =>
  M.bind (M.opt (!(((!r2) || (!r3)) || (!r4))) (zcR ah ao) false) fun r5 =>
  bif ((((((!r2) || (!r3)) || (!r4)) || (!r5)) || (!(decide ((⟨(ai : Int), (aj : Int)⟩ : Span) = (⟨(aq : Int), (au : Int)⟩ : Span))))) || ((aa.length : Int) != (ab.length : Int))) then (
  M.pure false)
  else (
  M.bind (M.iter (zch aa ab) 0) fun x_ => match x_ with
  | (.inl (_ : Unit)) => (
  M.pure false)
  | (.inr (_ : Unit)) => (
  M.pure true))
theorem zel {R : List Chunk} {aX : Cells} {aB : Value} {aY : Cells} {au : Value} {aZ : Cells} {av : Value} {a6 : Cells} {aw : Value} {a7 : Cells} {ak : Value} {a8 : Cells} {aC : Value} {ba : Cells} {ax : Value} {bc : Cells} {ay : Value} {bf : Cells} {az : Value} {bg : Cells} {am : Value} (aH : List Int) (aI : List Span) (aJ : List Int) (aK : List Town) (ae : Int) (ag : Int) (aa : List Flood) (aL : List Int) (aM : List Span) (aN : List Int) (aO : List Town) (ah : Int) (ai : Int) (ab : List Flood) (bm : Reads R aX) (bn : Sl aX aB aH) (bo : Reads R aY) (bp : Sl aY au aI) (bq : Reads R aZ) (br : Sl aZ av aJ) (bt : Reads R a6) (bu : Sl a6 aw aK) (aP : Reads R a7) (aq : Sl a7 ak aa) (bv : Reads R a8) (bw : Sl a8 aC aL) (bx : Reads R ba) (bz : Sl ba ax aM) (bA : Reads R bc) (bB : Sl bc ay aN) (bC : Reads R bf) (bD : Sl bf az aO) (aQ : Reads R bg) (aA : Sl bg am ab) {r : Bool} (hM : (zcJ aH aI aJ aK ae ag aa aL aM aN aO ah ai ab).Ends r) (w : World) (H : St w w [] R) : Ret Tryz.prog 18 #[.agg #[aB, au, av, aw, I ae, I ag, ak], .agg #[aC, ax, ay, az, I ah, I ai, am]] w fun v w' => ∃ (y0 : Bool), y0 = r /\ v = B y0 /\ St w w' [] R := by
 refine ret_of_W Tryz.func18 rfl rfl rfl <| W.seq <| W.region rfl ?_;refine t_bx [aB, au, av, aw, I ae, I ag, ak] H rfl ?_;intro aj bQ H;refine t_bx [aC, ax, ay, az, I ah, I ai, am] H rfl ?_;intro al bR H;refine zA (B false) rfl <| s_nil <| W.seq <| W.seq <| W.region rfl <| s_val (x_fa (v := Pq aj) rfl (fa_blk (o := 0) Fd29_0 Sz22)) <| s_val (x_ld (v := aB) rfl (ldb_sc Sc22 (H.bl 1) rfl)) <| s_val (x_fa (v := Pq al) rfl (fa_blk (o := 0) Fd29_0 Sz22)) <| s_val (x_ld (v := aC) rfl (ldb_sc Sc22 (H.bl 0) rfl)) ?_;obtain ⟨bS, bE, hM⟩ := M.e_bind hM;refine s_call cf15 [aB, aC] rfl (zaf aH aL (bm.app _) bn (bv.app _) bw bE _ (H.gt 2)) ?_
 rintro vq bT ⟨r2, rfl, hvq, bh⟩
 subst vq;(try dsimp only at hM);replace H := H.bk bh;clear bh;refine s_val (x_not (b := r2) rfl) <| zM (B (!r2)) rfl <| g_val (!(!r2)) (gy_f rfl) (fun hg => x_fa (v := Oq aj 1) rfl (fa_blk (o := 0) Fd29_1 Sz23)) <| g_val (!(!r2)) (gy_f rfl) (fun hg => x_ld (v := au) (gd_of hg (Oq aj 1)) (ldb_sc Sc23 (H.bl 1) rfl)) <| g_val (!(!r2)) (gy_f rfl) (fun hg => x_fa (v := Oq al 1) rfl (fa_blk (o := 0) Fd29_1 Sz23)) <| g_val (!(!r2)) (gy_f rfl) (fun hg => x_ld (v := ax) (gd_of hg (Oq al 1)) (ldb_sc Sc23 (H.bl 0) rfl)) ?_;obtain ⟨r3, bF, hM⟩ := M.e_bind hM;refine t_gcall (!(!r2)) (gy_f rfl) cf59 (B r3) (fun _ => [au, ax]) (fun hg => lst2 (gd_of hg (au)) (gd_of hg (ax))) H (fun hg => (zeT aI aM (bo.app _) bp (bx.app _) bz (M.e_opt bF hg) _ (H.give (A := []) rfl)).mono fun v_ w_ ⟨y_, ao, aD, H_⟩ => by subst ao; exact ⟨aD, H.via H_⟩) ?_;intro bU H;refine g_val (!(!r2)) (gy_f rfl) (fun hg => x_not (b := r3) (gd_of hg (B r3))) <| s_val (x_por (b := !r2) (r := !r3) rfl rfl (fun hb => gd_of (c := !(!r2)) (by first | exact hb | (rw [hb]; rfl) | simp_all) (B (!r3)))) <| zM (B ((!r2) || (!r3))) rfl <| g_val (!((!r2) || (!r3))) (gy_f rfl) (fun hg => x_fa (v := Oq aj 2) rfl (fa_blk (o := 0) Fd29_2 Sz22)) <| g_val (!((!r2) || (!r3))) (gy_f rfl) (fun hg => x_ld (v := av) (gd_of hg (Oq aj 2)) (ldb_sc Sc22 (H.bl 1) rfl)) <| g_val (!((!r2) || (!r3))) (gy_f rfl) (fun hg => x_fa (v := Oq al 2) rfl (fa_blk (o := 0) Fd29_2 Sz22)) <| g_val (!((!r2) || (!r3))) (gy_f rfl) (fun hg => x_ld (v := ay) (gd_of hg (Oq al 2)) (ldb_sc Sc22 (H.bl 0) rfl)) ?_;obtain ⟨r4, bG, hM⟩ := M.e_bind hM;refine t_gcall (!((!r2) || (!r3))) (gy_f rfl) cf15 (B r4) (fun _ => [av, ay]) (fun hg => lst2 (gd_of hg (av)) (gd_of hg (ay))) H (fun hg => (zaf aJ aN (bq.app _) br (bA.app _) bB (M.e_opt bG hg) _ (H.give (A := []) rfl)).mono fun v_ w_ ⟨y_, ao, aD, H_⟩ => by subst ao; exact ⟨aD, H.via H_⟩) ?_;intro bV H;refine g_val (!((!r2) || (!r3))) (gy_f rfl) (fun hg => x_not (b := r4) (gd_of hg (B r4))) <| s_val (x_por (b := ((!r2) || (!r3))) (r := !r4) rfl rfl (fun hb => gd_of (c := !((!r2) || (!r3))) (by first | exact hb | (rw [hb]; rfl) | simp_all) (B (!r4)))) <| zM (B (((!r2) || (!r3)) || (!r4))) rfl <| g_val (!(((!r2) || (!r3)) || (!r4))) (gy_f rfl) (fun hg => x_fa (v := Oq aj 3) rfl (fa_blk (o := 0) Fd29_3 Sz24)) <| g_val (!(((!r2) || (!r3)) || (!r4))) (gy_f rfl) (fun hg => x_ld (v := aw) (gd_of hg (Oq aj 3)) (ldb_sc Sc24 (H.bl 1) rfl)) <| g_val (!(((!r2) || (!r3)) || (!r4))) (gy_f rfl) (fun hg => x_fa (v := Oq al 3) rfl (fa_blk (o := 0) Fd29_3 Sz24)) <| g_val (!(((!r2) || (!r3)) || (!r4))) (gy_f rfl) (fun hg => x_ld (v := az) (gd_of hg (Oq al 3)) (ldb_sc Sc24 (H.bl 0) rfl)) ?_;obtain ⟨r5, bH, hM⟩ := M.e_bind hM;refine t_gcall (!(((!r2) || (!r3)) || (!r4))) (gy_f rfl) cf60 (B r5) (fun _ => [aw, az]) (fun hg => lst2 (gd_of hg (aw)) (gd_of hg (az))) H (fun hg => (zer aK aO (bt.app _) bu (bC.app _) bD (M.e_opt bH hg) _ (H.give (A := []) rfl)).mono fun v_ w_ ⟨y_, ao, aD, H_⟩ => by subst ao; exact ⟨aD, H.via H_⟩) ?_;intro bW H;refine g_val (!(((!r2) || (!r3)) || (!r4))) (gy_f rfl) (fun hg => x_not (b := r5) (gd_of hg (B r5))) <| s_val (x_por (b := (((!r2) || (!r3)) || (!r4))) (r := !r5) rfl rfl (fun hb => gd_of (c := !(((!r2) || (!r3)) || (!r4))) (by first | exact hb | (rw [hb]; rfl) | simp_all) (B (!r5)))) <| zM (B ((((!r2) || (!r3)) || (!r4)) || (!r5))) rfl <| g_val (!((((!r2) || (!r3)) || (!r4)) || (!r5))) (gy_f rfl) (fun hg => x_fa (v := Oq aj 4) rfl (fa_blk (o := 0) Fd29_4 Sz26)) <| g_val (!((((!r2) || (!r3)) || (!r4)) || (!r5))) (gy_f rfl) (fun hg => x_ld (v := .agg #[I ae, I ag]) (gd_of hg (Oq aj 4)) (ldb_ag (ds := [I ae, I ag]) Ag26 Sz26 (H.bl 1) rfl rfl)) <| g_val (!((((!r2) || (!r3)) || (!r4)) || (!r5))) (gy_f rfl) (fun hg => x_fa (v := Oq al 4) rfl (fa_blk (o := 0) Fd29_4 Sz26)) <| g_val (!((((!r2) || (!r3)) || (!r4)) || (!r5))) (gy_f rfl) (fun hg => x_ld (v := .agg #[I ah, I ai]) (gd_of hg (Oq al 4)) (ldb_ag (ds := [I ah, I ai]) Ag26 Sz26 (H.bl 0) rfl rfl)) <| g_val (!((((!r2) || (!r3)) || (!r4)) || (!r5))) (gy_f rfl) (fun hg => x_neS (eqT26 (⟨(ae : Int), (ag : Int)⟩ : Span) (⟨(ah : Int), (ai : Int)⟩ : Span) _) gdT26 (gd_of hg (.agg #[I ae, I ag])) (gd_of hg (.agg #[I ah, I ai]))) <| s_val (x_por (b := ((((!r2) || (!r3)) || (!r4)) || (!r5))) (r := !(decide ((⟨(ae : Int), (ag : Int)⟩ : Span) = (⟨(ah : Int), (ai : Int)⟩ : Span)))) rfl rfl (fun hb => gd_of (c := !((((!r2) || (!r3)) || (!r4)) || (!r5))) (by first | exact hb | (rw [hb]; rfl) | simp_all) (B (!(decide ((⟨(ae : Int), (ag : Int)⟩ : Span) = (⟨(ah : Int), (ai : Int)⟩ : Span))))))) <| zM (B (((((!r2) || (!r3)) || (!r4)) || (!r5)) || (!(decide ((⟨(ae : Int), (ag : Int)⟩ : Span) = (⟨(ah : Int), (ai : Int)⟩ : Span)))))) rfl ?_;refine g_val (!(((((!r2) || (!r3)) || (!r4)) || (!r5)) || (!(decide ((⟨(ae : Int), (ag : Int)⟩ : Span) = (⟨(ah : Int), (ai : Int)⟩ : Span)))))) (gy_f rfl) (fun hg => x_fa (v := Oq aj 6) rfl (fa_blk (o := 0) Fd29_5 Sz27)) <| g_val (!(((((!r2) || (!r3)) || (!r4)) || (!r5)) || (!(decide ((⟨(ae : Int), (ag : Int)⟩ : Span) = (⟨(ah : Int), (ai : Int)⟩ : Span)))))) (gy_f rfl) (fun hg => x_ld (v := ak) (gd_of hg (Oq aj 6)) (ldb_sc Sc27 (H.bl 1) rfl)) ?_
 have bX := (aq).len_le
 refine g_val (!(((((!r2) || (!r3)) || (!r4)) || (!r5)) || (!(decide ((⟨(ae : Int), (ag : Int)⟩ : Span) = (⟨(ah : Int), (ai : Int)⟩ : Span)))))) (gy_f rfl) (fun hg => x_lenS T27.und (gd_of hg (ak)) aq) <| g_val (!(((((!r2) || (!r3)) || (!r4)) || (!r5)) || (!(decide ((⟨(ae : Int), (ag : Int)⟩ : Span) = (⟨(ah : Int), (ai : Int)⟩ : Span)))))) (gy_f rfl) (fun hg => x_fa (v := Oq al 6) rfl (fa_blk (o := 0) Fd29_5 Sz27)) <| g_val (!(((((!r2) || (!r3)) || (!r4)) || (!r5)) || (!(decide ((⟨(ae : Int), (ag : Int)⟩ : Span) = (⟨(ah : Int), (ai : Int)⟩ : Span)))))) (gy_f rfl) (fun hg => x_ld (v := am) (gd_of hg (Oq al 6)) (ldb_sc Sc27 (H.bl 0) rfl)) ?_
 have bY := (aA).len_le
 refine g_val (!(((((!r2) || (!r3)) || (!r4)) || (!r5)) || (!(decide ((⟨(ae : Int), (ag : Int)⟩ : Span) = (⟨(ah : Int), (ai : Int)⟩ : Span)))))) (gy_f rfl) (fun hg => x_lenS T27.und (gd_of hg (am)) aA) <| g_val (!(((((!r2) || (!r3)) || (!r4)) || (!r5)) || (!(decide ((⟨(ae : Int), (ag : Int)⟩ : Span) = (⟨(ah : Int), (ai : Int)⟩ : Span)))))) (gy_f rfl) (fun hg => x_cmp (kd := .i64) (r := (aa.length : Int) != (ab.length : Int)) (gd_of hg (I (aa.length : Int))) (gd_of hg (I (ab.length : Int))) rfl) <| s_val (x_por (b := (((((!r2) || (!r3)) || (!r4)) || (!r5)) || (!(decide ((⟨(ae : Int), (ag : Int)⟩ : Span) = (⟨(ah : Int), (ai : Int)⟩ : Span)))))) (r := (aa.length : Int) != (ab.length : Int)) rfl rfl (fun hb => gd_of (c := !(((((!r2) || (!r3)) || (!r4)) || (!r5)) || (!(decide ((⟨(ae : Int), (ag : Int)⟩ : Span) = (⟨(ah : Int), (ai : Int)⟩ : Span)))))) (by first | exact hb | (rw [hb]; rfl) | simp_all) (B ((aa.length : Int) != (ab.length : Int))))) <| s_nil ?_
 refine W.cond ((((((!r2) || (!r3)) || (!r4)) || (!r5)) || (!(decide ((⟨(ae : Int), (ag : Int)⟩ : Span) = (⟨(ah : Int), (ai : Int)⟩ : Span))))) || ((aa.length : Int) != (ab.length : Int))) rfl (fun aR => ?_) (fun aR => ?_)
 ·replace hM := M.e_t hM aR;refine W.seq <| W.region rfl <| zA (B false) rfl <| s_nil ?_;replace H := H.pk [];refine W.ret ?_
  have ao := M.e_pure hM
  exact ⟨_, resE_tmp rfl, ⟨false, ao, rfl, H⟩⟩
 replace hM := M.e_f hM aR;refine W.skip <| W.seq <| W.seq <| W.region rfl <| zA (I 0) rfl <| s_nil <| W.block ?_;obtain ⟨bI, aS, bi⟩ := M.e_bind hM
 obtain ⟨bZ, aS⟩ := M.e_iter aS
 refine W.loop (fun m σ W => ∃ (i : Nat) (ρ : Env), σ = upds ρ [(2, Pq aj), (3, Pq al), (5, I (i : Int))] /\ M.iterN (zch aa ab) m i = some bI /\ St w W [cBlk al [aC, ax, ay, az, I ah, I ai, am] 29, cBlk aj [aB, au, av, aw, I ae, I ag, ak] 29] R) ?_ ?_
 ·exact ⟨_, 0, _, upds_of _ _ ⟨rfl, rfl, rfl, trivial⟩, aS, H⟩
 rintro b4 σ b7 ⟨i, ρ, rfl, bj, H⟩
 obtain ⟨bJ, bK, b8, hM, aT⟩ := M.e_iterN bj
 simp only [zch] at hM
 clear bj;refine W.seq <| W.seq <| W.region rfl <| zM (I (i : Int)) rfl <| s_val (x_fa (v := Oq aj 6) rfl (fa_blk (o := 0) Fd29_5 Sz27)) <| s_val (x_ld (v := ak) rfl (ldb_sc Sc27 (H.bl 1) rfl)) ?_
 have b9 := (aq).len_le
 refine s_val (x_lenS T27.und rfl aq) <| zC (i : Int) (aa.length : Int) (decide ((i : Int) < (aa.length : Int))) rfl rfl rfl <| s_nil ?_
 refine W.cond (decide ((i : Int) < (aa.length : Int))) rfl (fun aE => ?_) (fun aE => ?_)
 ·replace hM := M.e_t hM aE
  replace aE := dI aE
  refine W.skip <| W.seq <| W.block <| W.seq ?_;refine W.draw (fun W => St w W [cBlk al [aC, ax, ay, az, I ah, I ai, am] 29, cBlk aj [aB, au, av, aw, I ae, I ag, ak] 29] R) [(0, true), (1, true), (2, true), (3, true), (4, true), (5, true), (6, true), (7, true), (8, true), (9, true), (10, true), (11, true), (12, true), (13, true), (14, true), (15, true), (16, true), (17, true), (18, true), (19, true), (20, true), (21, true), (22, true), (23, true), (24, true), (25, true), (26, false), (27, true), (28, true)] mixed (by decide +kernel) rfl ?_;intro ca ac;replace H := H.ext ac;clear ac
  refine ⟨(H.pk [0, 1]), ?_⟩
  refine d_q rfl (fun w' H => x_fa (v := Oq aj 6) rfl (fa_blk (o := 0) Fd29_5 Sz27)) <| d_q rfl (fun w' H => x_ld (v := ak) rfl (ldb_sc Sc27 (H.bl 1) rfl)) <| d_q rfl (fun w' H => x_mv (v := I (i : Int)) rfl) ?_;obtain ⟨cb, hM⟩ := M.e_gd hM;refine d_q rfl (fun w' H => x_ix (v := vat ak 2 (Int.toNat (i : Int))) rfl rfl (Sl.ix (α := Flood) T27.und T27.size aq (by omega) (by omega))) <| d_q rfl (fun w' H => x_fa (v := fat (vat ak 2 (Int.toNat (i : Int))) 0) rfl (fa_pl Fd85_0 Sz3 (Sl.pl (i := (i : Int)) aq (by omega) (by omega)))) <| d_q rfl (fun w' H => x_ld (v := I ((aa.getD i default).spring)) rfl (ld_sc Sc3 (At.mono (Flood_at0 aq (i := (i : Int)) (by omega) (by omega)) (aP.at H)))) <| d_q rfl (fun w' H => x_fa (v := Oq al 6) rfl (fa_blk (o := 0) Fd29_5 Sz27)) <| d_q rfl (fun w' H => x_ld (v := am) rfl (ldb_sc Sc27 (H.bl 0) rfl)) <| d_q rfl (fun w' H => x_mv (v := I (i : Int)) rfl) ?_;obtain ⟨cc, hM⟩ := M.e_gd hM;refine d_q rfl (fun w' H => x_ix (v := vat am 2 (Int.toNat (i : Int))) rfl rfl (Sl.ix (α := Flood) T27.und T27.size aA (by omega) (by omega))) <| d_q rfl (fun w' H => x_fa (v := fat (vat am 2 (Int.toNat (i : Int))) 0) rfl (fa_pl Fd85_0 Sz3 (Sl.pl (i := (i : Int)) aA (by omega) (by omega)))) <| d_q rfl (fun w' H => x_ld (v := I ((ab.getD i default).spring)) rfl (ld_sc Sc3 (At.mono (Flood_at0 aA (i := (i : Int)) (by omega) (by omega)) (aQ.at H)))) <| d_q rfl (fun w' H => x_cmp (kd := .i64) (r := ((aa.getD i default).spring) != ((ab.getD i default).spring)) rfl rfl rfl) <| d_q rfl (fun w' H => x_mv (v := B (((aa.getD i default).spring) != ((ab.getD i default).spring))) rfl) <| d_qg (!(((aa.getD i default).spring) != ((ab.getD i default).spring))) rfl (gy_f rfl) (fun hg => (fun w' H => x_fa (v := Oq aj 6) rfl (fa_blk (o := 0) Fd29_5 Sz27))) <| d_qg (!(((aa.getD i default).spring) != ((ab.getD i default).spring))) rfl (gy_f rfl) (fun hg => (fun w' H => x_ld (v := ak) (gd_of hg (Oq aj 6)) (ldb_sc Sc27 (H.bl 1) rfl))) <| d_qg (!(((aa.getD i default).spring) != ((ab.getD i default).spring))) rfl (gy_f rfl) (fun hg => (fun w' H => x_mv (v := I (i : Int)) rfl)) <| d_qg (!(((aa.getD i default).spring) != ((ab.getD i default).spring))) rfl (gy_f rfl) (fun hg => (fun w' H => x_ix (v := vat ak 2 (Int.toNat (i : Int))) (gd_of hg (ak)) (gd_of hg (I (i : Int))) (Sl.ix (α := Flood) T27.und T27.size aq (by first | omega | (have ac := hg; simp at ac; omega)) (by first | omega | (have ac := hg; simp at ac; omega))))) <| d_qg (!(((aa.getD i default).spring) != ((ab.getD i default).spring))) rfl (gy_f rfl) (fun hg => (fun w' H => x_fa (v := fat (vat ak 2 (Int.toNat (i : Int))) 1) (gd_of hg (vat ak 2 (Int.toNat (i : Int)))) (fa_pl Fd85_1 Sz22 (Sl.pl (i := (i : Int)) aq (by first | omega | (have ac := hg; simp at ac; omega)) (by first | omega | (have ac := hg; simp at ac; omega)))))) ?_
  obtain ⟨aF, bL, aU⟩ := gd_ex (c := !(((aa.getD i default).spring) != ((ab.getD i default).spring))) fun hg => Flood_at1 aq (i := (i : Int)) (by first | omega | (have ac := hg; simp at ac; omega)) (by first | omega | (have ac := hg; simp at ac; omega))
  replace aU : (!(((aa.getD i default).spring) != ((ab.getD i default).spring))) = true -> Sl _ aF (aa.getD i default).stages := aU
  refine d_qg (!(((aa.getD i default).spring) != ((ab.getD i default).spring))) rfl (gy_f rfl) (fun hg => (fun w' H => x_ld (v := aF) (gd_of hg (fat (vat ak 2 (Int.toNat (i : Int))) 1)) (ld_sc Sc22 (At.mono (bL hg) (aP.at H))))) <| d_qg (!(((aa.getD i default).spring) != ((ab.getD i default).spring))) rfl (gy_f rfl) (fun hg => (fun w' H => x_fa (v := Oq al 6) rfl (fa_blk (o := 0) Fd29_5 Sz27))) <| d_qg (!(((aa.getD i default).spring) != ((ab.getD i default).spring))) rfl (gy_f rfl) (fun hg => (fun w' H => x_ld (v := am) (gd_of hg (Oq al 6)) (ldb_sc Sc27 (H.bl 0) rfl))) <| d_qg (!(((aa.getD i default).spring) != ((ab.getD i default).spring))) rfl (gy_f rfl) (fun hg => (fun w' H => x_mv (v := I (i : Int)) rfl)) <| d_qg (!(((aa.getD i default).spring) != ((ab.getD i default).spring))) rfl (gy_f rfl) (fun hg => (fun w' H => x_ix (v := vat am 2 (Int.toNat (i : Int))) (gd_of hg (am)) (gd_of hg (I (i : Int))) (Sl.ix (α := Flood) T27.und T27.size aA (by first | omega | (have ac := hg; simp at ac; omega)) (by first | omega | (have ac := hg; simp at ac; omega))))) <| d_qg (!(((aa.getD i default).spring) != ((ab.getD i default).spring))) rfl (gy_f rfl) (fun hg => (fun w' H => x_fa (v := fat (vat am 2 (Int.toNat (i : Int))) 1) (gd_of hg (vat am 2 (Int.toNat (i : Int)))) (fa_pl Fd85_1 Sz22 (Sl.pl (i := (i : Int)) aA (by first | omega | (have ac := hg; simp at ac; omega)) (by first | omega | (have ac := hg; simp at ac; omega)))))) ?_
  obtain ⟨aG, bM, aV⟩ := gd_ex (c := !(((aa.getD i default).spring) != ((ab.getD i default).spring))) fun hg => Flood_at1 aA (i := (i : Int)) (by first | omega | (have ac := hg; simp at ac; omega)) (by first | omega | (have ac := hg; simp at ac; omega))
  replace aV : (!(((aa.getD i default).spring) != ((ab.getD i default).spring))) = true -> Sl _ aG (ab.getD i default).stages := aV
  refine d_qg (!(((aa.getD i default).spring) != ((ab.getD i default).spring))) rfl (gy_f rfl) (fun hg => (fun w' H => x_ld (v := aG) (gd_of hg (fat (vat am 2 (Int.toNat (i : Int))) 1)) (ld_sc Sc22 (At.mono (bM hg) (aQ.at H))))) <| d_l rfl ?_;obtain ⟨r6, bN, hM⟩ := M.e_bind hM;refine t_gcall (!(((aa.getD i default).spring) != ((ab.getD i default).spring))) (gy_f rfl) cf15 (B r6) (fun _ => [aF, aG]) (fun hg => lst2 (gd_of hg (aF)) (gd_of hg (aG))) H (fun hg => (zaf ((aa.getD i default).stages) ((ab.getD i default).stages) (aP.app _) (aU hg) (aQ.app _) (aV hg) (M.e_opt bN hg) _ (H.give (A := []) rfl)).mono fun v_ w_ ⟨y_, ao, aD, H_⟩ => by subst ao; exact ⟨aD, H.via H_⟩) ?_;intro ce H
  refine s_nil ⟨(H.pk [0, 1]), ?_⟩
  refine d_qg (!(((aa.getD i default).spring) != ((ab.getD i default).spring))) rfl (gy_f rfl) (fun hg => (fun w' H => x_not (b := r6) (gd_of hg (B r6)))) <| d_q rfl (fun w' H => x_por (b := ((aa.getD i default).spring) != ((ab.getD i default).spring)) (r := !r6) rfl rfl (fun hb => gd_of (c := !(((aa.getD i default).spring) != ((ab.getD i default).spring))) (by first | exact hb | (rw [hb]; rfl) | simp_all) (B (!r6)))) ?_;refine d_nil ?_
  refine W.cond ((((aa.getD i default).spring) != ((ab.getD i default).spring)) || (!r6)) rfl (fun aW => ?_) (fun aW => ?_)
  ·replace hM := M.e_t hM aW;refine W.seq <| W.region rfl <| zA (B false) rfl <| s_nil ?_;refine W.ret ?_
   have bO := M.e_inr hM aT
   subst bO;replace hM := bi;(try dsimp only at hM)
   have ao := M.e_pure hM
   exact ⟨_, resE_tmp rfl, ⟨false, ao, rfl, (H.pk [])⟩⟩
  replace hM := M.e_f hM aW;refine W.skip <| W.region rfl <| zM (I (i : Int)) rfl <| zR (i : Int) 1 ((i : Int) + 1) rfl rfl rfl (by omega) <| zA (I ((i : Int) + 1)) rfl <| s_nil ?_
  exact ⟨bJ, bK, i + 1, _, upds_of _ _ ⟨rfl, rfl, rfl, trivial⟩, M.e_inl hM aT, H⟩
 replace hM := M.e_f hM aE
 replace aE := dI aE
 refine W.exit ?_
 have bP := M.e_inr hM aT
 subst bP;replace hM := bi;(try dsimp only at hM);replace H := H.pk [];refine W.seq <| W.region rfl <| zA (B true) rfl <| s_nil ?_;refine W.ret ?_
 have ao := M.e_pure hM
 exact ⟨_, resE_tmp rfl, ⟨true, ao, rfl, H⟩⟩

end Go.Proofs.YtbaehghammbjdaaGreat
end
section
set_option maxRecDepth 100000
set_option maxHeartbeats 16000000
namespace Go.Proofs.YtbaehghammbjdaaGreat
open Go Go.Nm
def zbL (aa : List Flood) : Nat -> M (Nat ⊕ (Unit ⊕ Unit)) := fun i =>
  bif decide ((i : Int) < (aa.length : Int)) then (
  M.grd (decide ((i : Int) < (aa.length : Int))) <|
  bif decide (15 < (((aa.getD i default).stages).length : Int)) then (
  M.pure (.inr (.inl ())))
  else (
  M.pure (.inl (i + 1))))
  else (
  M.pure (.inr (.inr ())))
def zc4 (aa : List Int) (ac : List Span) (ae : List Int) (ag : List Town) (ah ai : Int) (ab : List Flood) : M Bool :=
  bif (((((((decide (9 < (aa.length : Int))) && (decide ((aa.length : Int) < 13))) || (decide (15 < (aa.length : Int)))) || (decide (15 < (ac.length : Int)))) || (decide (10 < (ae.length : Int)))) || (decide (10 < (ag.length : Int)))) || (decide (22 < (ab.length : Int)))) then (
  M.pure true)
  else (
  M.bind (M.iter (zbL ab) 0) fun x_ => match x_ with
  | (.inl (_ : Unit)) => (
  M.pure true)
  | (.inr (_ : Unit)) => (
  M.pure false))
theorem zeq {R : List Chunk} {aD : Cells} {aj : Value} {aE : Cells} {ao : Value} {aF : Cells} {aq : Value} {aG : Cells} {au : Value} {aH : Cells} {ai : Value} (aa : List Int) (ab : List Span) (ac : List Int) (ah : List Town) (ay : Int) (az : Int) (ag : List Flood) (aV : Reads R aD) (av : Sl aD aj aa) (aW : Reads R aE) (aI : Sl aE ao ab) (aX : Reads R aF) (aJ : Sl aF aq ac) (aY : Reads R aG) (aK : Sl aG au ah) (aO : Reads R aH) (ak : Sl aH ai ag) {r : Bool} (hM : (zc4 aa ab ac ah ay az ag).Ends r) (w : World) (H : St w w [] R) : Ret Tryz.prog 6 #[.agg #[aj, ao, aq, au, I ay, I az, ai]] w fun v w' => ∃ (y0 : Bool), y0 = r /\ v = B y0 /\ St w w' [] R := by
 refine ret_of_W Tryz.func6 rfl rfl rfl <| W.seq <| W.region rfl ?_;refine t_bx [aj, ao, aq, au, I ay, I az, ai] H rfl ?_;intro ae aZ H;refine zA (B false) rfl <| s_nil <| W.seq <| W.seq <| W.region rfl <| s_val (x_fa (v := Pq ae) rfl (fa_blk (o := 0) Fd29_0 Sz22)) <| s_val (x_ld (v := aj) rfl (ldb_sc Sc22 (H.bl 0) rfl)) ?_
 have a6 := (av).len_le
 refine s_val (x_lenS T22.und rfl av) <| zC (aa.length : Int) 9 (decide (9 < (aa.length : Int))) rfl rfl rfl <| zM (B (decide (9 < (aa.length : Int)))) rfl <| g_val (decide (9 < (aa.length : Int))) (gy_t rfl) (fun hg => x_fa (v := Pq ae) rfl (fa_blk (o := 0) Fd29_0 Sz22)) <| g_val (decide (9 < (aa.length : Int))) (gy_t rfl) (fun hg => x_ld (v := aj) (gd_of hg (Pq ae)) (ldb_sc Sc22 (H.bl 0) rfl)) ?_
 have a7 := (av).len_le
 refine g_val (decide (9 < (aa.length : Int))) (gy_t rfl) (fun hg => x_lenS T22.und (gd_of hg (aj)) av) <| g_val (decide (9 < (aa.length : Int))) (gy_t rfl) (fun hg => x_cmp (kd := .i64) (r := decide ((aa.length : Int) < 13)) (gd_of hg (I (aa.length : Int))) rfl rfl) <| s_val (x_pand (b := decide (9 < (aa.length : Int))) (r := decide ((aa.length : Int) < 13)) rfl (fun hb => gd_of (c := decide (9 < (aa.length : Int))) (by first | exact hb | (rw [hb]; rfl) | simp_all) (B (decide ((aa.length : Int) < 13)))) rfl) <| zM (B ((decide (9 < (aa.length : Int))) && (decide ((aa.length : Int) < 13)))) rfl <| g_val (!((decide (9 < (aa.length : Int))) && (decide ((aa.length : Int) < 13)))) (gy_f rfl) (fun hg => x_fa (v := Pq ae) rfl (fa_blk (o := 0) Fd29_0 Sz22)) <| g_val (!((decide (9 < (aa.length : Int))) && (decide ((aa.length : Int) < 13)))) (gy_f rfl) (fun hg => x_ld (v := aj) (gd_of hg (Pq ae)) (ldb_sc Sc22 (H.bl 0) rfl)) ?_
 have a8 := (av).len_le
 refine g_val (!((decide (9 < (aa.length : Int))) && (decide ((aa.length : Int) < 13)))) (gy_f rfl) (fun hg => x_lenS T22.und (gd_of hg (aj)) av) <| g_val (!((decide (9 < (aa.length : Int))) && (decide ((aa.length : Int) < 13)))) (gy_f rfl) (fun hg => x_cmp (kd := .i64) (r := decide (15 < (aa.length : Int))) (gd_of hg (I (aa.length : Int))) rfl rfl) <| s_val (x_por (b := ((decide (9 < (aa.length : Int))) && (decide ((aa.length : Int) < 13)))) (r := decide (15 < (aa.length : Int))) rfl rfl (fun hb => gd_of (c := !((decide (9 < (aa.length : Int))) && (decide ((aa.length : Int) < 13)))) (by first | exact hb | (rw [hb]; rfl) | simp_all) (B (decide (15 < (aa.length : Int)))))) <| zM (B (((decide (9 < (aa.length : Int))) && (decide ((aa.length : Int) < 13))) || (decide (15 < (aa.length : Int))))) rfl <| g_val (!(((decide (9 < (aa.length : Int))) && (decide ((aa.length : Int) < 13))) || (decide (15 < (aa.length : Int))))) (gy_f rfl) (fun hg => x_fa (v := Oq ae 1) rfl (fa_blk (o := 0) Fd29_1 Sz23)) <| g_val (!(((decide (9 < (aa.length : Int))) && (decide ((aa.length : Int) < 13))) || (decide (15 < (aa.length : Int))))) (gy_f rfl) (fun hg => x_ld (v := ao) (gd_of hg (Oq ae 1)) (ldb_sc Sc23 (H.bl 0) rfl)) ?_
 have ba := (aI).len_le
 refine g_val (!(((decide (9 < (aa.length : Int))) && (decide ((aa.length : Int) < 13))) || (decide (15 < (aa.length : Int))))) (gy_f rfl) (fun hg => x_lenS T23.und (gd_of hg (ao)) aI) <| g_val (!(((decide (9 < (aa.length : Int))) && (decide ((aa.length : Int) < 13))) || (decide (15 < (aa.length : Int))))) (gy_f rfl) (fun hg => x_cmp (kd := .i64) (r := decide (15 < (ab.length : Int))) (gd_of hg (I (ab.length : Int))) rfl rfl) <| s_val (x_por (b := (((decide (9 < (aa.length : Int))) && (decide ((aa.length : Int) < 13))) || (decide (15 < (aa.length : Int))))) (r := decide (15 < (ab.length : Int))) rfl rfl (fun hb => gd_of (c := !(((decide (9 < (aa.length : Int))) && (decide ((aa.length : Int) < 13))) || (decide (15 < (aa.length : Int))))) (by first | exact hb | (rw [hb]; rfl) | simp_all) (B (decide (15 < (ab.length : Int)))))) <| zM (B ((((decide (9 < (aa.length : Int))) && (decide ((aa.length : Int) < 13))) || (decide (15 < (aa.length : Int)))) || (decide (15 < (ab.length : Int))))) rfl <| g_val (!((((decide (9 < (aa.length : Int))) && (decide ((aa.length : Int) < 13))) || (decide (15 < (aa.length : Int)))) || (decide (15 < (ab.length : Int))))) (gy_f rfl) (fun hg => x_fa (v := Oq ae 2) rfl (fa_blk (o := 0) Fd29_2 Sz22)) <| g_val (!((((decide (9 < (aa.length : Int))) && (decide ((aa.length : Int) < 13))) || (decide (15 < (aa.length : Int)))) || (decide (15 < (ab.length : Int))))) (gy_f rfl) (fun hg => x_ld (v := aq) (gd_of hg (Oq ae 2)) (ldb_sc Sc22 (H.bl 0) rfl)) ?_
 have bc := (aJ).len_le
 refine g_val (!((((decide (9 < (aa.length : Int))) && (decide ((aa.length : Int) < 13))) || (decide (15 < (aa.length : Int)))) || (decide (15 < (ab.length : Int))))) (gy_f rfl) (fun hg => x_lenS T22.und (gd_of hg (aq)) aJ) <| g_val (!((((decide (9 < (aa.length : Int))) && (decide ((aa.length : Int) < 13))) || (decide (15 < (aa.length : Int)))) || (decide (15 < (ab.length : Int))))) (gy_f rfl) (fun hg => x_cmp (kd := .i64) (r := decide (10 < (ac.length : Int))) (gd_of hg (I (ac.length : Int))) rfl rfl) <| s_val (x_por (b := ((((decide (9 < (aa.length : Int))) && (decide ((aa.length : Int) < 13))) || (decide (15 < (aa.length : Int)))) || (decide (15 < (ab.length : Int))))) (r := decide (10 < (ac.length : Int))) rfl rfl (fun hb => gd_of (c := !((((decide (9 < (aa.length : Int))) && (decide ((aa.length : Int) < 13))) || (decide (15 < (aa.length : Int)))) || (decide (15 < (ab.length : Int))))) (by first | exact hb | (rw [hb]; rfl) | simp_all) (B (decide (10 < (ac.length : Int)))))) <| zM (B (((((decide (9 < (aa.length : Int))) && (decide ((aa.length : Int) < 13))) || (decide (15 < (aa.length : Int)))) || (decide (15 < (ab.length : Int)))) || (decide (10 < (ac.length : Int))))) rfl <| g_val (!(((((decide (9 < (aa.length : Int))) && (decide ((aa.length : Int) < 13))) || (decide (15 < (aa.length : Int)))) || (decide (15 < (ab.length : Int)))) || (decide (10 < (ac.length : Int))))) (gy_f rfl) (fun hg => x_fa (v := Oq ae 3) rfl (fa_blk (o := 0) Fd29_3 Sz24)) <| g_val (!(((((decide (9 < (aa.length : Int))) && (decide ((aa.length : Int) < 13))) || (decide (15 < (aa.length : Int)))) || (decide (15 < (ab.length : Int)))) || (decide (10 < (ac.length : Int))))) (gy_f rfl) (fun hg => x_ld (v := au) (gd_of hg (Oq ae 3)) (ldb_sc Sc24 (H.bl 0) rfl)) ?_
 have bf := (aK).len_le
 refine g_val (!(((((decide (9 < (aa.length : Int))) && (decide ((aa.length : Int) < 13))) || (decide (15 < (aa.length : Int)))) || (decide (15 < (ab.length : Int)))) || (decide (10 < (ac.length : Int))))) (gy_f rfl) (fun hg => x_lenS T24.und (gd_of hg (au)) aK) <| g_val (!(((((decide (9 < (aa.length : Int))) && (decide ((aa.length : Int) < 13))) || (decide (15 < (aa.length : Int)))) || (decide (15 < (ab.length : Int)))) || (decide (10 < (ac.length : Int))))) (gy_f rfl) (fun hg => x_cmp (kd := .i64) (r := decide (10 < (ah.length : Int))) (gd_of hg (I (ah.length : Int))) rfl rfl) <| s_val (x_por (b := (((((decide (9 < (aa.length : Int))) && (decide ((aa.length : Int) < 13))) || (decide (15 < (aa.length : Int)))) || (decide (15 < (ab.length : Int)))) || (decide (10 < (ac.length : Int))))) (r := decide (10 < (ah.length : Int))) rfl rfl (fun hb => gd_of (c := !(((((decide (9 < (aa.length : Int))) && (decide ((aa.length : Int) < 13))) || (decide (15 < (aa.length : Int)))) || (decide (15 < (ab.length : Int)))) || (decide (10 < (ac.length : Int))))) (by first | exact hb | (rw [hb]; rfl) | simp_all) (B (decide (10 < (ah.length : Int)))))) <| zM (B ((((((decide (9 < (aa.length : Int))) && (decide ((aa.length : Int) < 13))) || (decide (15 < (aa.length : Int)))) || (decide (15 < (ab.length : Int)))) || (decide (10 < (ac.length : Int)))) || (decide (10 < (ah.length : Int))))) rfl <| g_val (!((((((decide (9 < (aa.length : Int))) && (decide ((aa.length : Int) < 13))) || (decide (15 < (aa.length : Int)))) || (decide (15 < (ab.length : Int)))) || (decide (10 < (ac.length : Int)))) || (decide (10 < (ah.length : Int))))) (gy_f rfl) (fun hg => x_fa (v := Oq ae 6) rfl (fa_blk (o := 0) Fd29_5 Sz27)) <| g_val (!((((((decide (9 < (aa.length : Int))) && (decide ((aa.length : Int) < 13))) || (decide (15 < (aa.length : Int)))) || (decide (15 < (ab.length : Int)))) || (decide (10 < (ac.length : Int)))) || (decide (10 < (ah.length : Int))))) (gy_f rfl) (fun hg => x_ld (v := ai) (gd_of hg (Oq ae 6)) (ldb_sc Sc27 (H.bl 0) rfl)) ?_
 have bg := (ak).len_le
 refine g_val (!((((((decide (9 < (aa.length : Int))) && (decide ((aa.length : Int) < 13))) || (decide (15 < (aa.length : Int)))) || (decide (15 < (ab.length : Int)))) || (decide (10 < (ac.length : Int)))) || (decide (10 < (ah.length : Int))))) (gy_f rfl) (fun hg => x_lenS T27.und (gd_of hg (ai)) ak) <| g_val (!((((((decide (9 < (aa.length : Int))) && (decide ((aa.length : Int) < 13))) || (decide (15 < (aa.length : Int)))) || (decide (15 < (ab.length : Int)))) || (decide (10 < (ac.length : Int)))) || (decide (10 < (ah.length : Int))))) (gy_f rfl) (fun hg => x_cmp (kd := .i64) (r := decide (22 < (ag.length : Int))) (gd_of hg (I (ag.length : Int))) rfl rfl) <| s_val (x_por (b := ((((((decide (9 < (aa.length : Int))) && (decide ((aa.length : Int) < 13))) || (decide (15 < (aa.length : Int)))) || (decide (15 < (ab.length : Int)))) || (decide (10 < (ac.length : Int)))) || (decide (10 < (ah.length : Int))))) (r := decide (22 < (ag.length : Int))) rfl rfl (fun hb => gd_of (c := !((((((decide (9 < (aa.length : Int))) && (decide ((aa.length : Int) < 13))) || (decide (15 < (aa.length : Int)))) || (decide (15 < (ab.length : Int)))) || (decide (10 < (ac.length : Int)))) || (decide (10 < (ah.length : Int))))) (by first | exact hb | (rw [hb]; rfl) | simp_all) (B (decide (22 < (ag.length : Int)))))) <| s_nil ?_
 refine W.cond (((((((decide (9 < (aa.length : Int))) && (decide ((aa.length : Int) < 13))) || (decide (15 < (aa.length : Int)))) || (decide (15 < (ab.length : Int)))) || (decide (10 < (ac.length : Int)))) || (decide (10 < (ah.length : Int)))) || (decide (22 < (ag.length : Int)))) rfl (fun aA => ?_) (fun aA => ?_)
 ·replace hM := M.e_t hM aA;refine W.seq <| W.region rfl <| zA (B true) rfl <| s_nil ?_;refine W.ret ?_
  have aw := M.e_pure hM
  exact ⟨_, resE_tmp rfl, ⟨true, aw, rfl, (H.pk [])⟩⟩
 replace hM := M.e_f hM aA;refine W.skip <| W.seq <| W.seq <| W.region rfl <| zA (I 0) rfl <| s_nil <| W.block ?_;obtain ⟨aP, aB, aL⟩ := M.e_bind hM
 obtain ⟨bh, aB⟩ := M.e_iter aB
 refine W.loop (fun m σ W => ∃ (i : Nat) (ρ : Env), σ = upds ρ [(1, Pq ae), (3, I (i : Int))] /\ M.iterN (zbL ag) m i = some aP /\ St w W [cBlk ae [aj, ao, aq, au, I ay, I az, ai] 29] R) ?_ ?_
 ·exact ⟨_, 0, _, upds_of _ _ ⟨rfl, rfl, trivial⟩, aB, H⟩
 rintro bi σ bj ⟨i, ρ, rfl, aM, H⟩
 obtain ⟨aQ, aR, bm, hM, aC⟩ := M.e_iterN aM
 simp only [zbL] at hM
 clear aM;refine W.seq <| W.seq <| W.region rfl <| zM (I (i : Int)) rfl <| s_val (x_fa (v := Oq ae 6) rfl (fa_blk (o := 0) Fd29_5 Sz27)) <| s_val (x_ld (v := ai) rfl (ldb_sc Sc27 (H.bl 0) rfl)) ?_
 have bn := (ak).len_le
 refine s_val (x_lenS T27.und rfl ak) <| zC (i : Int) (ag.length : Int) (decide ((i : Int) < (ag.length : Int))) rfl rfl rfl <| s_nil ?_
 refine W.cond (decide ((i : Int) < (ag.length : Int))) rfl (fun al => ?_) (fun al => ?_)
 ·replace hM := M.e_t hM al
  replace al := dI al
  refine W.skip <| W.seq <| W.block <| W.seq <| W.region rfl <| s_val (x_fa (v := Oq ae 6) rfl (fa_blk (o := 0) Fd29_5 Sz27)) <| s_val (x_ld (v := ai) rfl (ldb_sc Sc27 (H.bl 0) rfl)) <| zM (I (i : Int)) rfl ?_;obtain ⟨bo, hM⟩ := M.e_gd hM;refine s_val (x_ix (v := vat ai 2 (Int.toNat (i : Int))) rfl rfl (Sl.ix (α := Flood) T27.und T27.size ak (by omega) (by omega))) <| s_val (x_fa (v := fat (vat ai 2 (Int.toNat (i : Int))) 1) rfl (fa_pl Fd85_1 Sz22 (Sl.pl (i := (i : Int)) ak (by omega) (by omega)))) ?_
  obtain ⟨aN, aS, ax⟩ := Flood_at1 ak (i := (i : Int)) (by omega) (by omega)
  replace ax : Sl _ aN (ag.getD i default).stages := ax
  have bp := ax.len_le
  refine s_val (x_ld (v := aN) rfl (ld_sc Sc22 (At.mono (aS) (aO.at H)))) ?_
  have bq := (ax).len_le
  refine s_val (x_lenS T22.und rfl ax) <| zC (((ag.getD i default).stages).length : Int) 15 (decide (15 < (((ag.getD i default).stages).length : Int))) rfl rfl rfl <| s_nil ?_
  refine W.cond (decide (15 < (((ag.getD i default).stages).length : Int))) rfl (fun am => ?_) (fun am => ?_)
  ·replace hM := M.e_t hM am
   replace am := dI am
   refine W.seq <| W.region rfl <| zA (B true) rfl <| s_nil ?_;refine W.ret ?_
   have aT := M.e_inr hM aC
   subst aT;replace hM := aL;(try dsimp only at hM)
   have aw := M.e_pure hM
   exact ⟨_, resE_tmp rfl, ⟨true, aw, rfl, (H.pk [])⟩⟩
  replace hM := M.e_f hM am
  replace am := dI am
  refine W.skip <| W.region rfl <| zM (I (i : Int)) rfl <| zR (i : Int) 1 ((i : Int) + 1) rfl rfl rfl (by omega) <| zA (I ((i : Int) + 1)) rfl <| s_nil ?_
  exact ⟨aQ, aR, i + 1, _, upds_of _ _ ⟨rfl, rfl, trivial⟩, M.e_inl hM aC, H⟩
 replace hM := M.e_f hM al
 replace al := dI al
 refine W.exit ?_
 have aU := M.e_inr hM aC
 subst aU;replace hM := aL;(try dsimp only at hM);refine W.seq <| W.region rfl <| zA (B false) rfl <| s_nil ?_;refine W.ret ?_
 have aw := M.e_pure hM
 exact ⟨_, resE_tmp rfl, ⟨false, aw, rfl, (H.pk [])⟩⟩

end Go.Proofs.YtbaehghammbjdaaGreat
end
section
set_option maxRecDepth 100000
set_option maxHeartbeats 16000000
namespace Go.Proofs.YtbaehghammbjdaaGreat
open Go Go.Nm
def zaj (n a b : Int) : M Bool :=
  M.pure ((decide (n < a)) || (decide (b < n)))
theorem zar {R : List Chunk}  (n : Int) (a : Int) (b : Int)  {r : Bool} (hM : (zaj n a b).Ends r) (w : World) (H : St w w [] R) : Ret Tryz.prog 49 #[I n, I a, I b] w fun v w' => ∃ (y0 : Bool), y0 = r /\ v = B y0 /\ St w w' [] R := by
 refine ret_of_W Tryz.func49 rfl rfl rfl <| W.seq <| W.region rfl <| zA (B false) rfl <| s_nil <| W.seq <| W.region rfl <| zM (I n) rfl <| zM (I a) rfl <| zC n a (decide (n < a)) rfl rfl rfl <| zM (B (decide (n < a))) rfl ?_;refine g_val (!(decide (n < a))) (gy_f rfl) (fun hg => x_mv (v := I n) rfl) <| g_val (!(decide (n < a))) (gy_f rfl) (fun hg => x_mv (v := I b) rfl) <| g_val (!(decide (n < a))) (gy_f rfl) (fun hg => x_cmp (kd := .i64) (r := decide (b < n)) (gd_of hg (I n)) (gd_of hg (I b)) rfl) <| s_val (x_por (b := decide (n < a)) (r := decide (b < n)) rfl rfl (fun hb => gd_of (c := !(decide (n < a))) (by first | exact hb | (rw [hb]; rfl) | simp_all) (B (decide (b < n))))) <| zA (B ((decide (n < a)) || (decide (b < n)))) rfl <| s_nil ?_;refine W.ret ?_
 have aa := M.e_pure hM
 exact ⟨_, resE_tmp rfl, ⟨((decide (n < a)) || (decide (b < n))), aa, rfl, H⟩⟩

def zcv (s : Span) : M Bool :=
  M.pure (((decide (s.lo < 0)) || (decide (1000 < s.hi))) || (decide (s.hi < s.lo)))
theorem zdN {R : List Chunk}  (s : Span)  {r : Bool} (hM : (zcv s).Ends r) (w : World) (H : St w w [] R) : Ret Tryz.prog 69 #[.agg #[I s.lo, I s.hi]] w fun v w' => ∃ (y0 : Bool), y0 = r /\ v = B y0 /\ St w w' [] R := by
 refine ret_of_W Tryz.func69 rfl rfl rfl <| W.seq <| W.region rfl ?_;refine t_bx [I s.lo, I s.hi] H rfl ?_;intro aa ac H;refine zA (B false) rfl <| s_nil <| W.seq <| W.region rfl <| s_val (x_fa (v := Pq aa) rfl (fa_blk (o := 0) Fd26_0 Sz3)) <| s_val (x_ld (v := I s.lo) rfl (ldb_sc Sc3 (H.bl 0) rfl)) <| zC s.lo 0 (decide (s.lo < 0)) rfl rfl rfl <| zM (B (decide (s.lo < 0))) rfl <| g_val (!(decide (s.lo < 0))) (gy_f rfl) (fun hg => x_fa (v := Oq aa 1) rfl (fa_blk (o := 0) Fd26_1 Sz3)) <| g_val (!(decide (s.lo < 0))) (gy_f rfl) (fun hg => x_ld (v := I s.hi) (gd_of hg (Oq aa 1)) (ldb_sc Sc3 (H.bl 0) rfl)) ?_;refine g_val (!(decide (s.lo < 0))) (gy_f rfl) (fun hg => x_cmp (kd := .i64) (r := decide (1000 < s.hi)) (gd_of hg (I s.hi)) rfl rfl) <| s_val (x_por (b := decide (s.lo < 0)) (r := decide (1000 < s.hi)) rfl rfl (fun hb => gd_of (c := !(decide (s.lo < 0))) (by first | exact hb | (rw [hb]; rfl) | simp_all) (B (decide (1000 < s.hi))))) <| zM (B ((decide (s.lo < 0)) || (decide (1000 < s.hi)))) rfl <| g_val (!((decide (s.lo < 0)) || (decide (1000 < s.hi)))) (gy_f rfl) (fun hg => x_fa (v := Pq aa) rfl (fa_blk (o := 0) Fd26_0 Sz3)) <| g_val (!((decide (s.lo < 0)) || (decide (1000 < s.hi)))) (gy_f rfl) (fun hg => x_ld (v := I s.lo) (gd_of hg (Pq aa)) (ldb_sc Sc3 (H.bl 0) rfl)) <| g_val (!((decide (s.lo < 0)) || (decide (1000 < s.hi)))) (gy_f rfl) (fun hg => x_fa (v := Oq aa 1) rfl (fa_blk (o := 0) Fd26_1 Sz3)) <| g_val (!((decide (s.lo < 0)) || (decide (1000 < s.hi)))) (gy_f rfl) (fun hg => x_ld (v := I s.hi) (gd_of hg (Oq aa 1)) (ldb_sc Sc3 (H.bl 0) rfl)) <| g_val (!((decide (s.lo < 0)) || (decide (1000 < s.hi)))) (gy_f rfl) (fun hg => x_cmp (kd := .i64) (r := decide (s.hi < s.lo)) (gd_of hg (I s.lo)) (gd_of hg (I s.hi)) rfl) <| s_val (x_por (b := ((decide (s.lo < 0)) || (decide (1000 < s.hi)))) (r := decide (s.hi < s.lo)) rfl rfl (fun hb => gd_of (c := !((decide (s.lo < 0)) || (decide (1000 < s.hi)))) (by first | exact hb | (rw [hb]; rfl) | simp_all) (B (decide (s.hi < s.lo))))) <| zA (B (((decide (s.lo < 0)) || (decide (1000 < s.hi))) || (decide (s.hi < s.lo)))) rfl ?_;refine s_nil ?_;refine W.ret ?_
 have ab := M.e_pure hM
 exact ⟨_, resE_tmp rfl, ⟨(((decide (s.lo < 0)) || (decide (1000 < s.hi))) || (decide (s.hi < s.lo))), ab, rfl, (H.pk [])⟩⟩

def zcr (l : List Int) (aa : Int) : Nat -> M (Nat ⊕ (Unit ⊕ Unit)) := fun i =>
  bif decide ((i : Int) < (l.length : Int)) then (
  M.grd (decide ((i : Int) < (l.length : Int))) <|
  M.grd (decide ((-9223372036854775808 : Int) <= (aa - 1)) && decide ((aa - 1) <= (9223372036854775807 : Int))) <|
  M.bind (zaj (l.getD i 0) 0 (aa - 1)) fun r2 =>
  M.grd ((!((!r2) && (decide (0 < (i : Int)))) || (decide ((-9223372036854775808 : Int) <= ((i : Int) - 1)) && decide (((i : Int) - 1) <= (9223372036854775807 : Int))))) <|
  M.grd ((!((!r2) && (decide (0 < (i : Int)))) || (decide ((0 : Int) <= ((i : Int) - 1)) && decide (((i : Int) - 1) < (l.length : Int))))) <|
  bif (r2 || ((decide (0 < (i : Int))) && (decide ((l.getD i 0) <= (l.getD (Int.toNat ((i : Int) - 1)) 0))))) then (
  M.pure (.inr (.inl ())))
  else (
  M.pure (.inl (i + 1))))
  else (
  M.pure (.inr (.inr ())))
def zb7 (l : List Int) (aa : Int) : M Bool :=
  M.bind (M.iter (zcr l aa) 0) fun x_ => match x_ with
  | (.inl (_ : Unit)) => (
  M.pure true)
  | (.inr (_ : Unit)) => (
  M.pure false)
theorem zdP {R : List Chunk} {av : Cells} {ae : Value} (l : List Int) (ag : Int) (al : Reads R av) (ah : Sl av ae l) {r : Bool} (hM : (zb7 l ag).Ends r) (w : World) (H : St w w [] R) : Ret Tryz.prog 70 #[ae, I ag] w fun v w' => ∃ (y0 : Bool), y0 = r /\ v = B y0 /\ St w w' [] R := by
 refine ret_of_W Tryz.func70 rfl rfl rfl <| W.seq <| W.region rfl <| zA (B false) rfl <| s_nil <| W.seq <| W.seq <| W.region rfl <| zA (I 0) rfl <| s_nil <| W.block ?_;obtain ⟨az, am, aw⟩ := M.e_bind hM
 obtain ⟨aF, am⟩ := M.e_iter am
 refine W.loop (fun m σ W => ∃ (i : Nat) (ρ : Env), σ = upds ρ [(0, ae), (1, I ag), (5, I (i : Int))] /\ M.iterN (zcr l ag) m i = some az /\ St w W [] R) ?_ ?_
 ·exact ⟨_, 0, _, upds_of _ _ ⟨rfl, rfl, rfl, trivial⟩, am, H⟩
 rintro aG σ aH ⟨i, ρ, rfl, ax, H⟩
 obtain ⟨aA, aB, aI, hM, ao⟩ := M.e_iterN ax
 simp only [zcr] at hM
 clear ax;refine W.seq <| W.seq <| W.region rfl <| zM (I (i : Int)) rfl <| zM ae rfl ?_
 have aJ := (ah).len_le
 refine s_val (x_lenS T22.und rfl ah) <| zC (i : Int) (l.length : Int) (decide ((i : Int) < (l.length : Int))) rfl rfl rfl <| s_nil ?_
 refine W.cond (decide ((i : Int) < (l.length : Int))) rfl (fun aj => ?_) (fun aj => ?_)
 ·replace hM := M.e_t hM aj
  replace aj := dI aj
  refine W.skip <| W.seq <| W.block <| W.seq ?_;refine W.draw (fun W => St w W [] R) [(0, true), (1, true), (2, true), (3, true), (4, true), (5, true), (6, false), (7, true), (8, true), (9, true), (10, true), (11, true), (12, true), (13, true), (14, true), (15, true), (16, true), (17, true), (18, true), (19, true), (20, true), (21, true), (22, true)] mixed (by decide +kernel) rfl ?_;intro aK aa;replace H := H.ext aa;clear aa
  refine ⟨(H.pk []), ?_⟩
  refine d_q rfl (fun w' H => x_mv (v := ae) rfl) <| d_q rfl (fun w' H => x_mv (v := I (i : Int)) rfl) ?_;obtain ⟨aL, hM⟩ := M.e_gd hM;refine d_q rfl (fun w' H => x_ix (v := vat ae 1 (Int.toNat (i : Int))) rfl rfl (Sl.ix (α := Int) T22.und T22.size ah (by omega) (by omega))) <| d_q rfl (fun w' H => x_ld (v := I (l.getD i 0)) rfl (ld_sc Sc3 (At.mono (Int_at ah (i := (i : Int)) (by omega) (by omega)) (al.at H)))) <| d_q rfl (fun w' H => x_mv (v := I ag) rfl) ?_;obtain ⟨aM, hM⟩ := M.e_gd hM;refine d_q rfl (fun w' H => x_ari (r := ag - 1) rfl rfl rfl (by omega)) <| d_l rfl ?_;obtain ⟨aN, aC, hM⟩ := M.e_bind hM;refine s_call cf49 [I (l.getD i 0), I 0, I (ag - 1)] rfl (zar (l.getD i 0) 0 (ag - 1) aC _ (H.gt 0)) ?_
  rintro vq aO ⟨r2, rfl, hvq, ay⟩
  subst vq;(try dsimp only at hM);replace H := H.bk ay;clear ay
  refine s_nil ⟨(H.pk []), ?_⟩
  refine d_q rfl (fun w' H => x_mv (v := B r2) rfl) <| d_qg (!r2) rfl (gy_f rfl) (fun hg => (fun w' H => x_mv (v := I (i : Int)) rfl)) <| d_qg (!r2) rfl (gy_f rfl) (fun hg => (fun w' H => x_cmp (kd := .i64) (r := decide (0 < (i : Int))) (gd_of hg (I (i : Int))) rfl rfl)) <| d_qg (!r2) rfl (gy_f rfl) (fun hg => (fun w' H => x_mv (v := B (decide (0 < (i : Int)))) (gd_of hg (B (decide (0 < (i : Int))))))) <| d_qg ((!r2) && (decide (0 < (i : Int)))) rfl (gy_gt rfl rfl) (fun hg => (fun w' H => x_mv (v := ae) rfl)) <| d_qg ((!r2) && (decide (0 < (i : Int)))) rfl (gy_gt rfl rfl) (fun hg => (fun w' H => x_mv (v := I (i : Int)) rfl)) <| d_qg ((!r2) && (decide (0 < (i : Int)))) rfl (gy_gt rfl rfl) (fun hg => (fun w' H => x_ix (v := vat ae 1 (Int.toNat (i : Int))) (gd_of hg (ae)) (gd_of hg (I (i : Int))) (Sl.ix (α := Int) T22.und T22.size ah (by first | omega | (have aa := hg; simp at aa; omega)) (by first | omega | (have aa := hg; simp at aa; omega))))) <| d_qg ((!r2) && (decide (0 < (i : Int)))) rfl (gy_gt rfl rfl) (fun hg => (fun w' H => x_ld (v := I (l.getD i 0)) (gd_of hg (vat ae 1 (Int.toNat (i : Int)))) (ld_sc Sc3 (At.mono (Int_at ah (i := (i : Int)) (by first | omega | (have aa := hg; simp at aa; omega)) (by first | omega | (have aa := hg; simp at aa; omega))) (al.at H))))) <| d_qg ((!r2) && (decide (0 < (i : Int)))) rfl (gy_gt rfl rfl) (fun hg => (fun w' H => x_mv (v := ae) rfl)) <| d_qg ((!r2) && (decide (0 < (i : Int)))) rfl (gy_gt rfl rfl) (fun hg => (fun w' H => x_mv (v := I (i : Int)) rfl)) ?_;obtain ⟨ai, hM⟩ := M.e_grd hM
  replace ai := M.imp_of ai
  simp only [Bool.and_eq_true, decide_eq_true_eq] at ai
  refine d_qg ((!r2) && (decide (0 < (i : Int)))) rfl (gy_gt rfl rfl) (fun hg => (fun w' H => x_ari (r := (i : Int) - 1) (gd_of hg (I (i : Int))) rfl rfl (by have ab := ai.resolve_left (by rw [hg]; decide); first | exact ab | exact ab.1 | exact ab.2 | omega | (have aa := hg; simp at aa; omega)))) ?_;obtain ⟨ak, hM⟩ := M.e_grd hM
  replace ak := M.imp_of ak
  simp only [Bool.and_eq_true, decide_eq_true_eq] at ak
  refine d_qg ((!r2) && (decide (0 < (i : Int)))) rfl (gy_gt rfl rfl) (fun hg => (fun w' H => x_ix (v := vat ae 1 (Int.toNat ((i : Int) - 1))) (gd_of hg (ae)) (gd_of hg (I ((i : Int) - 1))) (Sl.ix (α := Int) T22.und T22.size ah (by have ab := ai.resolve_left (by rw [hg]; decide); have ac := ak.resolve_left (by rw [hg]; decide); first | exact ab | exact ab.1 | exact ab.2 | exact ac | exact ac.1 | exact ac.2 | omega | (have aa := hg; simp at aa; omega)) (by have ab := ai.resolve_left (by rw [hg]; decide); have ac := ak.resolve_left (by rw [hg]; decide); first | exact ab | exact ab.1 | exact ab.2 | exact ac | exact ac.1 | exact ac.2 | omega | (have aa := hg; simp at aa; omega))))) <| d_qg ((!r2) && (decide (0 < (i : Int)))) rfl (gy_gt rfl rfl) (fun hg => (fun w' H => x_ld (v := I (l.getD (Int.toNat ((i : Int) - 1)) 0)) (gd_of hg (vat ae 1 (Int.toNat ((i : Int) - 1)))) (ld_sc Sc3 (At.mono (Int_at ah (i := (i : Int) - 1) (by have ab := ai.resolve_left (by rw [hg]; decide); have ac := ak.resolve_left (by rw [hg]; decide); first | exact ab | exact ab.1 | exact ab.2 | exact ac | exact ac.1 | exact ac.2 | omega | (have aa := hg; simp at aa; omega)) (by have ab := ai.resolve_left (by rw [hg]; decide); have ac := ak.resolve_left (by rw [hg]; decide); first | exact ab | exact ab.1 | exact ab.2 | exact ac | exact ac.1 | exact ac.2 | omega | (have aa := hg; simp at aa; omega))) (al.at H))))) <| d_qg ((!r2) && (decide (0 < (i : Int)))) rfl (gy_gt rfl rfl) (fun hg => (fun w' H => x_cmp (kd := .i64) (r := decide ((l.getD i 0) <= (l.getD (Int.toNat ((i : Int) - 1)) 0))) (gd_of hg (I (l.getD i 0))) (gd_of hg (I (l.getD (Int.toNat ((i : Int) - 1)) 0))) rfl)) <| d_qg (!r2) rfl (gy_f rfl) (fun hg => (fun w' H => x_pand (b := decide (0 < (i : Int))) (r := decide ((l.getD i 0) <= (l.getD (Int.toNat ((i : Int) - 1)) 0))) (gd_of hg (B (decide (0 < (i : Int))))) (fun hb => gd_of (c := ((!r2) && (decide (0 < (i : Int))))) (by first | exact hb | (rw [hb]; rfl) | simp_all) (B (decide ((l.getD i 0) <= (l.getD (Int.toNat ((i : Int) - 1)) 0))))) rfl)) <| d_q rfl (fun w' H => x_por (b := r2) (r := ((decide (0 < (i : Int))) && (decide ((l.getD i 0) <= (l.getD (Int.toNat ((i : Int) - 1)) 0))))) rfl rfl (fun hb => gd_of (c := !r2) (by first | exact hb | (rw [hb]; rfl) | simp_all) (B ((decide (0 < (i : Int))) && (decide ((l.getD i 0) <= (l.getD (Int.toNat ((i : Int) - 1)) 0))))))) ?_;refine d_nil ?_
  refine W.cond (r2 || ((decide (0 < (i : Int))) && (decide ((l.getD i 0) <= (l.getD (Int.toNat ((i : Int) - 1)) 0))))) rfl (fun aq => ?_) (fun aq => ?_)
  ·replace hM := M.e_t hM aq;refine W.seq <| W.region rfl <| zA (B true) rfl <| s_nil ?_;refine W.ret ?_
   have aD := M.e_inr hM ao
   subst aD;replace hM := aw;(try dsimp only at hM)
   have au := M.e_pure hM
   exact ⟨_, resE_tmp rfl, ⟨true, au, rfl, H⟩⟩
  replace hM := M.e_f hM aq;refine W.skip <| W.region rfl <| zM (I (i : Int)) rfl <| zR (i : Int) 1 ((i : Int) + 1) rfl rfl rfl (by omega) <| zA (I ((i : Int) + 1)) rfl <| s_nil ?_
  exact ⟨aA, aB, i + 1, _, upds_of _ _ ⟨rfl, rfl, rfl, trivial⟩, M.e_inl hM ao, H⟩
 replace hM := M.e_f hM aj
 replace aj := dI aj
 refine W.exit ?_
 have aE := M.e_inr hM ao
 subst aE;replace hM := aw;(try dsimp only at hM);refine W.seq <| W.region rfl <| zA (B false) rfl <| s_nil ?_;refine W.ret ?_
 have au := M.e_pure hM
 exact ⟨_, resE_tmp rfl, ⟨false, au, rfl, H⟩⟩

def zcd (aa : List Int) : (Int × (List Int)) -> M ((Int × (List Int)) ⊕ ((List Int) × (List Int))) := fun (station2, l) =>
  bif station2 != (-1) then (
  M.grd (decide ((l.length + ([(station2 : Int)]).length) * 8 <= 140737488355328)) <|
  M.grd (decide ((0 : Int) <= station2) && decide (station2 < (aa.length : Int))) <|
  M.pure (.inl (aa.getD (Int.toNat station2) 0, l ++ ([(station2 : Int)]))))
  else (
  M.pure (.inr (l, l)))
def zcK (aa : List Int) (ab : List Span) (ac : List Int) (ae : List Town) (ag ah : Int) (ai : List Flood) (station : Int) : M (List Int) :=
  M.bind (M.iter (zcd aa) (station, [])) fun (l2, l3) =>
  M.pure l3
theorem zeD {R : List Chunk} {aq : Cells} {ac : Value} {au : Cells} {ag : Value} {av : Cells} {ah : Value} {aw : Cells} {ai : Value} {ax : Cells} {aj : Value} (ae : List Int) (ay : List Span) (az : List Int) (aA : List Town) (ak : Int) (al : Int) (aB : List Flood) (station : Int) (aG : Reads R aq) (aC : Sl aq ac ae) (aO : Reads R au) (aP : Sl au ag ay) (aQ : Reads R av) (aR : Sl av ah az) (aS : Reads R aw) (aT : Sl aw ai aA) (aU : Reads R ax) (aV : Sl ax aj aB) {r : (List Int)} (hM : (zcK ae ay az aA ak al aB station).Ends r) (w : World) (H : St w w [] R) : Ret Tryz.prog 71 #[.agg #[ac, ag, ah, ai, I ak, I al, aj], I station] w fun v w' => ∃ (y0 : List Int) (u0 : Value), y0 = r /\ v = u0 /\ St w w' [cOwn (α := Int) 3 u0 y0] R := by
 refine ret_of_W Tryz.func71 rfl rfl rfl <| W.seq <| W.region rfl ?_;refine t_bx [ac, ag, ah, ai, I ak, I al, aj] H rfl ?_;intro am aW H;refine zA (.slice none 0 0) rfl <| s_nil <| W.seq <| W.region rfl <| zA (.slice none 0 0) rfl <| s_nil <| W.seq <| W.block ?_
 replace H := H.nilOwn (α := Int) 3
 obtain ⟨aH, ao, aI⟩ := M.e_bind hM
 obtain ⟨aX, ao⟩ := M.e_iter ao
 refine W.loop (fun m σ W => ∃ (station2 : Int) (l : List Int) (aa : Value) (ρ : Env), σ = upds ρ [(1, I station2), (2, Pq am), (5, aa)] /\ M.iterN (zcd ae) m (station2, l) = some aH /\ St w W [cOwn (α := Int) 3 aa l, cBlk am [ac, ag, ah, ai, I ak, I al, aj] 37] R) ?_ ?_
 ·exact ⟨_, station, [], (.slice none 0 0), _, upds_of _ _ ⟨rfl, rfl, rfl, trivial⟩, ao, H⟩
 rintro aY σ aZ ⟨station2, l, aa, ρ, rfl, aD, H⟩
 obtain ⟨aJ, aK, a6, hM, aE⟩ := M.e_iterN aD
 simp only [zcd] at hM
 clear aD;refine W.seq <| W.seq <| W.region rfl <| zM (I station2) rfl <| zC station2 (-1) (station2 != (-1)) rfl rfl rfl <| s_nil ?_
 refine W.cond (station2 != (-1)) rfl (fun ab => ?_) (fun ab => ?_)
 ·replace hM := M.e_t hM ab
  replace ab := dI ab
  refine W.skip <| W.block <| W.seq <| W.region rfl <| zM aa rfl <| zM (I station2) rfl ?_;refine t_bs (α := Int) T22 [I station2] [(station2 : Int)] H rfl (.cons rfl (Flat.rep_enc _ (station2 : Int)) <| .nil) rfl rfl rfl ?_;intro aL a7 H;obtain ⟨a8, hM⟩ := M.e_gd hM;refine t_app (α := Int) (k := 1) (l := l) (l2 := [(station2 : Int)]) (l' := l ++ ([(station2 : Int)])) (vy := aL) T22 rfl H rfl rfl rfl (H.os 0) (H.ol 0) (rfl) (by first | omega | (simp only [List.length_nil] at *; omega)) ?_;intro aF ba H;replace H := H.nf;refine zA aF rfl <| s_nil <| W.region rfl <| s_val (x_fa (v := Pq am) rfl (fa_blk (o := 0) Fd37_0 Sz22)) <| s_val (x_ld (v := ac) rfl (ldb_sc Sc22 (H.bl 2) rfl)) <| zM (I station2) rfl ?_;obtain ⟨bc, hM⟩ := M.e_gd hM;refine s_val (x_ix (v := vat ac 1 (Int.toNat station2)) rfl rfl (Sl.ix (α := Int) T22.und T22.size aC (by omega) (by omega))) <| s_val (x_ld (v := I (ae.getD (Int.toNat station2) 0)) rfl (ld_sc Sc3 (At.mono (Int_at aC (i := station2) (by omega) (by omega)) (aG.at H)))) <| zA (I (ae.getD (Int.toNat station2) 0)) rfl <| s_nil ?_
  exact ⟨aJ, aK, ae.getD (Int.toNat station2) 0, l ++ ([(station2 : Int)]), aF, _, upds_of _ _ ⟨rfl, rfl, rfl, trivial⟩, M.e_inl hM aE, (H.pk [1, 2])⟩
 replace hM := M.e_f hM ab
 replace ab := dI ab
 refine W.exit ?_
 have aM := M.e_inr hM aE
 subst aM;replace hM := aI;(try dsimp only at hM);refine W.seq <| W.region rfl <| zM aa rfl <| zA aa rfl <| s_nil ?_;refine W.ret ?_
 have aN := M.e_pure hM
 exact ⟨_, resE_tmp rfl, ⟨l, aa, aN, rfl, (H.pk [0])⟩⟩

def zbu (aa : List Int) (ab : List Span) : Nat -> M (Nat ⊕ (Int ⊕ Unit)) := fun i =>
  bif decide ((i : Int) < (aa.length : Int)) then (
  M.grd (decide ((i : Int) < (aa.length : Int))) <|
  M.bind (M.opt ((aa.getD i 0) != (-1)) (zaj (aa.getD i 0) ((i : Int) + 1) ((aa.length : Int) - 1)) false) fun r4 =>
  bif (((aa.getD i 0) != (-1)) && r4) then (
  M.pure (.inr (.inl 2)))
  else (
  M.grd (decide ((i : Int) < (ab.length : Int))) <|
  M.bind (zcv (ab.getD i default)) fun r5 =>
  bif r5 then (
  M.pure (.inr (.inl 130)))
  else (
  M.pure (.inl (i + 1)))))
  else (
  M.pure (.inr (.inr ())))
def zbg (ab : List Int) (aa : List Town) : Nat -> M (Nat ⊕ (Unit ⊕ Unit)) := fun i2 =>
  bif decide ((i2 : Int) < (aa.length : Int)) then (
  M.grd (decide ((i2 : Int) < (aa.length : Int))) <|
  M.bind (zaj ((aa.getD i2 default).station) 0 ((ab.length : Int) - 1)) fun r7 =>
  M.bind (M.opt (!r7) (zaj ((aa.getD i2 default).lead) 0 1000) false) fun r8 =>
  M.bind (M.opt (!(r7 || r8)) (zaj ((aa.getD i2 default).alarm) 0 2000) false) fun r9 =>
  bif ((r7 || r8) || r9) then (
  M.pure (.inr (.inl ())))
  else (
  M.pure (.inl (i2 + 1))))
  else (
  M.pure (.inr (.inr ())))
def zbn (aa : List Int) (ab : List Flood) (i3 : Nat) : (Bool × Nat) -> M ((Bool × Nat) ⊕ (Int × Bool)) := fun (spring, k) =>
  bif decide ((k : Int) < (aa.length : Int)) then (
  M.grd ((!(!spring) || (decide ((k : Int) < (aa.length : Int))))) <|
  M.pure (.inl ((spring || ((aa.getD k 0) == ((ab.getD i3 default).spring))), k + 1)))
  else (
  M.pure (.inr ((ab.getD i3 default).spring, spring)))
def zbj (aa : List Flood) (i3 : Nat) : Nat -> M (Nat ⊕ (Unit ⊕ Unit)) := fun k2 =>
  bif decide ((k2 : Int) < (((aa.getD i3 default).stages).length : Int)) then (
  M.grd (decide ((k2 : Int) < (((aa.getD i3 default).stages).length : Int))) <|
  M.bind (zaj (((aa.getD i3 default).stages).getD k2 0) 0 2000) fun ab =>
  bif ab then (
  M.pure (.inr (.inl ())))
  else (
  M.pure (.inl (k2 + 1))))
  else (
  M.pure (.inr (.inr ())))
def zdm (aa : List Flood) (i3 : Nat) : Nat -> M (Nat ⊕ (Unit ⊕ Unit)) := fun k2 =>
  bif decide ((k2 : Int) < (((aa.getD i3 default).stages).length : Int)) then (
  M.grd (decide ((k2 : Int) < (((aa.getD i3 default).stages).length : Int))) <|
  M.bind (zaj (((aa.getD i3 default).stages).getD k2 0) 0 2000) fun ab =>
  bif ab then (
  M.pure (.inr (.inl ())))
  else (
  M.pure (.inl (k2 + 1))))
  else (
  M.pure (.inr (.inr ())))
def zbp (ac : List Int) (ae : List Span) (ab : List Int) (ag : List Town) (ah ai : Int) (aa : List Flood) : Nat -> M (Nat ⊕ (Int ⊕ Unit)) := fun i3 =>
  bif decide ((i3 : Int) < (aa.length : Int)) then (
  M.grd (decide ((i3 : Int) < (aa.length : Int))) <|
  M.bind (M.iter (zbn ab aa i3) (false, 0)) fun (s2, spring2) =>
  bif !(!spring2) then (
  M.bind (zcK ac ae ab ag ah ai aa s2) fun aj =>
  bif ((!spring2) || ((((aa.getD i3 default).stages).length : Int) != (aj.length : Int))) then (
  M.pure (.inr (.inl 2)))
  else (
  M.bind (M.iter (zbj aa i3) 0) fun x_ => match x_ with
  | (.inl (_ : Unit)) => (
  M.pure (.inr (.inl 130)))
  | (.inr (_ : Unit)) => (
  M.pure (.inl (i3 + 1)))))
  else (
  bif ((!spring2) || ((((aa.getD i3 default).stages).length : Int) != 0)) then (
  M.pure (.inr (.inl 2)))
  else (
  M.bind (M.iter (zdm aa i3) 0) fun x_ => match x_ with
  | (.inl (_ : Unit)) => (
  M.pure (.inr (.inl 130)))
  | (.inr (_ : Unit)) => (
  M.pure (.inl (i3 + 1))))))
  else (
  M.pure (.inr (.inr ())))
def zae (aa : List Int) (ab : List Span) (ac : List Int) (ae : List Town) (ag ah : Int) (ai : List Flood) : M Int :=
  M.bind (zaj (aa.length : Int) 1 12) fun r2 =>
  M.bind (M.opt (!(r2 || ((ab.length : Int) != (aa.length : Int)))) (zaj (ac.length : Int) 1 8) false) fun r3 =>
  bif ((((r2 || ((ab.length : Int) != (aa.length : Int))) || r3) || (decide (8 < (ae.length : Int)))) || (decide (20 < (ai.length : Int)))) then (
  M.pure 3)
  else (
  M.bind (M.iter (zbu aa ab) 0) fun x_ => match x_ with
  | (.inl s) => (
  M.pure s)
  | (.inr (_ : Unit)) => (
  M.bind (zb7 ac (aa.length : Int)) fun r6 =>
  bif r6 then (
  M.pure 9)
  else (
  M.bind (M.iter (zbg aa ae) 0) fun x_ => match x_ with
  | (.inl (_ : Unit)) => (
  M.pure 130)
  | (.inr (_ : Unit)) => (
  M.bind (zcv (⟨(ag : Int), (ah : Int)⟩ : Span)) fun aj =>
  bif aj then (
  M.pure 130)
  else (
  M.bind (M.iter (zbp aa ab ac ae ag ah ai) 0) fun x_ => match x_ with
  | (.inl s3) => (
  M.pure s3)
  | (.inr (_ : Unit)) => (
  M.pure 0))))))
theorem zb0 {R : List Chunk} {bw : Cells} {ak : Value} {bx : Cells} {aw : Value} {bz : Cells} {ai : Value} {bA : Cells} {aq : Value} {bB : Cells} {au : Value} (aa : List Int) (ae : List Span) (ax : List Int) (ac : List Town) (al : Int) (am : Int) (ab : List Flood) (aW : Reads R bw) (aD : Sl bw ak aa) (bC : Reads R bx) (aP : Sl bx aw ae) (aX : Reads R bz) (aB : Sl bz ai ax) (bD : Reads R bA) (aE : Sl bA aq ac) (aU : Reads R bB) (aF : Sl bB au ab) {r : Int} (hM : (zae aa ae ax ac al am ab).Ends r) (w : World) (H : St w w [] R) : Ret Tryz.prog 20 #[.agg #[ak, aw, ai, aq, I al, I am, au]] w fun v w' => ∃ (y0 : Int), y0 = r /\ v = I y0 /\ St w w' [] R := by
 refine ret_of_W Tryz.func20 rfl rfl rfl <| W.seq <| W.region rfl ?_;refine t_bx [ak, aw, ai, aq, I al, I am, au] H rfl ?_;intro ag cQ H;refine zA (I 0) rfl <| s_nil <| W.seq <| W.region rfl <| s_val (x_fa (v := Pq ag) rfl (fa_blk (o := 0) Fd37_0 Sz22)) <| s_val (x_ld (v := ak) rfl (ldb_sc Sc22 (H.bl 0) rfl)) ?_
 have cR := (aD).len_le
 refine s_val (x_lenS T22.und rfl aD) <| zA (I (aa.length : Int)) rfl <| s_nil <| W.seq <| W.seq <| W.region rfl <| zM (I (aa.length : Int)) rfl ?_;obtain ⟨cS, bR, hM⟩ := M.e_bind hM;refine s_call cf49 [I (aa.length : Int), I 1, I 12] rfl (zar (aa.length : Int) 1 12 bR _ (H.gt 1)) ?_
 rintro vq cT ⟨r2, rfl, hvq, ao⟩
 subst vq;(try dsimp only at hM);replace H := H.bk ao;clear ao;refine zM (B r2) rfl <| g_val (!r2) (gy_f rfl) (fun hg => x_fa (v := Oq ag 1) rfl (fa_blk (o := 0) Fd37_1 Sz23)) <| g_val (!r2) (gy_f rfl) (fun hg => x_ld (v := aw) (gd_of hg (Oq ag 1)) (ldb_sc Sc23 (H.bl 0) rfl)) ?_
 have cU := (aP).len_le
 refine g_val (!r2) (gy_f rfl) (fun hg => x_lenS T23.und (gd_of hg (aw)) aP) <| g_val (!r2) (gy_f rfl) (fun hg => x_mv (v := I (aa.length : Int)) rfl) <| g_val (!r2) (gy_f rfl) (fun hg => x_cmp (kd := .i64) (r := (ae.length : Int) != (aa.length : Int)) (gd_of hg (I (ae.length : Int))) (gd_of hg (I (aa.length : Int))) rfl) <| s_val (x_por (b := r2) (r := (ae.length : Int) != (aa.length : Int)) rfl rfl (fun hb => gd_of (c := !r2) (by first | exact hb | (rw [hb]; rfl) | simp_all) (B ((ae.length : Int) != (aa.length : Int))))) <| zM (B (r2 || ((ae.length : Int) != (aa.length : Int)))) rfl <| g_val (!(r2 || ((ae.length : Int) != (aa.length : Int)))) (gy_f rfl) (fun hg => x_fa (v := Oq ag 2) rfl (fa_blk (o := 0) Fd37_2 Sz22)) <| g_val (!(r2 || ((ae.length : Int) != (aa.length : Int)))) (gy_f rfl) (fun hg => x_ld (v := ai) (gd_of hg (Oq ag 2)) (ldb_sc Sc22 (H.bl 0) rfl)) ?_
 have cV := (aB).len_le
 refine g_val (!(r2 || ((ae.length : Int) != (aa.length : Int)))) (gy_f rfl) (fun hg => x_lenS T22.und (gd_of hg (ai)) aB) ?_;obtain ⟨r3, bS, hM⟩ := M.e_bind hM;refine t_gcall (!(r2 || ((ae.length : Int) != (aa.length : Int)))) (gy_f rfl) cf49 (B r3) (fun _ => [I (ax.length : Int), I 1, I 8]) (fun hg => lst3 (gd_of hg (I (ax.length : Int))) rfl rfl) H (fun hg => (zar (ax.length : Int) 1 8 (M.e_opt bS hg) _ (H.give (A := []) rfl)).mono fun v_ w_ ⟨y_, ah, aG, H_⟩ => by subst ah; exact ⟨aG, H.via H_⟩) ?_;intro cW H;refine s_val (x_por (b := (r2 || ((ae.length : Int) != (aa.length : Int)))) (r := r3) rfl rfl (fun hb => gd_of (c := !(r2 || ((ae.length : Int) != (aa.length : Int)))) (by first | exact hb | (rw [hb]; rfl) | simp_all) (B r3))) <| zM (B ((r2 || ((ae.length : Int) != (aa.length : Int))) || r3)) rfl <| g_val (!((r2 || ((ae.length : Int) != (aa.length : Int))) || r3)) (gy_f rfl) (fun hg => x_fa (v := Oq ag 3) rfl (fa_blk (o := 0) Fd37_3 Sz34)) <| g_val (!((r2 || ((ae.length : Int) != (aa.length : Int))) || r3)) (gy_f rfl) (fun hg => x_ld (v := aq) (gd_of hg (Oq ag 3)) (ldb_sc Sc34 (H.bl 0) rfl)) ?_
 have cX := (aE).len_le
 refine g_val (!((r2 || ((ae.length : Int) != (aa.length : Int))) || r3)) (gy_f rfl) (fun hg => x_lenS T34.und (gd_of hg (aq)) aE) <| g_val (!((r2 || ((ae.length : Int) != (aa.length : Int))) || r3)) (gy_f rfl) (fun hg => x_cmp (kd := .i64) (r := decide (8 < (ac.length : Int))) (gd_of hg (I (ac.length : Int))) rfl rfl) <| s_val (x_por (b := ((r2 || ((ae.length : Int) != (aa.length : Int))) || r3)) (r := decide (8 < (ac.length : Int))) rfl rfl (fun hb => gd_of (c := !((r2 || ((ae.length : Int) != (aa.length : Int))) || r3)) (by first | exact hb | (rw [hb]; rfl) | simp_all) (B (decide (8 < (ac.length : Int)))))) <| zM (B (((r2 || ((ae.length : Int) != (aa.length : Int))) || r3) || (decide (8 < (ac.length : Int))))) rfl <| g_val (!(((r2 || ((ae.length : Int) != (aa.length : Int))) || r3) || (decide (8 < (ac.length : Int))))) (gy_f rfl) (fun hg => x_fa (v := Oq ag 6) rfl (fa_blk (o := 0) Fd37_5 Sz35)) <| g_val (!(((r2 || ((ae.length : Int) != (aa.length : Int))) || r3) || (decide (8 < (ac.length : Int))))) (gy_f rfl) (fun hg => x_ld (v := au) (gd_of hg (Oq ag 6)) (ldb_sc Sc35 (H.bl 0) rfl)) ?_
 have cY := (aF).len_le
 refine g_val (!(((r2 || ((ae.length : Int) != (aa.length : Int))) || r3) || (decide (8 < (ac.length : Int))))) (gy_f rfl) (fun hg => x_lenS T35.und (gd_of hg (au)) aF) <| g_val (!(((r2 || ((ae.length : Int) != (aa.length : Int))) || r3) || (decide (8 < (ac.length : Int))))) (gy_f rfl) (fun hg => x_cmp (kd := .i64) (r := decide (20 < (ab.length : Int))) (gd_of hg (I (ab.length : Int))) rfl rfl) <| s_val (x_por (b := (((r2 || ((ae.length : Int) != (aa.length : Int))) || r3) || (decide (8 < (ac.length : Int))))) (r := decide (20 < (ab.length : Int))) rfl rfl (fun hb => gd_of (c := !(((r2 || ((ae.length : Int) != (aa.length : Int))) || r3) || (decide (8 < (ac.length : Int))))) (by first | exact hb | (rw [hb]; rfl) | simp_all) (B (decide (20 < (ab.length : Int)))))) <| s_nil ?_
 refine W.cond ((((r2 || ((ae.length : Int) != (aa.length : Int))) || r3) || (decide (8 < (ac.length : Int)))) || (decide (20 < (ab.length : Int)))) rfl (fun aY => ?_) (fun aY => ?_)
 ·replace hM := M.e_t hM aY;refine W.seq <| W.region rfl <| zA (I 3) rfl <| s_nil ?_;refine W.ret ?_
  have ah := M.e_pure hM
  exact ⟨_, resE_tmp rfl, ⟨3, ah, rfl, (H.pk [])⟩⟩
 replace hM := M.e_f hM aY;refine W.skip <| W.seq <| W.seq <| W.region rfl <| zA (I 0) rfl <| s_nil <| W.block ?_;obtain ⟨bT, aZ, a6⟩ := M.e_bind hM
 obtain ⟨aQ, aZ⟩ := M.e_iter aZ
 refine W.loop (fun m σ W => ∃ (i : Nat) (ρ : Env), σ = upds ρ [(1, Pq ag), (3, I (aa.length : Int)), (4, I (i : Int))] /\ M.iterN (zbu aa ae) m i = some bT /\ St w W [cBlk ag [ak, aw, ai, aq, I al, I am, au] 37] R) ?_ ?_
 ·exact ⟨_, 0, _, upds_of _ _ ⟨rfl, rfl, rfl, trivial⟩, aZ, H⟩
 rintro cZ σ c6 ⟨i, ρ, rfl, bE, H⟩
 obtain ⟨bU, bV, c7, hM, aV⟩ := M.e_iterN bE
 simp only [zbu] at hM
 clear bE;refine W.seq <| W.seq <| W.region rfl <| zM (I (i : Int)) rfl <| zM (I (aa.length : Int)) rfl <| zC (i : Int) (aa.length : Int) (decide ((i : Int) < (aa.length : Int))) rfl rfl rfl <| s_nil ?_
 refine W.cond (decide ((i : Int) < (aa.length : Int))) rfl (fun aH => ?_) (fun aH => ?_)
 ·replace hM := M.e_t hM aH
  replace aH := dI aH
  refine W.skip <| W.seq <| W.block <| W.seq <| W.seq <| W.region rfl <| s_val (x_fa (v := Pq ag) rfl (fa_blk (o := 0) Fd37_0 Sz22)) <| s_val (x_ld (v := ak) rfl (ldb_sc Sc22 (H.bl 0) rfl)) <| zM (I (i : Int)) rfl ?_;obtain ⟨c8, hM⟩ := M.e_gd hM;refine s_val (x_ix (v := vat ak 1 (Int.toNat (i : Int))) rfl rfl (Sl.ix (α := Int) T22.und T22.size aD (by omega) (by omega))) <| s_val (x_ld (v := I (aa.getD i 0)) rfl (ld_sc Sc3 (At.mono (Int_at aD (i := (i : Int)) (by omega) (by omega)) (aW.at H)))) <| zC (aa.getD i 0) (-1) ((aa.getD i 0) != (-1)) rfl rfl rfl <| zM (B ((aa.getD i 0) != (-1))) rfl <| g_val ((aa.getD i 0) != (-1)) (gy_t rfl) (fun hg => x_fa (v := Pq ag) rfl (fa_blk (o := 0) Fd37_0 Sz22)) <| g_val ((aa.getD i 0) != (-1)) (gy_t rfl) (fun hg => x_ld (v := ak) (gd_of hg (Pq ag)) (ldb_sc Sc22 (H.bl 0) rfl)) <| g_val ((aa.getD i 0) != (-1)) (gy_t rfl) (fun hg => x_mv (v := I (i : Int)) rfl) <| g_val ((aa.getD i 0) != (-1)) (gy_t rfl) (fun hg => x_ix (v := vat ak 1 (Int.toNat (i : Int))) (gd_of hg (ak)) (gd_of hg (I (i : Int))) (Sl.ix (α := Int) T22.und T22.size aD (by first | omega | (have aj := hg; simp at aj; omega)) (by first | omega | (have aj := hg; simp at aj; omega)))) <| g_val ((aa.getD i 0) != (-1)) (gy_t rfl) (fun hg => x_ld (v := I (aa.getD i 0)) (gd_of hg (vat ak 1 (Int.toNat (i : Int)))) (ld_sc Sc3 (At.mono (Int_at aD (i := (i : Int)) (by first | omega | (have aj := hg; simp at aj; omega)) (by first | omega | (have aj := hg; simp at aj; omega))) (aW.at H)))) <| g_val ((aa.getD i 0) != (-1)) (gy_t rfl) (fun hg => x_mv (v := I (i : Int)) rfl) ?_;refine g_val ((aa.getD i 0) != (-1)) (gy_t rfl) (fun hg => x_ari (r := (i : Int) + 1) (gd_of hg (I (i : Int))) rfl rfl (by first | omega | (have aj := hg; simp at aj; omega))) <| g_val ((aa.getD i 0) != (-1)) (gy_t rfl) (fun hg => x_mv (v := I (aa.length : Int)) rfl) <| g_val ((aa.getD i 0) != (-1)) (gy_t rfl) (fun hg => x_ari (r := (aa.length : Int) - 1) (gd_of hg (I (aa.length : Int))) rfl rfl (by first | omega | (have aj := hg; simp at aj; omega))) ?_;obtain ⟨r4, bW, hM⟩ := M.e_bind hM;refine t_gcall ((aa.getD i 0) != (-1)) (gy_t rfl) cf49 (B r4) (fun _ => [I (aa.getD i 0), I ((i : Int) + 1), I ((aa.length : Int) - 1)]) (fun hg => lst3 (gd_of hg (I (aa.getD i 0))) (gd_of hg (I ((i : Int) + 1))) (gd_of hg (I ((aa.length : Int) - 1)))) H (fun hg => (zar (aa.getD i 0) ((i : Int) + 1) ((aa.length : Int) - 1) (M.e_opt bW hg) _ (H.give (A := []) rfl)).mono fun v_ w_ ⟨y_, ah, aG, H_⟩ => by subst ah; exact ⟨aG, H.via H_⟩) ?_;intro c9 H;refine s_val (x_pand (b := (aa.getD i 0) != (-1)) (r := r4) rfl (fun hb => gd_of (c := (aa.getD i 0) != (-1)) (by first | exact hb | (rw [hb]; rfl) | simp_all) (B r4)) rfl) <| s_nil ?_
  refine W.cond (((aa.getD i 0) != (-1)) && r4) rfl (fun a7 => ?_) (fun a7 => ?_)
  ·replace hM := M.e_t hM a7;refine W.seq <| W.region rfl <| zA (I 2) rfl <| s_nil ?_;refine W.ret ?_
   have bX := M.e_inr hM aV
   subst bX;replace hM := a6;(try dsimp only at hM)
   have ah := M.e_pure hM
   exact ⟨_, resE_tmp rfl, ⟨2, ah, rfl, (H.pk [])⟩⟩
  replace hM := M.e_f hM a7;refine W.skip <| W.seq <| W.region rfl <| s_val (x_fa (v := Oq ag 1) rfl (fa_blk (o := 0) Fd37_1 Sz23)) <| s_val (x_ld (v := aw) rfl (ldb_sc Sc23 (H.bl 0) rfl)) <| zM (I (i : Int)) rfl ?_;obtain ⟨da, hM⟩ := M.e_gd hM;refine s_val (x_ix (v := vat aw 2 (Int.toNat (i : Int))) rfl rfl (Sl.ix (α := Span) T23.und T23.size aP (by omega) (by omega))) <| s_val (x_ld (v := .agg #[I ((ae.getD i default).lo), I ((ae.getD i default).hi)]) rfl (ld_ag Ag26 Sz26 (At.mono (Span_atA aP (i := (i : Int)) (by omega) (by omega)) (bC.at H)))) ?_;obtain ⟨db, bY, hM⟩ := M.e_bind hM;refine s_call cf69 [.agg #[I ((ae.getD i default).lo), I ((ae.getD i default).hi)]] rfl (zdN (ae.getD i default) bY _ (H.gt 1)) ?_
  rintro vq dc ⟨r5, rfl, hvq, ao⟩
  subst vq;(try dsimp only at hM);replace H := H.bk ao;clear ao;refine s_nil ?_
  refine W.cond r5 rfl (fun a8 => ?_) (fun a8 => ?_)
  ·replace hM := M.e_t hM a8;refine W.seq <| W.region rfl <| zA (I 130) rfl <| s_nil ?_;refine W.ret ?_
   have bZ := M.e_inr hM aV
   subst bZ;replace hM := a6;(try dsimp only at hM)
   have ah := M.e_pure hM
   exact ⟨_, resE_tmp rfl, ⟨130, ah, rfl, (H.pk [])⟩⟩
  replace hM := M.e_f hM a8;refine W.skip <| W.region rfl <| zM (I (i : Int)) rfl <| zR (i : Int) 1 ((i : Int) + 1) rfl rfl rfl (by omega) <| zA (I ((i : Int) + 1)) rfl <| s_nil ?_
  exact ⟨bU, bV, i + 1, _, upds_of _ _ ⟨rfl, rfl, rfl, trivial⟩, M.e_inl hM aV, H⟩
 replace hM := M.e_f hM aH
 replace aH := dI aH
 refine W.exit ?_
 have b4 := M.e_inr hM aV
 subst b4;replace hM := a6;(try dsimp only at hM);refine W.seq <| W.seq <| W.region rfl <| s_val (x_fa (v := Oq ag 2) rfl (fa_blk (o := 0) Fd37_2 Sz22)) <| s_val (x_ld (v := ai) rfl (ldb_sc Sc22 (H.bl 0) rfl)) <| zM (I (aa.length : Int)) rfl ?_;obtain ⟨dd, b7, hM⟩ := M.e_bind hM;refine s_call cf70 [ai, I (aa.length : Int)] rfl (zdP ax (aa.length : Int) (aX.app _) aB b7 _ (H.gt 1)) ?_
 rintro vq de ⟨r6, rfl, hvq, ao⟩
 subst vq;(try dsimp only at hM);replace H := H.bk ao;clear ao;refine s_nil ?_
 refine W.cond r6 rfl (fun ba => ?_) (fun ba => ?_)
 ·replace hM := M.e_t hM ba;refine W.seq <| W.region rfl <| zA (I 9) rfl <| s_nil ?_;refine W.ret ?_
  have ah := M.e_pure hM
  exact ⟨_, resE_tmp rfl, ⟨9, ah, rfl, (H.pk [])⟩⟩
 replace hM := M.e_f hM ba;refine W.skip <| W.seq <| W.seq <| W.region rfl <| zA (I 0) rfl <| s_nil <| W.block ?_;obtain ⟨b8, bc, bF⟩ := M.e_bind hM
 obtain ⟨aQ, bc⟩ := M.e_iter bc
 refine W.loop (fun m σ W => ∃ (i2 : Nat) (ρ : Env), σ = upds ρ [(1, Pq ag), (3, I (aa.length : Int)), (5, I (i2 : Int))] /\ M.iterN (zbg aa ac) m i2 = some b8 /\ St w W [cBlk ag [ak, aw, ai, aq, I al, I am, au] 37] R) ?_ ?_
 ·exact ⟨_, 0, _, upds_of _ _ ⟨rfl, rfl, rfl, trivial⟩, bc, H⟩
 rintro dg σ di ⟨i2, ρ, rfl, bG, H⟩
 obtain ⟨b9, ca, dk, hM, bf⟩ := M.e_iterN bG
 simp only [zbg] at hM
 clear bG;refine W.seq <| W.seq <| W.region rfl <| zM (I (i2 : Int)) rfl <| s_val (x_fa (v := Oq ag 3) rfl (fa_blk (o := 0) Fd37_3 Sz34)) <| s_val (x_ld (v := aq) rfl (ldb_sc Sc34 (H.bl 0) rfl)) ?_
 have dq := (aE).len_le
 refine s_val (x_lenS T34.und rfl aE) <| zC (i2 : Int) (ac.length : Int) (decide ((i2 : Int) < (ac.length : Int))) rfl rfl rfl <| s_nil ?_
 refine W.cond (decide ((i2 : Int) < (ac.length : Int))) rfl (fun aI => ?_) (fun aI => ?_)
 ·replace hM := M.e_t hM aI
  replace aI := dI aI
  refine W.skip <| W.seq <| W.block <| W.seq <| W.region rfl <| s_val (x_fa (v := Oq ag 3) rfl (fa_blk (o := 0) Fd37_3 Sz34)) <| s_val (x_ld (v := aq) rfl (ldb_sc Sc34 (H.bl 0) rfl)) <| zM (I (i2 : Int)) rfl ?_;obtain ⟨dr, hM⟩ := M.e_gd hM;refine s_val (x_ix (v := vat aq 3 (Int.toNat (i2 : Int))) rfl rfl (Sl.ix (α := Town) T34.und T34.size aE (by omega) (by omega))) <| s_val (x_ld (v := .agg #[I ((ac.getD i2 default).station), I ((ac.getD i2 default).lead), I ((ac.getD i2 default).alarm)]) rfl (ld_ag Ag92 Sz92 (At.mono (Town_atA aE (i := (i2 : Int)) (by omega) (by omega)) (bD.at H)))) ?_;refine t_alloc (cs := [I 0, I 0, I 0]) H Al92 rfl ?_;intro aR dt H;refine t_sw 0 0 [I ((ac.getD i2 default).station), I ((ac.getD i2 default).lead), I ((ac.getD i2 default).alarm)] (.agg #[I ((ac.getD i2 default).station), I ((ac.getD i2 default).lead), I ((ac.getD i2 default).alarm)]) H rfl rfl Sz92 rfl rfl rfl rfl ?_;intro du H;refine s_nil <| W.seq <| W.region rfl <| s_val (x_fa (v := Pq aR) rfl (fa_blk (o := 0) Fd92_0 Sz3)) <| s_val (x_ld (v := I ((ac.getD i2 default).station)) rfl (ldb_sc Sc3 (H.bl 0) rfl)) <| zM (I (aa.length : Int)) rfl <| zR (aa.length : Int) 1 ((aa.length : Int) - 1) rfl rfl rfl (by omega) ?_;obtain ⟨dv, cb, hM⟩ := M.e_bind hM;refine s_call cf49 [I ((ac.getD i2 default).station), I 0, I ((aa.length : Int) - 1)] rfl (zar ((ac.getD i2 default).station) 0 ((aa.length : Int) - 1) cb _ (H.gt 2)) ?_
  rintro vq dw ⟨r7, rfl, hvq, ao⟩
  subst vq;(try dsimp only at hM);replace H := H.bk ao;clear ao;refine zM (B r7) rfl <| g_val (!r7) (gy_f rfl) (fun hg => x_fa (v := Oq aR 1) rfl (fa_blk (o := 0) Fd92_1 Sz3)) <| g_val (!r7) (gy_f rfl) (fun hg => x_ld (v := I ((ac.getD i2 default).lead)) (gd_of hg (Oq aR 1)) (ldb_sc Sc3 (H.bl 0) rfl)) ?_;obtain ⟨r8, cc, hM⟩ := M.e_bind hM;refine t_gcall (!r7) (gy_f rfl) cf49 (B r8) (fun _ => [I ((ac.getD i2 default).lead), I 0, I 1000]) (fun hg => lst3 (gd_of hg (I ((ac.getD i2 default).lead))) rfl rfl) H (fun hg => (zar ((ac.getD i2 default).lead) 0 1000 (M.e_opt cc hg) _ (H.give (A := []) rfl)).mono fun v_ w_ ⟨y_, ah, aG, H_⟩ => by subst ah; exact ⟨aG, H.via H_⟩) ?_;intro dx H;refine s_val (x_por (b := r7) (r := r8) rfl rfl (fun hb => gd_of (c := !r7) (by first | exact hb | (rw [hb]; rfl) | simp_all) (B r8))) <| zM (B (r7 || r8)) rfl <| g_val (!(r7 || r8)) (gy_f rfl) (fun hg => x_fa (v := Oq aR 2) rfl (fa_blk (o := 0) Fd92_2 Sz3)) <| g_val (!(r7 || r8)) (gy_f rfl) (fun hg => x_ld (v := I ((ac.getD i2 default).alarm)) (gd_of hg (Oq aR 2)) (ldb_sc Sc3 (H.bl 0) rfl)) ?_;obtain ⟨r9, ce, hM⟩ := M.e_bind hM;refine t_gcall (!(r7 || r8)) (gy_f rfl) cf49 (B r9) (fun _ => [I ((ac.getD i2 default).alarm), I 0, I 2000]) (fun hg => lst3 (gd_of hg (I ((ac.getD i2 default).alarm))) rfl rfl) H (fun hg => (zar ((ac.getD i2 default).alarm) 0 2000 (M.e_opt ce hg) _ (H.give (A := []) rfl)).mono fun v_ w_ ⟨y_, ah, aG, H_⟩ => by subst ah; exact ⟨aG, H.via H_⟩) ?_;intro dy H;refine s_val (x_por (b := (r7 || r8)) (r := r9) rfl rfl (fun hb => gd_of (c := !(r7 || r8)) (by first | exact hb | (rw [hb]; rfl) | simp_all) (B r9))) <| s_nil ?_
  refine W.cond ((r7 || r8) || r9) rfl (fun bg => ?_) (fun bg => ?_)
  ·replace hM := M.e_t hM bg;refine W.seq <| W.region rfl <| zA (I 130) rfl <| s_nil ?_;refine W.ret ?_
   have cf := M.e_inr hM bf
   subst cf;replace hM := bF;(try dsimp only at hM)
   have ah := M.e_pure hM
   exact ⟨_, resE_tmp rfl, ⟨130, ah, rfl, (H.pk [])⟩⟩
  replace hM := M.e_f hM bg;refine W.skip <| W.region rfl <| zM (I (i2 : Int)) rfl <| zR (i2 : Int) 1 ((i2 : Int) + 1) rfl rfl rfl (by omega) <| zA (I ((i2 : Int) + 1)) rfl <| s_nil ?_
  exact ⟨b9, ca, i2 + 1, _, upds_of _ _ ⟨rfl, rfl, rfl, trivial⟩, M.e_inl hM bf, (H.pk [1])⟩
 replace hM := M.e_f hM aI
 replace aI := dI aI
 refine W.exit ?_
 have cg := M.e_inr hM bf
 subst cg;replace hM := bF;(try dsimp only at hM);refine W.seq <| W.seq <| W.region rfl <| s_val (x_fa (v := Oq ag 4) rfl (fa_blk (o := 0) Fd37_4 Sz26)) <| s_val (x_ld (v := .agg #[I al, I am]) rfl (ldb_ag (ds := [I al, I am]) Ag26 Sz26 (H.bl 0) rfl rfl)) ?_;obtain ⟨dz, ck, hM⟩ := M.e_bind hM;refine s_call cf69 [.agg #[I al, I am]] rfl (zdN (⟨(al : Int), (am : Int)⟩ : Span) ck _ (H.gt 1)) ?_
 rintro vq dA ⟨cl, rfl, hvq, ao⟩
 subst vq;(try dsimp only at hM);replace H := H.bk ao;clear ao;refine s_nil ?_
 refine W.cond cl rfl (fun bh => ?_) (fun bh => ?_)
 ·replace hM := M.e_t hM bh;refine W.seq <| W.region rfl <| zA (I 130) rfl <| s_nil ?_;refine W.ret ?_
  have ah := M.e_pure hM
  exact ⟨_, resE_tmp rfl, ⟨130, ah, rfl, (H.pk [])⟩⟩
 replace hM := M.e_f hM bh;refine W.skip <| W.seq <| W.seq <| W.region rfl <| zA (I 0) rfl <| s_nil <| W.block ?_;obtain ⟨cm, bi, aS⟩ := M.e_bind hM
 obtain ⟨aQ, bi⟩ := M.e_iter bi
 refine W.loop (fun m σ W => ∃ (i3 : Nat) (ρ : Env), σ = upds ρ [(1, Pq ag), (7, I (i3 : Int))] /\ M.iterN (zbp aa ae ax ac al am ab) m i3 = some cm /\ St w W [cBlk ag [ak, aw, ai, aq, I al, I am, au] 37] R) ?_ ?_
 ·exact ⟨_, 0, _, upds_of _ _ ⟨rfl, rfl, trivial⟩, bi, H⟩
 rintro dB σ dC ⟨i3, ρ, rfl, bH, H⟩
 obtain ⟨bI, bJ, dD, hM, aJ⟩ := M.e_iterN bH
 simp only [zbp] at hM
 clear bH;refine W.seq <| W.seq <| W.region rfl <| zM (I (i3 : Int)) rfl <| s_val (x_fa (v := Oq ag 6) rfl (fa_blk (o := 0) Fd37_5 Sz35)) <| s_val (x_ld (v := au) rfl (ldb_sc Sc35 (H.bl 0) rfl)) ?_
 have dE := (aF).len_le
 refine s_val (x_lenS T35.und rfl aF) <| zC (i3 : Int) (ab.length : Int) (decide ((i3 : Int) < (ab.length : Int))) rfl rfl rfl <| s_nil ?_
 refine W.cond (decide ((i3 : Int) < (ab.length : Int))) rfl (fun aK => ?_) (fun aK => ?_)
 ·replace hM := M.e_t hM aK
  replace aK := dI aK
  refine W.skip <| W.seq <| W.block <| W.seq <| W.region rfl <| s_val (x_fa (v := Oq ag 6) rfl (fa_blk (o := 0) Fd37_5 Sz35)) <| s_val (x_ld (v := au) rfl (ldb_sc Sc35 (H.bl 0) rfl)) <| zM (I (i3 : Int)) rfl ?_;obtain ⟨dF, hM⟩ := M.e_gd hM;refine s_val (x_ix (v := vat au 2 (Int.toNat (i3 : Int))) rfl rfl (Sl.ix (α := Flood) T35.und T35.size aF (by omega) (by omega))) ?_
  obtain ⟨ay, cn, aA⟩ := Flood_atA aF (i := (i3 : Int)) (by omega) (by omega)
  replace aA : Sl _ ay (ab.getD i3 default).stages := aA
  have dG := aA.len_le
  refine s_val (x_ld (v := .agg #[I ((ab.getD i3 default).spring), ay]) rfl (ld_ag Ag93 Sz93 (At.mono cn (aU.at H)))) ?_;refine t_alloc (cs := [I 0, .slice none 0 0]) H Al93 rfl ?_;intro av dH H;refine t_sw 0 0 [I ((ab.getD i3 default).spring), ay] (.agg #[I ((ab.getD i3 default).spring), ay]) H rfl rfl Sz93 rfl rfl rfl (by simp only [List.all_cons, List.all_nil, Bool.true_and, Bool.and_true, Sl.oc aA]; try rfl) ?_;intro dJ H;refine s_nil <| W.seq <| W.region rfl <| zA (B false) rfl <| s_nil <| W.seq <| W.seq <| W.region rfl <| zA (I 0) rfl <| s_nil ?_;refine W.block ?_;obtain ⟨co, bj, cp⟩ := M.e_bind hM
  obtain ⟨aQ, bj⟩ := M.e_iter bj
  refine W.loop (fun m σ W => ∃ (spring : Bool) (k : Nat) (ρ : Env), σ = upds ρ [(1, Pq ag), (7, I (i3 : Int)), (8, Pq av), (9, B spring), (10, I (k : Int))] /\ M.iterN (zbn ax ab i3) m (spring, k) = some co /\ St w W [cBlk av [I ((ab.getD i3 default).spring), ay] 93, cBlk ag [ak, aw, ai, aq, I al, I am, au] 37] R) ?_ ?_
  ·exact ⟨_, false, 0, _, upds_of _ _ ⟨rfl, rfl, rfl, rfl, rfl, trivial⟩, bj, H⟩
  rintro dK σ dL ⟨spring, k, ρ, rfl, bK, H⟩
  obtain ⟨cq, cu, dM, hM, bL⟩ := M.e_iterN bK
  simp only [zbn] at hM
  clear bK;refine W.seq <| W.seq <| W.region rfl <| zM (I (k : Int)) rfl <| s_val (x_fa (v := Oq ag 2) rfl (fa_blk (o := 0) Fd37_2 Sz22)) <| s_val (x_ld (v := ai) rfl (ldb_sc Sc22 (H.bl 1) rfl)) ?_
  have dN := (aB).len_le
  refine s_val (x_lenS T22.und rfl aB) <| zC (k : Int) (ax.length : Int) (decide ((k : Int) < (ax.length : Int))) rfl rfl rfl <| s_nil ?_
  refine W.cond (decide ((k : Int) < (ax.length : Int))) rfl (fun aL => ?_) (fun aL => ?_)
  ·replace hM := M.e_t hM aL
   replace aL := dI aL
   refine W.skip <| W.seq <| W.block ?_;refine W.draw (fun W => St w W [cBlk av [I ((ab.getD i3 default).spring), ay] 93, cBlk ag [ak, aw, ai, aq, I al, I am, au] 37] R) [(0, true), (1, true), (2, true), (3, true), (4, true), (5, true), (6, true), (7, true), (8, true), (9, true), (10, true), (11, true)] mixed (by decide +kernel) rfl ?_;intro dO aj;replace H := H.ext aj;clear aj
   refine ⟨(H.pk [0, 1]), ?_⟩
   refine d_q rfl (fun w' H => x_mv (v := B spring) rfl) <| d_q rfl (fun w' H => x_mv (v := B spring) rfl) <| d_qg (!spring) rfl (gy_f rfl) (fun hg => (fun w' H => x_fa (v := Oq ag 2) rfl (fa_blk (o := 0) Fd37_2 Sz22))) <| d_qg (!spring) rfl (gy_f rfl) (fun hg => (fun w' H => x_ld (v := ai) (gd_of hg (Oq ag 2)) (ldb_sc Sc22 (H.bl 1) rfl))) <| d_qg (!spring) rfl (gy_f rfl) (fun hg => (fun w' H => x_mv (v := I (k : Int)) rfl)) ?_;obtain ⟨aM, hM⟩ := M.e_grd hM
   replace aM := M.imp_of aM
   simp only [Bool.and_eq_true, decide_eq_true_eq] at aM
   refine d_qg (!spring) rfl (gy_f rfl) (fun hg => (fun w' H => x_ix (v := vat ai 1 (Int.toNat (k : Int))) (gd_of hg (ai)) (gd_of hg (I (k : Int))) (Sl.ix (α := Int) T22.und T22.size aB (by have az := aM.resolve_left (by rw [hg]; decide); first | exact az | exact az.1 | exact az.2 | omega | (have aj := hg; simp at aj; omega)) (by have az := aM.resolve_left (by rw [hg]; decide); first | exact az | exact az.1 | exact az.2 | omega | (have aj := hg; simp at aj; omega))))) <| d_qg (!spring) rfl (gy_f rfl) (fun hg => (fun w' H => x_ld (v := I (ax.getD k 0)) (gd_of hg (vat ai 1 (Int.toNat (k : Int)))) (ld_sc Sc3 (At.mono (Int_at aB (i := (k : Int)) (by have az := aM.resolve_left (by rw [hg]; decide); first | exact az | exact az.1 | exact az.2 | omega | (have aj := hg; simp at aj; omega)) (by have az := aM.resolve_left (by rw [hg]; decide); first | exact az | exact az.1 | exact az.2 | omega | (have aj := hg; simp at aj; omega))) (aX.at H))))) <| d_qg (!spring) rfl (gy_f rfl) (fun hg => (fun w' H => x_fa (v := Pq av) rfl (fa_blk (o := 0) Fd93_0 Sz3))) <| d_qg (!spring) rfl (gy_f rfl) (fun hg => (fun w' H => x_ld (v := I ((ab.getD i3 default).spring)) (gd_of hg (Pq av)) (ldb_sc Sc3 (H.bl 0) rfl))) <| d_qg (!spring) rfl (gy_f rfl) (fun hg => (fun w' H => x_cmp (kd := .i64) (r := (ax.getD k 0) == ((ab.getD i3 default).spring)) (gd_of hg (I (ax.getD k 0))) (gd_of hg (I ((ab.getD i3 default).spring))) rfl)) <| d_q rfl (fun w' H => x_por (b := spring) (r := (ax.getD k 0) == ((ab.getD i3 default).spring)) rfl rfl (fun hb => gd_of (c := !spring) (by first | exact hb | (rw [hb]; rfl) | simp_all) (B ((ax.getD k 0) == ((ab.getD i3 default).spring))))) <| d_q rfl (fun w' H => x_as (v := B (spring || ((ax.getD k 0) == ((ab.getD i3 default).spring)))) rfl) ?_;refine d_nil <| W.region rfl <| zM (I (k : Int)) rfl <| zR (k : Int) 1 ((k : Int) + 1) rfl rfl rfl (by omega) <| zA (I ((k : Int) + 1)) rfl <| s_nil ?_
   exact ⟨cq, cu, (spring || ((ax.getD k 0) == ((ab.getD i3 default).spring))), k + 1, _, upds_of _ _ ⟨rfl, rfl, rfl, rfl, rfl, trivial⟩, M.e_inl hM bL, H⟩
  replace hM := M.e_f hM aL
  replace aL := dI aL
  refine W.exit ?_
  have cw := M.e_inr hM bL
  subst cw;replace hM := cp;(try dsimp only at hM);refine W.seq <| W.seq ?_;refine W.draw (fun W => St w W [cBlk av [I ((ab.getD i3 default).spring), ay] 93, cBlk ag [ak, aw, ai, aq, I al, I am, au] 37] R) [(0, true), (1, true), (2, true), (3, true), (4, true), (5, true), (6, true), (7, true), (8, true), (9, false), (10, true), (11, true), (12, true)] mixed (by decide +kernel) rfl ?_;intro dP aj;replace H := H.ext aj;clear aj
  refine ⟨(H.pk [0, 1]), ?_⟩
  refine d_q rfl (fun w' H => x_mv (v := B spring) rfl) <| d_q rfl (fun w' H => x_not (b := spring) rfl) <| d_q rfl (fun w' H => x_mv (v := B (!spring)) rfl) <| d_qg (!(!spring)) rfl (gy_f rfl) (fun hg => (fun w' H => x_fa (v := Oq av 1) rfl (fa_blk (o := 0) Fd93_1 Sz22))) <| d_qg (!(!spring)) rfl (gy_f rfl) (fun hg => (fun w' H => x_ld (v := ay) (gd_of hg (Oq av 1)) (ldb_sc Sc22 (H.bl 0) rfl))) ?_
  have dQ := (aA).len_le
  refine d_qg (!(!spring)) rfl (gy_f rfl) (fun hg => (fun w' H => x_lenS T22.und (gd_of hg (ay)) aA)) <| d_qg (!(!spring)) rfl (gy_f rfl) (fun hg => (fun w' H => x_ld (v := .agg #[ak, aw, ai, aq, I al, I am, au]) rfl (ldb_ag (ds := [ak, aw, ai, aq, I al, I am, au]) Ag37 Sz37 (H.bl 1) rfl rfl))) <| d_qg (!(!spring)) rfl (gy_f rfl) (fun hg => (fun w' H => x_fa (v := Pq av) rfl (fa_blk (o := 0) Fd93_0 Sz3))) <| d_qg (!(!spring)) rfl (gy_f rfl) (fun hg => (fun w' H => x_ld (v := I ((ab.getD i3 default).spring)) (gd_of hg (Pq av)) (ldb_sc Sc3 (H.bl 0) rfl))) <| d_l rfl ?_
  refine g_splitV (!(!spring)) (.slice none 0 0) (gy_f rfl) (fun aT => ?_) (fun aT => ?_)
  ·replace hM := M.e_t hM aT;obtain ⟨dR, cx, hM⟩ := M.e_bind hM;refine s_call cf71 [.agg #[ak, aw, ai, aq, I al, I am, au], I ((ab.getD i3 default).spring)] (lst2 (gd_of (c := !(!spring)) aT (.agg #[ak, aw, ai, aq, I al, I am, au])) (gd_of (c := !(!spring)) aT (I ((ab.getD i3 default).spring)))) (zeD aa ae ax ac al am ab ((ab.getD i3 default).spring) (aW.app _) aD (bC.app _) aP (aX.app _) aB (bD.app _) aE (aU.app _) aF cx _ (H.gt 2)) ?_
   rintro vq dS ⟨aC, bM, rfl, hvq, ao⟩
   subst vq;(try dsimp only at hM);replace H := H.bk ao;clear ao
   have dT := Sl.cells (H.os 0)
   have dU := Sl.oc (H.os 0)
   have cy := ownSl (H.get (k := 0) rfl)
   refine s_nil ⟨(H.pk [1, 2]), ?_⟩
   refine d_qg (!(!spring)) rfl (gy_f rfl) (fun hg => (fun w' H => x_lenS T22.und rfl cy)) <| d_qg (!(!spring)) rfl (gy_f rfl) (fun hg => (fun w' H => x_cmp (kd := .i64) (r := (((ab.getD i3 default).stages).length : Int) != (aC.length : Int)) (gd_of hg (I (((ab.getD i3 default).stages).length : Int))) (gd_of hg (I (aC.length : Int))) rfl)) <| d_q rfl (fun w' H => x_por (b := !spring) (r := (((ab.getD i3 default).stages).length : Int) != (aC.length : Int)) rfl rfl (fun hb => gd_of (c := !(!spring)) (by first | exact hb | (rw [hb]; rfl) | simp_all) (B ((((ab.getD i3 default).stages).length : Int) != (aC.length : Int))))) ?_;refine d_nil ?_
   refine W.cond ((!spring) || ((((ab.getD i3 default).stages).length : Int) != (aC.length : Int))) rfl (fun bm => ?_) (fun bm => ?_)
   ·replace hM := M.e_t hM bm;refine W.seq <| W.region rfl <| zA (I 2) rfl <| s_nil ?_;replace H := H.pk [2];refine W.ret ?_
    have cz := M.e_inr hM aJ
    subst cz;replace hM := aS;(try dsimp only at hM)
    have ah := M.e_pure hM
    exact ⟨_, resE_tmp rfl, ⟨2, ah, rfl, (H.pk [])⟩⟩
   replace hM := M.e_f hM bm;refine W.skip <| W.seq <| W.region rfl <| zA (I 0) rfl <| s_nil <| W.block ?_;obtain ⟨cA, bn, bN⟩ := M.e_bind hM
   obtain ⟨aQ, bn⟩ := M.e_iter bn
   refine W.loop (fun m σ W => ∃ (k2 : Nat) (ρ : Env), σ = upds ρ [(1, Pq ag), (7, I (i3 : Int)), (8, Pq av), (11, I (k2 : Int)), (138, gd (!(!spring)) (Oq av 1)), (139, gd (!(!spring)) ay), (140, gd (!(!spring)) (I (((ab.getD i3 default).stages).length : Int))), (141, gd (!(!spring)) (.agg #[ak, aw, ai, aq, I al, I am, au])), (142, gd (!(!spring)) (Pq av)), (143, gd (!(!spring)) (I ((ab.getD i3 default).spring))), (144, bM), (145, gd (!(!spring)) (I (aC.length : Int))), (146, gd (!(!spring)) (B ((((ab.getD i3 default).stages).length : Int) != (aC.length : Int))))] /\ M.iterN (zbj ab i3) m k2 = some cA /\ St w W [cOwn (α := Int) 3 bM aC, cBlk av [I ((ab.getD i3 default).spring), ay] 93, cBlk ag [ak, aw, ai, aq, I al, I am, au] 37] R) ?_ ?_
   ·exact ⟨_, 0, _, upds_of _ _ ⟨rfl, rfl, rfl, rfl, rfl, rfl, rfl, rfl, rfl, rfl, rfl, rfl, rfl, trivial⟩, bn, H⟩
   rintro dV σ dW ⟨k2, ρ, rfl, bO, H⟩
   obtain ⟨cB, cC, dX, hM, bo⟩ := M.e_iterN bO
   simp only [zbj] at hM
   clear bO;refine W.seq <| W.seq <| W.region rfl <| zM (I (k2 : Int)) rfl <| s_val (x_fa (v := Oq av 1) rfl (fa_blk (o := 0) Fd93_1 Sz22)) <| s_val (x_ld (v := ay) rfl (ldb_sc Sc22 (H.bl 1) rfl)) ?_
   have dY := (aA).len_le
   refine s_val (x_lenS T22.und rfl aA) <| zC (k2 : Int) (((ab.getD i3 default).stages).length : Int) (decide ((k2 : Int) < (((ab.getD i3 default).stages).length : Int))) rfl rfl rfl <| s_nil ?_
   refine W.cond (decide ((k2 : Int) < (((ab.getD i3 default).stages).length : Int))) rfl (fun aN => ?_) (fun aN => ?_)
   ·replace hM := M.e_t hM aN
    replace aN := dI aN
    refine W.skip <| W.seq <| W.block <| W.seq <| W.region rfl <| s_val (x_fa (v := Oq av 1) rfl (fa_blk (o := 0) Fd93_1 Sz22)) <| s_val (x_ld (v := ay) rfl (ldb_sc Sc22 (H.bl 1) rfl)) <| zM (I (k2 : Int)) rfl ?_;obtain ⟨dZ, hM⟩ := M.e_gd hM;refine s_val (x_ix (v := vat ay 1 (Int.toNat (k2 : Int))) rfl rfl (Sl.ix (α := Int) T22.und T22.size aA (by omega) (by omega))) <| s_val (x_ld (v := I (((ab.getD i3 default).stages).getD k2 0)) rfl (ld_sc Sc3 (At.mono (Int_at aA (i := (k2 : Int)) (by omega) (by omega)) (aU.at H)))) ?_;obtain ⟨d6, cD, hM⟩ := M.e_bind hM;refine s_call cf49 [I (((ab.getD i3 default).stages).getD k2 0), I 0, I 2000] rfl (zar (((ab.getD i3 default).stages).getD k2 0) 0 2000 cD _ (H.gt 3)) ?_
    rintro vq d7 ⟨bp, rfl, hvq, ao⟩
    subst vq;(try dsimp only at hM);replace H := H.bk ao;clear ao;refine s_nil ?_
    refine W.cond bp rfl (fun bq => ?_) (fun bq => ?_)
    ·replace hM := M.e_t hM bq;refine W.seq <| W.region rfl <| zA (I 130) rfl <| s_nil ?_;refine W.ret ?_
     have cE := M.e_inr hM bo
     subst cE;replace hM := bN;(try dsimp only at hM)
     have cF := M.e_inr hM aJ
     subst cF;replace hM := aS;(try dsimp only at hM)
     have ah := M.e_pure hM
     exact ⟨_, resE_tmp rfl, ⟨130, ah, rfl, (H.pk [])⟩⟩
    replace hM := M.e_f hM bq;refine W.skip <| W.region rfl <| zM (I (k2 : Int)) rfl <| zR (k2 : Int) 1 ((k2 : Int) + 1) rfl rfl rfl (by omega) <| zA (I ((k2 : Int) + 1)) rfl <| s_nil ?_
    exact ⟨cB, cC, k2 + 1, _, upds_of _ _ ⟨rfl, rfl, rfl, rfl, rfl, rfl, rfl, rfl, rfl, rfl, rfl, rfl, rfl, trivial⟩, M.e_inl hM bo, H⟩
   replace hM := M.e_f hM aN
   replace aN := dI aN
   refine W.exit ?_
   have cG := M.e_inr hM bo
   subst cG;replace hM := bN;(try dsimp only at hM);refine W.region rfl <| zM (I (i3 : Int)) rfl <| zR (i3 : Int) 1 ((i3 : Int) + 1) rfl rfl rfl (by omega) <| zA (I ((i3 : Int) + 1)) rfl <| s_nil ?_
   exact ⟨bI, bJ, i3 + 1, _, upds_of _ _ ⟨rfl, rfl, trivial⟩, M.e_inl hM aJ, (H.pk [2])⟩
  replace hM := M.e_f hM aT
  refine s_nil ⟨(H.pk [0, 1]), ?_⟩
  refine d_qg (!(!spring)) rfl (gy_f rfl) (fun hg => (fun w' H => x_len (n := 0) T22.und (gd_of hg (.slice none 0 0)))) <| d_qg (!(!spring)) rfl (gy_f rfl) (fun hg => (fun w' H => x_cmp (kd := .i64) (r := (((ab.getD i3 default).stages).length : Int) != 0) (gd_of hg (I (((ab.getD i3 default).stages).length : Int))) (gd_of hg (I 0)) rfl)) <| d_q rfl (fun w' H => x_por (b := !spring) (r := (((ab.getD i3 default).stages).length : Int) != 0) rfl rfl (fun hb => gd_of (c := !(!spring)) (by first | exact hb | (rw [hb]; rfl) | simp_all) (B ((((ab.getD i3 default).stages).length : Int) != 0)))) ?_;refine d_nil ?_
  refine W.cond ((!spring) || ((((ab.getD i3 default).stages).length : Int) != 0)) rfl (fun br => ?_) (fun br => ?_)
  ·replace hM := M.e_t hM br;refine W.seq <| W.region rfl <| zA (I 2) rfl <| s_nil ?_;refine W.ret ?_
   have cH := M.e_inr hM aJ
   subst cH;replace hM := aS;(try dsimp only at hM)
   have ah := M.e_pure hM
   exact ⟨_, resE_tmp rfl, ⟨2, ah, rfl, (H.pk [])⟩⟩
  replace hM := M.e_f hM br;refine W.skip <| W.seq <| W.region rfl <| zA (I 0) rfl <| s_nil <| W.block ?_;obtain ⟨cI, bt, bP⟩ := M.e_bind hM
  obtain ⟨aQ, bt⟩ := M.e_iter bt
  refine W.loop (fun m σ W => ∃ (k2 : Nat) (ρ : Env), σ = upds ρ [(1, Pq ag), (7, I (i3 : Int)), (8, Pq av), (11, I (k2 : Int)), (138, gd (!(!spring)) (Oq av 1)), (139, gd (!(!spring)) ay), (140, gd (!(!spring)) (I (((ab.getD i3 default).stages).length : Int))), (141, gd (!(!spring)) (.agg #[ak, aw, ai, aq, I al, I am, au])), (142, gd (!(!spring)) (Pq av)), (143, gd (!(!spring)) (I ((ab.getD i3 default).spring))), (144, gd (!(!spring)) (.slice none 0 0)), (145, gd (!(!spring)) (I 0)), (146, gd (!(!spring)) (B ((((ab.getD i3 default).stages).length : Int) != 0)))] /\ M.iterN (zdm ab i3) m k2 = some cI /\ St w W [cBlk av [I ((ab.getD i3 default).spring), ay] 93, cBlk ag [ak, aw, ai, aq, I al, I am, au] 37] R) ?_ ?_
  ·exact ⟨_, 0, _, upds_of _ _ ⟨rfl, rfl, rfl, rfl, rfl, rfl, rfl, rfl, rfl, rfl, rfl, rfl, rfl, trivial⟩, bt, H⟩
  rintro d8 σ d9 ⟨k2, ρ, rfl, bQ, H⟩
  obtain ⟨cJ, cK, ea, hM, bu⟩ := M.e_iterN bQ
  simp only [zdm] at hM
  clear bQ;refine W.seq <| W.seq <| W.region rfl <| zM (I (k2 : Int)) rfl <| s_val (x_fa (v := Oq av 1) rfl (fa_blk (o := 0) Fd93_1 Sz22)) <| s_val (x_ld (v := ay) rfl (ldb_sc Sc22 (H.bl 0) rfl)) ?_
  have eb := (aA).len_le
  refine s_val (x_lenS T22.und rfl aA) <| zC (k2 : Int) (((ab.getD i3 default).stages).length : Int) (decide ((k2 : Int) < (((ab.getD i3 default).stages).length : Int))) rfl rfl rfl <| s_nil ?_
  refine W.cond (decide ((k2 : Int) < (((ab.getD i3 default).stages).length : Int))) rfl (fun aO => ?_) (fun aO => ?_)
  ·replace hM := M.e_t hM aO
   replace aO := dI aO
   refine W.skip <| W.seq <| W.block <| W.seq <| W.region rfl <| s_val (x_fa (v := Oq av 1) rfl (fa_blk (o := 0) Fd93_1 Sz22)) <| s_val (x_ld (v := ay) rfl (ldb_sc Sc22 (H.bl 0) rfl)) <| zM (I (k2 : Int)) rfl ?_;obtain ⟨ec, hM⟩ := M.e_gd hM;refine s_val (x_ix (v := vat ay 1 (Int.toNat (k2 : Int))) rfl rfl (Sl.ix (α := Int) T22.und T22.size aA (by omega) (by omega))) <| s_val (x_ld (v := I (((ab.getD i3 default).stages).getD k2 0)) rfl (ld_sc Sc3 (At.mono (Int_at aA (i := (k2 : Int)) (by omega) (by omega)) (aU.at H)))) ?_;obtain ⟨ed, cL, hM⟩ := M.e_bind hM;refine s_call cf49 [I (((ab.getD i3 default).stages).getD k2 0), I 0, I 2000] rfl (zar (((ab.getD i3 default).stages).getD k2 0) 0 2000 cL _ (H.gt 2)) ?_
   rintro vq ee ⟨bp, rfl, hvq, ao⟩
   subst vq;(try dsimp only at hM);replace H := H.bk ao;clear ao;refine s_nil ?_
   refine W.cond bp rfl (fun bv => ?_) (fun bv => ?_)
   ·replace hM := M.e_t hM bv;refine W.seq <| W.region rfl <| zA (I 130) rfl <| s_nil ?_;refine W.ret ?_
    have cM := M.e_inr hM bu
    subst cM;replace hM := bP;(try dsimp only at hM)
    have cN := M.e_inr hM aJ
    subst cN;replace hM := aS;(try dsimp only at hM)
    have ah := M.e_pure hM
    exact ⟨_, resE_tmp rfl, ⟨130, ah, rfl, (H.pk [])⟩⟩
   replace hM := M.e_f hM bv;refine W.skip <| W.region rfl <| zM (I (k2 : Int)) rfl <| zR (k2 : Int) 1 ((k2 : Int) + 1) rfl rfl rfl (by omega) <| zA (I ((k2 : Int) + 1)) rfl <| s_nil ?_
   exact ⟨cJ, cK, k2 + 1, _, upds_of _ _ ⟨rfl, rfl, rfl, rfl, rfl, rfl, rfl, rfl, rfl, rfl, rfl, rfl, rfl, trivial⟩, M.e_inl hM bu, H⟩
  replace hM := M.e_f hM aO
  replace aO := dI aO
  refine W.exit ?_
  have cO := M.e_inr hM bu
  subst cO;replace hM := bP;(try dsimp only at hM);refine W.region rfl <| zM (I (i3 : Int)) rfl <| zR (i3 : Int) 1 ((i3 : Int) + 1) rfl rfl rfl (by omega) <| zA (I ((i3 : Int) + 1)) rfl <| s_nil ?_
  exact ⟨bI, bJ, i3 + 1, _, upds_of _ _ ⟨rfl, rfl, trivial⟩, M.e_inl hM aJ, (H.pk [1])⟩
 replace hM := M.e_f hM aK
 replace aK := dI aK
 refine W.exit ?_
 have cP := M.e_inr hM aJ
 subst cP;replace hM := aS;(try dsimp only at hM);refine W.seq <| W.region rfl <| zA (I 0) rfl <| s_nil ?_;refine W.ret ?_
 have ah := M.e_pure hM
 exact ⟨_, resE_tmp rfl, ⟨0, ah, rfl, (H.pk [])⟩⟩

def zcS (ab : List Int) (aa : List Span) (ac : Int) : (Int × Int × Int) -> M ((Int × Int × Int) ⊕ ((Int × Int) ⊕ (Int × Int))) := fun (s, s2, s3) =>
  bif s != ac then (
  M.grd (decide ((0 : Int) <= s) && decide (s < (aa.length : Int))) <|
  M.grd (decide ((-9223372036854775808 : Int) <= (s2 + ((aa.getD (Int.toNat s) default).lo))) && decide ((s2 + ((aa.getD (Int.toNat s) default).lo)) <= (9223372036854775807 : Int))) <|
  M.grd (decide ((-9223372036854775808 : Int) <= (s3 + ((aa.getD (Int.toNat s) default).hi))) && decide ((s3 + ((aa.getD (Int.toNat s) default).hi)) <= (9223372036854775807 : Int))) <|
  M.grd (decide ((0 : Int) <= s) && decide (s < (ab.length : Int))) <|
  bif (ab.getD (Int.toNat s) 0) == (-1) then (
  M.pure (.inr (.inl (s2 + ((aa.getD (Int.toNat s) default).lo), s3 + ((aa.getD (Int.toNat s) default).hi)))))
  else (
  M.pure (.inl (ab.getD (Int.toNat s) 0, s2 + ((aa.getD (Int.toNat s) default).lo), s3 + ((aa.getD (Int.toNat s) default).hi)))))
  else (
  M.pure (.inr (.inr (s2, s3))))
def zbs (aa : List Int) (ab : List Span) (ag : List Int) (ah : List Town) (ai aj : Int) (ak : List Flood) (ac ae : Int) : M (Int × Int × Bool) :=
  M.bind (M.iter (zcS aa ab ae) (ac, 0, 0)) fun x_ => match x_ with
  | (.inl (s4, s5)) => (
  M.pure (0, 0, false))
  | (.inr (s6, s7)) => (
  M.pure (s6, s7, true))
theorem zbP {R : List Chunk} {aE : Cells} {ae : Value} {aF : Cells} {ac : Value} {aG : Cells} {am : Value} {aH : Cells} {ao : Value} {aI : Cells} {aq : Value} (ab : List Int) (aa : List Span) (aJ : List Int) (aK : List Town) (au : Int) (av : Int) (aL : List Flood) (aA : Int) (ag : Int) (aM : Reads R aE) (ay : Sl aE ae ab) (aN : Reads R aF) (al : Sl aF ac aa) (aZ : Reads R aG) (a6 : Sl aG am aJ) (a7 : Reads R aH) (a8 : Sl aH ao aK) (ba : Reads R aI) (bc : Sl aI aq aL) {r : (Int × Int × Bool)} (hM : (zbs ab aa aJ aK au av aL aA ag).Ends r) (w : World) (H : St w w [] R) : Ret Tryz.prog 75 #[.agg #[ae, ac, am, ao, I au, I av, aq], I aA, I ag] w fun v w' => ∃ (y0 : Int) (y1 : Int) (y2 : Bool), (y0, y1, y2) = r /\ v = .tuple #[.agg #[I y0, I y1], B y2] /\ St w w' [] R := by
 refine ret_of_W Tryz.func75 rfl rfl rfl <| W.seq <| W.region rfl ?_;refine t_bx [ae, ac, am, ao, I au, I av, aq] H rfl ?_;intro ah bf H;refine t_alloc (cs := [I 0, I 0]) H Al26 rfl ?_;intro aB bg H;refine zA (B false) rfl <| s_nil <| W.seq <| W.region rfl ?_;refine t_alloc (cs := [I 0, I 0]) H Al26 rfl ?_;intro az bh H;refine s_nil <| W.seq <| W.block ?_;obtain ⟨aS, aC, aD⟩ := M.e_bind hM
 obtain ⟨bi, aC⟩ := M.e_iter aC
 refine W.loop (fun m σ W => ∃ (s : Int) (s2 : Int) (s3 : Int) (ρ : Env), σ = upds ρ [(1, I s), (2, I ag), (3, Pq ah), (6, Pq aB), (8, Pq az)] /\ M.iterN (zcS ab aa ag) m (s, s2, s3) = some aS /\ St w W [cBlk az [I s2, I s3] 26, cBlk aB [I 0, I 0] 26, cBlk ah [ae, ac, am, ao, I au, I av, aq] 37] R) ?_ ?_
 ·exact ⟨_, aA, 0, 0, _, upds_of _ _ ⟨rfl, rfl, rfl, rfl, rfl, trivial⟩, aC, H⟩
 rintro bj σ bm ⟨s, s2, s3, ρ, rfl, aO, H⟩
 obtain ⟨aP, aQ, bn, hM, aw⟩ := M.e_iterN aO
 simp only [zcS] at hM
 clear aO;refine W.seq <| W.seq <| W.region rfl <| zM (I s) rfl <| zM (I ag) rfl <| zC s ag (s != ag) rfl rfl rfl <| s_nil ?_
 refine W.cond (s != ag) rfl (fun ai => ?_) (fun ai => ?_)
 ·replace hM := M.e_t hM ai
  replace ai := dI ai
  refine W.skip <| W.block <| W.seq ?_;refine W.drawT (fun W => St w W [cBlk aB [I 0, I 0] 26, cBlk ah [ae, ac, am, ao, I au, I av, aq] 37] R) (.q 0 (.q 2 (.q 3 (.q 4 (.q 5 (.q 6 (.q 7 (.q 9 (.q 11 (.q 12 (.q 13 (.q 14 (.q 15 (.q 16 (.l2 1 (.q 8 (.l 10 (.q 17 (.q 18 (.l 19 .nil))))) 10 (.q 17 (.l 1 (.q 8 (.q 18 (.l 19 .nil)))))))))))))))))))) mixed (by decide +kernel) rfl ?_;intro bo aR;replace H := H.ext aR;clear aR
  refine ⟨(H.pk [1, 2]), ?_⟩
  refine t_q rfl (fun w' H => x_fa (v := Pq az) rfl (fa_blk (o := 0) Fd26_0 Sz3)) <| t_q rfl (fun w' H => x_fa (v := Oq ah 1) rfl (fa_blk (o := 0) Fd37_1 Sz23)) <| t_q rfl (fun w' H => x_ld (v := ac) rfl (ldb_sc Sc23 (H.bl 1) rfl)) <| t_q rfl (fun w' H => x_mv (v := I s) rfl) ?_;obtain ⟨bp, hM⟩ := M.e_gd hM;refine t_q rfl (fun w' H => x_ix (v := vat ac 2 (Int.toNat s)) rfl rfl (Sl.ix (α := Span) T23.und T23.size al (by omega) (by omega))) <| t_q rfl (fun w' H => x_fa (v := fat (vat ac 2 (Int.toNat s)) 0) rfl (fa_pl Fd26_0 Sz3 (Sl.pl (i := s) al (by omega) (by omega)))) <| t_q rfl (fun w' H => x_ld (v := I ((aa.getD (Int.toNat s) default).lo)) rfl (ld_sc Sc3 (At.mono (Span_at0 al (i := s) (by omega) (by omega)) (aN.at H)))) <| t_q rfl (fun w' H => x_fa (v := Oq az 1) rfl (fa_blk (o := 0) Fd26_1 Sz3)) <| t_q rfl (fun w' H => x_fa (v := Oq ah 1) rfl (fa_blk (o := 0) Fd37_1 Sz23)) <| t_q rfl (fun w' H => x_ld (v := ac) rfl (ldb_sc Sc23 (H.bl 1) rfl)) <| t_q rfl (fun w' H => x_mv (v := I s) rfl) <| t_q rfl (fun w' H => x_ix (v := vat ac 2 (Int.toNat s)) rfl rfl (Sl.ix (α := Span) T23.und T23.size al (by omega) (by omega))) <| t_q rfl (fun w' H => x_fa (v := fat (vat ac 2 (Int.toNat s)) 1) rfl (fa_pl Fd26_1 Sz3 (Sl.pl (i := s) al (by omega) (by omega)))) <| t_q rfl (fun w' H => x_ld (v := I ((aa.getD (Int.toNat s) default).hi)) rfl (ld_sc Sc3 (At.mono (Span_at1 al (i := s) (by omega) (by omega)) (aN.at H)))) ?_;obtain ⟨bq, hM⟩ := M.e_gd hM;obtain ⟨br, hM⟩ := M.e_gd hM;refine t_l2 rfl rfl ?_ ?_
  ·skip
   refine s_val (x_ld (v := I s2) rfl (ldb_sc Sc3 (H.bl 0) rfl)) ?_
   refine s_nil ⟨(H.pk [1, 2]), ?_⟩
   refine t_q rfl (fun w' H => x_ari (r := s2 + ((aa.getD (Int.toNat s) default).lo)) rfl rfl rfl (by omega)) <| t_l rfl <| s_val (x_ld (v := I s3) rfl (ldb_sc Sc3 (H.bl 0) rfl)) ?_
   refine s_nil ⟨(H.pk [1, 2]), ?_⟩
   refine t_q rfl (fun w' H => x_ari (r := s3 + ((aa.getD (Int.toNat s) default).hi)) rfl rfl rfl (by omega)) <| t_q rfl (fun w' H => x_bld (ps := [(0, I (s2 + ((aa.getD (Int.toNat s) default).lo))), (1, I (s3 + ((aa.getD (Int.toNat s) default).hi)))]) (zs := [I 0, I 0]) (L' := [I (s2 + ((aa.getD (Int.toNat s) default).lo)), I (s3 + ((aa.getD (Int.toNat s) default).hi))]) rfl Tryz.underlying26 Al26 rfl (Bd26 Tryz.underlying26) (.cons (cs := [I (s2 + ((aa.getD (Int.toNat s) default).lo))]) rfl rfl rfl rfl rfl <| .cons (cs := [I (s3 + ((aa.getD (Int.toNat s) default).hi))]) rfl rfl rfl rfl rfl <| .nil)) <| t_l rfl ?_;refine t_sw 0 0 [I (s2 + ((aa.getD (Int.toNat s) default).lo)), I (s3 + ((aa.getD (Int.toNat s) default).hi))] (.agg #[I (s2 + ((aa.getD (Int.toNat s) default).lo)), I (s3 + ((aa.getD (Int.toNat s) default).hi))]) H rfl rfl Sz26 rfl rfl rfl rfl ?_;intro bt H
   refine s_nil ⟨(H.pk [1, 2]), ?_⟩
   refine t_nil <| W.seq <| W.region rfl <| s_val (x_fa (v := Pq ah) rfl (fa_blk (o := 0) Fd37_0 Sz22)) <| s_val (x_ld (v := ae) rfl (ldb_sc Sc22 (H.bl 2) rfl)) <| zM (I s) rfl ?_;obtain ⟨bu, hM⟩ := M.e_gd hM;refine s_val (x_ix (v := vat ae 1 (Int.toNat s)) rfl rfl (Sl.ix (α := Int) T22.und T22.size ay (by omega) (by omega))) <| s_val (x_ld (v := I (ab.getD (Int.toNat s) 0)) rfl (ld_sc Sc3 (At.mono (Int_at ay (i := s) (by omega) (by omega)) (aM.at H)))) <| zA (I (ab.getD (Int.toNat s) 0)) rfl <| s_nil <| W.seq <| W.region rfl <| zM (I (ab.getD (Int.toNat s) 0)) rfl <| zC (ab.getD (Int.toNat s) 0) (-1) ((ab.getD (Int.toNat s) 0) == (-1)) rfl rfl rfl <| s_nil ?_
   refine W.cond ((ab.getD (Int.toNat s) 0) == (-1)) rfl (fun aj => ?_) (fun aj => ?_)
   ·replace hM := M.e_t hM aj
    replace aj := dI aj
    refine W.seq <| W.region rfl <| s_val (x_bld (ps := []) (zs := [I 0, I 0]) (L' := [I 0, I 0]) rfl Tryz.underlying26 Al26 rfl (Bd26 Tryz.underlying26) (.nil)) ?_;refine t_sw 1 0 [I 0, I 0] (.agg #[I 0, I 0]) H rfl rfl Sz26 rfl rfl rfl rfl ?_;intro bv H;refine zA (B false) rfl <| s_nil ?_;refine W.ret ?_
    have aT := M.e_inr hM aw
    subst aT;replace hM := aD;(try dsimp only at hM)
    have aU := (H.bl 1)
    have ax := M.e_pure hM
    exact ⟨_, (resE_ofn (vs := [.agg #[I 0, I 0], B false]) rfl rfl (.cell (v := .agg #[I 0, I 0]) rfl (run_loadVar_ag (ds := [I 0, I 0]) Ag26 Sz26 aU rfl rfl) <| .tmp (v := B false) rfl <| .nil)), ⟨0, 0, false, ax, rfl, (H.pk [])⟩⟩
   replace hM := M.e_f hM aj
   replace aj := dI aj
   refine W.skip ?_
   exact ⟨aP, aQ, ab.getD (Int.toNat s) 0, s2 + ((aa.getD (Int.toNat s) default).lo), s3 + ((aa.getD (Int.toNat s) default).hi), _, upds_of _ _ ⟨rfl, rfl, rfl, rfl, rfl, trivial⟩, M.e_inl hM aw, H⟩
  skip
  refine s_val (x_ld (v := I s3) rfl (ldb_sc Sc3 (H.bl 0) rfl)) ?_
  refine s_nil ⟨(H.pk [1, 2]), ?_⟩
  refine t_q rfl (fun w' H => x_ari (r := s3 + ((aa.getD (Int.toNat s) default).hi)) rfl rfl rfl (by omega)) <| t_l rfl <| s_val (x_ld (v := I s2) rfl (ldb_sc Sc3 (H.bl 0) rfl)) ?_
  refine s_nil ⟨(H.pk [1, 2]), ?_⟩
  refine t_q rfl (fun w' H => x_ari (r := s2 + ((aa.getD (Int.toNat s) default).lo)) rfl rfl rfl (by omega)) <| t_q rfl (fun w' H => x_bld (ps := [(0, I (s2 + ((aa.getD (Int.toNat s) default).lo))), (1, I (s3 + ((aa.getD (Int.toNat s) default).hi)))]) (zs := [I 0, I 0]) (L' := [I (s2 + ((aa.getD (Int.toNat s) default).lo)), I (s3 + ((aa.getD (Int.toNat s) default).hi))]) rfl Tryz.underlying26 Al26 rfl (Bd26 Tryz.underlying26) (.cons (cs := [I (s2 + ((aa.getD (Int.toNat s) default).lo))]) rfl rfl rfl rfl rfl <| .cons (cs := [I (s3 + ((aa.getD (Int.toNat s) default).hi))]) rfl rfl rfl rfl rfl <| .nil)) <| t_l rfl ?_;refine t_sw 0 0 [I (s2 + ((aa.getD (Int.toNat s) default).lo)), I (s3 + ((aa.getD (Int.toNat s) default).hi))] (.agg #[I (s2 + ((aa.getD (Int.toNat s) default).lo)), I (s3 + ((aa.getD (Int.toNat s) default).hi))]) H rfl rfl Sz26 rfl rfl rfl rfl ?_;intro bw H
  refine s_nil ⟨(H.pk [1, 2]), ?_⟩
  refine t_nil <| W.seq <| W.region rfl <| s_val (x_fa (v := Pq ah) rfl (fa_blk (o := 0) Fd37_0 Sz22)) <| s_val (x_ld (v := ae) rfl (ldb_sc Sc22 (H.bl 2) rfl)) <| zM (I s) rfl ?_;obtain ⟨bx, hM⟩ := M.e_gd hM;refine s_val (x_ix (v := vat ae 1 (Int.toNat s)) rfl rfl (Sl.ix (α := Int) T22.und T22.size ay (by omega) (by omega))) <| s_val (x_ld (v := I (ab.getD (Int.toNat s) 0)) rfl (ld_sc Sc3 (At.mono (Int_at ay (i := s) (by omega) (by omega)) (aM.at H)))) <| zA (I (ab.getD (Int.toNat s) 0)) rfl <| s_nil <| W.seq <| W.region rfl <| zM (I (ab.getD (Int.toNat s) 0)) rfl <| zC (ab.getD (Int.toNat s) 0) (-1) ((ab.getD (Int.toNat s) 0) == (-1)) rfl rfl rfl <| s_nil ?_
  refine W.cond ((ab.getD (Int.toNat s) 0) == (-1)) rfl (fun ak => ?_) (fun ak => ?_)
  ·replace hM := M.e_t hM ak
   replace ak := dI ak
   refine W.seq <| W.region rfl <| s_val (x_bld (ps := []) (zs := [I 0, I 0]) (L' := [I 0, I 0]) rfl Tryz.underlying26 Al26 rfl (Bd26 Tryz.underlying26) (.nil)) ?_;refine t_sw 1 0 [I 0, I 0] (.agg #[I 0, I 0]) H rfl rfl Sz26 rfl rfl rfl rfl ?_;intro bz H;refine zA (B false) rfl <| s_nil ?_;refine W.ret ?_
   have aV := M.e_inr hM aw
   subst aV;replace hM := aD;(try dsimp only at hM)
   have aW := (H.bl 1)
   have ax := M.e_pure hM
   exact ⟨_, (resE_ofn (vs := [.agg #[I 0, I 0], B false]) rfl rfl (.cell (v := .agg #[I 0, I 0]) rfl (run_loadVar_ag (ds := [I 0, I 0]) Ag26 Sz26 aW rfl rfl) <| .tmp (v := B false) rfl <| .nil)), ⟨0, 0, false, ax, rfl, (H.pk [])⟩⟩
  replace hM := M.e_f hM ak
  replace ak := dI ak
  refine W.skip ?_
  exact ⟨aP, aQ, ab.getD (Int.toNat s) 0, s2 + ((aa.getD (Int.toNat s) default).lo), s3 + ((aa.getD (Int.toNat s) default).hi), _, upds_of _ _ ⟨rfl, rfl, rfl, rfl, rfl, trivial⟩, M.e_inl hM aw, H⟩
 replace hM := M.e_f hM ai
 replace ai := dI ai
 refine W.exit ?_
 have aX := M.e_inr hM aw
 subst aX;replace hM := aD;(try dsimp only at hM);refine W.seq <| W.region rfl <| s_val (x_ld (v := .agg #[I s2, I s3]) rfl (ldb_ag (ds := [I s2, I s3]) Ag26 Sz26 (H.bl 0) rfl rfl)) ?_;refine t_sw 1 0 [I s2, I s3] (.agg #[I s2, I s3]) H rfl rfl Sz26 rfl rfl rfl rfl ?_;intro bA H;refine zA (B true) rfl <| s_nil ?_;replace H := H.pk [1];refine W.ret ?_
 have aY := (H.bl 0)
 have ax := M.e_pure hM
 exact ⟨_, (resE_ofn (vs := [.agg #[I s2, I s3], B true]) rfl rfl (.cell (v := .agg #[I s2, I s3]) rfl (run_loadVar_ag (ds := [I s2, I s3]) Ag26 Sz26 aY rfl rfl) <| .tmp (v := B true) rfl <| .nil)), ⟨s2, s3, true, ax, rfl, (H.pk [])⟩⟩

end Go.Proofs.YtbaehghammbjdaaGreat
end
namespace Go.Nm
/-- The first one from a place on. -/
def fs {ρ : Type} (f : Nat -> Option ρ) : Nat -> Nat -> Option ρ
  | 0, _ => none
  | m + 1, i => match f i with
    | some e => some e
    | none => fs f m (i + 1)
theorem fs_none {ρ : Type} {f : Nat -> Option ρ} : ∀ {m i : Nat}, fs f m i = none -> ∀ j, i <= j -> j < i + m -> f j = none
  | 0, i, _, j, h1, h2 => by omega
  | m + 1, i, h, j, h1, h2 => by
    unfold fs at h
    cases e : f i with
    | some x => rw [e] at h; cases h
    | none =>
      rw [e] at h
      rcases Nat.lt_or_eq_of_le h1 with g | g
      · exact fs_none h j g (by omega)
      · subst g
        exact e
/-- How a scan goes on. -/
def fsS {ρ : Type} (i : Nat) : Option ρ -> Nat ⊕ (ρ ⊕ Unit)
  | none => .inl (i + 1)
  | some e => .inr (.inl e)
def fsR {ρ : Type} : Option ρ -> ρ ⊕ Unit
  | none => .inr ()
  | some e => .inl e
theorem M.i_fs {ρ : Type} {body : Nat -> M (Nat ⊕ (ρ ⊕ Unit))} (n : Nat) (f : Nat -> Option ρ) (step : ∀ i, i < n -> (body i).Ends (fsS i (f i))) (fin : (body n).Ends (.inr (.inr ()))) :
    ∀ m i, i + m = n -> (M.iter body i).Ends (fsR (fs f m i))
  | 0, i, h => by
    obtain rfl : i = n := by omega
    exact M.i_stop fin
  | m + 1, i, h => by
    have h1 := step i (by omega)
    unfold fs
    cases e : f i with
    | some x => rw [e] at h1; exact M.i_stop h1
    | none => rw [e] at h1; exact M.i_next h1 (M.i_fs n f step fin m (i + 1) (by omega))
theorem M.i_optA {b x : Bool} {m : M Bool} (h : m.Ends x) : (M.opt b m false).Ends (b && x) := by
  cases b with
  | true => exact M.i_opt (fun _ => h) (fun h => by cases h)
  | false => exact M.i_opt (fun h => by cases h) (fun _ => rfl)
namespace Wn
/-- Strictly increasing, from 0 to less than an end. -/
def Up (l : List Int) (n : Int) : Prop := ∀ i, i < l.length -> (0 <= l.getD i 0 /\ l.getD i 0 < n) /\ (0 < i -> l.getD (i - 1) 0 < l.getD i 0)
theorem Up.sr {l : List Int} {n : Int} (h : Up l n) : l.Pairwise (· < ·) := by
  rw [List.pairwise_iff_getElem]
  intro i j hi hj hij
  induction j with
  | zero => omega
  | succ j ih =>
    have := (h (j + 1) hj).2 (by omega)
    rw [Nat.add_sub_cancel, getD_el l hj, getD_el l (show j < l.length by omega)] at this
    rcases Nat.lt_or_eq_of_le (Nat.le_of_lt_succ hij) with g | g
    · have := ih (by omega) g
      omega
    · subst g
      exact this
theorem Up.si {l : List Int} {n : Int} (h : Up l n) : ∀ x ∈ l, 0 <= x /\ x < n := by
  intro x hx
  obtain ⟨i, hi, rfl⟩ := mem_getD hx 0
  exact (h i hi).1
end Wn
end Go.Nm
namespace Go.Proofs.YtbaehghammbjdaaGreat
open Go Go.Nm
theorem rising_out {l : List Int} {n : Int} (hn : 0 <= n /\ n <= 1000) : (zaA l n).Out (fun r => r = true ↔ Wn.Up l n) := by
  unfold zaA
  refine M.o_bind (P := fun x => match x with | .inl (_ : Unit) => ¬ Wn.Up l n | .inr (_ : Unit) => Wn.Up l n) ?_ ?_
  · refine M.o_for l.length (fun i (t : Int × Nat) => t.2 = i /\ (∀ j, j < i -> (0 <= l.getD j 0 /\ l.getD j 0 < n) /\ (0 < j -> l.getD (j - 1) 0 < l.getD j 0)) /\ (i = 0 -> t.1 = -1) /\ (0 < i -> t.1 = l.getD (i - 1) 0)) ?_ ?_ ⟨rfl, fun j hj => by omega, fun _ => rfl, fun h => by omega⟩
    · rintro _ ⟨a, i⟩ hi ⟨rfl, h1, h2, h3⟩
      dsimp only at hi h1 h2 h3
      simp only [zaV]
      have ha : -1 <= a /\ a < 1000 := by
        rcases Nat.eq_zero_or_pos i with e | e
        · have := h2 e; omega
        · have := h3 e
          have := (h1 (i - 1) (by omega)).1
          omega
      refine M.ot1 (M.og1 (M.og2 (M.og2 (M.o_bindE (in_ends _ _ _) (M.o_if (fun hb => M.o_pure ?_) (fun hb => M.o_pure ⟨rfl, fun j hj => ?_, fun h => by omega, fun _ => rfl⟩))))))
      · intro hU
        have := hU i hi
        simp only [Bool.not_eq_true', Bool.and_eq_false_iff, decide_eq_false_iff_not] at hb
        rcases Nat.eq_zero_or_pos i with e | e
        · have := h2 e; omega
        · have := h3 e
          have := this
          have h4 := (hU i hi).2 e
          omega
      · simp only [Bool.not_eq_false', Bool.and_eq_true, decide_eq_true_eq] at hb
        rcases Nat.lt_or_eq_of_le (Nat.le_of_lt_succ hj) with g | g
        · exact h1 j g
        · subst g
          refine ⟨by omega, fun h => ?_⟩
          have := h3 h
          omega
    · rintro ⟨a, i⟩ ⟨e, h1, _⟩
      dsimp only at e h1
      subst e
      simp only [zaV]
      exact M.of1 (M.o_pure h1)
  · rintro (u | u) h
    · exact M.o_pure ⟨fun h => (by cases h), fun h' => absurd h' h⟩
    · exact M.o_pure ⟨fun _ => h, fun _ => rfl⟩
theorem outside_ends (n a b : Int) : (zaj n a b).Ends (decide (n < a) || decide (b < n)) := M.i_pure
theorem unlisted_out {l : List Int} {n : Int} (hn : 0 <= n /\ n <= 1000) (hl : l.length <= 1000) : (zb7 l n).Out (fun r => r = true ↔ ¬ Wn.Up l n) := by
  unfold zb7
  refine M.o_bind (P := fun x => match x with | .inl (_ : Unit) => ¬ Wn.Up l n | .inr (_ : Unit) => Wn.Up l n) ?_ ?_
  · refine M.o_for l.length (fun i (t : Nat) => t = i /\ (∀ j, j < i -> (0 <= l.getD j 0 /\ l.getD j 0 < n) /\ (0 < j -> l.getD (j - 1) 0 < l.getD j 0))) ?_ ?_ ⟨rfl, fun j hj => by omega⟩
    · rintro _ i hi ⟨rfl, h1⟩
      simp only [zcr]
      have e1 : Int.toNat ((i : Int) - 1) = i - 1 := by omega
      refine M.ot1 (M.og1 (M.og2 (M.o_bindE (outside_ends _ _ _) (M.o_grd (gI2 fun _ => by omega) (M.o_grd (gI2 fun h => ?_) ?_)))))
      · simp only [Bool.and_eq_true, decide_eq_true_eq] at h
        omega
      rw [e1]
      refine M.o_if (fun hb => M.o_pure ?_) (fun hb => M.o_pure ⟨rfl, fun j hj => ?_⟩)
      · intro hU
        have h2 := hU i hi
        simp only [Bool.or_eq_true, Bool.and_eq_true, decide_eq_true_eq] at hb
        rcases hb with hb | hb
        · omega
        · have := h2.2 (by omega)
          omega
      · simp only [Bool.or_eq_false_iff, Bool.and_eq_false_iff, decide_eq_false_iff_not] at hb
        rcases Nat.lt_or_eq_of_le (Nat.le_of_lt_succ hj) with g | g
        · exact h1 j g
        · subst g
          omega
    · rintro _ ⟨rfl, h1⟩
      simp only [zcr]
      exact M.of1 (M.o_pure h1)
  · rintro (u | u) h
    · exact M.o_pure ⟨fun _ => h, fun _ => rfl⟩
    · exact M.o_pure ⟨fun h => (by cases h), fun h' => absurd h h'⟩
theorem contains_ends (s : List Int) (v : Int) : (zbE s v).Ends (decide (v ∈ s)) := by
  refine M.Out.ends ?_
  unfold zbE zct
  refine M.o_bind (P := fun r => 0 <= r ↔ v ∈ s) (M.o_bind (P := fun r => match r with | .inl r => ∃ k : Nat, r = (k : Int) /\ v ∈ s | .inr (_ : Unit) => v ∉ s) ?_ ?_) (fun r h => M.o_pure (by simp only [h]))
  · refine M.o_for s.length (fun i (k : Nat) => k = i /\ ∀ j, j < i -> s.getD j 0 ≠ v) ?_ ?_ ⟨rfl, fun j hj => by omega⟩
    · rintro i _ hi ⟨rfl, hp⟩
      simp only [zaL]
      refine M.ot1 (M.og1 (M.o_if (fun hb => M.o_pure ⟨_, rfl, ?_⟩) (fun hb => M.o_pure ⟨rfl, fun j hj => ?_⟩)))
      · rw [beq_iff_eq.1 hb, getD_el s hi]
        exact List.getElem_mem hi
      rcases Nat.lt_or_eq_of_le (Nat.le_of_lt_succ hj) with e | e
      · exact hp j e
      · subst e
        exact fun e => (beq_eq_false_iff_ne.1 hb) e.symm
    · rintro _ ⟨rfl, hp⟩
      simp only [zaL]
      refine M.of1 (M.o_pure ?_)
      intro h
      obtain ⟨i, hi, e⟩ := mem_getD h 0
      exact hp i hi e
  · rintro (r | r) h
    · obtain ⟨k, rfl, h⟩ := h
      exact M.o_pure ⟨fun _ => h, fun _ => by omega⟩
    · exact M.o_pure ⟨fun h' => by omega, fun h' => absurd h' h⟩
theorem every_towns (l : List Town) (so : Town -> M Bool) (p : Town -> Bool) (h : ∀ t ∈ l, (so t).Ends (p t)) : (za6 l so).Ends (l.all p) := by
  refine M.Out.ends ?_
  unfold za6 zbG zcZ
  refine M.o_bind (P := fun b => b = !l.all p) (M.o_bind (P := fun r => decide (0 <= r) = !l.all p) (M.o_bind (P := fun r => match r with | .inl r => (0 : Int) <= r /\ l.all p = false | .inr (_ : Unit) => l.all p = true) ?_ ?_) (fun r h => M.o_pure h)) (fun r h => M.o_pure (by rw [h]; simp))
  · refine M.o_for l.length (fun i (k : Nat) => k = i /\ ∀ j, j < i -> p (l.getD j default) = true) ?_ ?_ ⟨rfl, fun j hj => by omega⟩
    · rintro _ i hi ⟨rfl, hp⟩
      simp only [zaI]
      have hm : l.getD i default ∈ l := by rw [getD_el l hi]; exact List.getElem_mem hi
      refine M.ot1 (M.og1 (M.o_bindE (a := !p (l.getD i default)) ?_ (M.o_if (fun hb => M.o_pure ⟨by omega, ?_⟩) (fun hb => M.o_pure ⟨rfl, fun j hj => ?_⟩))))
      · unfold zcc
        exact M.i_bind (h _ hm) M.i_pure
      · rw [List.all_eq_false]
        exact ⟨_, hm, by simpa using hb⟩
      · rcases Nat.lt_or_eq_of_le (Nat.le_of_lt_succ hj) with e | e
        · exact hp j e
        · subst e
          simpa using hb
    · rintro _ ⟨rfl, hp⟩
      simp only [zaI]
      refine M.of1 (M.o_pure ?_)
      rw [List.all_eq_true]
      intro x hx
      obtain ⟨i, hi, e⟩ := mem_getD hx default
      rw [← e]
      exact hp i hi
  · rintro (r | r) h
    · exact M.o_pure (by rw [h.2, decide_eq_true h.1]; rfl)
    · exact M.o_pure (by dsimp only at h; rw [h]; rfl)
theorem every_ints (l : List Int) (so : Int -> M Bool) (p : Int -> Bool) (h : ∀ t ∈ l, (so t).Ends (p t)) : (za7 l so).Ends (l.all p) := by
  refine M.Out.ends ?_
  unfold za7 zau zb4
  refine M.o_bind (P := fun b => b = !l.all p) (M.o_bind (P := fun r => decide (0 <= r) = !l.all p) (M.o_bind (P := fun r => match r with | .inl r => (0 : Int) <= r /\ l.all p = false | .inr (_ : Unit) => l.all p = true) ?_ ?_) (fun r h => M.o_pure h)) (fun r h => M.o_pure (by rw [h]; simp))
  · refine M.o_for l.length (fun i (k : Nat) => k = i /\ ∀ j, j < i -> p (l.getD j 0) = true) ?_ ?_ ⟨rfl, fun j hj => by omega⟩
    · rintro _ i hi ⟨rfl, hp⟩
      simp only [zav]
      have hm : l.getD i 0 ∈ l := by rw [getD_el l hi]; exact List.getElem_mem hi
      refine M.ot1 (M.og1 (M.o_bindE (a := !p (l.getD i 0)) ?_ (M.o_if (fun hb => M.o_pure ⟨by omega, ?_⟩) (fun hb => M.o_pure ⟨rfl, fun j hj => ?_⟩))))
      · unfold zcf
        exact M.i_bind (h _ hm) M.i_pure
      · rw [List.all_eq_false]
        exact ⟨_, hm, by simpa using hb⟩
      · rcases Nat.lt_or_eq_of_le (Nat.le_of_lt_succ hj) with e | e
        · exact hp j e
        · subst e
          simpa using hb
    · rintro _ ⟨rfl, hp⟩
      simp only [zav]
      refine M.of1 (M.o_pure ?_)
      rw [List.all_eq_true]
      intro x hx
      obtain ⟨i, hi, e⟩ := mem_getD hx 0
      rw [← e]
      exact hp i hi
  · rintro (r | r) h
    · exact M.o_pure (by rw [h.2, decide_eq_true h.1]; rfl)
    · exact M.o_pure (by dsimp only at h; rw [h]; rfl)
end Go.Proofs.YtbaehghammbjdaaGreat
namespace Go.Nm
theorem M.i_eq {α : Type} {m : M α} {a b : α} (h : m.Ends a) (e : a = b) : m.Ends b := e ▸ h
theorem fs_some {ρ : Type} {f : Nat -> Option ρ} {x : ρ} : ∀ {m i : Nat}, fs f m i = some x -> ∃ j, f j = some x
  | 0, _, h => by cases h
  | m + 1, i, h => by
    unfold fs at h
    cases e : f i with
    | some y => rw [e] at h; exact ⟨i, by rw [e]; exact h⟩
    | none => rw [e] at h; exact fs_some h
namespace Wn
def hok (s : Span) : Bool := decide (0 <= s.lo /\ s.lo <= s.hi /\ s.hi <= 1000)
def c1 (dn : List Int) (tr : List Span) (i : Nat) : Option Int :=
  if dn.getD i 0 ≠ -1 /\ ¬((i : Int) + 1 <= dn.getD i 0 /\ dn.getD i 0 <= (dn.length : Int) - 1) then some 2 else if hok (tr.getD i default) = true then none else some 130
def tim (t : Town) : Bool := decide ((0 <= t.lead /\ t.lead <= 1000) /\ 0 <= t.alarm /\ t.alarm <= 2000)
def sta (n : Int) (t : Town) : Bool := decide (0 <= t.station /\ t.station < n)
def sok (x : Int) : Bool := decide (0 <= x) && decide (x <= 2000)
def ct (n : Int) (tw : List Town) (i : Nat) : Option Unit := if tim (tw.getD i default) = true /\ sta n (tw.getD i default) = true then none else some ()
def c2 (dn sp : List Int) (fl : List Flood) (i : Nat) : Option Int :=
  if (fl.getD i default).spring ∈ sp /\ (fl.getD i default).stages.length = (P dn (fl.getD i default).spring).length then (if (fl.getD i default).stages.all sok = true then none else some 130) else some 2
end Wn
end Go.Nm
namespace Go.Proofs.YtbaehghammbjdaaGreat
open Go Go.Nm
variable {dn : List Int} {tr : List Span} {sp : List Int} {tw : List Town} {dl dh : Int} {fl : List Flood}
theorem hours_ends (s : Span) : (zaK s).Ends (Wn.hok s) := by
  unfold zaK
  refine M.i_eq (M.i_bind (in_ends _ _ _) (M.i_bind (M.i_optA (in_ends _ _ _)) M.i_pure)) ?_
  unfold Wn.hok
  rw [Bool.eq_iff_iff]
  simp only [Bool.and_eq_true, decide_eq_true_eq]
  omega
theorem spoilt_ends (s : Span) : (zcv s).Ends (!Wn.hok s) := by
  unfold zcv
  refine M.i_eq M.i_pure ?_
  unfold Wn.hok
  rw [Bool.eq_iff_iff]
  simp only [Bool.or_eq_true, Bool.not_eq_true', decide_eq_false_iff_not, decide_eq_true_eq]
  omega
theorem stage_ends (n : Int) : (zaC n).Ends (Wn.sok n) := by
  unfold zaC
  exact M.i_bind (in_ends _ _ _) M.i_pure
theorem timely_ends (t : Town) : (zaQ t).Ends (Wn.tim t) := by
  unfold zaQ
  refine M.i_eq (M.i_bind (in_ends _ _ _) (M.i_bind (M.i_optA (stage_ends _)) M.i_pure)) ?_
  unfold Wn.tim Wn.sok
  rw [Bool.eq_iff_iff]
  simp only [Bool.and_eq_true, decide_eq_true_eq]
  omega
theorem check1_ends {n : Nat} (hn : n <= 12) (t : Town) : (zaU t (n : Int)).Ends (Wn.sta n t) := by
  unfold zaU
  refine M.ig2 (M.i_eq (M.i_bind (in_ends _ _ _) M.i_pure) ?_)
  unfold Wn.sta
  rw [Bool.eq_iff_iff]
  simp only [Bool.and_eq_true, decide_eq_true_eq]
  omega
theorem b0_own (h12 : dn.length <= 12) (tl : tr.length = dn.length) (i : Nat) (hi : i < dn.length) : (zaG dn tr i).Ends (fsS i (Wn.c1 dn tr i)) := by
  simp only [zaG]
  refine M.it1 (M.ig1 (M.i_bind (M.i_optA (in_ends _ _ _)) ?_))
  unfold Wn.c1
  by_cases a : dn.getD i 0 ≠ -1 /\ ¬((i : Int) + 1 <= dn.getD i 0 /\ dn.getD i 0 <= (dn.length : Int) - 1)
  · rw [if_pos a]
    refine M.i_t ?_ M.i_pure
    rw [show (dn.getD i 0 != -1) = true from bne_iff_ne.2 a.1]
    simp only [Bool.true_and, Bool.not_eq_true', Bool.and_eq_false_iff, decide_eq_false_iff_not]
    omega
  · rw [if_neg a]
    refine M.i_f ?_ (M.ig1 (M.i_bind (hours_ends _) ?_))
    · by_cases e : dn.getD i 0 = -1
      · rw [e]; rfl
      · rw [show (dn.getD i 0 != -1) = true from bne_iff_ne.2 e]
        simp only [Bool.true_and, Bool.not_eq_false', Bool.and_eq_true, decide_eq_true_eq]
        omega
    · cases Wn.hok (tr.getD i default) with
      | true => exact M.i_f rfl M.i_pure
      | false => exact M.i_t rfl M.i_pure
theorem b0_ref (h12 : dn.length <= 12) (tl : tr.length = dn.length) (i : Nat) (hi : i < dn.length) : (zbu dn tr i).Ends (fsS i (Wn.c1 dn tr i)) := by
  simp only [zbu]
  refine M.it1 (M.ig1 (M.i_bind (M.i_optA (outside_ends _ _ _)) ?_))
  unfold Wn.c1
  by_cases a : dn.getD i 0 ≠ -1 /\ ¬((i : Int) + 1 <= dn.getD i 0 /\ dn.getD i 0 <= (dn.length : Int) - 1)
  · rw [if_pos a]
    refine M.i_t ?_ M.i_pure
    rw [show (dn.getD i 0 != -1) = true from bne_iff_ne.2 a.1]
    simp only [Bool.true_and, Bool.or_eq_true, decide_eq_true_eq]
    omega
  · rw [if_neg a]
    refine M.i_f ?_ (M.ig1 (M.i_bind (spoilt_ends _) ?_))
    · by_cases e : dn.getD i 0 = -1
      · rw [e]; rfl
      · rw [show (dn.getD i 0 != -1) = true from bne_iff_ne.2 e]
        simp only [Bool.true_and, Bool.or_eq_false_iff, decide_eq_false_iff_not]
        omega
    · cases Wn.hok (tr.getD i default) with
      | true => exact M.i_f rfl M.i_pure
      | false => exact M.i_t rfl M.i_pure
theorem b1_ref (h12 : dn.length <= 12) (i : Nat) (hi : i < tw.length) : (zbg dn tw i).Ends (fsS i (Wn.ct dn.length tw i)) := by
  simp only [zbg]
  refine M.it1 (M.ig1 (M.i_bind (outside_ends _ _ _) (M.i_bind (M.i_optA (outside_ends _ _ _)) (M.i_bind (M.i_optA (outside_ends _ _ _)) ?_))))
  unfold Wn.ct Wn.tim Wn.sta
  by_cases a : decide (((0 : Int) <= (tw.getD i default).lead /\ (tw.getD i default).lead <= 1000) /\ 0 <= (tw.getD i default).alarm /\ (tw.getD i default).alarm <= 2000) = true /\ decide (0 <= (tw.getD i default).station /\ (tw.getD i default).station < (dn.length : Int)) = true
  · rw [if_pos a]
    simp only [decide_eq_true_eq] at a
    refine M.i_f ?_ M.i_pure
    simp only [Bool.or_eq_false_iff, Bool.and_eq_false_iff, Bool.and_eq_true, Bool.not_eq_true', decide_eq_false_iff_not, Bool.not_eq_false', Bool.or_eq_true, decide_eq_true_eq]
    omega
  · rw [if_neg a]
    simp only [decide_eq_true_eq] at a
    refine M.i_t ?_ M.i_pure
    rw [← Bool.not_eq_false]
    intro h
    apply a
    simp only [Bool.or_eq_false_iff, Bool.and_eq_false_iff, Bool.and_eq_true, Bool.not_eq_true', decide_eq_false_iff_not, Bool.not_eq_false', Bool.or_eq_true, decide_eq_true_eq] at h
    omega
theorem path_long (h : Wn.Dn dn) (h12 : dn.length <= 12) {s : Int} (hs : 0 <= s) (k11 : List Span) (k12 : List Int) (k13 : List Town) (k14 k15 : Int) (k16 : List Flood) :
    (zai (M.yl zaw) (.inl 0) s dn k11 k12 k13 k14 k15 k16).Out (fun y => ∃ c, y.1 = .inl c /\ (s < (dn.length : Int) -> c = ((Wn.P dn s).length : Int))) := by
  by_cases e : s < (dn.length : Int)
  · have hst : Wn.Stn dn s := .inr ⟨hs, e⟩
    have hsh := Wn.P_short h hst
    refine M.o_mono (path_out (Q := fun x => x = (.inl ((Wn.P dn s).length : Int) : Int ⊕ Unit)) h h12 hst (fun k (c : Int) => c = (k : Int)) rfl ?_ ?_ _ _ _ _ _ _) (fun y hy => ⟨_, hy, fun _ => rfl⟩)
    · rintro k hk _ rfl
      simp only [zaw]
      exact M.og2 (M.o_pure (by omega))
    · rintro _ rfl
      rfl
  · unfold zai
    refine M.o_bindE (a := Sum.inr ((Sum.inl 0 : Int ⊕ Unit), s)) (M.i_stop ?_) ?_
    · simp only [zaP]
      exact M.i_f (by rw [decide_eq_false e, Bool.and_false]) M.i_pure
    · exact M.o_pure ⟨0, rfl, fun h => absurd h e⟩
theorem refpath_ends (h : Wn.Dn dn) (h12 : dn.length <= 12) {s : Int} (hs : Wn.Stn dn s) (k11 : List Span) (k12 : List Int) (k13 : List Town) (k14 k15 : Int) (k16 : List Flood) : (zcK dn k11 k12 k13 k14 k15 k16 s).Ends (Wn.P dn s) := by
  refine M.Out.ends ?_
  unfold zcK
  have hsh := Wn.P_short h hs
  refine M.o_bind (P := fun y => y.2 = Wn.P dn s) (M.o_for (Wn.P dn s).length (fun i (t : Int × List Int) => t.2 = (Wn.P dn s).take i /\ Wn.P dn t.1 = (Wn.P dn s).drop i /\ Wn.Stn dn t.1) ?_ ?_ ⟨by rw [List.take_zero], by rw [List.drop_zero], hs⟩) (fun y hy => M.o_pure hy)
  · rintro i ⟨c, l⟩ hi ⟨e1, e2, e3⟩
    dsimp only at e1 e2 e3
    simp only [zcd]
    have hd : (Wn.P dn s).drop i = (Wn.P dn s)[i] :: (Wn.P dn s).drop (i + 1) := List.drop_eq_getElem_cons hi
    have hc : 0 <= c /\ c < dn.length := by
      rcases e3 with rfl | e3
      · rw [Wn.P_none, hd] at e2
        cases e2
      · exact e3
    rw [Wn.P_cons h hc.1 hc.2, hd] at e2
    obtain ⟨g1, g2⟩ := List.cons.inj e2
    have hx := h.next hc.1 hc.2
    refine M.o_t (bne_iff_ne.2 (by omega)) (M.o_grdD (by rw [e1]; simp; omega) (M.o_grd (gA2 hc.1 hc.2) (M.o_pure ⟨?_, g2, h.next_st hc.1 hc.2⟩)))
    dsimp only
    rw [e1, g1, ← List.take_succ_eq_append_getElem hi]
  · rintro ⟨c, l⟩ ⟨e1, e2, e3⟩
    dsimp only at e1 e2 e3
    simp only [zcd]
    rw [List.drop_length] at e2
    have hc : c = -1 := by
      rcases e3 with e3 | e3
      · exact e3
      · rw [Wn.P_cons h e3.1 e3.2] at e2
        cases e2
    subst hc
    refine M.o_f rfl (M.o_pure ?_)
    dsimp only
    rw [e1, List.take_length]
theorem b5_ref (i : Nat) : (M.iter (zbn sp fl i) (false, 0)).Ends ((fl.getD i default).spring, decide ((fl.getD i default).spring ∈ sp)) := by
  refine M.Out.ends ?_
  refine M.o_for sp.length (fun k (t : Bool × Nat) => t = (decide ((fl.getD i default).spring ∈ sp.take k), k)) ?_ ?_ (by simp)
  · rintro k _ hk rfl
    simp only [zbn]
    refine M.ot1 (M.o_grd (gOr (by omega)) (M.o_pure ?_))
    rw [List.take_succ_eq_append_getElem hk, getD_el sp hk]
    congr 1
    rw [Bool.eq_iff_iff]
    simp only [Bool.or_eq_true, decide_eq_true_eq, beq_iff_eq, List.mem_append, List.mem_singleton]
    exact or_congr Iff.rfl ⟨Eq.symm, Eq.symm⟩
  · rintro _ rfl
    simp only [zbn]
    refine M.of1 (M.o_pure ?_)
    rw [List.take_length]
theorem b6_ref (i : Nat) : (M.iter (zbj fl i) 0).Ends (if (fl.getD i default).stages.all Wn.sok = true then .inr () else .inl ()) := by
  refine M.Out.ends ?_
  refine M.o_for (fl.getD i default).stages.length (fun k (t : Nat) => t = k /\ ∀ j, j < k -> Wn.sok ((fl.getD i default).stages.getD j 0) = true) ?_ ?_ ⟨rfl, fun j hj => by omega⟩
  · rintro _ k hk ⟨rfl, hp⟩
    simp only [zbj]
    refine M.ot1 (M.og1 (M.o_bindE (outside_ends _ _ _) (M.o_if (fun hb => M.o_pure ?_) (fun hb => M.o_pure ⟨rfl, fun j hj => ?_⟩))))
    · rw [if_neg]
      intro h
      have := List.all_eq_true.1 h ((fl.getD i default).stages.getD k 0) (by rw [getD_el _ hk]; exact List.getElem_mem hk)
      unfold Wn.sok at this
      simp only [Bool.or_eq_true, Bool.and_eq_true, decide_eq_true_eq] at hb this
      omega
    · rcases Nat.lt_or_eq_of_le (Nat.le_of_lt_succ hj) with e | e
      · exact hp j e
      · subst e
        unfold Wn.sok
        simp only [Bool.or_eq_false_iff, decide_eq_false_iff_not] at hb
        exact gA2 (by omega) (by omega)
  · rintro _ ⟨rfl, hp⟩
    simp only [zbj]
    refine M.of1 (M.o_pure ?_)
    rw [if_pos]
    rw [List.all_eq_true]
    intro x hx
    obtain ⟨j, hj, e⟩ := mem_getD hx 0
    rw [← e]
    exact hp j hj
theorem b3_own (h : Wn.Dn dn) (h12 : dn.length <= 12) (U : Wn.Up sp dn.length) (i : Nat) (hi : i < fl.length) : (zaB dn tr sp tw dl dh fl i).Ends (fsS i (Wn.c2 dn sp fl i)) := by
  simp only [zaB]
  have hp : (zam dn tr sp tw dl dh fl (max 0 (fl.getD i default).spring)).Ends (max 0 (fl.getD i default).spring, dl, dh) := M.i_pure
  obtain ⟨⟨x, q⟩, e1, c, e2, e3⟩ := path_long h h12 (show 0 <= max 0 (fl.getD i default).spring by omega) tr sp tw dl dh fl
  dsimp only at e2
  subst e2
  refine M.it1 (M.ig1 (M.i_bind hp (M.i_bind e1 ?_)))
  dsimp only
  refine M.i_bind (contains_ends _ _) ?_
  unfold Wn.c2
  by_cases a : (fl.getD i default).spring ∈ sp
  · have hs := U.si _ a
    rw [show max 0 (fl.getD i default).spring = (fl.getD i default).spring by omega] at e3
    have e3 := e3 hs.2
    subst e3
    rw [decide_eq_true a]
    by_cases b : (fl.getD i default).stages.length = (Wn.P dn (fl.getD i default).spring).length
    · rw [if_pos ⟨a, b⟩]
      refine M.i_f (by rw [b]; simp) (M.i_bind (every_ints _ _ Wn.sok fun t _ => stage_ends t) ?_)
      cases (fl.getD i default).stages.all Wn.sok with
      | true => exact M.i_f rfl M.i_pure
      | false => exact M.i_t rfl M.i_pure
    · rw [if_neg (fun h => b h.2)]
      refine M.i_t ?_ M.i_pure
      simp only [Bool.not_true, Bool.false_or, bne_iff_ne]
      omega
  · rw [if_neg (fun h => a h.1), decide_eq_false a]
    exact M.i_t rfl M.i_pure
theorem b8_ref (h : Wn.Dn dn) (h12 : dn.length <= 12) (U : Wn.Up sp dn.length) (i : Nat) (hi : i < fl.length) : (zbp dn tr sp tw dl dh fl i).Ends (fsS i (Wn.c2 dn sp fl i)) := by
  simp only [zbp]
  refine M.it1 (M.ig1 (M.i_bind (b5_ref i) ?_))
  dsimp only
  unfold Wn.c2
  by_cases a : (fl.getD i default).spring ∈ sp
  · have hs := U.si _ a
    rw [decide_eq_true a]
    refine M.i_t rfl (M.i_bind (refpath_ends h h12 (.inr hs) _ _ _ _ _ _) ?_)
    by_cases b : (fl.getD i default).stages.length = (Wn.P dn (fl.getD i default).spring).length
    · rw [if_pos ⟨a, b⟩]
      refine M.i_f (by rw [b]; simp) (M.i_bind (b6_ref i) ?_)
      cases (fl.getD i default).stages.all Wn.sok with
      | true => exact M.i_pure
      | false => exact M.i_pure
    · rw [if_neg (fun h => b h.2)]
      refine M.i_t ?_ M.i_pure
      simp only [Bool.not_true, Bool.false_or, bne_iff_ne]
      omega
  · rw [if_neg (fun h => a h.1), decide_eq_false a]
    exact M.i_f rfl (M.i_t rfl M.i_pure)
theorem own_head {K : M Int} {e : Int} (L : (1 <= dn.length /\ dn.length <= 12) /\ tr.length = dn.length /\ (1 <= sp.length /\ sp.length <= 8) /\ tw.length <= 8 /\ fl.length <= 20) (h : K.Ends e) :
    (M.bind (zac (dn.length : Int) 1 12) fun r2 => M.bind (M.opt (!((!r2) || ((tr.length : Int) != (dn.length : Int)))) (zac (sp.length : Int) 1 8) false) fun r3 =>
      bif (((((!r2) || ((tr.length : Int) != (dn.length : Int))) || (!r3)) || (decide (8 < (tw.length : Int)))) || (decide (20 < (fl.length : Int)))) then M.pure 3 else K).Ends e := by
  refine M.i_bind (in_ends _ _ _) (M.i_bind (M.i_optA (in_ends _ _ _)) (M.i_f ?_ h))
  simp only [Bool.or_eq_false_iff, Bool.not_eq_false', Bool.and_eq_true, Bool.not_eq_true', decide_eq_true_eq, decide_eq_false_iff_not, bne_eq_false_iff_eq]
  omega
theorem ref_head {K : M Int} {e : Int} (L : (1 <= dn.length /\ dn.length <= 12) /\ tr.length = dn.length /\ (1 <= sp.length /\ sp.length <= 8) /\ tw.length <= 8 /\ fl.length <= 20) (h : K.Ends e) :
    (M.bind (zaj (dn.length : Int) 1 12) fun r2 => M.bind (M.opt (!(r2 || ((tr.length : Int) != (dn.length : Int)))) (zaj (sp.length : Int) 1 8) false) fun r3 =>
      bif ((((r2 || ((tr.length : Int) != (dn.length : Int))) || r3) || (decide (8 < (tw.length : Int)))) || (decide (20 < (fl.length : Int)))) then M.pure 3 else K).Ends e := by
  refine M.i_bind (outside_ends _ _ _) (M.i_bind (M.i_optA (outside_ends _ _ _)) (M.i_f ?_ h))
  simp only [Bool.or_eq_false_iff, Bool.and_eq_false_iff, Bool.and_eq_true, Bool.not_eq_true', Bool.not_eq_false', Bool.or_eq_true, decide_eq_true_eq, decide_eq_false_iff_not, bne_eq_false_iff_eq, bne_iff_ne]
  omega
/-- Both checks say the same, and what they let pass is right. -/
theorem checks (dn : List Int) (tr : List Span) (sp : List Int) (tw : List Town) (dl dh : Int) (fl : List Flood) :
    ∃ e, (zay dn tr sp tw dl dh fl).Ends e /\ (zae dn tr sp tw dl dh fl).Ends e /\ (e = 0 -> Wn.Rv dn tr sp tw dl dh fl) := by
  unfold zay zae
  by_cases L : (1 <= dn.length /\ dn.length <= 12) /\ tr.length = dn.length /\ (1 <= sp.length /\ sp.length <= 8) /\ tw.length <= 8 /\ fl.length <= 20
  case neg =>
    refine ⟨3, M.i_bind (in_ends _ _ _) (M.i_bind (M.i_optA (in_ends _ _ _)) (M.i_t ?_ M.i_pure)), M.i_bind (outside_ends _ _ _) (M.i_bind (M.i_optA (outside_ends _ _ _)) (M.i_t ?_ M.i_pure)), fun h => by omega⟩
    · rw [← Bool.not_eq_false]
      intro h
      apply L
      simp only [Bool.or_eq_false_iff, Bool.not_eq_false', Bool.and_eq_true, decide_eq_true_eq, decide_eq_false_iff_not, bne_eq_false_iff_eq] at h
      omega
    · rw [← Bool.not_eq_false]
      intro h
      apply L
      simp only [Bool.or_eq_false_iff, Bool.and_eq_false_iff, Bool.not_eq_false', Bool.or_eq_true, decide_eq_true_eq, decide_eq_false_iff_not, bne_eq_false_iff_eq, bne_iff_ne] at h
      omega
  have L' := L
  obtain ⟨⟨n1, n12⟩, tl, ⟨s1, s8⟩, t8, f20⟩ := L
  have g1 := M.i_fs dn.length (Wn.c1 dn tr) (b0_own n12 tl) (by simp only [zaG]; exact M.if1 M.i_pure) dn.length 0 (by omega)
  have g2 := M.i_fs dn.length (Wn.c1 dn tr) (b0_ref n12 tl) (by simp only [zbu]; exact M.if1 M.i_pure) dn.length 0 (by omega)
  cases e1 : fs (Wn.c1 dn tr) dn.length 0 with
  | some x =>
    rw [e1] at g1 g2
    refine ⟨x, own_head L' (M.i_bind g1 M.i_pure), ref_head L' (M.i_bind g2 M.i_pure), fun h => ?_⟩
    obtain ⟨j, hj⟩ := fs_some e1
    unfold Wn.c1 at hj
    subst h
    split at hj
    · cases hj
    · split at hj <;> cases hj
  | none =>
  rw [e1] at g1 g2
  have c1 := fs_none e1
  have hnx : Wn.Dn dn := fun i hi => by
    have := c1 i (Nat.zero_le _) (by omega)
    unfold Wn.c1 at this
    split at this
    · cases this
    · omega
  have hhr : ∀ i, i < tr.length -> 0 <= (tr.getD i default).lo /\ (tr.getD i default).lo <= (tr.getD i default).hi /\ (tr.getD i default).hi <= 1000 := fun i hi => by
    have := c1 i (Nat.zero_le _) (by omega)
    unfold Wn.c1 at this
    split at this
    · cases this
    · split at this
      · rename_i h
        exact of_decide_eq_true h
      · cases this
  obtain ⟨r, r1, r2⟩ := rising_out (l := sp) (n := (dn.length : Int)) (by omega)
  obtain ⟨u, u1, u2⟩ := unlisted_out (l := sp) (n := (dn.length : Int)) (by omega) (by omega)
  by_cases U : Wn.Up sp (dn.length : Int)
  case neg =>
    have hr : r = false := by rw [← Bool.not_eq_true, r2]; exact U
    have hu : u = true := u2.2 U
    subst hr hu
    exact ⟨9, own_head L' (M.i_bind g1 (M.i_bind r1 (M.i_t rfl M.i_pure))), ref_head L' (M.i_bind g2 (M.i_bind u1 (M.i_t rfl M.i_pure))), fun h => by omega⟩
  have hr : r = true := r2.2 U
  have hu : u = false := by
    rw [← Bool.not_eq_true, u2]
    exact fun h => h U
  subst hr hu
  have t1 := every_towns tw (fun xqz => zaQ xqz) Wn.tim fun t _ => timely_ends t
  have t2 := every_towns tw (fun xqz => zaU xqz (dn.length : Int)) (Wn.sta dn.length) fun t _ => check1_ends n12 t
  have t3 := M.i_fs tw.length (Wn.ct dn.length tw) (b1_ref n12) (by simp only [zbg]; exact M.if1 M.i_pure) tw.length 0 (by omega)
  by_cases T : tw.all Wn.tim = true /\ tw.all (Wn.sta dn.length) = true
  case neg =>
    have e3 : fs (Wn.ct dn.length tw) tw.length 0 = some () := by
      cases e3 : fs (Wn.ct dn.length tw) tw.length 0 with
      | some x => rfl
      | none =>
        exfalso
        apply T
        have key : ∀ t ∈ tw, Wn.tim t = true /\ Wn.sta dn.length t = true := fun t ht => by
          obtain ⟨i, hi, rfl⟩ := mem_getD ht default
          have := fs_none e3 i (Nat.zero_le _) (by omega)
          unfold Wn.ct at this
          split at this
          · assumption
          · cases this
        exact ⟨List.all_eq_true.2 fun t ht => (key t ht).1, List.all_eq_true.2 fun t ht => (key t ht).2⟩
    rw [e3] at t3
    refine ⟨130, own_head L' (M.i_bind g1 (M.i_bind r1 (M.i_f rfl (M.i_bind t1 (M.i_bind (M.i_optA t2) (M.i_bind (M.i_optA (hours_ends _)) (M.i_t ?_ M.i_pure))))))), ref_head L' (M.i_bind g2 (M.i_bind u1 (M.i_f rfl (M.i_bind t3 M.i_pure)))), fun h => by omega⟩
    cases h1 : tw.all Wn.tim with
    | false => rfl
    | true =>
      cases h2 : tw.all (Wn.sta dn.length) with
      | false => rfl
      | true => exact absurd ⟨h1, h2⟩ T
  have e3 : fs (Wn.ct dn.length tw) tw.length 0 = none := by
    cases e3 : fs (Wn.ct dn.length tw) tw.length 0 with
    | none => rfl
    | some x =>
      exfalso
      suffices h : ∀ m i, i + m <= tw.length -> fs (Wn.ct dn.length tw) m i = none by
        rw [h tw.length 0 (by omega)] at e3
        cases e3
      intro m
      induction m with
      | zero => intro i _; rfl
      | succ m ih =>
        intro i hi
        have hm : tw.getD i default ∈ tw := by rw [getD_el tw (by omega)]; exact List.getElem_mem _
        have : Wn.ct dn.length tw i = none := by
          unfold Wn.ct
          rw [if_pos ⟨List.all_eq_true.1 T.1 _ hm, List.all_eq_true.1 T.2 _ hm⟩]
        unfold fs
        rw [this]
        exact ih (i + 1) (by omega)
  rw [e3] at t3
  by_cases D : Wn.hok ⟨dl, dh⟩ = true
  case neg =>
    have D' : Wn.hok ⟨dl, dh⟩ = false := by simpa using D
    have s3 := spoilt_ends ⟨dl, dh⟩
    rw [D'] at s3
    refine ⟨130, own_head L' (M.i_bind g1 (M.i_bind r1 (M.i_f rfl (M.i_bind t1 (M.i_bind (M.i_optA t2) (M.i_bind (M.i_optA (hours_ends _)) (M.i_t ?_ M.i_pure))))))), ref_head L' (M.i_bind g2 (M.i_bind u1 (M.i_f rfl (M.i_bind t3 (M.i_bind s3 (M.i_t rfl M.i_pure)))))), fun h => by omega⟩
    rw [T.1, T.2, D']
    rfl
  have s3 := spoilt_ends ⟨dl, dh⟩
  rw [D] at s3
  have g3 := M.i_fs fl.length (Wn.c2 dn sp fl) (b3_own (tr := tr) (tw := tw) (dl := dl) (dh := dh) hnx n12 U) (by simp only [zaB]; exact M.if1 M.i_pure) fl.length 0 (by omega)
  have g4 := M.i_fs fl.length (Wn.c2 dn sp fl) (b8_ref (tr := tr) (tw := tw) (dl := dl) (dh := dh) hnx n12 U) (by simp only [zbp]; exact M.if1 M.i_pure) fl.length 0 (by omega)
  have cd : ((((!tw.all Wn.tim) || (!((!(!tw.all Wn.tim)) && tw.all (Wn.sta dn.length)))) || (!((!((!tw.all Wn.tim) || (!((!(!tw.all Wn.tim)) && tw.all (Wn.sta dn.length))))) && Wn.hok ⟨dl, dh⟩)))) = false := by
    rw [T.1, T.2, D]
    rfl
  cases e4 : fs (Wn.c2 dn sp fl) fl.length 0 with
  | some x =>
    rw [e4] at g3 g4
    refine ⟨x, own_head L' (M.i_bind g1 (M.i_bind r1 (M.i_f rfl (M.i_bind t1 (M.i_bind (M.i_optA t2) (M.i_bind (M.i_optA (hours_ends _)) (M.i_f cd (M.i_bind g3 M.i_pure)))))))), ref_head L' (M.i_bind g2 (M.i_bind u1 (M.i_f rfl (M.i_bind t3 (M.i_bind s3 (M.i_f rfl (M.i_bind g4 M.i_pure))))))), fun h => ?_⟩
    obtain ⟨j, hj⟩ := fs_some e4
    unfold Wn.c2 at hj
    subst h
    split at hj
    · split at hj <;> cases hj
    · cases hj
  | none =>
  rw [e4] at g3 g4
  have D := of_decide_eq_true D
  dsimp only at D
  refine ⟨0, own_head L' (M.i_bind g1 (M.i_bind r1 (M.i_f rfl (M.i_bind t1 (M.i_bind (M.i_optA t2) (M.i_bind (M.i_optA (hours_ends _)) (M.i_f cd (M.i_bind g3 M.i_pure)))))))), ref_head L' (M.i_bind g2 (M.i_bind u1 (M.i_f rfl (M.i_bind t3 (M.i_bind s3 (M.i_f rfl (M.i_bind g4 M.i_pure))))))), fun _ => ⟨n1, n12, hnx, tl, hhr, s1, s8, U.sr, U.si, t8, fun t ht => ?_, D.1, D.2.1, D.2.2, f20, fun f hf => ?_⟩⟩
  · have h1 := of_decide_eq_true (List.all_eq_true.1 T.1 t ht)
    have h2 := of_decide_eq_true (List.all_eq_true.1 T.2 t ht)
    exact ⟨h2, h1⟩
  · obtain ⟨i, hi, rfl⟩ := mem_getD hf default
    have := fs_none e4 i (Nat.zero_le _) (by omega)
    unfold Wn.c2 at this
    split at this
    · rename_i h
      split at this
      · rename_i h2
        refine ⟨h.1, h.2, fun x hx => ?_⟩
        have := List.all_eq_true.1 h2 x hx
        unfold Wn.sok at this
        simpa using this
      · cases this
    · cases this
end Go.Proofs.YtbaehghammbjdaaGreat
namespace Go.Proofs.YtbaehghammbjdaaGreat
open Go Go.Nm
variable {dn : List Int} {tr : List Span} {sp : List Int} {tw : List Town} {dl dh : Int} {fl : List Flood}
theorem same_int (l : List Int) : (zab l l).Ends true := by
  unfold zab
  refine M.i_f (by simp) (M.i_bind (a := (.inr () : Unit ⊕ Unit)) ?_ M.i_pure)
  refine M.i_for (fun i => i) l.length (fun i hi => ?_) ?_
  · simp only [zbX]
    exact M.it1 (M.ig1 (M.ig1 (M.i_f (by simp) M.i_pure)))
  · simp only [zbX]
    exact M.i_f (by simp) M.i_pure
theorem same_span (l : List Span) : (zcG l l).Ends true := by
  unfold zcG
  refine M.i_f (by simp) (M.i_bind (a := (.inr () : Unit ⊕ Unit)) ?_ M.i_pure)
  refine M.i_for (fun i => i) l.length (fun i hi => ?_) ?_
  · simp only [zb2]
    exact M.it1 (M.ig1 (M.ig1 (M.i_f (by simp) M.i_pure)))
  · simp only [zb2]
    exact M.i_f (by simp) M.i_pure
theorem same_town (l : List Town) : (zcR l l).Ends true := by
  unfold zcR
  refine M.i_f (by simp) (M.i_bind (a := (.inr () : Unit ⊕ Unit)) ?_ M.i_pure)
  refine M.i_for (fun i => i) l.length (fun i hi => ?_) ?_
  · simp only [zb6]
    exact M.it1 (M.ig1 (M.ig1 (M.i_f (by simp) M.i_pure)))
  · simp only [zb6]
    exact M.i_f (by simp) M.i_pure
theorem opened_err {e : Int} (h : (zay dn tr sp tw dl dh fl).Ends e) (he : e ≠ 0) : (zak dn tr sp tw dl dh fl).Ends (.inl e) := by
  unfold zak
  exact M.i_bind h (M.i_t (bne_iff_ne.2 he) M.i_pure)
theorem sm_take (f : Int -> Int) (p : List Int) {i : Nat} (hi : i < p.length) : Wn.sm f (p.take (i + 1)) = Wn.sm f (p.take i) + f p[i] := by
  rw [List.take_succ_eq_append_getElem hi, Wn.sm_app]
  unfold Wn.sm
  simp
theorem sm_small (R : Wn.Rv dn tr sp tw dl dh fl) {s : Int} (hs : Wn.Stn dn s) (q : List Int) (hq : ∀ x ∈ q, x ∈ Wn.P dn s) (hl : q.length <= (Wn.P dn s).length) : (0 <= Wn.sm (Wn.lo tr) q /\ Wn.sm (Wn.lo tr) q <= 12000) /\ 0 <= Wn.sm (Wn.hi tr) q /\ Wn.sm (Wn.hi tr) q <= 12000 := by
  have hsh := Wn.P_short R.nx hs
  have h12 := R.n12
  have hb : ∀ w ∈ q, (0 <= Wn.lo tr w /\ Wn.lo tr w <= 1000) /\ 0 <= Wn.hi tr w /\ Wn.hi tr w <= 1000 := fun w hw => by
    have h1 := Wn.P_mem R.nx s hs w (hq w hw)
    have h2 := R.hr (Int.toNat w) (by have := R.tl; omega)
    unfold Wn.lo Wn.hi
    omega
  have b1 := Wn.sm_bound (Wn.lo tr) _ fun w hw => (hb w hw).1
  have b2 := Wn.sm_bound (Wn.hi tr) _ fun w hw => (hb w hw).2
  omega
theorem takes_ends (R : Wn.Rv dn tr sp tw dl dh fl) {s : Int} (hs : 0 <= s /\ s < (dn.length : Int)) (y : Int) :
    (zbs dn tr sp tw dl dh fl s y).Ends (if y ∈ Wn.P dn s then (Wn.sm (Wn.lo tr) (Wn.upto (Wn.P dn s) y), Wn.sm (Wn.hi tr) (Wn.upto (Wn.P dn s) y), true) else (0, 0, false)) := by
  refine M.Out.ends ?_
  unfold zbs
  have hst : Wn.Stn dn s := .inr hs
  have htl := R.tl
  refine M.o_bind (P := fun x => match x with | .inl (_ : Int × Int) => y ∉ Wn.P dn s | .inr z => y ∈ Wn.P dn s /\ z.1 = Wn.sm (Wn.lo tr) (Wn.upto (Wn.P dn s) y) /\ z.2 = Wn.sm (Wn.hi tr) (Wn.upto (Wn.P dn s) y)) ?_ ?_
  · refine M.o_for (Wn.P dn s).length (fun i (t : Int × Int × Int) => ∃ hi : i < (Wn.P dn s).length, t.1 = (Wn.P dn s)[i] /\ t.2.1 = Wn.sm (Wn.lo tr) ((Wn.P dn s).take i) /\ t.2.2 = Wn.sm (Wn.hi tr) ((Wn.P dn s).take i) /\ y ∉ (Wn.P dn s).take i) ?_ ?_ ?_
    · rintro i ⟨c, a, b⟩ hi ⟨_, e1, e2, e3, hn⟩
      dsimp only at e1 e2 e3
      have hm := Wn.P_mem R.nx s hst _ (List.getElem_mem hi)
      have hd := Wn.P_drop R.nx s hst i hi
      rw [← e1] at hm hd
      have hc := Wn.P_cons R.nx hm.2.1 hm.2.2
      rw [hd, List.drop_eq_getElem_cons hi, ← e1] at hc
      have hc := (List.cons.inj hc).2
      have hx := R.nx.next hm.2.1 hm.2.2
      have bb := sm_small R hst ((Wn.P dn s).take i) (fun x hx => List.mem_of_mem_take hx) (by rw [List.length_take]; omega)
      have rr := R.hr (Int.toNat c) (by omega)
      have t1 := sm_take (Wn.lo tr) (Wn.P dn s) hi
      have t2 := sm_take (Wn.hi tr) (Wn.P dn s) hi
      rw [← e1, ← e2] at t1
      rw [← e1, ← e3] at t2
      unfold Wn.lo at t1
      unfold Wn.hi at t2
      simp only [zcS]
      refine M.o_if (fun hb => ?_) (fun hb => M.o_pure ?_)
      · have hb : c ≠ y := bne_iff_ne.1 hb
        have hn' : y ∉ (Wn.P dn s).take (i + 1) := by
          rw [List.take_succ_eq_append_getElem hi, List.mem_append, List.mem_singleton, ← e1]
          rintro (h | h)
          · exact hn h
          · exact hb h.symm
        refine M.o_grd (gA2 hm.2.1 (by omega)) (M.og2 (M.og2 (M.o_grd (gA2 hm.2.1 hm.2.2) (M.o_if (fun hz => M.o_pure ?_) (fun hz => M.o_pure ?_)))))
        · have hz : dn.getD (Int.toNat c) 0 = -1 := beq_iff_eq.1 hz
          rw [hz, Wn.P_none] at hc
          intro h
          rw [← List.take_append_drop (i + 1) (Wn.P dn s), hc, List.append_nil] at h
          exact hn' h
        · have hz : dn.getD (Int.toNat c) 0 ≠ -1 := beq_eq_false_iff_ne.1 hz
          rw [Wn.P_cons (s := dn.getD (Int.toNat c) 0) R.nx (by omega) (by omega)] at hc
          have hl : i + 1 < (Wn.P dn s).length := by
            rcases Nat.lt_or_ge (i + 1) (Wn.P dn s).length with h | h
            · exact h
            · rw [List.drop_eq_nil_of_le h] at hc
              cases hc
          rw [List.drop_eq_getElem_cons hl] at hc
          exact ⟨hl, (List.cons.inj hc).1.symm, t1.symm, t2.symm, hn'⟩
      · have hb : c = y := by simpa using hb
        have hu : Wn.upto (Wn.P dn s) y = (Wn.P dn s).take i := Wn.upto_take (by rw [List.getElem?_eq_getElem hi, ← e1, hb]) fun z hz e => hn (by rw [← e]; exact hz)
        dsimp only
        rw [hu]
        exact ⟨by rw [← hb, e1]; exact List.getElem_mem hi, e2, e3⟩
    · rintro _ ⟨hi, _⟩
      omega
    · have e := Wn.P_cons R.nx hs.1 hs.2
      have hl : 0 < (Wn.P dn s).length := by rw [e]; simp
      exact ⟨hl, by simp [e], by simp [Wn.sm], by simp [Wn.sm], by simp⟩
  · rintro (z | z) h
    · dsimp only at h
      rw [if_neg h]
      exact M.o_pure rfl
    · dsimp only at h
      rw [if_pos h.1, ← h.2.1, ← h.2.2]
      exact M.o_pure rfl
/-- Lists that are looked at. -/
structure Fit (dn : List Int) (tr : List Span) (sp : List Int) (tw : List Town) (fl : List Flood) : Prop where
  a : dn.length <= 15
  b : tr.length <= 15
  c : sp.length <= 10
  d : tw.length <= 10
  e : fl.length <= 22
  f : ∀ i, i < fl.length -> (fl.getD i default).stages.length <= 15
theorem big_out : (zc4 dn tr sp tw dl dh fl).Out (fun b => b = false -> Fit dn tr sp tw fl) := by
  unfold zc4
  refine M.o_if (fun _ => M.o_pure (fun h => (by cases h))) (fun hb => ?_)
  simp only [Bool.or_eq_false_iff, Bool.and_eq_false_iff, decide_eq_false_iff_not] at hb
  refine M.o_bind (P := fun x => match x with | .inl (_ : Unit) => True | .inr (_ : Unit) => ∀ i, i < fl.length -> (fl.getD i default).stages.length <= 15) ?_ ?_
  · refine M.o_for fl.length (fun i (k : Nat) => k = i /\ ∀ j, j < i -> (fl.getD j default).stages.length <= 15) ?_ ?_ ⟨rfl, fun j hj => by omega⟩
    · rintro _ i hi ⟨rfl, hp⟩
      simp only [zbL]
      refine M.ot1 (M.og1 (M.o_if (fun _ => M.o_pure trivial) (fun h => M.o_pure ⟨rfl, fun j hj => ?_⟩)))
      rcases Nat.lt_or_eq_of_le (Nat.le_of_lt_succ hj) with e | e
      · exact hp j e
      · subst e
        have := of_decide_eq_false h
        omega
    · rintro _ ⟨rfl, hp⟩
      simp only [zbL]
      exact M.of1 (M.o_pure hp)
  · rintro (u | u) h
    · exact M.o_pure (fun h => (by cases h))
    · exact M.o_pure (fun _ => ⟨by omega, by omega, by omega, by omega, by omega, h⟩)
theorem copy_int {l : List Int} (h : l.length <= 1000) : (zaE l).Ends l := M.i_grd (decide_eq_true (by simp; omega)) M.i_pure
theorem copy_span {l : List Span} (h : l.length <= 1000) : (zcA l).Ends l := M.i_grd (decide_eq_true (by simp; omega)) M.i_pure
theorem copy_town {l : List Town} (h : l.length <= 1000) : (zc7 l).Ends l := M.i_grd (decide_eq_true (by simp; omega)) M.i_pure
theorem copy_ends (F : Fit dn tr sp tw fl) : (zcT dn tr sp tw dl dh fl).Ends (dn, tr, sp, tw, dl, dh, fl) := by
  obtain ⟨fa, fb, fc, fd, fe, ff⟩ := F
  unfold zcT zcC
  refine M.i_bind (copy_int (by omega)) (M.i_bind (copy_span (by omega)) (M.i_bind (copy_int (by omega)) (M.i_bind (copy_town (by omega)) (M.i_bind (a := (fl, fl)) ?_ M.i_pure))))
  refine M.Out.ends (M.o_for fl.length (fun i (t : Nat × List Flood) => t = (i, fl.take i)) ?_ ?_ (by simp))
  · rintro i _ hi rfl
    simp only [zbY]
    refine M.ot1 (M.og1 (M.o_bindE (copy_int (by have := ff i hi; omega)) (M.o_grdD (by simp; omega) (M.o_pure ?_))))
    rw [← take_succ_D fl i hi default]
  · rintro _ rfl
    simp only [zbY]
    refine M.of1 (M.o_pure ?_)
    rw [List.take_length]
theorem river_ends (F : Fit dn tr sp tw fl) : (zcX dn tr sp tw dl dh fl).Ends (dn, tr, sp, tw, dl, dh, fl) := by
  obtain ⟨fa, fb, fc, fd, fe, ff⟩ := F
  unfold zcX zcE
  refine M.i_bind (copy_int (by omega)) (M.i_bind (copy_span (by omega)) (M.i_bind (copy_int (by omega)) (M.i_bind (a := (tw, tw)) ?_ (M.i_bind (a := (fl, fl)) ?_ M.i_pure))))
  · refine M.Out.ends (M.o_for tw.length (fun i (t : Nat × List Town) => t = (i, tw.take i)) ?_ ?_ (by simp))
    · rintro i _ hi rfl
      simp only [zb5]
      refine M.ot1 (M.og1 (M.o_grdD (by simp; omega) (M.o_pure ?_)))
      rw [← take_succ_D tw i hi default]
    · rintro _ rfl
      simp only [zb5]
      refine M.of1 (M.o_pure ?_)
      rw [List.take_length]
  · refine M.Out.ends (M.o_for fl.length (fun i (t : Nat × List Flood) => t = (i, fl.take i)) ?_ ?_ (by simp))
    · rintro i _ hi rfl
      simp only [zb1]
      refine M.ot1 (M.og1 (M.o_grdD (by simp; omega) (M.o_pure ?_)))
      rw [← take_succ_D fl i hi default]
    · rintro _ rfl
      simp only [zb1]
      refine M.of1 (M.o_pure ?_)
      rw [List.take_length]
theorem same_river : (zcJ dn tr sp tw dl dh fl dn tr sp tw dl dh fl).Ends true := by
  unfold zcJ
  refine M.i_bind (same_int _) (M.i_bind (M.i_optA (same_span _)) (M.i_bind (M.i_optA (same_int _)) (M.i_bind (M.i_optA (same_town _)) (M.i_f (by simp) (M.i_bind (a := (.inr () : Unit ⊕ Unit)) ?_ M.i_pure)))))
  refine M.i_for (fun i => i) fl.length (fun i hi => ?_) ?_
  · simp only [zch]
    exact M.it1 (M.ig1 (M.ig1 (M.i_bind (M.i_optA (same_int _)) (M.i_f (by simp) M.i_pure))))
  · simp only [zch]
    exact M.if1 M.i_pure
end Go.Proofs.YtbaehghammbjdaaGreat
