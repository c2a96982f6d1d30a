/- Part 6 of the texts on which the proof rests. Conditions: none. -/
import Derived.Test.YtbaehghammbjdaaGreatZA5
set_option linter.unusedVariables false
set_option linter.unusedSimpArgs false
set_option linter.unusedSectionVars false
section
set_option maxRecDepth 100000
set_option maxHeartbeats 16000000
namespace Go.Proofs.YtbaehghammbjdaaGreat
open Go Go.Nm
def zaD (l : List Int) : M (List Int) :=
  M.grd (decide ((([] : List Int).length + l.length) * 8 <= 140737488355328)) <|
  M.pure l
theorem zah {R : List Chunk} {C_l : Cells} {v_l : Value} (l : List Int) (hC_l : Reads R C_l) (hs_l : Sl C_l v_l l) {r : (List Int)} (hM : (zaD l).Ends r) (w : World) (H : St w w [] R) : Ret Tryz.prog 9 #[v_l] w fun v w' => ∃ (y0 : List Int) (u0 : Value), y0 = r /\ v = u0 /\ St w w' [cOwn (α := Int) 3 u0 y0] R := by
 refine ret_of_W Tryz.func9 rfl rfl rfl ?_
 refine W.seq ?_
 refine W.region rfl ?_
 refine s_val (x_as (v := .slice none 0 0) rfl) ?_
 refine s_nil ?_
 refine W.seq ?_
 refine W.region rfl ?_
 refine s_val (x_as (v := .slice none 0 0) rfl) ?_
 refine s_nil ?_
 refine W.seq ?_
 refine W.region rfl ?_
 refine s_val (x_mv (v := .slice none 0 0) rfl) ?_
 refine s_val (x_mv (v := v_l) rfl) ?_
 replace H := H.nilOwn (α := Int) 3
 obtain ⟨sd1z, hM⟩ := M.e_grd hM
 simp only [Bool.and_eq_true, decide_eq_true_eq] at sd1z
 refine t_app (α := Int) (k := 0) (l := []) (l2 := l) (l' := l) (vy := v_l) T22 rfl H rfl rfl rfl hs_l (hC_l.at H) (List.nil_append _) (by first | omega | (simp only [List.length_nil] at *; omega)) ?_
 intro v2z w3z H
 replace H := H.nf
 refine s_val (x_as (v := v2z) rfl) ?_
 refine s_nil ?_
 refine W.ret ?_
 have hr_ := M.e_pure hM
 exact ⟨_, resE_tmp rfl, ⟨l, v2z, hr_, rfl, H⟩⟩

def zbQ (l : List Span) : M (List Span) :=
  M.grd (decide ((([] : List Span).length + l.length) * 16 <= 140737488355328)) <|
  M.pure l
theorem zaV {R : List Chunk} {C_l : Cells} {v_l : Value} (l : List Span) (hC_l : Reads R C_l) (hs_l : Sl C_l v_l l) {r : (List Span)} (hM : (zbQ l).Ends r) (w : World) (H : St w w [] R) : Ret Tryz.prog 44 #[v_l] w fun v w' => ∃ (y0 : List Span) (u0 : Value), y0 = r /\ v = u0 /\ St w w' [cOwn (α := Span) 26 u0 y0] R := by
 refine ret_of_W Tryz.func44 rfl rfl rfl ?_
 refine W.seq ?_
 refine W.region rfl ?_
 refine s_val (x_as (v := .slice none 0 0) rfl) ?_
 refine s_nil ?_
 refine W.seq ?_
 refine W.region rfl ?_
 refine s_val (x_as (v := .slice none 0 0) rfl) ?_
 refine s_nil ?_
 refine W.seq ?_
 refine W.region rfl ?_
 refine s_val (x_mv (v := .slice none 0 0) rfl) ?_
 refine s_val (x_mv (v := v_l) rfl) ?_
 replace H := H.nilOwn (α := Span) 26
 obtain ⟨sd1z, hM⟩ := M.e_grd hM
 simp only [Bool.and_eq_true, decide_eq_true_eq] at sd1z
 refine t_app (α := Span) (k := 0) (l := []) (l2 := l) (l' := l) (vy := v_l) T23 rfl H rfl rfl rfl hs_l (hC_l.at H) (List.nil_append _) (by first | omega | (simp only [List.length_nil] at *; omega)) ?_
 intro v2z w3z H
 replace H := H.nf
 refine s_val (x_as (v := v2z) rfl) ?_
 refine s_nil ?_
 refine W.ret ?_
 have hr_ := M.e_pure hM
 exact ⟨_, resE_tmp rfl, ⟨l, v2z, hr_, rfl, H⟩⟩

def zb6 (l : List Town) : M (List Town) :=
  M.grd (decide ((([] : List Town).length + l.length) * 24 <= 140737488355328)) <|
  M.pure l
theorem zbt {R : List Chunk} {C_l : Cells} {v_l : Value} (l : List Town) (hC_l : Reads R C_l) (hs_l : Sl C_l v_l l) {r : (List Town)} (hM : (zb6 l).Ends r) (w : World) (H : St w w [] R) : Ret Tryz.prog 45 #[v_l] w fun v w' => ∃ (y0 : List Town) (u0 : Value), y0 = r /\ v = u0 /\ St w w' [cOwn (α := Town) 91 u0 y0] R := by
 refine ret_of_W Tryz.func45 rfl rfl rfl ?_
 refine W.seq ?_
 refine W.region rfl ?_
 refine s_val (x_as (v := .slice none 0 0) rfl) ?_
 refine s_nil ?_
 refine W.seq ?_
 refine W.region rfl ?_
 refine s_val (x_as (v := .slice none 0 0) rfl) ?_
 refine s_nil ?_
 refine W.seq ?_
 refine W.region rfl ?_
 refine s_val (x_mv (v := .slice none 0 0) rfl) ?_
 refine s_val (x_mv (v := v_l) rfl) ?_
 replace H := H.nilOwn (α := Town) 91
 obtain ⟨sd1z, hM⟩ := M.e_grd hM
 simp only [Bool.and_eq_true, decide_eq_true_eq] at sd1z
 refine t_app (α := Town) (k := 0) (l := []) (l2 := l) (l' := l) (vy := v_l) T24 rfl H rfl rfl rfl hs_l (hC_l.at H) (List.nil_append _) (by first | omega | (simp only [List.length_nil] at *; omega)) ?_
 intro v2z w3z H
 replace H := H.nf
 refine s_val (x_as (v := v2z) rfl) ?_
 refine s_nil ?_
 refine W.ret ?_
 have hr_ := M.e_pure hM
 exact ⟨_, resE_tmp rfl, ⟨l, v2z, hr_, rfl, H⟩⟩

def zbo (r__Floods : List Flood) : (Nat × (List Flood)) -> M ((Nat × (List Flood)) ⊕ ((List Flood) × (List Flood))) := fun (i, l) =>
  bif decide ((i : Int) < (r__Floods.length : Int)) then (
  M.grd (decide ((i : Int) < (r__Floods.length : Int))) <|
  M.bind (zaD ((r__Floods.getD i default).stages)) fun r6 =>
  M.grd (decide ((l.length + ([(⟨((r__Floods.getD i default).spring : Int), r6⟩ : Flood)]).length) * 32 <= 140737488355328)) <|
  M.pure (.inl (i + 1, l ++ ([(⟨((r__Floods.getD i default).spring : Int), r6⟩ : Flood)]))))
  else (
  M.pure (.inr (l, l)))
def zbx (r__Delay_Lo : Int) (r__Delay_Hi : Int) (r__Floods : List Flood) (r2 : List Int) (r3 : List Span) (r4 : List Int) (r5 : List Town) : M ((List Int) × (List Span) × (List Int) × (List Town) × Int × Int × (List Flood)) :=
  M.bind (M.iter (zbo r__Floods) (0, [])) fun (l2, l3) =>
  M.pure (r2, r3, r4, r5, r__Delay_Lo, r__Delay_Hi, l3)
def zbM (r__Down : List Int) (r__Travel : List Span) (r__Springs : List Int) (r__Towns : List Town) (r__Delay_Lo : Int) (r__Delay_Hi : Int) (r__Floods : List Flood) : M ((List Int) × (List Span) × (List Int) × (List Town) × Int × Int × (List Flood)) :=
  M.bind (zaD r__Down) fun r2 =>
  M.bind (zbQ r__Travel) fun r3 =>
  M.bind (zaD r__Springs) fun r4 =>
  M.bind (zb6 r__Towns) fun r5 =>
  zbx r__Delay_Lo r__Delay_Hi r__Floods r2 r3 r4 r5
theorem zbi {R : List Chunk} {C_r__Down : Cells} {v_r__Down : Value} {C_r__Travel : Cells} {v_r__Travel : Value} {C_r__Springs : Cells} {v_r__Springs : Value} {C_r__Towns : Cells} {v_r__Towns : Value} {C_r__Floods : Cells} {v_r__Floods : Value} (r__Down : List Int) (r__Travel : List Span) (r__Springs : List Int) (r__Towns : List Town) (r__Delay_Lo : Int) (r__Delay_Hi : Int) (r__Floods : List Flood) (hC_r__Down : Reads R C_r__Down) (hs_r__Down : Sl C_r__Down v_r__Down r__Down) (hC_r__Travel : Reads R C_r__Travel) (hs_r__Travel : Sl C_r__Travel v_r__Travel r__Travel) (hC_r__Springs : Reads R C_r__Springs) (hs_r__Springs : Sl C_r__Springs v_r__Springs r__Springs) (hC_r__Towns : Reads R C_r__Towns) (hs_r__Towns : Sl C_r__Towns v_r__Towns r__Towns) (hC_r__Floods : Reads R C_r__Floods) (hs_r__Floods : Sl C_r__Floods v_r__Floods r__Floods) {r : ((List Int) × (List Span) × (List Int) × (List Town) × Int × Int × (List Flood))} (hM : (zbM r__Down r__Travel r__Springs r__Towns r__Delay_Lo r__Delay_Hi r__Floods).Ends r) (w : World) (H : St w w [] R) : Ret Tryz.prog 8 #[.agg #[v_r__Down, v_r__Travel, v_r__Springs, v_r__Towns, I r__Delay_Lo, I r__Delay_Hi, v_r__Floods]] w fun v w' => ∃ (y0 : List Int) (y1 : List Span) (y2 : List Int) (y3 : List Town) (y4 : Int) (y5 : Int) (y6 : List Flood) (u0 : Value) (u1 : Value) (u2 : Value) (u3 : Value) (u4 : Value) (rr5 : List (Raw 1)) (Bs6 : Base), (y0, y1, y2, y3, y4, y5, y6) = r /\ v = .agg #[u0, u1, u2, u3, I y4, I y5, u4] /\ St w w' [cOwn (α := Int) 3 u0 y0, cOwn (α := Span) 26 u1 y1, cOwn (α := Int) 3 u2 y2, cOwn (α := Town) 91 u3 y3, cOwn (α := Raw 1) 85 u4 rr5, cRo Bs6] R /\ RepR (α := Flood) Bs6.cells rr5 y6 := by
 refine ret_of_W Tryz.func8 rfl rfl rfl ?_
 refine W.seq ?_
 refine W.region rfl ?_
 refine t_box (v := .agg #[v_r__Down, v_r__Travel, v_r__Springs, v_r__Towns, I r__Delay_Lo, I r__Delay_Hi, v_r__Floods]) (cs := [v_r__Down, v_r__Travel, v_r__Springs, v_r__Towns, I r__Delay_Lo, I r__Delay_Hi, v_r__Floods]) H rfl rfl ?_
 intro b_1 w1z H
 refine t_alloc (cs := [.slice none 0 0, .slice none 0 0, .slice none 0 0, .slice none 0 0, I 0, I 0, .slice none 0 0]) H Al29 rfl ?_
 intro b_2 w2z H
 refine s_nil ?_
 refine W.seqJ (fun σ W => ∃ (b_7 : Nat) (r2 : List Int) (r3 : List Span) (r4 : List Int) (r5 : List Town) (u0_3 : Value) (u0_4 : Value) (u0_5 : Value) (u0_6 : Value) (ρ : Env), σ = upds ρ [(1, .pointer (some ⟨b_1, 0, none⟩)), (2, .pointer (some ⟨b_2, 0, none⟩)), (3, .pointer (some ⟨b_7, 0, none⟩))] /\ (zbx r__Delay_Lo r__Delay_Hi r__Floods r2 r3 r4 r5).Ends r /\ St w W [cBlk b_7 [u0_3, u0_4, u0_5, u0_6, I r__Delay_Lo, I r__Delay_Hi, .slice none 0 0] 29, cOwn (α := Town) 91 u0_6 r5, cOwn (α := Int) 3 u0_5 r4, cOwn (α := Span) 26 u0_4 r3, cOwn (α := Int) 3 u0_3 r2, cBlk b_2 [.slice none 0 0, .slice none 0 0, .slice none 0 0, .slice none 0 0, I 0, I 0, .slice none 0 0] 29, cBlk b_1 [v_r__Down, v_r__Travel, v_r__Springs, v_r__Towns, I r__Delay_Lo, I r__Delay_Hi, v_r__Floods] 29] R) ?_ ?_
 ·skip
  refine W.drawT (fun W => St w W [cBlk b_2 [.slice none 0 0, .slice none 0 0, .slice none 0 0, .slice none 0 0, I 0, I 0, .slice none 0 0] 29, cBlk b_1 [v_r__Down, v_r__Travel, v_r__Springs, v_r__Towns, I r__Delay_Lo, I r__Delay_Hi, v_r__Floods] 29] R) (.q 0 (.q 1 (.q 3 (.q 4 (.q 6 (.q 7 (.q 9 (.q 10 (.q 12 (.q 13 (.l2 2 (.l2 5 (.l2 8 (.l2 11 (.q 14 (.l 15 (.l 16 .nil))) 15 (.l 11 (.q 14 (.l 16 .nil)))) 15 (.l 8 (.l 11 (.q 14 (.l 16 .nil))))) 15 (.l 5 (.l 8 (.l 11 (.q 14 (.l 16 .nil)))))) 15 (.l 2 (.l 5 (.l 8 (.l 11 (.q 14 (.l 16 .nil))))))))))))))))) mixed (by decide +kernel) rfl ?_
  intro w3z hx_
  replace H := H.ext hx_
  clear hx_
  refine ⟨(H.pk [0, 1]), ?_⟩
  refine t_q rfl (fun w' H => x_fa (a := .pointer (some ⟨b_1, 0, none⟩)) (v := .pointer (some ⟨b_1, 0, none⟩)) rfl (fa_blk (o := 0) Fd29_0 Sz22)) ?_
  refine t_q rfl (fun w' H => x_ld (p := .pointer (some ⟨b_1, 0, none⟩)) (v := v_r__Down) rfl (ldb_sc Sc22 (H.blk (k := 1) rfl) rfl)) ?_
  refine t_q rfl (fun w' H => x_fa (a := .pointer (some ⟨b_1, 0, none⟩)) (v := .pointer (some ⟨b_1, 1, none⟩)) rfl (fa_blk (o := 0) Fd29_1 Sz23)) ?_
  refine t_q rfl (fun w' H => x_ld (p := .pointer (some ⟨b_1, 1, none⟩)) (v := v_r__Travel) rfl (ldb_sc Sc23 (H.blk (k := 1) rfl) rfl)) ?_
  refine t_q rfl (fun w' H => x_fa (a := .pointer (some ⟨b_1, 0, none⟩)) (v := .pointer (some ⟨b_1, 2, none⟩)) rfl (fa_blk (o := 0) Fd29_2 Sz22)) ?_
  refine t_q rfl (fun w' H => x_ld (p := .pointer (some ⟨b_1, 2, none⟩)) (v := v_r__Springs) rfl (ldb_sc Sc22 (H.blk (k := 1) rfl) rfl)) ?_
  refine t_q rfl (fun w' H => x_fa (a := .pointer (some ⟨b_1, 0, none⟩)) (v := .pointer (some ⟨b_1, 3, none⟩)) rfl (fa_blk (o := 0) Fd29_3 Sz24)) ?_
  refine t_q rfl (fun w' H => x_ld (p := .pointer (some ⟨b_1, 3, none⟩)) (v := v_r__Towns) rfl (ldb_sc Sc24 (H.blk (k := 1) rfl) rfl)) ?_
  refine t_q rfl (fun w' H => x_fa (a := .pointer (some ⟨b_1, 0, none⟩)) (v := .pointer (some ⟨b_1, 4, none⟩)) rfl (fa_blk (o := 0) Fd29_4 Sz26)) ?_
  refine t_q rfl (fun w' H => x_ld (p := .pointer (some ⟨b_1, 4, none⟩)) (v := .agg #[I r__Delay_Lo, I r__Delay_Hi]) rfl (ldb_ag (ds := [I r__Delay_Lo, I r__Delay_Hi]) Ag26 Sz26 (H.blk (k := 1) rfl) rfl rfl)) ?_
  refine t_l2 rfl rfl ?_ ?_
  ·skip
   obtain ⟨r28z, hx27z, hM⟩ := M.e_bind hM
   refine s_call cf9 [v_r__Down] rfl (zah r__Down (hC_r__Down.app _) hs_r__Down hx27z _ (H.gt 2)) ?_
   rintro vq w29z ⟨r2, u0_3, hr30z, hvq, H2_⟩
   subst hr30z
   subst vq
   try dsimp only at hM
   replace H := H.bk H2_
   clear H2_
   have hvc_q31z := Sl.cells (ownSl (H.get (k := 0) rfl))
   have hvo_q31z := Sl.oc (ownSl (H.get (k := 0) rfl))
   refine s_nil ⟨(H.pk [1, 2]), ?_⟩
   refine t_l2 rfl rfl ?_ ?_
   ·skip
    obtain ⟨r52z, hx51z, hM⟩ := M.e_bind hM
    refine s_call cf44 [v_r__Travel] rfl (zaV r__Travel (hC_r__Travel.app _) hs_r__Travel hx51z _ (H.gt 3)) ?_
    rintro vq w53z ⟨r3, u0_4, hr54z, hvq, H2_⟩
    subst hr54z
    subst vq
    try dsimp only at hM
    replace H := H.bk H2_
    clear H2_
    have hvc_q55z := Sl.cells (ownSl (H.get (k := 0) rfl))
    have hvo_q55z := Sl.oc (ownSl (H.get (k := 0) rfl))
    refine s_nil ⟨(H.pk [2, 3]), ?_⟩
    refine t_l2 rfl rfl ?_ ?_
    ·skip
     obtain ⟨r72z, hx71z, hM⟩ := M.e_bind hM
     refine s_call cf9 [v_r__Springs] rfl (zah r__Springs (hC_r__Springs.app _) hs_r__Springs hx71z _ (H.gt 4)) ?_
     rintro vq w73z ⟨r4, u0_5, hr74z, hvq, H2_⟩
     subst hr74z
     subst vq
     try dsimp only at hM
     replace H := H.bk H2_
     clear H2_
     have hvc_q75z := Sl.cells (ownSl (H.get (k := 0) rfl))
     have hvo_q75z := Sl.oc (ownSl (H.get (k := 0) rfl))
     refine s_nil ⟨(H.pk [3, 4]), ?_⟩
     refine t_l2 rfl rfl ?_ ?_
     ·skip
      obtain ⟨r88z, hx87z, hM⟩ := M.e_bind hM
      refine s_call cf45 [v_r__Towns] rfl (zbt r__Towns (hC_r__Towns.app _) hs_r__Towns hx87z _ (H.gt 5)) ?_
      rintro vq w89z ⟨r5, u0_6, hr90z, hvq, H2_⟩
      subst hr90z
      subst vq
      try dsimp only at hM
      replace H := H.bk H2_
      clear H2_
      have hvc_q91z := Sl.cells (ownSl (H.get (k := 0) rfl))
      have hvo_q91z := Sl.oc (ownSl (H.get (k := 0) rfl))
      refine s_nil ⟨(H.pk [4, 5]), ?_⟩
      refine t_q rfl (fun w' H => x_bld (ps := [(0, u0_3), (1, u0_4), (2, u0_5), (3, u0_6), (4, .agg #[I r__Delay_Lo, I r__Delay_Hi])]) (zs := [.slice none 0 0, .slice none 0 0, .slice none 0 0, .slice none 0 0, I 0, I 0, .slice none 0 0]) (L' := [u0_3, u0_4, u0_5, u0_6, I r__Delay_Lo, I r__Delay_Hi, .slice none 0 0]) rfl Tryz.underlying29 Al29 rfl (Bd29 Tryz.underlying29) (.cons (cs := [u0_3]) hvc_q31z rfl rfl rfl rfl <| .cons (cs := [u0_4]) hvc_q55z rfl rfl rfl rfl <| .cons (cs := [u0_5]) hvc_q75z rfl rfl rfl rfl <| .cons (cs := [u0_6]) hvc_q91z rfl rfl rfl rfl <| .cons (cs := [I r__Delay_Lo, I r__Delay_Hi]) rfl rfl rfl rfl rfl <| .nil)) ?_
      refine t_l rfl ?_
      refine t_alloc (cs := [.slice none 0 0, .slice none 0 0, .slice none 0 0, .slice none 0 0, I 0, I 0, .slice none 0 0]) H Al29 rfl ?_
      intro b_7 w92z H
      refine s_nil ⟨(H.pk [5, 6]), ?_⟩
      refine t_l rfl ?_
      refine t_sw 0 0 [u0_3, u0_4, u0_5, u0_6, I r__Delay_Lo, I r__Delay_Hi, .slice none 0 0] (.agg #[u0_3, u0_4, u0_5, u0_6, I r__Delay_Lo, I r__Delay_Hi, .slice none 0 0]) H rfl rfl Sz29 rfl rfl rfl (by simp only [List.all_cons, List.all_nil, Bool.true_and, Bool.and_true, Sl.oc (ownSl (H.get (k := 4) rfl)), Sl.oc (ownSl (H.get (k := 3) rfl)), Sl.oc (ownSl (H.get (k := 2) rfl)), Sl.oc (ownSl (H.get (k := 1) rfl))]; try rfl) ?_
      intro w93z H
      refine s_nil ⟨(H.pk [5, 6]), ?_⟩
      refine t_nil ?_
      exact ⟨b_7, r2, r3, r4, r5, u0_3, u0_4, u0_5, u0_6, _, upds_of _ _ ⟨rfl, rfl, rfl, trivial⟩, hM, H⟩
     skip
     refine t_alloc (cs := [.slice none 0 0, .slice none 0 0, .slice none 0 0, .slice none 0 0, I 0, I 0, .slice none 0 0]) H Al29 rfl ?_
     intro b_7 w94z H
     refine s_nil ⟨(H.pk [4, 5]), ?_⟩
     refine t_l rfl ?_
     obtain ⟨r96z, hx95z, hM⟩ := M.e_bind hM
     refine s_call cf45 [v_r__Towns] rfl (zbt r__Towns (hC_r__Towns.app _) hs_r__Towns hx95z _ (H.gt 6)) ?_
     rintro vq w97z ⟨r5, u0_6, hr98z, hvq, H2_⟩
     subst hr98z
     subst vq
     try dsimp only at hM
     replace H := H.bk H2_
     clear H2_
     have hvc_q99z := Sl.cells (ownSl (H.get (k := 0) rfl))
     have hvo_q99z := Sl.oc (ownSl (H.get (k := 0) rfl))
     refine s_nil ⟨(H.pk [5, 6]), ?_⟩
     refine t_q rfl (fun w' H => x_bld (ps := [(0, u0_3), (1, u0_4), (2, u0_5), (3, u0_6), (4, .agg #[I r__Delay_Lo, I r__Delay_Hi])]) (zs := [.slice none 0 0, .slice none 0 0, .slice none 0 0, .slice none 0 0, I 0, I 0, .slice none 0 0]) (L' := [u0_3, u0_4, u0_5, u0_6, I r__Delay_Lo, I r__Delay_Hi, .slice none 0 0]) rfl Tryz.underlying29 Al29 rfl (Bd29 Tryz.underlying29) (.cons (cs := [u0_3]) hvc_q31z rfl rfl rfl rfl <| .cons (cs := [u0_4]) hvc_q55z rfl rfl rfl rfl <| .cons (cs := [u0_5]) hvc_q75z rfl rfl rfl rfl <| .cons (cs := [u0_6]) hvc_q99z rfl rfl rfl rfl <| .cons (cs := [I r__Delay_Lo, I r__Delay_Hi]) rfl rfl rfl rfl rfl <| .nil)) ?_
     refine t_l rfl ?_
     refine t_sw 1 0 [u0_3, u0_4, u0_5, u0_6, I r__Delay_Lo, I r__Delay_Hi, .slice none 0 0] (.agg #[u0_3, u0_4, u0_5, u0_6, I r__Delay_Lo, I r__Delay_Hi, .slice none 0 0]) H rfl rfl Sz29 rfl rfl rfl (by simp only [List.all_cons, List.all_nil, Bool.true_and, Bool.and_true, Sl.oc (ownSl (H.get (k := 4) rfl)), Sl.oc (ownSl (H.get (k := 3) rfl)), Sl.oc (ownSl (H.get (k := 2) rfl)), Sl.oc (ownSl (H.get (k := 0) rfl))]; try rfl) ?_
     intro w100z H
     refine s_nil ⟨(H.pk [5, 6]), ?_⟩
     refine t_nil ?_
     exact ⟨b_7, r2, r3, r4, r5, u0_3, u0_4, u0_5, u0_6, _, upds_of _ _ ⟨rfl, rfl, rfl, trivial⟩, hM, (H.pk [1, 0, 2, 3, 4, 5, 6])⟩
    skip
    refine t_alloc (cs := [.slice none 0 0, .slice none 0 0, .slice none 0 0, .slice none 0 0, I 0, I 0, .slice none 0 0]) H Al29 rfl ?_
    intro b_7 w101z H
    refine s_nil ⟨(H.pk [3, 4]), ?_⟩
    refine t_l rfl ?_
    obtain ⟨r103z, hx102z, hM⟩ := M.e_bind hM
    refine s_call cf9 [v_r__Springs] rfl (zah r__Springs (hC_r__Springs.app _) hs_r__Springs hx102z _ (H.gt 5)) ?_
    rintro vq w104z ⟨r4, u0_5, hr105z, hvq, H2_⟩
    subst hr105z
    subst vq
    try dsimp only at hM
    replace H := H.bk H2_
    clear H2_
    have hvc_q106z := Sl.cells (ownSl (H.get (k := 0) rfl))
    have hvo_q106z := Sl.oc (ownSl (H.get (k := 0) rfl))
    refine s_nil ⟨(H.pk [4, 5]), ?_⟩
    refine t_l rfl ?_
    obtain ⟨r108z, hx107z, hM⟩ := M.e_bind hM
    refine s_call cf45 [v_r__Towns] rfl (zbt r__Towns (hC_r__Towns.app _) hs_r__Towns hx107z _ (H.gt 6)) ?_
    rintro vq w109z ⟨r5, u0_6, hr110z, hvq, H2_⟩
    subst hr110z
    subst vq
    try dsimp only at hM
    replace H := H.bk H2_
    clear H2_
    have hvc_q111z := Sl.cells (ownSl (H.get (k := 0) rfl))
    have hvo_q111z := Sl.oc (ownSl (H.get (k := 0) rfl))
    refine s_nil ⟨(H.pk [5, 6]), ?_⟩
    refine t_q rfl (fun w' H => x_bld (ps := [(0, u0_3), (1, u0_4), (2, u0_5), (3, u0_6), (4, .agg #[I r__Delay_Lo, I r__Delay_Hi])]) (zs := [.slice none 0 0, .slice none 0 0, .slice none 0 0, .slice none 0 0, I 0, I 0, .slice none 0 0]) (L' := [u0_3, u0_4, u0_5, u0_6, I r__Delay_Lo, I r__Delay_Hi, .slice none 0 0]) rfl Tryz.underlying29 Al29 rfl (Bd29 Tryz.underlying29) (.cons (cs := [u0_3]) hvc_q31z rfl rfl rfl rfl <| .cons (cs := [u0_4]) hvc_q55z rfl rfl rfl rfl <| .cons (cs := [u0_5]) hvc_q106z rfl rfl rfl rfl <| .cons (cs := [u0_6]) hvc_q111z rfl rfl rfl rfl <| .cons (cs := [I r__Delay_Lo, I r__Delay_Hi]) rfl rfl rfl rfl rfl <| .nil)) ?_
    refine t_l rfl ?_
    refine t_sw 2 0 [u0_3, u0_4, u0_5, u0_6, I r__Delay_Lo, I r__Delay_Hi, .slice none 0 0] (.agg #[u0_3, u0_4, u0_5, u0_6, I r__Delay_Lo, I r__Delay_Hi, .slice none 0 0]) H rfl rfl Sz29 rfl rfl rfl (by simp only [List.all_cons, List.all_nil, Bool.true_and, Bool.and_true, Sl.oc (ownSl (H.get (k := 4) rfl)), Sl.oc (ownSl (H.get (k := 3) rfl)), Sl.oc (ownSl (H.get (k := 1) rfl)), Sl.oc (ownSl (H.get (k := 0) rfl))]; try rfl) ?_
    intro w112z H
    refine s_nil ⟨(H.pk [5, 6]), ?_⟩
    refine t_nil ?_
    exact ⟨b_7, r2, r3, r4, r5, u0_3, u0_4, u0_5, u0_6, _, upds_of _ _ ⟨rfl, rfl, rfl, trivial⟩, hM, (H.pk [2, 0, 1, 3, 4, 5, 6])⟩
   skip
   refine t_alloc (cs := [.slice none 0 0, .slice none 0 0, .slice none 0 0, .slice none 0 0, I 0, I 0, .slice none 0 0]) H Al29 rfl ?_
   intro b_7 w113z H
   refine s_nil ⟨(H.pk [2, 3]), ?_⟩
   refine t_l rfl ?_
   obtain ⟨r115z, hx114z, hM⟩ := M.e_bind hM
   refine s_call cf44 [v_r__Travel] rfl (zaV r__Travel (hC_r__Travel.app _) hs_r__Travel hx114z _ (H.gt 4)) ?_
   rintro vq w116z ⟨r3, u0_4, hr117z, hvq, H2_⟩
   subst hr117z
   subst vq
   try dsimp only at hM
   replace H := H.bk H2_
   clear H2_
   have hvc_q118z := Sl.cells (ownSl (H.get (k := 0) rfl))
   have hvo_q118z := Sl.oc (ownSl (H.get (k := 0) rfl))
   refine s_nil ⟨(H.pk [3, 4]), ?_⟩
   refine t_l rfl ?_
   obtain ⟨r120z, hx119z, hM⟩ := M.e_bind hM
   refine s_call cf9 [v_r__Springs] rfl (zah r__Springs (hC_r__Springs.app _) hs_r__Springs hx119z _ (H.gt 5)) ?_
   rintro vq w121z ⟨r4, u0_5, hr122z, hvq, H2_⟩
   subst hr122z
   subst vq
   try dsimp only at hM
   replace H := H.bk H2_
   clear H2_
   have hvc_q123z := Sl.cells (ownSl (H.get (k := 0) rfl))
   have hvo_q123z := Sl.oc (ownSl (H.get (k := 0) rfl))
   refine s_nil ⟨(H.pk [4, 5]), ?_⟩
   refine t_l rfl ?_
   obtain ⟨r125z, hx124z, hM⟩ := M.e_bind hM
   refine s_call cf45 [v_r__Towns] rfl (zbt r__Towns (hC_r__Towns.app _) hs_r__Towns hx124z _ (H.gt 6)) ?_
   rintro vq w126z ⟨r5, u0_6, hr127z, hvq, H2_⟩
   subst hr127z
   subst vq
   try dsimp only at hM
   replace H := H.bk H2_
   clear H2_
   have hvc_q128z := Sl.cells (ownSl (H.get (k := 0) rfl))
   have hvo_q128z := Sl.oc (ownSl (H.get (k := 0) rfl))
   refine s_nil ⟨(H.pk [5, 6]), ?_⟩
   refine t_q rfl (fun w' H => x_bld (ps := [(0, u0_3), (1, u0_4), (2, u0_5), (3, u0_6), (4, .agg #[I r__Delay_Lo, I r__Delay_Hi])]) (zs := [.slice none 0 0, .slice none 0 0, .slice none 0 0, .slice none 0 0, I 0, I 0, .slice none 0 0]) (L' := [u0_3, u0_4, u0_5, u0_6, I r__Delay_Lo, I r__Delay_Hi, .slice none 0 0]) rfl Tryz.underlying29 Al29 rfl (Bd29 Tryz.underlying29) (.cons (cs := [u0_3]) hvc_q31z rfl rfl rfl rfl <| .cons (cs := [u0_4]) hvc_q118z rfl rfl rfl rfl <| .cons (cs := [u0_5]) hvc_q123z rfl rfl rfl rfl <| .cons (cs := [u0_6]) hvc_q128z rfl rfl rfl rfl <| .cons (cs := [I r__Delay_Lo, I r__Delay_Hi]) rfl rfl rfl rfl rfl <| .nil)) ?_
   refine t_l rfl ?_
   refine t_sw 3 0 [u0_3, u0_4, u0_5, u0_6, I r__Delay_Lo, I r__Delay_Hi, .slice none 0 0] (.agg #[u0_3, u0_4, u0_5, u0_6, I r__Delay_Lo, I r__Delay_Hi, .slice none 0 0]) H rfl rfl Sz29 rfl rfl rfl (by simp only [List.all_cons, List.all_nil, Bool.true_and, Bool.and_true, Sl.oc (ownSl (H.get (k := 4) rfl)), Sl.oc (ownSl (H.get (k := 2) rfl)), Sl.oc (ownSl (H.get (k := 1) rfl)), Sl.oc (ownSl (H.get (k := 0) rfl))]; try rfl) ?_
   intro w129z H
   refine s_nil ⟨(H.pk [5, 6]), ?_⟩
   refine t_nil ?_
   exact ⟨b_7, r2, r3, r4, r5, u0_3, u0_4, u0_5, u0_6, _, upds_of _ _ ⟨rfl, rfl, rfl, trivial⟩, hM, (H.pk [3, 0, 1, 2, 4, 5, 6])⟩
  skip
  refine t_alloc (cs := [.slice none 0 0, .slice none 0 0, .slice none 0 0, .slice none 0 0, I 0, I 0, .slice none 0 0]) H Al29 rfl ?_
  intro b_7 w130z H
  refine s_nil ⟨(H.pk [1, 2]), ?_⟩
  refine t_l rfl ?_
  obtain ⟨r132z, hx131z, hM⟩ := M.e_bind hM
  refine s_call cf9 [v_r__Down] rfl (zah r__Down (hC_r__Down.app _) hs_r__Down hx131z _ (H.gt 3)) ?_
  rintro vq w133z ⟨r2, u0_3, hr134z, hvq, H2_⟩
  subst hr134z
  subst vq
  try dsimp only at hM
  replace H := H.bk H2_
  clear H2_
  have hvc_q135z := Sl.cells (ownSl (H.get (k := 0) rfl))
  have hvo_q135z := Sl.oc (ownSl (H.get (k := 0) rfl))
  refine s_nil ⟨(H.pk [2, 3]), ?_⟩
  refine t_l rfl ?_
  obtain ⟨r137z, hx136z, hM⟩ := M.e_bind hM
  refine s_call cf44 [v_r__Travel] rfl (zaV r__Travel (hC_r__Travel.app _) hs_r__Travel hx136z _ (H.gt 4)) ?_
  rintro vq w138z ⟨r3, u0_4, hr139z, hvq, H2_⟩
  subst hr139z
  subst vq
  try dsimp only at hM
  replace H := H.bk H2_
  clear H2_
  have hvc_q140z := Sl.cells (ownSl (H.get (k := 0) rfl))
  have hvo_q140z := Sl.oc (ownSl (H.get (k := 0) rfl))
  refine s_nil ⟨(H.pk [3, 4]), ?_⟩
  refine t_l rfl ?_
  obtain ⟨r142z, hx141z, hM⟩ := M.e_bind hM
  refine s_call cf9 [v_r__Springs] rfl (zah r__Springs (hC_r__Springs.app _) hs_r__Springs hx141z _ (H.gt 5)) ?_
  rintro vq w143z ⟨r4, u0_5, hr144z, hvq, H2_⟩
  subst hr144z
  subst vq
  try dsimp only at hM
  replace H := H.bk H2_
  clear H2_
  have hvc_q145z := Sl.cells (ownSl (H.get (k := 0) rfl))
  have hvo_q145z := Sl.oc (ownSl (H.get (k := 0) rfl))
  refine s_nil ⟨(H.pk [4, 5]), ?_⟩
  refine t_l rfl ?_
  obtain ⟨r147z, hx146z, hM⟩ := M.e_bind hM
  refine s_call cf45 [v_r__Towns] rfl (zbt r__Towns (hC_r__Towns.app _) hs_r__Towns hx146z _ (H.gt 6)) ?_
  rintro vq w148z ⟨r5, u0_6, hr149z, hvq, H2_⟩
  subst hr149z
  subst vq
  try dsimp only at hM
  replace H := H.bk H2_
  clear H2_
  have hvc_q150z := Sl.cells (ownSl (H.get (k := 0) rfl))
  have hvo_q150z := Sl.oc (ownSl (H.get (k := 0) rfl))
  refine s_nil ⟨(H.pk [5, 6]), ?_⟩
  refine t_q rfl (fun w' H => x_bld (ps := [(0, u0_3), (1, u0_4), (2, u0_5), (3, u0_6), (4, .agg #[I r__Delay_Lo, I r__Delay_Hi])]) (zs := [.slice none 0 0, .slice none 0 0, .slice none 0 0, .slice none 0 0, I 0, I 0, .slice none 0 0]) (L' := [u0_3, u0_4, u0_5, u0_6, I r__Delay_Lo, I r__Delay_Hi, .slice none 0 0]) rfl Tryz.underlying29 Al29 rfl (Bd29 Tryz.underlying29) (.cons (cs := [u0_3]) hvc_q135z rfl rfl rfl rfl <| .cons (cs := [u0_4]) hvc_q140z rfl rfl rfl rfl <| .cons (cs := [u0_5]) hvc_q145z rfl rfl rfl rfl <| .cons (cs := [u0_6]) hvc_q150z rfl rfl rfl rfl <| .cons (cs := [I r__Delay_Lo, I r__Delay_Hi]) rfl rfl rfl rfl rfl <| .nil)) ?_
  refine t_l rfl ?_
  refine t_sw 4 0 [u0_3, u0_4, u0_5, u0_6, I r__Delay_Lo, I r__Delay_Hi, .slice none 0 0] (.agg #[u0_3, u0_4, u0_5, u0_6, I r__Delay_Lo, I r__Delay_Hi, .slice none 0 0]) H rfl rfl Sz29 rfl rfl rfl (by simp only [List.all_cons, List.all_nil, Bool.true_and, Bool.and_true, Sl.oc (ownSl (H.get (k := 3) rfl)), Sl.oc (ownSl (H.get (k := 2) rfl)), Sl.oc (ownSl (H.get (k := 1) rfl)), Sl.oc (ownSl (H.get (k := 0) rfl))]; try rfl) ?_
  intro w151z H
  refine s_nil ⟨(H.pk [5, 6]), ?_⟩
  refine t_nil ?_
  exact ⟨b_7, r2, r3, r4, r5, u0_3, u0_4, u0_5, u0_6, _, upds_of _ _ ⟨rfl, rfl, rfl, trivial⟩, hM, (H.pk [4, 0, 1, 2, 3, 5, 6])⟩
 rintro _ w152z ⟨b_7, r2, r3, r4, r5, u0_3, u0_4, u0_5, u0_6, ρ, rfl, hM, H⟩
 unfold zbx at hM
 refine W.seq ?_
 refine W.seq ?_
 refine W.region rfl ?_
 refine s_val (x_as (v := I 0) rfl) ?_
 refine s_nil ?_
 refine W.block ?_
 obtain ⟨Bs_16, H⟩ := H.emptyE
 replace H := H.nilOwn (α := Raw 1) 85
 have hr153z : RepR (α := Flood) (n := 1) Bs_16.cells [] [] := .nil
 obtain ⟨ex154z, hi155z, hk156z⟩ := M.e_bind hM
 obtain ⟨m0_, hi155z⟩ := M.e_iter hi155z
 refine W.loop (fun m σ W => ∃ (i : Nat) (l : List Flood) (v_l : Value) (rw_l : List (Raw 1)) (B_l : Base) (ρ : Env), σ = upds ρ [(1, .pointer (some ⟨b_1, 0, none⟩)), (2, .pointer (some ⟨b_2, 0, none⟩)), (3, .pointer (some ⟨b_7, 0, none⟩)), (4, I (i : Int))] /\ M.iterN (zbo r__Floods) m (i, l) = some ex154z /\ St w W [cOwn (α := Raw 1) 85 v_l rw_l, cRo B_l, cBlk b_7 [u0_3, u0_4, u0_5, u0_6, I r__Delay_Lo, I r__Delay_Hi, v_l] 29, cOwn (α := Town) 91 u0_6 r5, cOwn (α := Int) 3 u0_5 r4, cOwn (α := Span) 26 u0_4 r3, cOwn (α := Int) 3 u0_3 r2, cBlk b_2 [.slice none 0 0, .slice none 0 0, .slice none 0 0, .slice none 0 0, I 0, I 0, .slice none 0 0] 29, cBlk b_1 [v_r__Down, v_r__Travel, v_r__Springs, v_r__Towns, I r__Delay_Lo, I r__Delay_Hi, v_r__Floods] 29] R /\ RepR (α := Flood) B_l.cells rw_l l) ?_ ?_
 ·exact ⟨_, 0, [], (.slice none 0 0), [], Bs_16, _, upds_of _ _ ⟨rfl, rfl, rfl, rfl, trivial⟩, hi155z, H, hr153z⟩
 rintro m159z σ w157z ⟨i, l, v_l, rw_l, B_l, ρ, rfl, hI158z, H, hr_l⟩
 obtain ⟨m160z, lt161z, x162z, hM, hN163z⟩ := M.e_iterN hI158z
 simp only [zbo] at hM
 clear hI158z
 refine W.seq ?_
 refine W.seq ?_
 refine W.region rfl ?_
 refine s_val (x_mv (v := I (i : Int)) rfl) ?_
 refine s_val (x_fa (a := .pointer (some ⟨b_1, 0, none⟩)) (v := .pointer (some ⟨b_1, 6, none⟩)) rfl (fa_blk (o := 0) Fd29_5 Sz27)) ?_
 refine s_val (x_ld (p := .pointer (some ⟨b_1, 6, none⟩)) (v := v_r__Floods) rfl (ldb_sc Sc27 (H.blk (k := 8) rfl) rfl)) ?_
 have hl164z := (hs_r__Floods).len_le
 refine s_val (x_lenS T27.und rfl hs_r__Floods) ?_
 refine s_val (x_cmp (kd := .i64) (a := (i : Int)) (b := (r__Floods.length : Int)) (r := decide ((i : Int) < (r__Floods.length : Int))) rfl rfl rfl) ?_
 refine s_nil ?_
 refine W.cond (decide ((i : Int) < (r__Floods.length : Int))) rfl (fun c165z => ?_) (fun c165z => ?_)
 ·replace hM := M.e_t hM c165z
  simp only [decide_eq_true_eq, decide_eq_false_iff_not, beq_iff_eq, bne_iff_ne, beq_eq_false_iff_ne, bne_eq_false_iff_eq, ne_eq, Decidable.not_not] at c165z
  refine W.skip ?_
  refine W.seq ?_
  refine W.block ?_
  refine W.drawT (fun W => St w W [cRo B_l, cOwn (α := Town) 91 u0_6 r5, cOwn (α := Int) 3 u0_5 r4, cOwn (α := Span) 26 u0_4 r3, cOwn (α := Int) 3 u0_3 r2, cBlk b_2 [.slice none 0 0, .slice none 0 0, .slice none 0 0, .slice none 0 0, I 0, I 0, .slice none 0 0] 29, cBlk b_1 [v_r__Down, v_r__Travel, v_r__Springs, v_r__Towns, I r__Delay_Lo, I r__Delay_Hi, v_r__Floods] 29] R) (.q 0 (.q 2 (.q 3 (.q 4 (.q 5 (.q 6 (.q 7 (.q 8 (.q 9 (.q 10 (.q 11 (.q 12 (.q 13 (.l2 1 (.l 14 (.l 15 (.l 16 (.l 17 (.q 18 (.l 19 .nil)))))) 14 (.l2 1 (.l 15 (.l 16 (.l 17 (.q 18 (.l 19 .nil))))) 15 (.l2 1 (.l 16 (.l 17 (.q 18 (.l 19 .nil)))) 16 (.l 1 (.l 17 (.q 18 (.l 19 .nil)))))))))))))))))))) mixed (by decide +kernel) rfl ?_
  intro w166z hx_
  replace H := H.ext hx_
  clear hx_
  refine ⟨(H.pk [1, 3, 4, 5, 6, 7, 8]), ?_⟩
  refine t_q rfl (fun w' H => x_fa (a := .pointer (some ⟨b_7, 0, none⟩)) (v := .pointer (some ⟨b_7, 6, none⟩)) rfl (fa_blk (o := 0) Fd29_5 Sz27)) ?_
  refine t_q rfl (fun w' H => x_fa (a := .pointer (some ⟨b_1, 0, none⟩)) (v := .pointer (some ⟨b_1, 6, none⟩)) rfl (fa_blk (o := 0) Fd29_5 Sz27)) ?_
  refine t_q rfl (fun w' H => x_ld (p := .pointer (some ⟨b_1, 6, none⟩)) (v := v_r__Floods) rfl (ldb_sc Sc27 (H.blk (k := 6) rfl) rfl)) ?_
  refine t_q rfl (fun w' H => x_mv (v := I (i : Int)) rfl) ?_
  obtain ⟨sd167z, hM⟩ := M.e_grd hM
  simp only [Bool.and_eq_true, decide_eq_true_eq] at sd167z
  refine t_q rfl (fun w' H => x_ix (a := v_r__Floods) (b := I (i : Int)) (v := vat v_r__Floods 2 (Int.toNat (i : Int))) rfl rfl (Sl.ix (α := Flood) T27.und T27.size hs_r__Floods (by omega) (by omega))) ?_
  refine t_q rfl (fun w' H => x_fa (a := vat v_r__Floods 2 (Int.toNat (i : Int))) (v := fat (vat v_r__Floods 2 (Int.toNat (i : Int))) 0) rfl (fa_pl Fd85_0 Sz3 (Sl.pl (i := (i : Int)) hs_r__Floods (by omega) (by omega)))) ?_
  refine t_q rfl (fun w' H => x_ld (p := fat (vat v_r__Floods 2 (Int.toNat (i : Int))) 0) (v := I ((r__Floods.getD i default).spring)) rfl (ld_sc Sc3 (At.mono (Flood_at0 hs_r__Floods (i := (i : Int)) (by omega) (by omega)) (hC_r__Floods.at H)))) ?_
  refine t_q rfl (fun w' H => x_fa (a := .pointer (some ⟨b_1, 0, none⟩)) (v := .pointer (some ⟨b_1, 6, none⟩)) rfl (fa_blk (o := 0) Fd29_5 Sz27)) ?_
  refine t_q rfl (fun w' H => x_ld (p := .pointer (some ⟨b_1, 6, none⟩)) (v := v_r__Floods) rfl (ldb_sc Sc27 (H.blk (k := 6) rfl) rfl)) ?_
  refine t_q rfl (fun w' H => x_mv (v := I (i : Int)) rfl) ?_
  refine t_q rfl (fun w' H => x_ix (a := v_r__Floods) (b := I (i : Int)) (v := vat v_r__Floods 2 (Int.toNat (i : Int))) rfl rfl (Sl.ix (α := Flood) T27.und T27.size hs_r__Floods (by omega) (by omega))) ?_
  refine t_q rfl (fun w' H => x_fa (a := vat v_r__Floods 2 (Int.toNat (i : Int))) (v := fat (vat v_r__Floods 2 (Int.toNat (i : Int))) 1) rfl (fa_pl Fd85_1 Sz22 (Sl.pl (i := (i : Int)) hs_r__Floods (by omega) (by omega)))) ?_
  obtain ⟨u168z, ha_u168z, hs169z⟩ := Flood_at1 hs_r__Floods (i := (i : Int)) (by omega) (by omega)
  replace hs169z : Sl _ u168z (r__Floods.getD i default).stages := hs169z
  have hl_hs169z := hs169z.len_le
  refine t_q rfl (fun w' H => x_ld (p := fat (vat v_r__Floods 2 (Int.toNat (i : Int))) 1) (v := u168z) rfl (ld_sc Sc22 (At.mono (ha_u168z) (hC_r__Floods.at H)))) ?_
  refine t_l2 rfl rfl ?_ ?_
  ·skip
   refine s_val (x_ld (p := .pointer (some ⟨b_7, 6, none⟩)) (v := v_l) rfl (ldb_sc Sc27 (H.blk (k := 2) rfl) rfl)) ?_
   have hvc_q190z := Sl.cells (ownSl (H.get (k := 0) rfl))
   have hvo_q190z := Sl.oc (ownSl (H.get (k := 0) rfl))
   refine s_nil ⟨(H.pk [1, 3, 4, 5, 6, 7, 8]), ?_⟩
   refine t_l rfl ?_
   obtain ⟨r192z, hx191z, hM⟩ := M.e_bind hM
   refine s_call cf9 [u168z] rfl (zah ((r__Floods.getD i default).stages) (hC_r__Floods.app _) hs169z hx191z _ (H.gt 9)) ?_
   rintro vq w193z ⟨r6, u0_8, hr194z, hvq, H2_⟩
   subst hr194z
   subst vq
   try dsimp only at hM
   replace H := H.bk H2_
   clear H2_
   have hvc_q195z := Sl.cells (ownSl (H.get (k := 0) rfl))
   have hvo_q195z := Sl.oc (ownSl (H.get (k := 0) rfl))
   refine s_nil ⟨(H.pk [2, 4, 5, 6, 7, 8, 9]), ?_⟩
   refine t_l rfl ?_
   refine s_val (x_bld (ps := [(0, I ((r__Floods.getD i default).spring)), (1, u0_8)]) (zs := [I 0, .slice none 0 0]) (L' := [I ((r__Floods.getD i default).spring), u0_8]) rfl Tryz.underlying85 Al85 rfl (Bd85 Tryz.underlying85) (.cons (cs := [I ((r__Floods.getD i default).spring)]) rfl rfl rfl rfl rfl <| .cons (cs := [u0_8]) (Sl.cells (ownSl (H.get (k := 0) rfl))) rfl rfl rfl rfl <| .nil)) ?_
   refine s_nil ⟨(H.pk [2, 4, 5, 6, 7, 8, 9]), ?_⟩
   refine t_l rfl ?_
   obtain ⟨Bs_9, H⟩ := H.emptyE
   obtain ⟨Bs_10, H, hs197z⟩ := H.freezeE (k := 1) rfl
   replace H := H.nf
   have hq196z := hs197z
   obtain ⟨Bs_11, H, le198z, le199z⟩ := H.joinE (i := 0) (j := 1) rfl rfl
   replace hq196z := hq196z.mono le199z
   obtain ⟨rw200z, hrw_rw200z⟩ : ∃ r : Raw 1, r.cs = [I ((r__Floods.getD i default).spring), u0_8] := ⟨Raw.of [I ((r__Floods.getD i default).spring), u0_8] rfl (by simp only [List.all_cons, List.all_nil, Bool.true_and, Bool.and_true, Sl.oc hq196z]; try rfl), rfl⟩
   have hr201z : RepR (α := Flood) Bs_11.cells [rw200z] [(⟨((r__Floods.getD i default).spring : Int), r6⟩ : Flood)] := .cons (by rw [hrw_rw200z]; exact ⟨_, rfl, hq196z⟩) <| .nil
   refine t_bs (α := Raw 1) T27 [.agg #[I ((r__Floods.getD i default).spring), u0_8]] [rw200z] H rfl (.cons (by rw [show (Flat.enc rw200z : List Value) = rw200z.cs from rfl, hrw_rw200z]; rfl) (Flat.rep_enc _ _) <| .nil) rfl rfl rfl ?_
   intro v202z w203z H
   replace H := H.nf
   have hvc_q204z := Sl.cells (ownSl (H.get (k := 0) rfl))
   have hvo_q204z := Sl.oc (ownSl (H.get (k := 0) rfl))
   refine s_nil ⟨(H.pk [5, 7, 8, 9, 10, 11, 12]), ?_⟩
   refine t_l rfl ?_
   obtain ⟨sd205z, hM⟩ := M.e_grd hM
   simp only [Bool.and_eq_true, decide_eq_true_eq] at sd205z
   have hr206z := hr201z
   obtain ⟨Bs_15, H, le207z, le208z⟩ := H.joinE (i := 5) (j := 1) rfl rfl
   replace hr_l := hr_l.mono le207z
   replace hr206z := hr206z.mono le208z
   have hr211z := hr_l.app hr206z
   refine t_app (α := Raw 1) (k := 5) (l := rw_l) (l2 := [rw200z]) (l' := rw_l ++ ([rw200z])) (vy := v202z) T27 rfl H rfl rfl rfl (ownSl (H.get (k := 1) rfl)) (ownLe _ (H.get (k := 1) rfl)) (rfl) (by have a_ := hr_l.len; have b_ := hr206z.len; (try simp only [List.length_nil] at *); first | omega | (rw [a_, b_]; omega)) ?_
   intro v209z w210z H
   replace H := H.nf
   have hvc_q212z := Sl.cells (ownSl (H.get (k := 5) rfl))
   have hvo_q212z := Sl.oc (ownSl (H.get (k := 5) rfl))
   refine s_nil ⟨(H.pk [6, 8, 9, 10, 11, 12, 13]), ?_⟩
   refine t_q rfl (fun w' H => x_fa (a := .pointer (some ⟨b_7, 0, none⟩)) (v := .pointer (some ⟨b_7, 6, none⟩)) rfl (fa_blk (o := 0) Fd29_5 Sz27)) ?_
   refine t_l rfl ?_
   refine t_sw 7 6 [v209z] v209z H rfl rfl Sz27 (Sl.cells (rowSl rfl (H.get (k := 5) rfl) (roLe _ (H.get (k := 0) rfl)) hr211z)) rfl rfl (by simp only [List.all_cons, List.all_nil, Bool.true_and, Bool.and_true, Sl.oc (rowSl rfl (H.get (k := 5) rfl) (roLe _ (H.get (k := 0) rfl)) hr211z)]; try rfl) ?_
   intro w213z H
   refine s_nil ⟨(H.pk [6, 8, 9, 10, 11, 12, 13]), ?_⟩
   refine t_nil ?_
   replace H := H.pk [0, 5, 6, 7, 8, 9, 10, 11, 12, 13]
   refine W.region rfl ?_
   refine s_val (x_mv (v := I (i : Int)) rfl) ?_
   refine s_val (x_ari (a := (i : Int)) (b := 1) (r := (i : Int) + 1) rfl rfl rfl (by omega)) ?_
   refine s_val (x_as (v := I ((i : Int) + 1)) rfl) ?_
   refine s_nil ?_
   exact ⟨m160z, lt161z, i + 1, l ++ ([(⟨((r__Floods.getD i default).spring : Int), r6⟩ : Flood)]), v209z, rw_l ++ ([rw200z]), Bs_15, _, upds_of _ _ ⟨rfl, rfl, rfl, rfl, trivial⟩, M.e_inl hM hN163z, (H.pk [1, 0, 3, 4, 5, 6, 7, 8, 9]), hr211z⟩
  skip
  obtain ⟨r215z, hx214z, hM⟩ := M.e_bind hM
  refine s_call cf9 [u168z] rfl (zah ((r__Floods.getD i default).stages) (hC_r__Floods.app _) hs169z hx214z _ (H.gt 9)) ?_
  rintro vq w216z ⟨r6, u0_8, hr217z, hvq, H2_⟩
  subst hr217z
  subst vq
  try dsimp only at hM
  replace H := H.bk H2_
  clear H2_
  have hvc_q218z := Sl.cells (ownSl (H.get (k := 0) rfl))
  have hvo_q218z := Sl.oc (ownSl (H.get (k := 0) rfl))
  have hvc_q219z := Sl.cells (ownSl (H.get (k := 1) rfl))
  have hvo_q219z := Sl.oc (ownSl (H.get (k := 1) rfl))
  refine s_nil ⟨(H.pk [2, 4, 5, 6, 7, 8, 9]), ?_⟩
  obtain ⟨sd228z, hM⟩ := M.e_grd hM
  simp only [Bool.and_eq_true, decide_eq_true_eq] at sd228z
  refine t_l2 rfl rfl ?_ ?_
  ·skip
   refine s_val (x_ld (p := .pointer (some ⟨b_7, 6, none⟩)) (v := v_l) rfl (ldb_sc Sc27 (H.blk (k := 3) rfl) rfl)) ?_
   refine s_nil ⟨(H.pk [2, 4, 5, 6, 7, 8, 9]), ?_⟩
   refine t_l rfl ?_
   refine s_val (x_bld (ps := [(0, I ((r__Floods.getD i default).spring)), (1, u0_8)]) (zs := [I 0, .slice none 0 0]) (L' := [I ((r__Floods.getD i default).spring), u0_8]) rfl Tryz.underlying85 Al85 rfl (Bd85 Tryz.underlying85) (.cons (cs := [I ((r__Floods.getD i default).spring)]) rfl rfl rfl rfl rfl <| .cons (cs := [u0_8]) (Sl.cells (ownSl (H.get (k := 0) rfl))) rfl rfl rfl rfl <| .nil)) ?_
   refine s_nil ⟨(H.pk [2, 4, 5, 6, 7, 8, 9]), ?_⟩
   refine t_l rfl ?_
   obtain ⟨Bs_9, H⟩ := H.emptyE
   obtain ⟨Bs_10, H, hs237z⟩ := H.freezeE (k := 1) rfl
   replace H := H.nf
   have hq236z := hs237z
   obtain ⟨Bs_11, H, le238z, le239z⟩ := H.joinE (i := 0) (j := 1) rfl rfl
   replace hq236z := hq236z.mono le239z
   obtain ⟨rw240z, hrw_rw240z⟩ : ∃ r : Raw 1, r.cs = [I ((r__Floods.getD i default).spring), u0_8] := ⟨Raw.of [I ((r__Floods.getD i default).spring), u0_8] rfl (by simp only [List.all_cons, List.all_nil, Bool.true_and, Bool.and_true, Sl.oc hq236z]; try rfl), rfl⟩
   have hr241z : RepR (α := Flood) Bs_11.cells [rw240z] [(⟨((r__Floods.getD i default).spring : Int), r6⟩ : Flood)] := .cons (by rw [hrw_rw240z]; exact ⟨_, rfl, hq236z⟩) <| .nil
   refine t_bs (α := Raw 1) T27 [.agg #[I ((r__Floods.getD i default).spring), u0_8]] [rw240z] H rfl (.cons (by rw [show (Flat.enc rw240z : List Value) = rw240z.cs from rfl, hrw_rw240z]; rfl) (Flat.rep_enc _ _) <| .nil) rfl rfl rfl ?_
   intro v242z w243z H
   replace H := H.nf
   have hvc_q244z := Sl.cells (ownSl (H.get (k := 0) rfl))
   have hvo_q244z := Sl.oc (ownSl (H.get (k := 0) rfl))
   refine s_nil ⟨(H.pk [5, 7, 8, 9, 10, 11, 12]), ?_⟩
   refine t_l rfl ?_
   have hr245z := hr241z
   obtain ⟨Bs_15, H, le246z, le247z⟩ := H.joinE (i := 5) (j := 1) rfl rfl
   replace hr_l := hr_l.mono le246z
   replace hr245z := hr245z.mono le247z
   have hr250z := hr_l.app hr245z
   refine t_app (α := Raw 1) (k := 5) (l := rw_l) (l2 := [rw240z]) (l' := rw_l ++ ([rw240z])) (vy := v242z) T27 rfl H rfl rfl rfl (ownSl (H.get (k := 1) rfl)) (ownLe _ (H.get (k := 1) rfl)) (rfl) (by have a_ := hr_l.len; have b_ := hr245z.len; (try simp only [List.length_nil] at *); first | omega | (rw [a_, b_]; omega)) ?_
   intro v248z w249z H
   replace H := H.nf
   have hvc_q251z := Sl.cells (ownSl (H.get (k := 5) rfl))
   have hvo_q251z := Sl.oc (ownSl (H.get (k := 5) rfl))
   refine s_nil ⟨(H.pk [6, 8, 9, 10, 11, 12, 13]), ?_⟩
   refine t_q rfl (fun w' H => x_fa (a := .pointer (some ⟨b_7, 0, none⟩)) (v := .pointer (some ⟨b_7, 6, none⟩)) rfl (fa_blk (o := 0) Fd29_5 Sz27)) ?_
   refine t_l rfl ?_
   refine t_sw 7 6 [v248z] v248z H rfl rfl Sz27 (Sl.cells (rowSl rfl (H.get (k := 5) rfl) (roLe _ (H.get (k := 0) rfl)) hr250z)) rfl rfl (by simp only [List.all_cons, List.all_nil, Bool.true_and, Bool.and_true, Sl.oc (rowSl rfl (H.get (k := 5) rfl) (roLe _ (H.get (k := 0) rfl)) hr250z)]; try rfl) ?_
   intro w252z H
   refine s_nil ⟨(H.pk [6, 8, 9, 10, 11, 12, 13]), ?_⟩
   refine t_nil ?_
   replace H := H.pk [0, 5, 6, 7, 8, 9, 10, 11, 12, 13]
   refine W.region rfl ?_
   refine s_val (x_mv (v := I (i : Int)) rfl) ?_
   refine s_val (x_ari (a := (i : Int)) (b := 1) (r := (i : Int) + 1) rfl rfl rfl (by omega)) ?_
   refine s_val (x_as (v := I ((i : Int) + 1)) rfl) ?_
   refine s_nil ?_
   exact ⟨m160z, lt161z, i + 1, l ++ ([(⟨((r__Floods.getD i default).spring : Int), r6⟩ : Flood)]), v248z, rw_l ++ ([rw240z]), Bs_15, _, upds_of _ _ ⟨rfl, rfl, rfl, rfl, trivial⟩, M.e_inl hM hN163z, (H.pk [1, 0, 3, 4, 5, 6, 7, 8, 9]), hr250z⟩
  skip
  refine s_val (x_bld (ps := [(0, I ((r__Floods.getD i default).spring)), (1, u0_8)]) (zs := [I 0, .slice none 0 0]) (L' := [I ((r__Floods.getD i default).spring), u0_8]) rfl Tryz.underlying85 Al85 rfl (Bd85 Tryz.underlying85) (.cons (cs := [I ((r__Floods.getD i default).spring)]) rfl rfl rfl rfl rfl <| .cons (cs := [u0_8]) (Sl.cells (ownSl (H.get (k := 0) rfl))) rfl rfl rfl rfl <| .nil)) ?_
  refine s_nil ⟨(H.pk [2, 4, 5, 6, 7, 8, 9]), ?_⟩
  refine t_l2 rfl rfl ?_ ?_
  ·skip
   refine s_val (x_ld (p := .pointer (some ⟨b_7, 6, none⟩)) (v := v_l) rfl (ldb_sc Sc27 (H.blk (k := 3) rfl) rfl)) ?_
   refine s_nil ⟨(H.pk [2, 4, 5, 6, 7, 8, 9]), ?_⟩
   refine t_l rfl ?_
   obtain ⟨Bs_9, H⟩ := H.emptyE
   obtain ⟨Bs_10, H, hs254z⟩ := H.freezeE (k := 1) rfl
   replace H := H.nf
   have hq253z := hs254z
   obtain ⟨Bs_11, H, le255z, le256z⟩ := H.joinE (i := 0) (j := 1) rfl rfl
   replace hq253z := hq253z.mono le256z
   obtain ⟨rw257z, hrw_rw257z⟩ : ∃ r : Raw 1, r.cs = [I ((r__Floods.getD i default).spring), u0_8] := ⟨Raw.of [I ((r__Floods.getD i default).spring), u0_8] rfl (by simp only [List.all_cons, List.all_nil, Bool.true_and, Bool.and_true, Sl.oc hq253z]; try rfl), rfl⟩
   have hr258z : RepR (α := Flood) Bs_11.cells [rw257z] [(⟨((r__Floods.getD i default).spring : Int), r6⟩ : Flood)] := .cons (by rw [hrw_rw257z]; exact ⟨_, rfl, hq253z⟩) <| .nil
   refine t_bs (α := Raw 1) T27 [.agg #[I ((r__Floods.getD i default).spring), u0_8]] [rw257z] H rfl (.cons (by rw [show (Flat.enc rw257z : List Value) = rw257z.cs from rfl, hrw_rw257z]; rfl) (Flat.rep_enc _ _) <| .nil) rfl rfl rfl ?_
   intro v259z w260z H
   replace H := H.nf
   have hvc_q261z := Sl.cells (ownSl (H.get (k := 0) rfl))
   have hvo_q261z := Sl.oc (ownSl (H.get (k := 0) rfl))
   refine s_nil ⟨(H.pk [5, 7, 8, 9, 10, 11, 12]), ?_⟩
   refine t_l rfl ?_
   have hr262z := hr258z
   obtain ⟨Bs_15, H, le263z, le264z⟩ := H.joinE (i := 5) (j := 1) rfl rfl
   replace hr_l := hr_l.mono le263z
   replace hr262z := hr262z.mono le264z
   have hr267z := hr_l.app hr262z
   refine t_app (α := Raw 1) (k := 5) (l := rw_l) (l2 := [rw257z]) (l' := rw_l ++ ([rw257z])) (vy := v259z) T27 rfl H rfl rfl rfl (ownSl (H.get (k := 1) rfl)) (ownLe _ (H.get (k := 1) rfl)) (rfl) (by have a_ := hr_l.len; have b_ := hr262z.len; (try simp only [List.length_nil] at *); first | omega | (rw [a_, b_]; omega)) ?_
   intro v265z w266z H
   replace H := H.nf
   have hvc_q268z := Sl.cells (ownSl (H.get (k := 5) rfl))
   have hvo_q268z := Sl.oc (ownSl (H.get (k := 5) rfl))
   refine s_nil ⟨(H.pk [6, 8, 9, 10, 11, 12, 13]), ?_⟩
   refine t_q rfl (fun w' H => x_fa (a := .pointer (some ⟨b_7, 0, none⟩)) (v := .pointer (some ⟨b_7, 6, none⟩)) rfl (fa_blk (o := 0) Fd29_5 Sz27)) ?_
   refine t_l rfl ?_
   refine t_sw 7 6 [v265z] v265z H rfl rfl Sz27 (Sl.cells (rowSl rfl (H.get (k := 5) rfl) (roLe _ (H.get (k := 0) rfl)) hr267z)) rfl rfl (by simp only [List.all_cons, List.all_nil, Bool.true_and, Bool.and_true, Sl.oc (rowSl rfl (H.get (k := 5) rfl) (roLe _ (H.get (k := 0) rfl)) hr267z)]; try rfl) ?_
   intro w269z H
   refine s_nil ⟨(H.pk [6, 8, 9, 10, 11, 12, 13]), ?_⟩
   refine t_nil ?_
   replace H := H.pk [0, 5, 6, 7, 8, 9, 10, 11, 12, 13]
   refine W.region rfl ?_
   refine s_val (x_mv (v := I (i : Int)) rfl) ?_
   refine s_val (x_ari (a := (i : Int)) (b := 1) (r := (i : Int) + 1) rfl rfl rfl (by omega)) ?_
   refine s_val (x_as (v := I ((i : Int) + 1)) rfl) ?_
   refine s_nil ?_
   exact ⟨m160z, lt161z, i + 1, l ++ ([(⟨((r__Floods.getD i default).spring : Int), r6⟩ : Flood)]), v265z, rw_l ++ ([rw257z]), Bs_15, _, upds_of _ _ ⟨rfl, rfl, rfl, rfl, trivial⟩, M.e_inl hM hN163z, (H.pk [1, 0, 3, 4, 5, 6, 7, 8, 9]), hr267z⟩
  skip
  obtain ⟨Bs_9, H⟩ := H.emptyE
  obtain ⟨Bs_10, H, hs271z⟩ := H.freezeE (k := 1) rfl
  replace H := H.nf
  have hq270z := hs271z
  obtain ⟨Bs_11, H, le272z, le273z⟩ := H.joinE (i := 0) (j := 1) rfl rfl
  replace hq270z := hq270z.mono le273z
  obtain ⟨rw274z, hrw_rw274z⟩ : ∃ r : Raw 1, r.cs = [I ((r__Floods.getD i default).spring), u0_8] := ⟨Raw.of [I ((r__Floods.getD i default).spring), u0_8] rfl (by simp only [List.all_cons, List.all_nil, Bool.true_and, Bool.and_true, Sl.oc hq270z]; try rfl), rfl⟩
  have hr275z : RepR (α := Flood) Bs_11.cells [rw274z] [(⟨((r__Floods.getD i default).spring : Int), r6⟩ : Flood)] := .cons (by rw [hrw_rw274z]; exact ⟨_, rfl, hq270z⟩) <| .nil
  refine t_bs (α := Raw 1) T27 [.agg #[I ((r__Floods.getD i default).spring), u0_8]] [rw274z] H rfl (.cons (by rw [show (Flat.enc rw274z : List Value) = rw274z.cs from rfl, hrw_rw274z]; rfl) (Flat.rep_enc _ _) <| .nil) rfl rfl rfl ?_
  intro v276z w277z H
  replace H := H.nf
  have hvc_q278z := Sl.cells (ownSl (H.get (k := 0) rfl))
  have hvo_q278z := Sl.oc (ownSl (H.get (k := 0) rfl))
  refine s_nil ⟨(H.pk [5, 7, 8, 9, 10, 11, 12]), ?_⟩
  refine t_l rfl ?_
  refine s_val (x_ld (p := .pointer (some ⟨b_7, 6, none⟩)) (v := v_l) rfl (ldb_sc Sc27 (H.blk (k := 6) rfl) rfl)) ?_
  refine s_nil ⟨(H.pk [5, 7, 8, 9, 10, 11, 12]), ?_⟩
  refine t_l rfl ?_
  have hr279z := hr275z
  obtain ⟨Bs_15, H, le280z, le281z⟩ := H.joinE (i := 5) (j := 1) rfl rfl
  replace hr_l := hr_l.mono le280z
  replace hr279z := hr279z.mono le281z
  have hr284z := hr_l.app hr279z
  refine t_app (α := Raw 1) (k := 5) (l := rw_l) (l2 := [rw274z]) (l' := rw_l ++ ([rw274z])) (vy := v276z) T27 rfl H rfl rfl rfl (ownSl (H.get (k := 1) rfl)) (ownLe _ (H.get (k := 1) rfl)) (rfl) (by have a_ := hr_l.len; have b_ := hr279z.len; (try simp only [List.length_nil] at *); first | omega | (rw [a_, b_]; omega)) ?_
  intro v282z w283z H
  replace H := H.nf
  have hvc_q285z := Sl.cells (ownSl (H.get (k := 5) rfl))
  have hvo_q285z := Sl.oc (ownSl (H.get (k := 5) rfl))
  refine s_nil ⟨(H.pk [6, 8, 9, 10, 11, 12, 13]), ?_⟩
  refine t_q rfl (fun w' H => x_fa (a := .pointer (some ⟨b_7, 0, none⟩)) (v := .pointer (some ⟨b_7, 6, none⟩)) rfl (fa_blk (o := 0) Fd29_5 Sz27)) ?_
  refine t_l rfl ?_
  refine t_sw 7 6 [v282z] v282z H rfl rfl Sz27 (Sl.cells (rowSl rfl (H.get (k := 5) rfl) (roLe _ (H.get (k := 0) rfl)) hr284z)) rfl rfl (by simp only [List.all_cons, List.all_nil, Bool.true_and, Bool.and_true, Sl.oc (rowSl rfl (H.get (k := 5) rfl) (roLe _ (H.get (k := 0) rfl)) hr284z)]; try rfl) ?_
  intro w286z H
  refine s_nil ⟨(H.pk [6, 8, 9, 10, 11, 12, 13]), ?_⟩
  refine t_nil ?_
  replace H := H.pk [0, 5, 6, 7, 8, 9, 10, 11, 12, 13]
  refine W.region rfl ?_
  refine s_val (x_mv (v := I (i : Int)) rfl) ?_
  refine s_val (x_ari (a := (i : Int)) (b := 1) (r := (i : Int) + 1) rfl rfl rfl (by omega)) ?_
  refine s_val (x_as (v := I ((i : Int) + 1)) rfl) ?_
  refine s_nil ?_
  exact ⟨m160z, lt161z, i + 1, l ++ ([(⟨((r__Floods.getD i default).spring : Int), r6⟩ : Flood)]), v282z, rw_l ++ ([rw274z]), Bs_15, _, upds_of _ _ ⟨rfl, rfl, rfl, rfl, trivial⟩, M.e_inl hM hN163z, (H.pk [1, 0, 3, 4, 5, 6, 7, 8, 9]), hr284z⟩
 replace hM := M.e_f hM c165z
 simp only [decide_eq_true_eq, decide_eq_false_iff_not, beq_iff_eq, bne_iff_ne, beq_eq_false_iff_ne, bne_eq_false_iff_eq, ne_eq, Decidable.not_not] at c165z
 refine W.exit ?_
 have hX287z := M.e_inr hM hN163z
 subst hX287z
 replace hM := hk156z
 try dsimp only at hM
 refine W.seq ?_
 refine W.region rfl ?_
 refine s_val (x_ld (p := .pointer (some ⟨b_7, 0, none⟩)) (v := .agg #[u0_3, u0_4, u0_5, u0_6, I r__Delay_Lo, I r__Delay_Hi, v_l]) rfl (ldb_ag (ds := [u0_3, u0_4, u0_5, u0_6, I r__Delay_Lo, I r__Delay_Hi, v_l]) Ag29 Sz29 (H.blk (k := 2) rfl) rfl rfl)) ?_
 refine t_sw 7 0 [u0_3, u0_4, u0_5, u0_6, I r__Delay_Lo, I r__Delay_Hi, v_l] (.agg #[u0_3, u0_4, u0_5, u0_6, I r__Delay_Lo, I r__Delay_Hi, v_l]) H rfl rfl Sz29 rfl rfl rfl (by simp only [List.all_cons, List.all_nil, Bool.true_and, Bool.and_true, Sl.oc (ownSl (H.get (k := 6) rfl)), Sl.oc (ownSl (H.get (k := 5) rfl)), Sl.oc (ownSl (H.get (k := 4) rfl)), Sl.oc (ownSl (H.get (k := 3) rfl)), Sl.oc (rowSl rfl (H.get (k := 0) rfl) (roLe _ (H.get (k := 1) rfl)) hr_l)]; try rfl) ?_
 intro w288z H
 refine s_nil ?_
 replace H := H.pk [0, 1, 3, 4, 5, 6, 7]
 refine W.ret ?_
 have hb289z := (H.blk (k := 6) rfl)
 have hr_ := M.e_pure hM
 exact ⟨_, (resE_of1 (v := .agg #[u0_3, u0_4, u0_5, u0_6, I r__Delay_Lo, I r__Delay_Hi, v_l]) rfl (.cell (v := .agg #[u0_3, u0_4, u0_5, u0_6, I r__Delay_Lo, I r__Delay_Hi, v_l]) rfl (run_loadVar_ag (ds := [u0_3, u0_4, u0_5, u0_6, I r__Delay_Lo, I r__Delay_Hi, v_l]) Ag29 Sz29 hb289z rfl rfl) <| .nil)), ⟨r2, r3, r4, r5, r__Delay_Lo, r__Delay_Hi, l, u0_3, u0_4, u0_5, u0_6, v_l, rw_l, B_l, hr_, rfl, (H.pk [5, 4, 3, 2, 0, 1]), hr_l⟩⟩

def zbe (r__Towns : List Town) : (Nat × (List Town)) -> M ((Nat × (List Town)) ⊕ ((List Town) × (List Town))) := fun (i, l) =>
  bif decide ((i : Int) < (r__Towns.length : Int)) then (
  M.grd (decide ((i : Int) < (r__Towns.length : Int))) <|
  M.grd (decide ((l.length + ([(r__Towns.getD i default)]).length) * 24 <= 140737488355328)) <|
  M.pure (.inl (i + 1, l ++ ([(r__Towns.getD i default)]))))
  else (
  M.pure (.inr (l, l)))
def zbj (r__Floods : List Flood) : (Nat × (List Flood)) -> M ((Nat × (List Flood)) ⊕ ((List Flood) × (List Flood))) := fun (i2, l4) =>
  bif decide ((i2 : Int) < (r__Floods.length : Int)) then (
  M.grd (decide ((i2 : Int) < (r__Floods.length : Int))) <|
  M.grd (decide ((l4.length + ([(r__Floods.getD i2 default)]).length) * 32 <= 140737488355328)) <|
  M.pure (.inl (i2 + 1, l4 ++ ([(r__Floods.getD i2 default)]))))
  else (
  M.pure (.inr (l4, l4)))
def zbP (r__Towns : List Town) (r__Delay_Lo : Int) (r__Delay_Hi : Int) (r__Floods : List Flood) (r2 : List Int) (r3 : List Span) (r4 : List Int) : M ((List Int) × (List Span) × (List Int) × (List Town) × Int × Int × (List Flood)) :=
  M.bind (M.iter (zbe r__Towns) (0, [])) fun (l2, l3) =>
  M.bind (M.iter (zbj r__Floods) (0, [])) fun (l5, l6) =>
  M.pure (r2, r3, r4, l3, r__Delay_Lo, r__Delay_Hi, l6)
def zbS (r__Down : List Int) (r__Travel : List Span) (r__Springs : List Int) (r__Towns : List Town) (r__Delay_Lo : Int) (r__Delay_Hi : Int) (r__Floods : List Flood) : M ((List Int) × (List Span) × (List Int) × (List Town) × Int × Int × (List Flood)) :=
  M.bind (zaD r__Down) fun r2 =>
  M.bind (zbQ r__Travel) fun r3 =>
  M.bind (zaD r__Springs) fun r4 =>
  zbP r__Towns r__Delay_Lo r__Delay_Hi r__Floods r2 r3 r4
theorem zam {R : List Chunk} {C_r__Down : Cells} {v_r__Down : Value} {C_r__Travel : Cells} {v_r__Travel : Value} {C_r__Springs : Cells} {v_r__Springs : Value} {C_r__Towns : Cells} {v_r__Towns : Value} {C_r__Floods : Cells} {v_r__Floods : Value} (r__Down : List Int) (r__Travel : List Span) (r__Springs : List Int) (r__Towns : List Town) (r__Delay_Lo : Int) (r__Delay_Hi : Int) (r__Floods : List Flood) (hC_r__Down : Reads R C_r__Down) (hs_r__Down : Sl C_r__Down v_r__Down r__Down) (hC_r__Travel : Reads R C_r__Travel) (hs_r__Travel : Sl C_r__Travel v_r__Travel r__Travel) (hC_r__Springs : Reads R C_r__Springs) (hs_r__Springs : Sl C_r__Springs v_r__Springs r__Springs) (hC_r__Towns : Reads R C_r__Towns) (hs_r__Towns : Sl C_r__Towns v_r__Towns r__Towns) (hC_r__Floods : Reads R C_r__Floods) (hs_r__Floods : Sl C_r__Floods v_r__Floods r__Floods) {r : ((List Int) × (List Span) × (List Int) × (List Town) × Int × Int × (List Flood))} (hM : (zbS r__Down r__Travel r__Springs r__Towns r__Delay_Lo r__Delay_Hi r__Floods).Ends r) (w : World) (H : St w w [] R) : Ret Tryz.prog 10 #[.agg #[v_r__Down, v_r__Travel, v_r__Springs, v_r__Towns, I r__Delay_Lo, I r__Delay_Hi, v_r__Floods]] w fun v w' => ∃ (y0 : List Int) (y1 : List Span) (y2 : List Int) (y3 : List Town) (y4 : Int) (y5 : Int) (y6 : List Flood) (u0 : Value) (u1 : Value) (u2 : Value) (u3 : Value) (u4 : Value) (rr5 : List (Raw 1)) (Bs6 : Base), (y0, y1, y2, y3, y4, y5, y6) = r /\ v = .agg #[u0, u1, u2, u3, I y4, I y5, u4] /\ St w w' [cOwn (α := Int) 3 u0 y0, cOwn (α := Span) 26 u1 y1, cOwn (α := Int) 3 u2 y2, cOwn (α := Town) 92 u3 y3, cOwn (α := Raw 1) 93 u4 rr5, cRo Bs6] R /\ RepR (α := Flood) (Cells.sup C_r__Floods Bs6.cells) rr5 y6 := by
 refine ret_of_W Tryz.func10 rfl rfl rfl ?_
 refine W.seq ?_
 refine W.region rfl ?_
 refine t_box (v := .agg #[v_r__Down, v_r__Travel, v_r__Springs, v_r__Towns, I r__Delay_Lo, I r__Delay_Hi, v_r__Floods]) (cs := [v_r__Down, v_r__Travel, v_r__Springs, v_r__Towns, I r__Delay_Lo, I r__Delay_Hi, v_r__Floods]) H rfl rfl ?_
 intro b_1 w1z H
 refine t_alloc (cs := [.slice none 0 0, .slice none 0 0, .slice none 0 0, .slice none 0 0, I 0, I 0, .slice none 0 0]) H Al37 rfl ?_
 intro b_2 w2z H
 refine s_nil ?_
 refine W.seqJ (fun σ W => ∃ (b_6 : Nat) (r2 : List Int) (r3 : List Span) (r4 : List Int) (u0_3 : Value) (u0_4 : Value) (u0_5 : Value) (ρ : Env), σ = upds ρ [(1, .pointer (some ⟨b_1, 0, none⟩)), (2, .pointer (some ⟨b_2, 0, none⟩)), (3, .pointer (some ⟨b_6, 0, none⟩))] /\ (zbP r__Towns r__Delay_Lo r__Delay_Hi r__Floods r2 r3 r4).Ends r /\ St w W [cBlk b_6 [u0_3, u0_4, u0_5, .slice none 0 0, I r__Delay_Lo, I r__Delay_Hi, .slice none 0 0] 37, cOwn (α := Int) 3 u0_5 r4, cOwn (α := Span) 26 u0_4 r3, cOwn (α := Int) 3 u0_3 r2, cBlk b_2 [.slice none 0 0, .slice none 0 0, .slice none 0 0, .slice none 0 0, I 0, I 0, .slice none 0 0] 37, cBlk b_1 [v_r__Down, v_r__Travel, v_r__Springs, v_r__Towns, I r__Delay_Lo, I r__Delay_Hi, v_r__Floods] 29] R) ?_ ?_
 ·skip
  refine W.drawT (fun W => St w W [cBlk b_2 [.slice none 0 0, .slice none 0 0, .slice none 0 0, .slice none 0 0, I 0, I 0, .slice none 0 0] 37, cBlk b_1 [v_r__Down, v_r__Travel, v_r__Springs, v_r__Towns, I r__Delay_Lo, I r__Delay_Hi, v_r__Floods] 29] R) (.q 0 (.q 1 (.q 3 (.q 4 (.q 6 (.q 7 (.q 9 (.q 10 (.l2 2 (.l2 5 (.l2 8 (.q 11 (.l 12 (.l 13 .nil))) 12 (.l 8 (.q 11 (.l 13 .nil)))) 12 (.l 5 (.l 8 (.q 11 (.l 13 .nil))))) 12 (.l 2 (.l 5 (.l 8 (.q 11 (.l 13 .nil)))))))))))))) mixed (by decide +kernel) rfl ?_
  intro w3z hx_
  replace H := H.ext hx_
  clear hx_
  refine ⟨(H.pk [0, 1]), ?_⟩
  refine t_q rfl (fun w' H => x_fa (a := .pointer (some ⟨b_1, 0, none⟩)) (v := .pointer (some ⟨b_1, 0, none⟩)) rfl (fa_blk (o := 0) Fd29_0 Sz22)) ?_
  refine t_q rfl (fun w' H => x_ld (p := .pointer (some ⟨b_1, 0, none⟩)) (v := v_r__Down) rfl (ldb_sc Sc22 (H.blk (k := 1) rfl) rfl)) ?_
  refine t_q rfl (fun w' H => x_fa (a := .pointer (some ⟨b_1, 0, none⟩)) (v := .pointer (some ⟨b_1, 1, none⟩)) rfl (fa_blk (o := 0) Fd29_1 Sz23)) ?_
  refine t_q rfl (fun w' H => x_ld (p := .pointer (some ⟨b_1, 1, none⟩)) (v := v_r__Travel) rfl (ldb_sc Sc23 (H.blk (k := 1) rfl) rfl)) ?_
  refine t_q rfl (fun w' H => x_fa (a := .pointer (some ⟨b_1, 0, none⟩)) (v := .pointer (some ⟨b_1, 2, none⟩)) rfl (fa_blk (o := 0) Fd29_2 Sz22)) ?_
  refine t_q rfl (fun w' H => x_ld (p := .pointer (some ⟨b_1, 2, none⟩)) (v := v_r__Springs) rfl (ldb_sc Sc22 (H.blk (k := 1) rfl) rfl)) ?_
  refine t_q rfl (fun w' H => x_fa (a := .pointer (some ⟨b_1, 0, none⟩)) (v := .pointer (some ⟨b_1, 4, none⟩)) rfl (fa_blk (o := 0) Fd29_4 Sz26)) ?_
  refine t_q rfl (fun w' H => x_ld (p := .pointer (some ⟨b_1, 4, none⟩)) (v := .agg #[I r__Delay_Lo, I r__Delay_Hi]) rfl (ldb_ag (ds := [I r__Delay_Lo, I r__Delay_Hi]) Ag26 Sz26 (H.blk (k := 1) rfl) rfl rfl)) ?_
  refine t_l2 rfl rfl ?_ ?_
  ·skip
   obtain ⟨r24z, hx23z, hM⟩ := M.e_bind hM
   refine s_call cf9 [v_r__Down] rfl (zah r__Down (hC_r__Down.app _) hs_r__Down hx23z _ (H.gt 2)) ?_
   rintro vq w25z ⟨r2, u0_3, hr26z, hvq, H2_⟩
   subst hr26z
   subst vq
   try dsimp only at hM
   replace H := H.bk H2_
   clear H2_
   have hvc_q27z := Sl.cells (ownSl (H.get (k := 0) rfl))
   have hvo_q27z := Sl.oc (ownSl (H.get (k := 0) rfl))
   refine s_nil ⟨(H.pk [1, 2]), ?_⟩
   refine t_l2 rfl rfl ?_ ?_
   ·skip
    obtain ⟨r44z, hx43z, hM⟩ := M.e_bind hM
    refine s_call cf44 [v_r__Travel] rfl (zaV r__Travel (hC_r__Travel.app _) hs_r__Travel hx43z _ (H.gt 3)) ?_
    rintro vq w45z ⟨r3, u0_4, hr46z, hvq, H2_⟩
    subst hr46z
    subst vq
    try dsimp only at hM
    replace H := H.bk H2_
    clear H2_
    have hvc_q47z := Sl.cells (ownSl (H.get (k := 0) rfl))
    have hvo_q47z := Sl.oc (ownSl (H.get (k := 0) rfl))
    refine s_nil ⟨(H.pk [2, 3]), ?_⟩
    refine t_l2 rfl rfl ?_ ?_
    ·skip
     obtain ⟨r60z, hx59z, hM⟩ := M.e_bind hM
     refine s_call cf9 [v_r__Springs] rfl (zah r__Springs (hC_r__Springs.app _) hs_r__Springs hx59z _ (H.gt 4)) ?_
     rintro vq w61z ⟨r4, u0_5, hr62z, hvq, H2_⟩
     subst hr62z
     subst vq
     try dsimp only at hM
     replace H := H.bk H2_
     clear H2_
     have hvc_q63z := Sl.cells (ownSl (H.get (k := 0) rfl))
     have hvo_q63z := Sl.oc (ownSl (H.get (k := 0) rfl))
     refine s_nil ⟨(H.pk [3, 4]), ?_⟩
     refine t_q rfl (fun w' H => x_bld (ps := [(0, u0_3), (1, u0_4), (2, u0_5), (4, .agg #[I r__Delay_Lo, I r__Delay_Hi])]) (zs := [.slice none 0 0, .slice none 0 0, .slice none 0 0, .slice none 0 0, I 0, I 0, .slice none 0 0]) (L' := [u0_3, u0_4, u0_5, .slice none 0 0, I r__Delay_Lo, I r__Delay_Hi, .slice none 0 0]) rfl Tryz.underlying37 Al37 rfl (Bd37 Tryz.underlying37) (.cons (cs := [u0_3]) hvc_q27z rfl rfl rfl rfl <| .cons (cs := [u0_4]) hvc_q47z rfl rfl rfl rfl <| .cons (cs := [u0_5]) hvc_q63z rfl rfl rfl rfl <| .cons (cs := [I r__Delay_Lo, I r__Delay_Hi]) rfl rfl rfl rfl rfl <| .nil)) ?_
     refine t_l rfl ?_
     refine t_alloc (cs := [.slice none 0 0, .slice none 0 0, .slice none 0 0, .slice none 0 0, I 0, I 0, .slice none 0 0]) H Al37 rfl ?_
     intro b_6 w64z H
     refine s_nil ⟨(H.pk [4, 5]), ?_⟩
     refine t_l rfl ?_
     refine t_sw 0 0 [u0_3, u0_4, u0_5, .slice none 0 0, I r__Delay_Lo, I r__Delay_Hi, .slice none 0 0] (.agg #[u0_3, u0_4, u0_5, .slice none 0 0, I r__Delay_Lo, I r__Delay_Hi, .slice none 0 0]) H rfl rfl Sz37 rfl rfl rfl (by simp only [List.all_cons, List.all_nil, Bool.true_and, Bool.and_true, Sl.oc (ownSl (H.get (k := 3) rfl)), Sl.oc (ownSl (H.get (k := 2) rfl)), Sl.oc (ownSl (H.get (k := 1) rfl))]; try rfl) ?_
     intro w65z H
     refine s_nil ⟨(H.pk [4, 5]), ?_⟩
     refine t_nil ?_
     exact ⟨b_6, r2, r3, r4, u0_3, u0_4, u0_5, _, upds_of _ _ ⟨rfl, rfl, rfl, trivial⟩, hM, H⟩
    skip
    refine t_alloc (cs := [.slice none 0 0, .slice none 0 0, .slice none 0 0, .slice none 0 0, I 0, I 0, .slice none 0 0]) H Al37 rfl ?_
    intro b_6 w66z H
    refine s_nil ⟨(H.pk [3, 4]), ?_⟩
    refine t_l rfl ?_
    obtain ⟨r68z, hx67z, hM⟩ := M.e_bind hM
    refine s_call cf9 [v_r__Springs] rfl (zah r__Springs (hC_r__Springs.app _) hs_r__Springs hx67z _ (H.gt 5)) ?_
    rintro vq w69z ⟨r4, u0_5, hr70z, hvq, H2_⟩
    subst hr70z
    subst vq
    try dsimp only at hM
    replace H := H.bk H2_
    clear H2_
    have hvc_q71z := Sl.cells (ownSl (H.get (k := 0) rfl))
    have hvo_q71z := Sl.oc (ownSl (H.get (k := 0) rfl))
    refine s_nil ⟨(H.pk [4, 5]), ?_⟩
    refine t_q rfl (fun w' H => x_bld (ps := [(0, u0_3), (1, u0_4), (2, u0_5), (4, .agg #[I r__Delay_Lo, I r__Delay_Hi])]) (zs := [.slice none 0 0, .slice none 0 0, .slice none 0 0, .slice none 0 0, I 0, I 0, .slice none 0 0]) (L' := [u0_3, u0_4, u0_5, .slice none 0 0, I r__Delay_Lo, I r__Delay_Hi, .slice none 0 0]) rfl Tryz.underlying37 Al37 rfl (Bd37 Tryz.underlying37) (.cons (cs := [u0_3]) hvc_q27z rfl rfl rfl rfl <| .cons (cs := [u0_4]) hvc_q47z rfl rfl rfl rfl <| .cons (cs := [u0_5]) hvc_q71z rfl rfl rfl rfl <| .cons (cs := [I r__Delay_Lo, I r__Delay_Hi]) rfl rfl rfl rfl rfl <| .nil)) ?_
    refine t_l rfl ?_
    refine t_sw 1 0 [u0_3, u0_4, u0_5, .slice none 0 0, I r__Delay_Lo, I r__Delay_Hi, .slice none 0 0] (.agg #[u0_3, u0_4, u0_5, .slice none 0 0, I r__Delay_Lo, I r__Delay_Hi, .slice none 0 0]) H rfl rfl Sz37 rfl rfl rfl (by simp only [List.all_cons, List.all_nil, Bool.true_and, Bool.and_true, Sl.oc (ownSl (H.get (k := 3) rfl)), Sl.oc (ownSl (H.get (k := 2) rfl)), Sl.oc (ownSl (H.get (k := 0) rfl))]; try rfl) ?_
    intro w72z H
    refine s_nil ⟨(H.pk [4, 5]), ?_⟩
    refine t_nil ?_
    exact ⟨b_6, r2, r3, r4, u0_3, u0_4, u0_5, _, upds_of _ _ ⟨rfl, rfl, rfl, trivial⟩, hM, (H.pk [1, 0, 2, 3, 4, 5])⟩
   skip
   refine t_alloc (cs := [.slice none 0 0, .slice none 0 0, .slice none 0 0, .slice none 0 0, I 0, I 0, .slice none 0 0]) H Al37 rfl ?_
   intro b_6 w73z H
   refine s_nil ⟨(H.pk [2, 3]), ?_⟩
   refine t_l rfl ?_
   obtain ⟨r75z, hx74z, hM⟩ := M.e_bind hM
   refine s_call cf44 [v_r__Travel] rfl (zaV r__Travel (hC_r__Travel.app _) hs_r__Travel hx74z _ (H.gt 4)) ?_
   rintro vq w76z ⟨r3, u0_4, hr77z, hvq, H2_⟩
   subst hr77z
   subst vq
   try dsimp only at hM
   replace H := H.bk H2_
   clear H2_
   have hvc_q78z := Sl.cells (ownSl (H.get (k := 0) rfl))
   have hvo_q78z := Sl.oc (ownSl (H.get (k := 0) rfl))
   refine s_nil ⟨(H.pk [3, 4]), ?_⟩
   refine t_l rfl ?_
   obtain ⟨r80z, hx79z, hM⟩ := M.e_bind hM
   refine s_call cf9 [v_r__Springs] rfl (zah r__Springs (hC_r__Springs.app _) hs_r__Springs hx79z _ (H.gt 5)) ?_
   rintro vq w81z ⟨r4, u0_5, hr82z, hvq, H2_⟩
   subst hr82z
   subst vq
   try dsimp only at hM
   replace H := H.bk H2_
   clear H2_
   have hvc_q83z := Sl.cells (ownSl (H.get (k := 0) rfl))
   have hvo_q83z := Sl.oc (ownSl (H.get (k := 0) rfl))
   refine s_nil ⟨(H.pk [4, 5]), ?_⟩
   refine t_q rfl (fun w' H => x_bld (ps := [(0, u0_3), (1, u0_4), (2, u0_5), (4, .agg #[I r__Delay_Lo, I r__Delay_Hi])]) (zs := [.slice none 0 0, .slice none 0 0, .slice none 0 0, .slice none 0 0, I 0, I 0, .slice none 0 0]) (L' := [u0_3, u0_4, u0_5, .slice none 0 0, I r__Delay_Lo, I r__Delay_Hi, .slice none 0 0]) rfl Tryz.underlying37 Al37 rfl (Bd37 Tryz.underlying37) (.cons (cs := [u0_3]) hvc_q27z rfl rfl rfl rfl <| .cons (cs := [u0_4]) hvc_q78z rfl rfl rfl rfl <| .cons (cs := [u0_5]) hvc_q83z rfl rfl rfl rfl <| .cons (cs := [I r__Delay_Lo, I r__Delay_Hi]) rfl rfl rfl rfl rfl <| .nil)) ?_
   refine t_l rfl ?_
   refine t_sw 2 0 [u0_3, u0_4, u0_5, .slice none 0 0, I r__Delay_Lo, I r__Delay_Hi, .slice none 0 0] (.agg #[u0_3, u0_4, u0_5, .slice none 0 0, I r__Delay_Lo, I r__Delay_Hi, .slice none 0 0]) H rfl rfl Sz37 rfl rfl rfl (by simp only [List.all_cons, List.all_nil, Bool.true_and, Bool.and_true, Sl.oc (ownSl (H.get (k := 3) rfl)), Sl.oc (ownSl (H.get (k := 1) rfl)), Sl.oc (ownSl (H.get (k := 0) rfl))]; try rfl) ?_
   intro w84z H
   refine s_nil ⟨(H.pk [4, 5]), ?_⟩
   refine t_nil ?_
   exact ⟨b_6, r2, r3, r4, u0_3, u0_4, u0_5, _, upds_of _ _ ⟨rfl, rfl, rfl, trivial⟩, hM, (H.pk [2, 0, 1, 3, 4, 5])⟩
  skip
  refine t_alloc (cs := [.slice none 0 0, .slice none 0 0, .slice none 0 0, .slice none 0 0, I 0, I 0, .slice none 0 0]) H Al37 rfl ?_
  intro b_6 w85z H
  refine s_nil ⟨(H.pk [1, 2]), ?_⟩
  refine t_l rfl ?_
  obtain ⟨r87z, hx86z, hM⟩ := M.e_bind hM
  refine s_call cf9 [v_r__Down] rfl (zah r__Down (hC_r__Down.app _) hs_r__Down hx86z _ (H.gt 3)) ?_
  rintro vq w88z ⟨r2, u0_3, hr89z, hvq, H2_⟩
  subst hr89z
  subst vq
  try dsimp only at hM
  replace H := H.bk H2_
  clear H2_
  have hvc_q90z := Sl.cells (ownSl (H.get (k := 0) rfl))
  have hvo_q90z := Sl.oc (ownSl (H.get (k := 0) rfl))
  refine s_nil ⟨(H.pk [2, 3]), ?_⟩
  refine t_l rfl ?_
  obtain ⟨r92z, hx91z, hM⟩ := M.e_bind hM
  refine s_call cf44 [v_r__Travel] rfl (zaV r__Travel (hC_r__Travel.app _) hs_r__Travel hx91z _ (H.gt 4)) ?_
  rintro vq w93z ⟨r3, u0_4, hr94z, hvq, H2_⟩
  subst hr94z
  subst vq
  try dsimp only at hM
  replace H := H.bk H2_
  clear H2_
  have hvc_q95z := Sl.cells (ownSl (H.get (k := 0) rfl))
  have hvo_q95z := Sl.oc (ownSl (H.get (k := 0) rfl))
  refine s_nil ⟨(H.pk [3, 4]), ?_⟩
  refine t_l rfl ?_
  obtain ⟨r97z, hx96z, hM⟩ := M.e_bind hM
  refine s_call cf9 [v_r__Springs] rfl (zah r__Springs (hC_r__Springs.app _) hs_r__Springs hx96z _ (H.gt 5)) ?_
  rintro vq w98z ⟨r4, u0_5, hr99z, hvq, H2_⟩
  subst hr99z
  subst vq
  try dsimp only at hM
  replace H := H.bk H2_
  clear H2_
  have hvc_q100z := Sl.cells (ownSl (H.get (k := 0) rfl))
  have hvo_q100z := Sl.oc (ownSl (H.get (k := 0) rfl))
  refine s_nil ⟨(H.pk [4, 5]), ?_⟩
  refine t_q rfl (fun w' H => x_bld (ps := [(0, u0_3), (1, u0_4), (2, u0_5), (4, .agg #[I r__Delay_Lo, I r__Delay_Hi])]) (zs := [.slice none 0 0, .slice none 0 0, .slice none 0 0, .slice none 0 0, I 0, I 0, .slice none 0 0]) (L' := [u0_3, u0_4, u0_5, .slice none 0 0, I r__Delay_Lo, I r__Delay_Hi, .slice none 0 0]) rfl Tryz.underlying37 Al37 rfl (Bd37 Tryz.underlying37) (.cons (cs := [u0_3]) hvc_q90z rfl rfl rfl rfl <| .cons (cs := [u0_4]) hvc_q95z rfl rfl rfl rfl <| .cons (cs := [u0_5]) hvc_q100z rfl rfl rfl rfl <| .cons (cs := [I r__Delay_Lo, I r__Delay_Hi]) rfl rfl rfl rfl rfl <| .nil)) ?_
  refine t_l rfl ?_
  refine t_sw 3 0 [u0_3, u0_4, u0_5, .slice none 0 0, I r__Delay_Lo, I r__Delay_Hi, .slice none 0 0] (.agg #[u0_3, u0_4, u0_5, .slice none 0 0, I r__Delay_Lo, I r__Delay_Hi, .slice none 0 0]) H rfl rfl Sz37 rfl rfl rfl (by simp only [List.all_cons, List.all_nil, Bool.true_and, Bool.and_true, Sl.oc (ownSl (H.get (k := 2) rfl)), Sl.oc (ownSl (H.get (k := 1) rfl)), Sl.oc (ownSl (H.get (k := 0) rfl))]; try rfl) ?_
  intro w101z H
  refine s_nil ⟨(H.pk [4, 5]), ?_⟩
  refine t_nil ?_
  exact ⟨b_6, r2, r3, r4, u0_3, u0_4, u0_5, _, upds_of _ _ ⟨rfl, rfl, rfl, trivial⟩, hM, (H.pk [3, 0, 1, 2, 4, 5])⟩
 rintro _ w102z ⟨b_6, r2, r3, r4, u0_3, u0_4, u0_5, ρ, rfl, hM, H⟩
 unfold zbP at hM
 refine W.seq ?_
 refine W.seq ?_
 refine W.region rfl ?_
 refine s_val (x_as (v := I 0) rfl) ?_
 refine s_nil ?_
 refine W.block ?_
 replace H := H.nilOwn (α := Town) 92
 obtain ⟨ex103z, hi104z, hk105z⟩ := M.e_bind hM
 obtain ⟨m0_, hi104z⟩ := M.e_iter hi104z
 refine W.loop (fun m σ W => ∃ (i : Nat) (l : List Town) (v_l : Value) (ρ : Env), σ = upds ρ [(1, .pointer (some ⟨b_1, 0, none⟩)), (2, .pointer (some ⟨b_2, 0, none⟩)), (3, .pointer (some ⟨b_6, 0, none⟩)), (4, I (i : Int))] /\ M.iterN (zbe r__Towns) m (i, l) = some ex103z /\ St w W [cOwn (α := Town) 92 v_l l, cBlk b_6 [u0_3, u0_4, u0_5, v_l, I r__Delay_Lo, I r__Delay_Hi, .slice none 0 0] 37, cOwn (α := Int) 3 u0_5 r4, cOwn (α := Span) 26 u0_4 r3, cOwn (α := Int) 3 u0_3 r2, cBlk b_2 [.slice none 0 0, .slice none 0 0, .slice none 0 0, .slice none 0 0, I 0, I 0, .slice none 0 0] 37, cBlk b_1 [v_r__Down, v_r__Travel, v_r__Springs, v_r__Towns, I r__Delay_Lo, I r__Delay_Hi, v_r__Floods] 29] R) ?_ ?_
 ·exact ⟨_, 0, [], (.slice none 0 0), _, upds_of _ _ ⟨rfl, rfl, rfl, rfl, trivial⟩, hi104z, H⟩
 rintro m108z σ w106z ⟨i, l, v_l, ρ, rfl, hI107z, H⟩
 obtain ⟨m109z, lt110z, x111z, hM, hN112z⟩ := M.e_iterN hI107z
 simp only [zbe] at hM
 clear hI107z
 refine W.seq ?_
 refine W.seq ?_
 refine W.region rfl ?_
 refine s_val (x_mv (v := I (i : Int)) rfl) ?_
 refine s_val (x_fa (a := .pointer (some ⟨b_1, 0, none⟩)) (v := .pointer (some ⟨b_1, 3, none⟩)) rfl (fa_blk (o := 0) Fd29_3 Sz24)) ?_
 refine s_val (x_ld (p := .pointer (some ⟨b_1, 3, none⟩)) (v := v_r__Towns) rfl (ldb_sc Sc24 (H.blk (k := 6) rfl) rfl)) ?_
 have hl113z := (hs_r__Towns).len_le
 refine s_val (x_lenS T24.und rfl hs_r__Towns) ?_
 refine s_val (x_cmp (kd := .i64) (a := (i : Int)) (b := (r__Towns.length : Int)) (r := decide ((i : Int) < (r__Towns.length : Int))) rfl rfl rfl) ?_
 refine s_nil ?_
 refine W.cond (decide ((i : Int) < (r__Towns.length : Int))) rfl (fun c114z => ?_) (fun c114z => ?_)
 ·replace hM := M.e_t hM c114z
  simp only [decide_eq_true_eq, decide_eq_false_iff_not, beq_iff_eq, bne_iff_ne, beq_eq_false_iff_ne, bne_eq_false_iff_eq, ne_eq, Decidable.not_not] at c114z
  refine W.skip ?_
  refine W.seq ?_
  refine W.block ?_
  refine W.drawT (fun W => St w W [cOwn (α := Int) 3 u0_5 r4, cOwn (α := Span) 26 u0_4 r3, cOwn (α := Int) 3 u0_3 r2, cBlk b_2 [.slice none 0 0, .slice none 0 0, .slice none 0 0, .slice none 0 0, I 0, I 0, .slice none 0 0] 37, cBlk b_1 [v_r__Down, v_r__Travel, v_r__Springs, v_r__Towns, I r__Delay_Lo, I r__Delay_Hi, v_r__Floods] 29] R) (.q 0 (.q 2 (.q 3 (.q 4 (.q 5 (.q 6 (.l2 1 (.l 7 (.l 8 (.q 9 (.l 10 .nil)))) 7 (.l 1 (.l 8 (.q 9 (.l 10 .nil))))))))))) mixed (by decide +kernel) rfl ?_
  intro w115z hx_
  replace H := H.ext hx_
  clear hx_
  refine ⟨(H.pk [2, 3, 4, 5, 6]), ?_⟩
  refine t_q rfl (fun w' H => x_fa (a := .pointer (some ⟨b_6, 0, none⟩)) (v := .pointer (some ⟨b_6, 3, none⟩)) rfl (fa_blk (o := 0) Fd37_3 Sz34)) ?_
  refine t_q rfl (fun w' H => x_fa (a := .pointer (some ⟨b_1, 0, none⟩)) (v := .pointer (some ⟨b_1, 3, none⟩)) rfl (fa_blk (o := 0) Fd29_3 Sz24)) ?_
  refine t_q rfl (fun w' H => x_ld (p := .pointer (some ⟨b_1, 3, none⟩)) (v := v_r__Towns) rfl (ldb_sc Sc24 (H.blk (k := 4) rfl) rfl)) ?_
  refine t_q rfl (fun w' H => x_mv (v := I (i : Int)) rfl) ?_
  obtain ⟨sd116z, hM⟩ := M.e_grd hM
  simp only [Bool.and_eq_true, decide_eq_true_eq] at sd116z
  refine t_q rfl (fun w' H => x_ix (a := v_r__Towns) (b := I (i : Int)) (v := vat v_r__Towns 3 (Int.toNat (i : Int))) rfl rfl (Sl.ix (α := Town) T24.und T24.size hs_r__Towns (by omega) (by omega))) ?_
  refine t_q rfl (fun w' H => x_ld (p := vat v_r__Towns 3 (Int.toNat (i : Int))) (v := .agg #[I ((r__Towns.getD i default).station), I ((r__Towns.getD i default).lead), I ((r__Towns.getD i default).alarm)]) rfl (ld_ag Ag91 Sz91 (At.mono (Town_atA hs_r__Towns (i := (i : Int)) (by omega) (by omega)) (hC_r__Towns.at H)))) ?_
  obtain ⟨sd119z, hM⟩ := M.e_grd hM
  simp only [Bool.and_eq_true, decide_eq_true_eq] at sd119z
  refine t_l2 rfl rfl ?_ ?_
  ·skip
   refine s_val (x_ld (p := .pointer (some ⟨b_6, 3, none⟩)) (v := v_l) rfl (ldb_sc Sc34 (H.blk (k := 1) rfl) rfl)) ?_
   have hvc_q123z := Sl.cells (ownSl (H.get (k := 0) rfl))
   have hvo_q123z := Sl.oc (ownSl (H.get (k := 0) rfl))
   refine s_nil ⟨(H.pk [2, 3, 4, 5, 6]), ?_⟩
   refine t_l rfl ?_
   refine t_bs (α := Town) T34 [.agg #[I ((r__Towns.getD i default).station), I ((r__Towns.getD i default).lead), I ((r__Towns.getD i default).alarm)]] [(r__Towns.getD i default)] H rfl (.cons rfl (Flat.rep_enc _ (r__Towns.getD i default)) <| .nil) rfl rfl rfl ?_
   intro v124z w125z H
   have hvc_q126z := Sl.cells (ownSl (H.get (k := 0) rfl))
   have hvo_q126z := Sl.oc (ownSl (H.get (k := 0) rfl))
   refine s_nil ⟨(H.pk [3, 4, 5, 6, 7]), ?_⟩
   refine t_l rfl ?_
   refine t_app (α := Town) (k := 1) (l := l) (l2 := [(r__Towns.getD i default)]) (l' := l ++ ([(r__Towns.getD i default)])) (vy := v124z) T34 rfl H rfl rfl rfl (ownSl (H.get (k := 0) rfl)) (ownLe _ (H.get (k := 0) rfl)) (rfl) (by first | omega | (simp only [List.length_nil] at *; omega)) ?_
   intro v127z w128z H
   replace H := H.nf
   have hvc_q129z := Sl.cells (ownSl (H.get (k := 1) rfl))
   have hvo_q129z := Sl.oc (ownSl (H.get (k := 1) rfl))
   refine s_nil ⟨(H.pk [3, 4, 5, 6, 7]), ?_⟩
   refine t_q rfl (fun w' H => x_fa (a := .pointer (some ⟨b_6, 0, none⟩)) (v := .pointer (some ⟨b_6, 3, none⟩)) rfl (fa_blk (o := 0) Fd37_3 Sz34)) ?_
   refine t_l rfl ?_
   refine t_sw 2 3 [v127z] v127z H rfl rfl Sz34 (Sl.cells (ownSl (H.get (k := 1) rfl))) rfl rfl (by simp only [List.all_cons, List.all_nil, Bool.true_and, Bool.and_true, Sl.oc (ownSl (H.get (k := 1) rfl))]; try rfl) ?_
   intro w130z H
   refine s_nil ⟨(H.pk [3, 4, 5, 6, 7]), ?_⟩
   refine t_nil ?_
   refine W.region rfl ?_
   refine s_val (x_mv (v := I (i : Int)) rfl) ?_
   refine s_val (x_ari (a := (i : Int)) (b := 1) (r := (i : Int) + 1) rfl rfl rfl (by omega)) ?_
   refine s_val (x_as (v := I ((i : Int) + 1)) rfl) ?_
   refine s_nil ?_
   exact ⟨m109z, lt110z, i + 1, l ++ ([(r__Towns.getD i default)]), v127z, _, upds_of _ _ ⟨rfl, rfl, rfl, rfl, trivial⟩, M.e_inl hM hN112z, (H.pk [1, 2, 3, 4, 5, 6, 7])⟩
  skip
  refine t_bs (α := Town) T34 [.agg #[I ((r__Towns.getD i default).station), I ((r__Towns.getD i default).lead), I ((r__Towns.getD i default).alarm)]] [(r__Towns.getD i default)] H rfl (.cons rfl (Flat.rep_enc _ (r__Towns.getD i default)) <| .nil) rfl rfl rfl ?_
  intro v131z w132z H
  have hvc_q133z := Sl.cells (ownSl (H.get (k := 0) rfl))
  have hvo_q133z := Sl.oc (ownSl (H.get (k := 0) rfl))
  have hvc_q134z := Sl.cells (ownSl (H.get (k := 1) rfl))
  have hvo_q134z := Sl.oc (ownSl (H.get (k := 1) rfl))
  refine s_nil ⟨(H.pk [3, 4, 5, 6, 7]), ?_⟩
  refine t_l rfl ?_
  refine s_val (x_ld (p := .pointer (some ⟨b_6, 3, none⟩)) (v := v_l) rfl (ldb_sc Sc34 (H.blk (k := 2) rfl) rfl)) ?_
  refine s_nil ⟨(H.pk [3, 4, 5, 6, 7]), ?_⟩
  refine t_l rfl ?_
  refine t_app (α := Town) (k := 1) (l := l) (l2 := [(r__Towns.getD i default)]) (l' := l ++ ([(r__Towns.getD i default)])) (vy := v131z) T34 rfl H rfl rfl rfl (ownSl (H.get (k := 0) rfl)) (ownLe _ (H.get (k := 0) rfl)) (rfl) (by first | omega | (simp only [List.length_nil] at *; omega)) ?_
  intro v135z w136z H
  replace H := H.nf
  have hvc_q137z := Sl.cells (ownSl (H.get (k := 1) rfl))
  have hvo_q137z := Sl.oc (ownSl (H.get (k := 1) rfl))
  refine s_nil ⟨(H.pk [3, 4, 5, 6, 7]), ?_⟩
  refine t_q rfl (fun w' H => x_fa (a := .pointer (some ⟨b_6, 0, none⟩)) (v := .pointer (some ⟨b_6, 3, none⟩)) rfl (fa_blk (o := 0) Fd37_3 Sz34)) ?_
  refine t_l rfl ?_
  refine t_sw 2 3 [v135z] v135z H rfl rfl Sz34 (Sl.cells (ownSl (H.get (k := 1) rfl))) rfl rfl (by simp only [List.all_cons, List.all_nil, Bool.true_and, Bool.and_true, Sl.oc (ownSl (H.get (k := 1) rfl))]; try rfl) ?_
  intro w138z H
  refine s_nil ⟨(H.pk [3, 4, 5, 6, 7]), ?_⟩
  refine t_nil ?_
  refine W.region rfl ?_
  refine s_val (x_mv (v := I (i : Int)) rfl) ?_
  refine s_val (x_ari (a := (i : Int)) (b := 1) (r := (i : Int) + 1) rfl rfl rfl (by omega)) ?_
  refine s_val (x_as (v := I ((i : Int) + 1)) rfl) ?_
  refine s_nil ?_
  exact ⟨m109z, lt110z, i + 1, l ++ ([(r__Towns.getD i default)]), v135z, _, upds_of _ _ ⟨rfl, rfl, rfl, rfl, trivial⟩, M.e_inl hM hN112z, (H.pk [1, 2, 3, 4, 5, 6, 7])⟩
 replace hM := M.e_f hM c114z
 simp only [decide_eq_true_eq, decide_eq_false_iff_not, beq_iff_eq, bne_iff_ne, beq_eq_false_iff_ne, bne_eq_false_iff_eq, ne_eq, Decidable.not_not] at c114z
 refine W.exit ?_
 have hX139z := M.e_inr hM hN112z
 subst hX139z
 replace hM := hk105z
 try dsimp only at hM
 refine W.seq ?_
 refine W.seq ?_
 refine W.region rfl ?_
 refine s_val (x_as (v := I 0) rfl) ?_
 refine s_nil ?_
 refine W.block ?_
 obtain ⟨Bs_15, H⟩ := H.emptyE
 replace H := H.nilOwn (α := Raw 1) 93
 have hr140z : RepR (α := Flood) (n := 1) Bs_15.cells [] [] := .nil
 replace hr140z := hr140z.mono (Cells.sup_r (hC_r__Floods.at H) (roLe _ (H.get (k := 1) rfl)))
 obtain ⟨ex141z, hi142z, hk143z⟩ := M.e_bind hM
 obtain ⟨m0_, hi142z⟩ := M.e_iter hi142z
 refine W.loop (fun m σ W => ∃ (i2 : Nat) (l4 : List Flood) (v_l4 : Value) (rw_l4 : List (Raw 1)) (B_l4 : Base) (ρ : Env), σ = upds ρ [(1, .pointer (some ⟨b_1, 0, none⟩)), (2, .pointer (some ⟨b_2, 0, none⟩)), (3, .pointer (some ⟨b_6, 0, none⟩)), (5, I (i2 : Int))] /\ M.iterN (zbj r__Floods) m (i2, l4) = some ex141z /\ St w W [cOwn (α := Raw 1) 93 v_l4 rw_l4, cRo B_l4, cOwn (α := Town) 92 v_l l, cBlk b_6 [u0_3, u0_4, u0_5, v_l, I r__Delay_Lo, I r__Delay_Hi, v_l4] 37, cOwn (α := Int) 3 u0_5 r4, cOwn (α := Span) 26 u0_4 r3, cOwn (α := Int) 3 u0_3 r2, cBlk b_2 [.slice none 0 0, .slice none 0 0, .slice none 0 0, .slice none 0 0, I 0, I 0, .slice none 0 0] 37, cBlk b_1 [v_r__Down, v_r__Travel, v_r__Springs, v_r__Towns, I r__Delay_Lo, I r__Delay_Hi, v_r__Floods] 29] R /\ RepR (α := Flood) (Cells.sup C_r__Floods B_l4.cells) rw_l4 l4) ?_ ?_
 ·exact ⟨_, 0, [], (.slice none 0 0), [], Bs_15, _, upds_of _ _ ⟨rfl, rfl, rfl, rfl, trivial⟩, hi142z, H, hr140z⟩
 rintro m146z σ w144z ⟨i2, l4, v_l4, rw_l4, B_l4, ρ, rfl, hI145z, H, hr_l4⟩
 obtain ⟨m147z, lt148z, x149z, hM, hN150z⟩ := M.e_iterN hI145z
 simp only [zbj] at hM
 clear hI145z
 refine W.seq ?_
 refine W.seq ?_
 refine W.region rfl ?_
 refine s_val (x_mv (v := I (i2 : Int)) rfl) ?_
 refine s_val (x_fa (a := .pointer (some ⟨b_1, 0, none⟩)) (v := .pointer (some ⟨b_1, 6, none⟩)) rfl (fa_blk (o := 0) Fd29_5 Sz27)) ?_
 refine s_val (x_ld (p := .pointer (some ⟨b_1, 6, none⟩)) (v := v_r__Floods) rfl (ldb_sc Sc27 (H.blk (k := 8) rfl) rfl)) ?_
 have hl151z := (hs_r__Floods).len_le
 refine s_val (x_lenS T27.und rfl hs_r__Floods) ?_
 refine s_val (x_cmp (kd := .i64) (a := (i2 : Int)) (b := (r__Floods.length : Int)) (r := decide ((i2 : Int) < (r__Floods.length : Int))) rfl rfl rfl) ?_
 refine s_nil ?_
 refine W.cond (decide ((i2 : Int) < (r__Floods.length : Int))) rfl (fun c152z => ?_) (fun c152z => ?_)
 ·replace hM := M.e_t hM c152z
  simp only [decide_eq_true_eq, decide_eq_false_iff_not, beq_iff_eq, bne_iff_ne, beq_eq_false_iff_ne, bne_eq_false_iff_eq, ne_eq, Decidable.not_not] at c152z
  refine W.skip ?_
  refine W.seq ?_
  refine W.block ?_
  refine W.drawT (fun W => St w W [cRo B_l4, cOwn (α := Town) 92 v_l l, cOwn (α := Int) 3 u0_5 r4, cOwn (α := Span) 26 u0_4 r3, cOwn (α := Int) 3 u0_3 r2, cBlk b_2 [.slice none 0 0, .slice none 0 0, .slice none 0 0, .slice none 0 0, I 0, I 0, .slice none 0 0] 37, cBlk b_1 [v_r__Down, v_r__Travel, v_r__Springs, v_r__Towns, I r__Delay_Lo, I r__Delay_Hi, v_r__Floods] 29] R) (.q 0 (.q 2 (.q 3 (.q 4 (.q 5 (.q 6 (.l2 1 (.l 7 (.l 8 (.q 9 (.l 10 .nil)))) 7 (.l 1 (.l 8 (.q 9 (.l 10 .nil))))))))))) mixed (by decide +kernel) rfl ?_
  intro w153z hx_
  replace H := H.ext hx_
  clear hx_
  refine ⟨(H.pk [1, 2, 4, 5, 6, 7, 8]), ?_⟩
  refine t_q rfl (fun w' H => x_fa (a := .pointer (some ⟨b_6, 0, none⟩)) (v := .pointer (some ⟨b_6, 6, none⟩)) rfl (fa_blk (o := 0) Fd37_5 Sz35)) ?_
  refine t_q rfl (fun w' H => x_fa (a := .pointer (some ⟨b_1, 0, none⟩)) (v := .pointer (some ⟨b_1, 6, none⟩)) rfl (fa_blk (o := 0) Fd29_5 Sz27)) ?_
  refine t_q rfl (fun w' H => x_ld (p := .pointer (some ⟨b_1, 6, none⟩)) (v := v_r__Floods) rfl (ldb_sc Sc27 (H.blk (k := 6) rfl) rfl)) ?_
  refine t_q rfl (fun w' H => x_mv (v := I (i2 : Int)) rfl) ?_
  obtain ⟨sd154z, hM⟩ := M.e_grd hM
  simp only [Bool.and_eq_true, decide_eq_true_eq] at sd154z
  refine t_q rfl (fun w' H => x_ix (a := v_r__Floods) (b := I (i2 : Int)) (v := vat v_r__Floods 2 (Int.toNat (i2 : Int))) rfl rfl (Sl.ix (α := Flood) T27.und T27.size hs_r__Floods (by omega) (by omega))) ?_
  obtain ⟨u155z, ha157z, hs156z⟩ := Flood_atA hs_r__Floods (i := (i2 : Int)) (by omega) (by omega)
  replace hs156z : Sl _ u155z (r__Floods.getD i2 default).stages := hs156z
  have hl_hs156z := hs156z.len_le
  refine t_q rfl (fun w' H => x_ld (p := vat v_r__Floods 2 (Int.toNat (i2 : Int))) (v := .agg #[I ((r__Floods.getD i2 default).spring), u155z]) rfl (ld_ag Ag85 Sz85 (At.mono ha157z (hC_r__Floods.at H)))) ?_
  obtain ⟨sd163z, hM⟩ := M.e_grd hM
  simp only [Bool.and_eq_true, decide_eq_true_eq] at sd163z
  refine t_l2 rfl rfl ?_ ?_
  ·skip
   refine s_val (x_ld (p := .pointer (some ⟨b_6, 6, none⟩)) (v := v_l4) rfl (ldb_sc Sc35 (H.blk (k := 3) rfl) rfl)) ?_
   have hvc_q171z := Sl.cells (ownSl (H.get (k := 0) rfl))
   have hvo_q171z := Sl.oc (ownSl (H.get (k := 0) rfl))
   refine s_nil ⟨(H.pk [1, 2, 4, 5, 6, 7, 8]), ?_⟩
   refine t_l rfl ?_
   obtain ⟨Bs_10, H⟩ := H.emptyE
   have hq172z := hs156z
   replace hq172z := hq172z.mono (Cells.sup_l _ Bs_10.cells)
   obtain ⟨rw173z, hrw_rw173z⟩ : ∃ r : Raw 1, r.cs = [I ((r__Floods.getD i2 default).spring), u155z] := ⟨Raw.of [I ((r__Floods.getD i2 default).spring), u155z] rfl (by simp only [List.all_cons, List.all_nil, Bool.true_and, Bool.and_true, Sl.oc hq172z]; try rfl), rfl⟩
   have hr174z : RepR (α := Flood) (Cells.sup C_r__Floods Bs_10.cells) [rw173z] [(r__Floods.getD i2 default)] := .cons (by rw [hrw_rw173z]; exact ⟨_, rfl, hq172z⟩) <| .nil
   refine t_bs (α := Raw 1) T35 [.agg #[I ((r__Floods.getD i2 default).spring), u155z]] [rw173z] H rfl (.cons (by rw [show (Flat.enc rw173z : List Value) = rw173z.cs from rfl, hrw_rw173z]; rfl) (Flat.rep_enc _ _) <| .nil) rfl rfl rfl ?_
   intro v175z w176z H
   replace H := H.nf
   have hvc_q177z := Sl.cells (ownSl (H.get (k := 0) rfl))
   have hvo_q177z := Sl.oc (ownSl (H.get (k := 0) rfl))
   refine s_nil ⟨(H.pk [3, 4, 6, 7, 8, 9, 10]), ?_⟩
   refine t_l rfl ?_
   have hr178z := hr174z
   obtain ⟨Bs_14, H, le179z, le180z⟩ := H.joinE (i := 3) (j := 1) rfl rfl
   replace hr_l4 := hr_l4.mono (Cells.sup_mono le179z (hC_r__Floods.at H) (roLe _ (H.get (k := 0) rfl)))
   replace hr178z := hr178z.mono (Cells.sup_mono le180z (hC_r__Floods.at H) (roLe _ (H.get (k := 0) rfl)))
   have hr183z := hr_l4.app hr178z
   refine t_app (α := Raw 1) (k := 3) (l := rw_l4) (l2 := [rw173z]) (l' := rw_l4 ++ ([rw173z])) (vy := v175z) T35 rfl H rfl rfl rfl (ownSl (H.get (k := 1) rfl)) (ownLe _ (H.get (k := 1) rfl)) (rfl) (by have a_ := hr_l4.len; have b_ := hr178z.len; (try simp only [List.length_nil] at *); first | omega | (rw [a_, b_]; omega)) ?_
   intro v181z w182z H
   replace H := H.nf
   have hvc_q184z := Sl.cells (ownSl (H.get (k := 3) rfl))
   have hvo_q184z := Sl.oc (ownSl (H.get (k := 3) rfl))
   refine s_nil ⟨(H.pk [4, 5, 7, 8, 9, 10, 11]), ?_⟩
   refine t_q rfl (fun w' H => x_fa (a := .pointer (some ⟨b_6, 0, none⟩)) (v := .pointer (some ⟨b_6, 6, none⟩)) rfl (fa_blk (o := 0) Fd37_5 Sz35)) ?_
   refine t_l rfl ?_
   refine t_sw 6 6 [v181z] v181z H rfl rfl Sz35 (Sl.cells (rowSl rfl (H.get (k := 3) rfl) (Cells.sup_le (hC_r__Floods.at H) (roLe _ (H.get (k := 0) rfl))) hr183z)) rfl rfl (by simp only [List.all_cons, List.all_nil, Bool.true_and, Bool.and_true, Sl.oc (rowSl rfl (H.get (k := 3) rfl) (Cells.sup_le (hC_r__Floods.at H) (roLe _ (H.get (k := 0) rfl))) hr183z)]; try rfl) ?_
   intro w185z H
   refine s_nil ⟨(H.pk [4, 5, 7, 8, 9, 10, 11]), ?_⟩
   refine t_nil ?_
   replace H := H.pk [0, 3, 4, 5, 6, 7, 8, 9, 10, 11]
   refine W.region rfl ?_
   refine s_val (x_mv (v := I (i2 : Int)) rfl) ?_
   refine s_val (x_ari (a := (i2 : Int)) (b := 1) (r := (i2 : Int) + 1) rfl rfl rfl (by omega)) ?_
   refine s_val (x_as (v := I ((i2 : Int) + 1)) rfl) ?_
   refine s_nil ?_
   exact ⟨m147z, lt148z, i2 + 1, l4 ++ ([(r__Floods.getD i2 default)]), v181z, rw_l4 ++ ([rw173z]), Bs_14, _, upds_of _ _ ⟨rfl, rfl, rfl, rfl, trivial⟩, M.e_inl hM hN150z, (H.pk [1, 0, 3, 4, 5, 6, 7, 8, 9]), hr183z⟩
  skip
  obtain ⟨Bs_10, H⟩ := H.emptyE
  have hq186z := hs156z
  replace hq186z := hq186z.mono (Cells.sup_l _ Bs_10.cells)
  obtain ⟨rw187z, hrw_rw187z⟩ : ∃ r : Raw 1, r.cs = [I ((r__Floods.getD i2 default).spring), u155z] := ⟨Raw.of [I ((r__Floods.getD i2 default).spring), u155z] rfl (by simp only [List.all_cons, List.all_nil, Bool.true_and, Bool.and_true, Sl.oc hq186z]; try rfl), rfl⟩
  have hr188z : RepR (α := Flood) (Cells.sup C_r__Floods Bs_10.cells) [rw187z] [(r__Floods.getD i2 default)] := .cons (by rw [hrw_rw187z]; exact ⟨_, rfl, hq186z⟩) <| .nil
  refine t_bs (α := Raw 1) T35 [.agg #[I ((r__Floods.getD i2 default).spring), u155z]] [rw187z] H rfl (.cons (by rw [show (Flat.enc rw187z : List Value) = rw187z.cs from rfl, hrw_rw187z]; rfl) (Flat.rep_enc _ _) <| .nil) rfl rfl rfl ?_
  intro v189z w190z H
  replace H := H.nf
  have hvc_q191z := Sl.cells (ownSl (H.get (k := 0) rfl))
  have hvo_q191z := Sl.oc (ownSl (H.get (k := 0) rfl))
  have hvc_q192z := Sl.cells (ownSl (H.get (k := 2) rfl))
  have hvo_q192z := Sl.oc (ownSl (H.get (k := 2) rfl))
  refine s_nil ⟨(H.pk [3, 4, 6, 7, 8, 9, 10]), ?_⟩
  refine t_l rfl ?_
  refine s_val (x_ld (p := .pointer (some ⟨b_6, 6, none⟩)) (v := v_l4) rfl (ldb_sc Sc35 (H.blk (k := 5) rfl) rfl)) ?_
  refine s_nil ⟨(H.pk [3, 4, 6, 7, 8, 9, 10]), ?_⟩
  refine t_l rfl ?_
  have hr193z := hr188z
  obtain ⟨Bs_14, H, le194z, le195z⟩ := H.joinE (i := 3) (j := 1) rfl rfl
  replace hr_l4 := hr_l4.mono (Cells.sup_mono le194z (hC_r__Floods.at H) (roLe _ (H.get (k := 0) rfl)))
  replace hr193z := hr193z.mono (Cells.sup_mono le195z (hC_r__Floods.at H) (roLe _ (H.get (k := 0) rfl)))
  have hr198z := hr_l4.app hr193z
  refine t_app (α := Raw 1) (k := 3) (l := rw_l4) (l2 := [rw187z]) (l' := rw_l4 ++ ([rw187z])) (vy := v189z) T35 rfl H rfl rfl rfl (ownSl (H.get (k := 1) rfl)) (ownLe _ (H.get (k := 1) rfl)) (rfl) (by have a_ := hr_l4.len; have b_ := hr193z.len; (try simp only [List.length_nil] at *); first | omega | (rw [a_, b_]; omega)) ?_
  intro v196z w197z H
  replace H := H.nf
  have hvc_q199z := Sl.cells (ownSl (H.get (k := 3) rfl))
  have hvo_q199z := Sl.oc (ownSl (H.get (k := 3) rfl))
  refine s_nil ⟨(H.pk [4, 5, 7, 8, 9, 10, 11]), ?_⟩
  refine t_q rfl (fun w' H => x_fa (a := .pointer (some ⟨b_6, 0, none⟩)) (v := .pointer (some ⟨b_6, 6, none⟩)) rfl (fa_blk (o := 0) Fd37_5 Sz35)) ?_
  refine t_l rfl ?_
  refine t_sw 6 6 [v196z] v196z H rfl rfl Sz35 (Sl.cells (rowSl rfl (H.get (k := 3) rfl) (Cells.sup_le (hC_r__Floods.at H) (roLe _ (H.get (k := 0) rfl))) hr198z)) rfl rfl (by simp only [List.all_cons, List.all_nil, Bool.true_and, Bool.and_true, Sl.oc (rowSl rfl (H.get (k := 3) rfl) (Cells.sup_le (hC_r__Floods.at H) (roLe _ (H.get (k := 0) rfl))) hr198z)]; try rfl) ?_
  intro w200z H
  refine s_nil ⟨(H.pk [4, 5, 7, 8, 9, 10, 11]), ?_⟩
  refine t_nil ?_
  replace H := H.pk [0, 3, 4, 5, 6, 7, 8, 9, 10, 11]
  refine W.region rfl ?_
  refine s_val (x_mv (v := I (i2 : Int)) rfl) ?_
  refine s_val (x_ari (a := (i2 : Int)) (b := 1) (r := (i2 : Int) + 1) rfl rfl rfl (by omega)) ?_
  refine s_val (x_as (v := I ((i2 : Int) + 1)) rfl) ?_
  refine s_nil ?_
  exact ⟨m147z, lt148z, i2 + 1, l4 ++ ([(r__Floods.getD i2 default)]), v196z, rw_l4 ++ ([rw187z]), Bs_14, _, upds_of _ _ ⟨rfl, rfl, rfl, rfl, trivial⟩, M.e_inl hM hN150z, (H.pk [1, 0, 3, 4, 5, 6, 7, 8, 9]), hr198z⟩
 replace hM := M.e_f hM c152z
 simp only [decide_eq_true_eq, decide_eq_false_iff_not, beq_iff_eq, bne_iff_ne, beq_eq_false_iff_ne, bne_eq_false_iff_eq, ne_eq, Decidable.not_not] at c152z
 refine W.exit ?_
 have hX201z := M.e_inr hM hN150z
 subst hX201z
 replace hM := hk143z
 try dsimp only at hM
 refine W.seq ?_
 refine W.region rfl ?_
 refine s_val (x_ld (p := .pointer (some ⟨b_6, 0, none⟩)) (v := .agg #[u0_3, u0_4, u0_5, v_l, I r__Delay_Lo, I r__Delay_Hi, v_l4]) rfl (ldb_ag (ds := [u0_3, u0_4, u0_5, v_l, I r__Delay_Lo, I r__Delay_Hi, v_l4]) Ag37 Sz37 (H.blk (k := 3) rfl) rfl rfl)) ?_
 refine t_sw 7 0 [u0_3, u0_4, u0_5, v_l, I r__Delay_Lo, I r__Delay_Hi, v_l4] (.agg #[u0_3, u0_4, u0_5, v_l, I r__Delay_Lo, I r__Delay_Hi, v_l4]) H rfl rfl Sz37 rfl rfl rfl (by simp only [List.all_cons, List.all_nil, Bool.true_and, Bool.and_true, Sl.oc (ownSl (H.get (k := 6) rfl)), Sl.oc (ownSl (H.get (k := 5) rfl)), Sl.oc (ownSl (H.get (k := 4) rfl)), Sl.oc (ownSl (H.get (k := 2) rfl)), Sl.oc (rowSl rfl (H.get (k := 0) rfl) (Cells.sup_le (hC_r__Floods.at H) (roLe _ (H.get (k := 1) rfl))) hr_l4)]; try rfl) ?_
 intro w202z H
 refine s_nil ?_
 replace H := H.pk [0, 1, 2, 4, 5, 6, 7]
 refine W.ret ?_
 have hb203z := (H.blk (k := 6) rfl)
 have hr_ := M.e_pure hM
 exact ⟨_, (resE_of1 (v := .agg #[u0_3, u0_4, u0_5, v_l, I r__Delay_Lo, I r__Delay_Hi, v_l4]) rfl (.cell (v := .agg #[u0_3, u0_4, u0_5, v_l, I r__Delay_Lo, I r__Delay_Hi, v_l4]) rfl (run_loadVar_ag (ds := [u0_3, u0_4, u0_5, v_l, I r__Delay_Lo, I r__Delay_Hi, v_l4]) Ag37 Sz37 hb203z rfl rfl) <| .nil)), ⟨r2, r3, r4, l, r__Delay_Lo, r__Delay_Hi, l4, u0_3, u0_4, u0_5, v_l, v_l4, rw_l4, B_l4, hr_, rfl, (H.pk [5, 4, 3, 2, 0, 1]), hr_l4⟩⟩

def zbd (a : List Span) (b : List Span) : Nat -> M (Nat ⊕ (Unit ⊕ Unit)) := fun i =>
  bif decide ((i : Int) < (a.length : Int)) then (
  M.grd (decide ((i : Int) < (a.length : Int))) <|
  M.grd (decide ((i : Int) < (b.length : Int))) <|
  bif !(decide ((a.getD i default) = (b.getD i default))) then (
  M.pure (.inr (.inl ())))
  else (
  M.pure (.inl (i + 1))))
  else (
  M.pure (.inr (.inr ())))
def zbF (a : List Span) (b : List Span) : M Bool :=
  bif (a.length : Int) != (b.length : Int) then (
  M.pure false)
  else (
  M.bind (M.iter (zbd a b) 0) fun x_ => match x_ with
  | (.inl (_ : Unit)) => (
  M.pure false)
  | (.inr (_ : Unit)) => (
  M.pure true))
theorem zdC {R : List Chunk} {C_a : Cells} {v_a : Value} {C_b : Cells} {v_b : Value} (a : List Span) (b : List Span) (hC_a : Reads R C_a) (hs_a : Sl C_a v_a a) (hC_b : Reads R C_b) (hs_b : Sl C_b v_b b) {r : Bool} (hM : (zbF a b).Ends r) (w : World) (H : St w w [] R) : Ret Tryz.prog 59 #[v_a, v_b] w fun v w' => ∃ (y0 : Bool), y0 = r /\ v = B y0 /\ St w w' [] R := by
 refine ret_of_W Tryz.func59 rfl rfl rfl ?_
 refine W.seq ?_
 refine W.region rfl ?_
 refine s_val (x_as (v := B false) rfl) ?_
 refine s_nil ?_
 refine W.seq ?_
 refine W.seq ?_
 refine W.region rfl ?_
 refine s_val (x_mv (v := v_a) rfl) ?_
 have hl1z := (hs_a).len_le
 refine s_val (x_lenS T23.und rfl hs_a) ?_
 refine s_val (x_mv (v := v_b) rfl) ?_
 have hl2z := (hs_b).len_le
 refine s_val (x_lenS T23.und rfl hs_b) ?_
 refine s_val (x_cmp (kd := .i64) (a := (a.length : Int)) (b := (b.length : Int)) (r := (a.length : Int) != (b.length : Int)) rfl rfl rfl) ?_
 refine s_nil ?_
 refine W.cond ((a.length : Int) != (b.length : Int)) rfl (fun c3z => ?_) (fun c3z => ?_)
 ·replace hM := M.e_t hM c3z
  simp only [decide_eq_true_eq, decide_eq_false_iff_not, beq_iff_eq, bne_iff_ne, beq_eq_false_iff_ne, bne_eq_false_iff_eq, ne_eq, Decidable.not_not] at c3z
  refine W.seq ?_
  refine W.region rfl ?_
  refine s_val (x_as (v := B false) rfl) ?_
  refine s_nil ?_
  refine W.ret ?_
  have hr_ := M.e_pure hM
  exact ⟨_, resE_tmp rfl, ⟨false, hr_, rfl, H⟩⟩
 replace hM := M.e_f hM c3z
 simp only [decide_eq_true_eq, decide_eq_false_iff_not, beq_iff_eq, bne_iff_ne, beq_eq_false_iff_ne, bne_eq_false_iff_eq, ne_eq, Decidable.not_not] at c3z
 refine W.skip ?_
 refine W.seq ?_
 refine W.seq ?_
 refine W.region rfl ?_
 refine s_val (x_as (v := I 0) rfl) ?_
 refine s_nil ?_
 refine W.block ?_
 obtain ⟨ex4z, hi5z, hk6z⟩ := M.e_bind hM
 obtain ⟨m0_, hi5z⟩ := M.e_iter hi5z
 refine W.loop (fun m σ W => ∃ (i : Nat) (ρ : Env), σ = upds ρ [(0, v_a), (1, v_b), (5, I (i : Int))] /\ M.iterN (zbd a b) m i = some ex4z /\ St w W [] R) ?_ ?_
 ·exact ⟨_, 0, _, upds_of _ _ ⟨rfl, rfl, rfl, trivial⟩, hi5z, H⟩
 rintro m9z σ w7z ⟨i, ρ, rfl, hI8z, H⟩
 obtain ⟨m10z, lt11z, x12z, hM, hN13z⟩ := M.e_iterN hI8z
 simp only [zbd] at hM
 clear hI8z
 refine W.seq ?_
 refine W.seq ?_
 refine W.region rfl ?_
 refine s_val (x_mv (v := I (i : Int)) rfl) ?_
 refine s_val (x_mv (v := v_a) rfl) ?_
 have hl14z := (hs_a).len_le
 refine s_val (x_lenS T23.und rfl hs_a) ?_
 refine s_val (x_cmp (kd := .i64) (a := (i : Int)) (b := (a.length : Int)) (r := decide ((i : Int) < (a.length : Int))) rfl rfl rfl) ?_
 refine s_nil ?_
 refine W.cond (decide ((i : Int) < (a.length : Int))) rfl (fun c15z => ?_) (fun c15z => ?_)
 ·replace hM := M.e_t hM c15z
  simp only [decide_eq_true_eq, decide_eq_false_iff_not, beq_iff_eq, bne_iff_ne, beq_eq_false_iff_ne, bne_eq_false_iff_eq, ne_eq, Decidable.not_not] at c15z
  refine W.skip ?_
  refine W.seq ?_
  refine W.block ?_
  refine W.seq ?_
  refine W.draw (fun W => St w W [] R) [(0, true), (1, true), (2, true), (3, true), (4, true), (5, true), (6, true), (7, true), (8, true)] mixed (by decide +kernel) rfl ?_
  intro w16z hx_
  replace H := H.ext hx_
  clear hx_
  refine ⟨(H.pk []), ?_⟩
  refine d_q rfl (fun w' H => x_mv (v := v_a) rfl) ?_
  refine d_q rfl (fun w' H => x_mv (v := I (i : Int)) rfl) ?_
  obtain ⟨sd17z, hM⟩ := M.e_grd hM
  simp only [Bool.and_eq_true, decide_eq_true_eq] at sd17z
  refine d_q rfl (fun w' H => x_ix (a := v_a) (b := I (i : Int)) (v := vat v_a 2 (Int.toNat (i : Int))) rfl rfl (Sl.ix (α := Span) T23.und T23.size hs_a (by omega) (by omega))) ?_
  refine d_q rfl (fun w' H => x_ld (p := vat v_a 2 (Int.toNat (i : Int))) (v := .agg #[I ((a.getD i default).lo), I ((a.getD i default).hi)]) rfl (ld_ag Ag26 Sz26 (At.mono (Span_atA hs_a (i := (i : Int)) (by omega) (by omega)) (hC_a.at H)))) ?_
  refine d_q rfl (fun w' H => x_mv (v := v_b) rfl) ?_
  refine d_q rfl (fun w' H => x_mv (v := I (i : Int)) rfl) ?_
  obtain ⟨sd18z, hM⟩ := M.e_grd hM
  simp only [Bool.and_eq_true, decide_eq_true_eq] at sd18z
  refine d_q rfl (fun w' H => x_ix (a := v_b) (b := I (i : Int)) (v := vat v_b 2 (Int.toNat (i : Int))) rfl rfl (Sl.ix (α := Span) T23.und T23.size hs_b (by omega) (by omega))) ?_
  refine d_q rfl (fun w' H => x_ld (p := vat v_b 2 (Int.toNat (i : Int))) (v := .agg #[I ((b.getD i default).lo), I ((b.getD i default).hi)]) rfl (ld_ag Ag26 Sz26 (At.mono (Span_atA hs_b (i := (i : Int)) (by omega) (by omega)) (hC_b.at H)))) ?_
  refine d_q rfl (fun w' H => x_neS (eqT26 (a.getD i default) (b.getD i default) _) gdT26 rfl rfl) ?_
  refine d_nil ?_
  refine W.cond (!(decide ((a.getD i default) = (b.getD i default)))) rfl (fun c19z => ?_) (fun c19z => ?_)
  ·replace hM := M.e_t hM c19z
   refine W.seq ?_
   refine W.region rfl ?_
   refine s_val (x_as (v := B false) rfl) ?_
   refine s_nil ?_
   refine W.ret ?_
   have hX20z := M.e_inr hM hN13z
   subst hX20z
   replace hM := hk6z
   try dsimp only at hM
   have hr_ := M.e_pure hM
   exact ⟨_, resE_tmp rfl, ⟨false, hr_, rfl, H⟩⟩
  replace hM := M.e_f hM c19z
  refine W.skip ?_
  refine W.region rfl ?_
  refine s_val (x_mv (v := I (i : Int)) rfl) ?_
  refine s_val (x_ari (a := (i : Int)) (b := 1) (r := (i : Int) + 1) rfl rfl rfl (by omega)) ?_
  refine s_val (x_as (v := I ((i : Int) + 1)) rfl) ?_
  refine s_nil ?_
  exact ⟨m10z, lt11z, i + 1, _, upds_of _ _ ⟨rfl, rfl, rfl, trivial⟩, M.e_inl hM hN13z, H⟩
 replace hM := M.e_f hM c15z
 simp only [decide_eq_true_eq, decide_eq_false_iff_not, beq_iff_eq, bne_iff_ne, beq_eq_false_iff_ne, bne_eq_false_iff_eq, ne_eq, Decidable.not_not] at c15z
 refine W.exit ?_
 have hX21z := M.e_inr hM hN13z
 subst hX21z
 replace hM := hk6z
 try dsimp only at hM
 refine W.seq ?_
 refine W.region rfl ?_
 refine s_val (x_as (v := B true) rfl) ?_
 refine s_nil ?_
 refine W.ret ?_
 have hr_ := M.e_pure hM
 exact ⟨_, resE_tmp rfl, ⟨true, hr_, rfl, H⟩⟩

def zbg (a : List Town) (b : List Town) : Nat -> M (Nat ⊕ (Unit ⊕ Unit)) := fun i =>
  bif decide ((i : Int) < (a.length : Int)) then (
  M.grd (decide ((i : Int) < (a.length : Int))) <|
  M.grd (decide ((i : Int) < (b.length : Int))) <|
  bif !(decide ((a.getD i default) = (b.getD i default))) then (
  M.pure (.inr (.inl ())))
  else (
  M.pure (.inl (i + 1))))
  else (
  M.pure (.inr (.inr ())))
def zbG (a : List Town) (b : List Town) : M Bool :=
  bif (a.length : Int) != (b.length : Int) then (
  M.pure false)
  else (
  M.bind (M.iter (zbg a b) 0) fun x_ => match x_ with
  | (.inl (_ : Unit)) => (
  M.pure false)
  | (.inr (_ : Unit)) => (
  M.pure true))
theorem zc5 {R : List Chunk} {C_a : Cells} {v_a : Value} {C_b : Cells} {v_b : Value} (a : List Town) (b : List Town) (hC_a : Reads R C_a) (hs_a : Sl C_a v_a a) (hC_b : Reads R C_b) (hs_b : Sl C_b v_b b) {r : Bool} (hM : (zbG a b).Ends r) (w : World) (H : St w w [] R) : Ret Tryz.prog 60 #[v_a, v_b] w fun v w' => ∃ (y0 : Bool), y0 = r /\ v = B y0 /\ St w w' [] R := by
 refine ret_of_W Tryz.func60 rfl rfl rfl ?_
 refine W.seq ?_
 refine W.region rfl ?_
 refine s_val (x_as (v := B false) rfl) ?_
 refine s_nil ?_
 refine W.seq ?_
 refine W.seq ?_
 refine W.region rfl ?_
 refine s_val (x_mv (v := v_a) rfl) ?_
 have hl1z := (hs_a).len_le
 refine s_val (x_lenS T24.und rfl hs_a) ?_
 refine s_val (x_mv (v := v_b) rfl) ?_
 have hl2z := (hs_b).len_le
 refine s_val (x_lenS T24.und rfl hs_b) ?_
 refine s_val (x_cmp (kd := .i64) (a := (a.length : Int)) (b := (b.length : Int)) (r := (a.length : Int) != (b.length : Int)) rfl rfl rfl) ?_
 refine s_nil ?_
 refine W.cond ((a.length : Int) != (b.length : Int)) rfl (fun c3z => ?_) (fun c3z => ?_)
 ·replace hM := M.e_t hM c3z
  simp only [decide_eq_true_eq, decide_eq_false_iff_not, beq_iff_eq, bne_iff_ne, beq_eq_false_iff_ne, bne_eq_false_iff_eq, ne_eq, Decidable.not_not] at c3z
  refine W.seq ?_
  refine W.region rfl ?_
  refine s_val (x_as (v := B false) rfl) ?_
  refine s_nil ?_
  refine W.ret ?_
  have hr_ := M.e_pure hM
  exact ⟨_, resE_tmp rfl, ⟨false, hr_, rfl, H⟩⟩
 replace hM := M.e_f hM c3z
 simp only [decide_eq_true_eq, decide_eq_false_iff_not, beq_iff_eq, bne_iff_ne, beq_eq_false_iff_ne, bne_eq_false_iff_eq, ne_eq, Decidable.not_not] at c3z
 refine W.skip ?_
 refine W.seq ?_
 refine W.seq ?_
 refine W.region rfl ?_
 refine s_val (x_as (v := I 0) rfl) ?_
 refine s_nil ?_
 refine W.block ?_
 obtain ⟨ex4z, hi5z, hk6z⟩ := M.e_bind hM
 obtain ⟨m0_, hi5z⟩ := M.e_iter hi5z
 refine W.loop (fun m σ W => ∃ (i : Nat) (ρ : Env), σ = upds ρ [(0, v_a), (1, v_b), (5, I (i : Int))] /\ M.iterN (zbg a b) m i = some ex4z /\ St w W [] R) ?_ ?_
 ·exact ⟨_, 0, _, upds_of _ _ ⟨rfl, rfl, rfl, trivial⟩, hi5z, H⟩
 rintro m9z σ w7z ⟨i, ρ, rfl, hI8z, H⟩
 obtain ⟨m10z, lt11z, x12z, hM, hN13z⟩ := M.e_iterN hI8z
 simp only [zbg] at hM
 clear hI8z
 refine W.seq ?_
 refine W.seq ?_
 refine W.region rfl ?_
 refine s_val (x_mv (v := I (i : Int)) rfl) ?_
 refine s_val (x_mv (v := v_a) rfl) ?_
 have hl14z := (hs_a).len_le
 refine s_val (x_lenS T24.und rfl hs_a) ?_
 refine s_val (x_cmp (kd := .i64) (a := (i : Int)) (b := (a.length : Int)) (r := decide ((i : Int) < (a.length : Int))) rfl rfl rfl) ?_
 refine s_nil ?_
 refine W.cond (decide ((i : Int) < (a.length : Int))) rfl (fun c15z => ?_) (fun c15z => ?_)
 ·replace hM := M.e_t hM c15z
  simp only [decide_eq_true_eq, decide_eq_false_iff_not, beq_iff_eq, bne_iff_ne, beq_eq_false_iff_ne, bne_eq_false_iff_eq, ne_eq, Decidable.not_not] at c15z
  refine W.skip ?_
  refine W.seq ?_
  refine W.block ?_
  refine W.seq ?_
  refine W.draw (fun W => St w W [] R) [(0, true), (1, true), (2, true), (3, true), (4, true), (5, true), (6, true), (7, true), (8, true)] mixed (by decide +kernel) rfl ?_
  intro w16z hx_
  replace H := H.ext hx_
  clear hx_
  refine ⟨(H.pk []), ?_⟩
  refine d_q rfl (fun w' H => x_mv (v := v_a) rfl) ?_
  refine d_q rfl (fun w' H => x_mv (v := I (i : Int)) rfl) ?_
  obtain ⟨sd17z, hM⟩ := M.e_grd hM
  simp only [Bool.and_eq_true, decide_eq_true_eq] at sd17z
  refine d_q rfl (fun w' H => x_ix (a := v_a) (b := I (i : Int)) (v := vat v_a 3 (Int.toNat (i : Int))) rfl rfl (Sl.ix (α := Town) T24.und T24.size hs_a (by omega) (by omega))) ?_
  refine d_q rfl (fun w' H => x_ld (p := vat v_a 3 (Int.toNat (i : Int))) (v := .agg #[I ((a.getD i default).station), I ((a.getD i default).lead), I ((a.getD i default).alarm)]) rfl (ld_ag Ag91 Sz91 (At.mono (Town_atA hs_a (i := (i : Int)) (by omega) (by omega)) (hC_a.at H)))) ?_
  refine d_q rfl (fun w' H => x_mv (v := v_b) rfl) ?_
  refine d_q rfl (fun w' H => x_mv (v := I (i : Int)) rfl) ?_
  obtain ⟨sd18z, hM⟩ := M.e_grd hM
  simp only [Bool.and_eq_true, decide_eq_true_eq] at sd18z
  refine d_q rfl (fun w' H => x_ix (a := v_b) (b := I (i : Int)) (v := vat v_b 3 (Int.toNat (i : Int))) rfl rfl (Sl.ix (α := Town) T24.und T24.size hs_b (by omega) (by omega))) ?_
  refine d_q rfl (fun w' H => x_ld (p := vat v_b 3 (Int.toNat (i : Int))) (v := .agg #[I ((b.getD i default).station), I ((b.getD i default).lead), I ((b.getD i default).alarm)]) rfl (ld_ag Ag91 Sz91 (At.mono (Town_atA hs_b (i := (i : Int)) (by omega) (by omega)) (hC_b.at H)))) ?_
  refine d_q rfl (fun w' H => x_neS (eqT91 (a.getD i default) (b.getD i default) _) gdT91 rfl rfl) ?_
  refine d_nil ?_
  refine W.cond (!(decide ((a.getD i default) = (b.getD i default)))) rfl (fun c19z => ?_) (fun c19z => ?_)
  ·replace hM := M.e_t hM c19z
   refine W.seq ?_
   refine W.region rfl ?_
   refine s_val (x_as (v := B false) rfl) ?_
   refine s_nil ?_
   refine W.ret ?_
   have hX20z := M.e_inr hM hN13z
   subst hX20z
   replace hM := hk6z
   try dsimp only at hM
   have hr_ := M.e_pure hM
   exact ⟨_, resE_tmp rfl, ⟨false, hr_, rfl, H⟩⟩
  replace hM := M.e_f hM c19z
  refine W.skip ?_
  refine W.region rfl ?_
  refine s_val (x_mv (v := I (i : Int)) rfl) ?_
  refine s_val (x_ari (a := (i : Int)) (b := 1) (r := (i : Int) + 1) rfl rfl rfl (by omega)) ?_
  refine s_val (x_as (v := I ((i : Int) + 1)) rfl) ?_
  refine s_nil ?_
  exact ⟨m10z, lt11z, i + 1, _, upds_of _ _ ⟨rfl, rfl, rfl, trivial⟩, M.e_inl hM hN13z, H⟩
 replace hM := M.e_f hM c15z
 simp only [decide_eq_true_eq, decide_eq_false_iff_not, beq_iff_eq, bne_iff_ne, beq_eq_false_iff_ne, bne_eq_false_iff_eq, ne_eq, Decidable.not_not] at c15z
 refine W.exit ?_
 have hX21z := M.e_inr hM hN13z
 subst hX21z
 replace hM := hk6z
 try dsimp only at hM
 refine W.seq ?_
 refine W.region rfl ?_
 refine s_val (x_as (v := B true) rfl) ?_
 refine s_nil ?_
 refine W.ret ?_
 have hr_ := M.e_pure hM
 exact ⟨_, resE_tmp rfl, ⟨true, hr_, rfl, H⟩⟩

def zba (a_Floods : List Flood) (b_Floods : List Flood) : Nat -> M (Nat ⊕ (Unit ⊕ Unit)) := fun i =>
  bif decide ((i : Int) < (a_Floods.length : Int)) then (
  M.grd (decide ((i : Int) < (a_Floods.length : Int))) <|
  M.grd (decide ((i : Int) < (b_Floods.length : Int))) <|
  M.bind (M.opt (!(((a_Floods.getD i default).spring) != ((b_Floods.getD i default).spring))) (zad ((a_Floods.getD i default).stages) ((b_Floods.getD i default).stages)) false) fun r6 =>
  bif ((((a_Floods.getD i default).spring) != ((b_Floods.getD i default).spring)) || (!r6)) then (
  M.pure (.inr (.inl ())))
  else (
  M.pure (.inl (i + 1))))
  else (
  M.pure (.inr (.inr ())))
def zbO (a_Down : List Int) (a_Travel : List Span) (a_Springs : List Int) (a_Towns : List Town) (a_Delay_Lo : Int) (a_Delay_Hi : Int) (a_Floods : List Flood) (b_Down : List Int) (b_Travel : List Span) (b_Springs : List Int) (b_Towns : List Town) (b_Delay_Lo : Int) (b_Delay_Hi : Int) (b_Floods : List Flood) : M Bool :=
  M.bind (zad a_Down b_Down) fun r2 =>
  M.bind (M.opt (!(!r2)) (zbF a_Travel b_Travel) false) fun r3 =>
  M.bind (M.opt (!((!r2) || (!r3))) (zad a_Springs b_Springs) false) fun r4 =>
  M.bind (M.opt (!(((!r2) || (!r3)) || (!r4))) (zbG a_Towns b_Towns) false) fun r5 =>
  bif ((((((!r2) || (!r3)) || (!r4)) || (!r5)) || (!(decide ((⟨(a_Delay_Lo : Int), (a_Delay_Hi : Int)⟩ : Span) = (⟨(b_Delay_Lo : Int), (b_Delay_Hi : Int)⟩ : Span))))) || ((a_Floods.length : Int) != (b_Floods.length : Int))) then (
  M.pure false)
  else (
  M.bind (M.iter (zba a_Floods b_Floods) 0) fun x_ => match x_ with
  | (.inl (_ : Unit)) => (
  M.pure false)
  | (.inr (_ : Unit)) => (
  M.pure true))
theorem zdq {R : List Chunk} {C_a_Down : Cells} {v_a_Down : Value} {C_a_Travel : Cells} {v_a_Travel : Value} {C_a_Springs : Cells} {v_a_Springs : Value} {C_a_Towns : Cells} {v_a_Towns : Value} {C_a_Floods : Cells} {v_a_Floods : Value} {C_b_Down : Cells} {v_b_Down : Value} {C_b_Travel : Cells} {v_b_Travel : Value} {C_b_Springs : Cells} {v_b_Springs : Value} {C_b_Towns : Cells} {v_b_Towns : Value} {C_b_Floods : Cells} {v_b_Floods : Value} (a_Down : List Int) (a_Travel : List Span) (a_Springs : List Int) (a_Towns : List Town) (a_Delay_Lo : Int) (a_Delay_Hi : Int) (a_Floods : List Flood) (b_Down : List Int) (b_Travel : List Span) (b_Springs : List Int) (b_Towns : List Town) (b_Delay_Lo : Int) (b_Delay_Hi : Int) (b_Floods : List Flood) (hC_a_Down : Reads R C_a_Down) (hs_a_Down : Sl C_a_Down v_a_Down a_Down) (hC_a_Travel : Reads R C_a_Travel) (hs_a_Travel : Sl C_a_Travel v_a_Travel a_Travel) (hC_a_Springs : Reads R C_a_Springs) (hs_a_Springs : Sl C_a_Springs v_a_Springs a_Springs) (hC_a_Towns : Reads R C_a_Towns) (hs_a_Towns : Sl C_a_Towns v_a_Towns a_Towns) (hC_a_Floods : Reads R C_a_Floods) (hs_a_Floods : Sl C_a_Floods v_a_Floods a_Floods) (hC_b_Down : Reads R C_b_Down) (hs_b_Down : Sl C_b_Down v_b_Down b_Down) (hC_b_Travel : Reads R C_b_Travel) (hs_b_Travel : Sl C_b_Travel v_b_Travel b_Travel) (hC_b_Springs : Reads R C_b_Springs) (hs_b_Springs : Sl C_b_Springs v_b_Springs b_Springs) (hC_b_Towns : Reads R C_b_Towns) (hs_b_Towns : Sl C_b_Towns v_b_Towns b_Towns) (hC_b_Floods : Reads R C_b_Floods) (hs_b_Floods : Sl C_b_Floods v_b_Floods b_Floods) {r : Bool} (hM : (zbO a_Down a_Travel a_Springs a_Towns a_Delay_Lo a_Delay_Hi a_Floods b_Down b_Travel b_Springs b_Towns b_Delay_Lo b_Delay_Hi b_Floods).Ends r) (w : World) (H : St w w [] R) : Ret Tryz.prog 18 #[.agg #[v_a_Down, v_a_Travel, v_a_Springs, v_a_Towns, I a_Delay_Lo, I a_Delay_Hi, v_a_Floods], .agg #[v_b_Down, v_b_Travel, v_b_Springs, v_b_Towns, I b_Delay_Lo, I b_Delay_Hi, v_b_Floods]] w fun v w' => ∃ (y0 : Bool), y0 = r /\ v = B y0 /\ St w w' [] R := by
 refine ret_of_W Tryz.func18 rfl rfl rfl ?_
 refine W.seq ?_
 refine W.region rfl ?_
 refine t_box (v := .agg #[v_a_Down, v_a_Travel, v_a_Springs, v_a_Towns, I a_Delay_Lo, I a_Delay_Hi, v_a_Floods]) (cs := [v_a_Down, v_a_Travel, v_a_Springs, v_a_Towns, I a_Delay_Lo, I a_Delay_Hi, v_a_Floods]) H rfl rfl ?_
 intro b_1 w1z H
 refine t_box (v := .agg #[v_b_Down, v_b_Travel, v_b_Springs, v_b_Towns, I b_Delay_Lo, I b_Delay_Hi, v_b_Floods]) (cs := [v_b_Down, v_b_Travel, v_b_Springs, v_b_Towns, I b_Delay_Lo, I b_Delay_Hi, v_b_Floods]) H rfl rfl ?_
 intro b_2 w2z H
 refine s_val (x_as (v := B false) rfl) ?_
 refine s_nil ?_
 refine W.seq ?_
 refine W.seq ?_
 refine W.region rfl ?_
 refine s_val (x_fa (a := .pointer (some ⟨b_1, 0, none⟩)) (v := .pointer (some ⟨b_1, 0, none⟩)) rfl (fa_blk (o := 0) Fd29_0 Sz22)) ?_
 refine s_val (x_ld (p := .pointer (some ⟨b_1, 0, none⟩)) (v := v_a_Down) rfl (ldb_sc Sc22 (H.blk (k := 1) rfl) rfl)) ?_
 refine s_val (x_fa (a := .pointer (some ⟨b_2, 0, none⟩)) (v := .pointer (some ⟨b_2, 0, none⟩)) rfl (fa_blk (o := 0) Fd29_0 Sz22)) ?_
 refine s_val (x_ld (p := .pointer (some ⟨b_2, 0, none⟩)) (v := v_b_Down) rfl (ldb_sc Sc22 (H.blk (k := 0) rfl) rfl)) ?_
 obtain ⟨r4z, hx3z, hM⟩ := M.e_bind hM
 refine s_call cf15 [v_a_Down, v_b_Down] rfl (zai a_Down b_Down (hC_a_Down.app _) hs_a_Down (hC_b_Down.app _) hs_b_Down hx3z _ (H.gt 2)) ?_
 rintro vq w5z ⟨r2, hr6z, hvq, H2_⟩
 subst hr6z
 subst vq
 try dsimp only at hM
 replace H := H.bk H2_
 clear H2_
 refine s_val (x_not (b := r2) rfl) ?_
 refine s_val (x_mv (v := B (!r2)) rfl) ?_
 refine g_val (!(!r2)) (gy_f rfl) (fun hg => x_fa (a := .pointer (some ⟨b_1, 0, none⟩)) (v := .pointer (some ⟨b_1, 1, none⟩)) rfl (fa_blk (o := 0) Fd29_1 Sz23)) ?_
 refine g_val (!(!r2)) (gy_f rfl) (fun hg => x_ld (p := .pointer (some ⟨b_1, 1, none⟩)) (v := v_a_Travel) (gd_of (c := !(!r2)) hg (.pointer (some ⟨b_1, 1, none⟩))) (ldb_sc Sc23 (H.blk (k := 1) rfl) rfl)) ?_
 refine g_val (!(!r2)) (gy_f rfl) (fun hg => x_fa (a := .pointer (some ⟨b_2, 0, none⟩)) (v := .pointer (some ⟨b_2, 1, none⟩)) rfl (fa_blk (o := 0) Fd29_1 Sz23)) ?_
 refine g_val (!(!r2)) (gy_f rfl) (fun hg => x_ld (p := .pointer (some ⟨b_2, 1, none⟩)) (v := v_b_Travel) (gd_of (c := !(!r2)) hg (.pointer (some ⟨b_2, 1, none⟩))) (ldb_sc Sc23 (H.blk (k := 0) rfl) rfl)) ?_
 obtain ⟨r3, hx7z, hM⟩ := M.e_bind hM
 refine t_gcall (!(!r2)) (gy_f rfl) cf59 (B r3) (fun _ => [v_a_Travel, v_b_Travel]) (fun hg => lst2 (gd_of (c := !(!r2)) hg (v_a_Travel)) (gd_of (c := !(!r2)) hg (v_b_Travel))) H (fun hg => (zdC a_Travel b_Travel (hC_a_Travel.app _) hs_a_Travel (hC_b_Travel.app _) hs_b_Travel (M.e_opt hx7z hg) _ (H.give (A := []) rfl)).mono fun v_ w_ ⟨y_, hr_, hv_, H_⟩ => by subst hr_; exact ⟨hv_, H.via H_⟩) ?_
 intro w8z H
 refine g_val (!(!r2)) (gy_f rfl) (fun hg => x_not (b := r3) (gd_of (c := !(!r2)) hg (B r3))) ?_
 refine s_val (x_por (b := !r2) (r := !r3) rfl rfl (fun hb => gd_of (c := !(!r2)) (by first | exact hb | (rw [hb]; rfl) | simp_all) (B (!r3)))) ?_
 refine s_val (x_mv (v := B ((!r2) || (!r3))) rfl) ?_
 refine g_val (!((!r2) || (!r3))) (gy_f rfl) (fun hg => x_fa (a := .pointer (some ⟨b_1, 0, none⟩)) (v := .pointer (some ⟨b_1, 2, none⟩)) rfl (fa_blk (o := 0) Fd29_2 Sz22)) ?_
 refine g_val (!((!r2) || (!r3))) (gy_f rfl) (fun hg => x_ld (p := .pointer (some ⟨b_1, 2, none⟩)) (v := v_a_Springs) (gd_of (c := !((!r2) || (!r3))) hg (.pointer (some ⟨b_1, 2, none⟩))) (ldb_sc Sc22 (H.blk (k := 1) rfl) rfl)) ?_
 refine g_val (!((!r2) || (!r3))) (gy_f rfl) (fun hg => x_fa (a := .pointer (some ⟨b_2, 0, none⟩)) (v := .pointer (some ⟨b_2, 2, none⟩)) rfl (fa_blk (o := 0) Fd29_2 Sz22)) ?_
 refine g_val (!((!r2) || (!r3))) (gy_f rfl) (fun hg => x_ld (p := .pointer (some ⟨b_2, 2, none⟩)) (v := v_b_Springs) (gd_of (c := !((!r2) || (!r3))) hg (.pointer (some ⟨b_2, 2, none⟩))) (ldb_sc Sc22 (H.blk (k := 0) rfl) rfl)) ?_
 obtain ⟨r4, hx9z, hM⟩ := M.e_bind hM
 refine t_gcall (!((!r2) || (!r3))) (gy_f rfl) cf15 (B r4) (fun _ => [v_a_Springs, v_b_Springs]) (fun hg => lst2 (gd_of (c := !((!r2) || (!r3))) hg (v_a_Springs)) (gd_of (c := !((!r2) || (!r3))) hg (v_b_Springs))) H (fun hg => (zai a_Springs b_Springs (hC_a_Springs.app _) hs_a_Springs (hC_b_Springs.app _) hs_b_Springs (M.e_opt hx9z hg) _ (H.give (A := []) rfl)).mono fun v_ w_ ⟨y_, hr_, hv_, H_⟩ => by subst hr_; exact ⟨hv_, H.via H_⟩) ?_
 intro w10z H
 refine g_val (!((!r2) || (!r3))) (gy_f rfl) (fun hg => x_not (b := r4) (gd_of (c := !((!r2) || (!r3))) hg (B r4))) ?_
 refine s_val (x_por (b := ((!r2) || (!r3))) (r := !r4) rfl rfl (fun hb => gd_of (c := !((!r2) || (!r3))) (by first | exact hb | (rw [hb]; rfl) | simp_all) (B (!r4)))) ?_
 refine s_val (x_mv (v := B (((!r2) || (!r3)) || (!r4))) rfl) ?_
 refine g_val (!(((!r2) || (!r3)) || (!r4))) (gy_f rfl) (fun hg => x_fa (a := .pointer (some ⟨b_1, 0, none⟩)) (v := .pointer (some ⟨b_1, 3, none⟩)) rfl (fa_blk (o := 0) Fd29_3 Sz24)) ?_
 refine g_val (!(((!r2) || (!r3)) || (!r4))) (gy_f rfl) (fun hg => x_ld (p := .pointer (some ⟨b_1, 3, none⟩)) (v := v_a_Towns) (gd_of (c := !(((!r2) || (!r3)) || (!r4))) hg (.pointer (some ⟨b_1, 3, none⟩))) (ldb_sc Sc24 (H.blk (k := 1) rfl) rfl)) ?_
 refine g_val (!(((!r2) || (!r3)) || (!r4))) (gy_f rfl) (fun hg => x_fa (a := .pointer (some ⟨b_2, 0, none⟩)) (v := .pointer (some ⟨b_2, 3, none⟩)) rfl (fa_blk (o := 0) Fd29_3 Sz24)) ?_
 refine g_val (!(((!r2) || (!r3)) || (!r4))) (gy_f rfl) (fun hg => x_ld (p := .pointer (some ⟨b_2, 3, none⟩)) (v := v_b_Towns) (gd_of (c := !(((!r2) || (!r3)) || (!r4))) hg (.pointer (some ⟨b_2, 3, none⟩))) (ldb_sc Sc24 (H.blk (k := 0) rfl) rfl)) ?_
 obtain ⟨r5, hx11z, hM⟩ := M.e_bind hM
 refine t_gcall (!(((!r2) || (!r3)) || (!r4))) (gy_f rfl) cf60 (B r5) (fun _ => [v_a_Towns, v_b_Towns]) (fun hg => lst2 (gd_of (c := !(((!r2) || (!r3)) || (!r4))) hg (v_a_Towns)) (gd_of (c := !(((!r2) || (!r3)) || (!r4))) hg (v_b_Towns))) H (fun hg => (zc5 a_Towns b_Towns (hC_a_Towns.app _) hs_a_Towns (hC_b_Towns.app _) hs_b_Towns (M.e_opt hx11z hg) _ (H.give (A := []) rfl)).mono fun v_ w_ ⟨y_, hr_, hv_, H_⟩ => by subst hr_; exact ⟨hv_, H.via H_⟩) ?_
 intro w12z H
 refine g_val (!(((!r2) || (!r3)) || (!r4))) (gy_f rfl) (fun hg => x_not (b := r5) (gd_of (c := !(((!r2) || (!r3)) || (!r4))) hg (B r5))) ?_
 refine s_val (x_por (b := (((!r2) || (!r3)) || (!r4))) (r := !r5) rfl rfl (fun hb => gd_of (c := !(((!r2) || (!r3)) || (!r4))) (by first | exact hb | (rw [hb]; rfl) | simp_all) (B (!r5)))) ?_
 refine s_val (x_mv (v := B ((((!r2) || (!r3)) || (!r4)) || (!r5))) rfl) ?_
 refine g_val (!((((!r2) || (!r3)) || (!r4)) || (!r5))) (gy_f rfl) (fun hg => x_fa (a := .pointer (some ⟨b_1, 0, none⟩)) (v := .pointer (some ⟨b_1, 4, none⟩)) rfl (fa_blk (o := 0) Fd29_4 Sz26)) ?_
 refine g_val (!((((!r2) || (!r3)) || (!r4)) || (!r5))) (gy_f rfl) (fun hg => x_ld (p := .pointer (some ⟨b_1, 4, none⟩)) (v := .agg #[I a_Delay_Lo, I a_Delay_Hi]) (gd_of (c := !((((!r2) || (!r3)) || (!r4)) || (!r5))) hg (.pointer (some ⟨b_1, 4, none⟩))) (ldb_ag (ds := [I a_Delay_Lo, I a_Delay_Hi]) Ag26 Sz26 (H.blk (k := 1) rfl) rfl rfl)) ?_
 refine g_val (!((((!r2) || (!r3)) || (!r4)) || (!r5))) (gy_f rfl) (fun hg => x_fa (a := .pointer (some ⟨b_2, 0, none⟩)) (v := .pointer (some ⟨b_2, 4, none⟩)) rfl (fa_blk (o := 0) Fd29_4 Sz26)) ?_
 refine g_val (!((((!r2) || (!r3)) || (!r4)) || (!r5))) (gy_f rfl) (fun hg => x_ld (p := .pointer (some ⟨b_2, 4, none⟩)) (v := .agg #[I b_Delay_Lo, I b_Delay_Hi]) (gd_of (c := !((((!r2) || (!r3)) || (!r4)) || (!r5))) hg (.pointer (some ⟨b_2, 4, none⟩))) (ldb_ag (ds := [I b_Delay_Lo, I b_Delay_Hi]) Ag26 Sz26 (H.blk (k := 0) rfl) rfl rfl)) ?_
 refine g_val (!((((!r2) || (!r3)) || (!r4)) || (!r5))) (gy_f rfl) (fun hg => x_neS (eqT26 (⟨(a_Delay_Lo : Int), (a_Delay_Hi : Int)⟩ : Span) (⟨(b_Delay_Lo : Int), (b_Delay_Hi : Int)⟩ : Span) _) gdT26 (gd_of (c := !((((!r2) || (!r3)) || (!r4)) || (!r5))) hg (.agg #[I a_Delay_Lo, I a_Delay_Hi])) (gd_of (c := !((((!r2) || (!r3)) || (!r4)) || (!r5))) hg (.agg #[I b_Delay_Lo, I b_Delay_Hi]))) ?_
 refine s_val (x_por (b := ((((!r2) || (!r3)) || (!r4)) || (!r5))) (r := !(decide ((⟨(a_Delay_Lo : Int), (a_Delay_Hi : Int)⟩ : Span) = (⟨(b_Delay_Lo : Int), (b_Delay_Hi : Int)⟩ : Span)))) rfl rfl (fun hb => gd_of (c := !((((!r2) || (!r3)) || (!r4)) || (!r5))) (by first | exact hb | (rw [hb]; rfl) | simp_all) (B (!(decide ((⟨(a_Delay_Lo : Int), (a_Delay_Hi : Int)⟩ : Span) = (⟨(b_Delay_Lo : Int), (b_Delay_Hi : Int)⟩ : Span))))))) ?_
 refine s_val (x_mv (v := B (((((!r2) || (!r3)) || (!r4)) || (!r5)) || (!(decide ((⟨(a_Delay_Lo : Int), (a_Delay_Hi : Int)⟩ : Span) = (⟨(b_Delay_Lo : Int), (b_Delay_Hi : Int)⟩ : Span)))))) rfl) ?_
 refine g_val (!(((((!r2) || (!r3)) || (!r4)) || (!r5)) || (!(decide ((⟨(a_Delay_Lo : Int), (a_Delay_Hi : Int)⟩ : Span) = (⟨(b_Delay_Lo : Int), (b_Delay_Hi : Int)⟩ : Span)))))) (gy_f rfl) (fun hg => x_fa (a := .pointer (some ⟨b_1, 0, none⟩)) (v := .pointer (some ⟨b_1, 6, none⟩)) rfl (fa_blk (o := 0) Fd29_5 Sz27)) ?_
 refine g_val (!(((((!r2) || (!r3)) || (!r4)) || (!r5)) || (!(decide ((⟨(a_Delay_Lo : Int), (a_Delay_Hi : Int)⟩ : Span) = (⟨(b_Delay_Lo : Int), (b_Delay_Hi : Int)⟩ : Span)))))) (gy_f rfl) (fun hg => x_ld (p := .pointer (some ⟨b_1, 6, none⟩)) (v := v_a_Floods) (gd_of (c := !(((((!r2) || (!r3)) || (!r4)) || (!r5)) || (!(decide ((⟨(a_Delay_Lo : Int), (a_Delay_Hi : Int)⟩ : Span) = (⟨(b_Delay_Lo : Int), (b_Delay_Hi : Int)⟩ : Span)))))) hg (.pointer (some ⟨b_1, 6, none⟩))) (ldb_sc Sc27 (H.blk (k := 1) rfl) rfl)) ?_
 have hl13z := (hs_a_Floods).len_le
 refine g_val (!(((((!r2) || (!r3)) || (!r4)) || (!r5)) || (!(decide ((⟨(a_Delay_Lo : Int), (a_Delay_Hi : Int)⟩ : Span) = (⟨(b_Delay_Lo : Int), (b_Delay_Hi : Int)⟩ : Span)))))) (gy_f rfl) (fun hg => x_lenS T27.und (gd_of (c := !(((((!r2) || (!r3)) || (!r4)) || (!r5)) || (!(decide ((⟨(a_Delay_Lo : Int), (a_Delay_Hi : Int)⟩ : Span) = (⟨(b_Delay_Lo : Int), (b_Delay_Hi : Int)⟩ : Span)))))) hg (v_a_Floods)) hs_a_Floods) ?_
 refine g_val (!(((((!r2) || (!r3)) || (!r4)) || (!r5)) || (!(decide ((⟨(a_Delay_Lo : Int), (a_Delay_Hi : Int)⟩ : Span) = (⟨(b_Delay_Lo : Int), (b_Delay_Hi : Int)⟩ : Span)))))) (gy_f rfl) (fun hg => x_fa (a := .pointer (some ⟨b_2, 0, none⟩)) (v := .pointer (some ⟨b_2, 6, none⟩)) rfl (fa_blk (o := 0) Fd29_5 Sz27)) ?_
 refine g_val (!(((((!r2) || (!r3)) || (!r4)) || (!r5)) || (!(decide ((⟨(a_Delay_Lo : Int), (a_Delay_Hi : Int)⟩ : Span) = (⟨(b_Delay_Lo : Int), (b_Delay_Hi : Int)⟩ : Span)))))) (gy_f rfl) (fun hg => x_ld (p := .pointer (some ⟨b_2, 6, none⟩)) (v := v_b_Floods) (gd_of (c := !(((((!r2) || (!r3)) || (!r4)) || (!r5)) || (!(decide ((⟨(a_Delay_Lo : Int), (a_Delay_Hi : Int)⟩ : Span) = (⟨(b_Delay_Lo : Int), (b_Delay_Hi : Int)⟩ : Span)))))) hg (.pointer (some ⟨b_2, 6, none⟩))) (ldb_sc Sc27 (H.blk (k := 0) rfl) rfl)) ?_
 have hl14z := (hs_b_Floods).len_le
 refine g_val (!(((((!r2) || (!r3)) || (!r4)) || (!r5)) || (!(decide ((⟨(a_Delay_Lo : Int), (a_Delay_Hi : Int)⟩ : Span) = (⟨(b_Delay_Lo : Int), (b_Delay_Hi : Int)⟩ : Span)))))) (gy_f rfl) (fun hg => x_lenS T27.und (gd_of (c := !(((((!r2) || (!r3)) || (!r4)) || (!r5)) || (!(decide ((⟨(a_Delay_Lo : Int), (a_Delay_Hi : Int)⟩ : Span) = (⟨(b_Delay_Lo : Int), (b_Delay_Hi : Int)⟩ : Span)))))) hg (v_b_Floods)) hs_b_Floods) ?_
 refine g_val (!(((((!r2) || (!r3)) || (!r4)) || (!r5)) || (!(decide ((⟨(a_Delay_Lo : Int), (a_Delay_Hi : Int)⟩ : Span) = (⟨(b_Delay_Lo : Int), (b_Delay_Hi : Int)⟩ : Span)))))) (gy_f rfl) (fun hg => x_cmp (kd := .i64) (a := (a_Floods.length : Int)) (b := (b_Floods.length : Int)) (r := (a_Floods.length : Int) != (b_Floods.length : Int)) (gd_of (c := !(((((!r2) || (!r3)) || (!r4)) || (!r5)) || (!(decide ((⟨(a_Delay_Lo : Int), (a_Delay_Hi : Int)⟩ : Span) = (⟨(b_Delay_Lo : Int), (b_Delay_Hi : Int)⟩ : Span)))))) hg (I (a_Floods.length : Int))) (gd_of (c := !(((((!r2) || (!r3)) || (!r4)) || (!r5)) || (!(decide ((⟨(a_Delay_Lo : Int), (a_Delay_Hi : Int)⟩ : Span) = (⟨(b_Delay_Lo : Int), (b_Delay_Hi : Int)⟩ : Span)))))) hg (I (b_Floods.length : Int))) rfl) ?_
 refine s_val (x_por (b := (((((!r2) || (!r3)) || (!r4)) || (!r5)) || (!(decide ((⟨(a_Delay_Lo : Int), (a_Delay_Hi : Int)⟩ : Span) = (⟨(b_Delay_Lo : Int), (b_Delay_Hi : Int)⟩ : Span)))))) (r := (a_Floods.length : Int) != (b_Floods.length : Int)) rfl rfl (fun hb => gd_of (c := !(((((!r2) || (!r3)) || (!r4)) || (!r5)) || (!(decide ((⟨(a_Delay_Lo : Int), (a_Delay_Hi : Int)⟩ : Span) = (⟨(b_Delay_Lo : Int), (b_Delay_Hi : Int)⟩ : Span)))))) (by first | exact hb | (rw [hb]; rfl) | simp_all) (B ((a_Floods.length : Int) != (b_Floods.length : Int))))) ?_
 refine s_nil ?_
 refine W.cond ((((((!r2) || (!r3)) || (!r4)) || (!r5)) || (!(decide ((⟨(a_Delay_Lo : Int), (a_Delay_Hi : Int)⟩ : Span) = (⟨(b_Delay_Lo : Int), (b_Delay_Hi : Int)⟩ : Span))))) || ((a_Floods.length : Int) != (b_Floods.length : Int))) rfl (fun c15z => ?_) (fun c15z => ?_)
 ·replace hM := M.e_t hM c15z
  refine W.seq ?_
  refine W.region rfl ?_
  refine s_val (x_as (v := B false) rfl) ?_
  refine s_nil ?_
  replace H := H.pk []
  refine W.ret ?_
  have hr_ := M.e_pure hM
  exact ⟨_, resE_tmp rfl, ⟨false, hr_, rfl, H⟩⟩
 replace hM := M.e_f hM c15z
 refine W.skip ?_
 refine W.seq ?_
 refine W.seq ?_
 refine W.region rfl ?_
 refine s_val (x_as (v := I 0) rfl) ?_
 refine s_nil ?_
 refine W.block ?_
 obtain ⟨ex16z, hi17z, hk18z⟩ := M.e_bind hM
 obtain ⟨m0_, hi17z⟩ := M.e_iter hi17z
 refine W.loop (fun m σ W => ∃ (i : Nat) (ρ : Env), σ = upds ρ [(2, .pointer (some ⟨b_1, 0, none⟩)), (3, .pointer (some ⟨b_2, 0, none⟩)), (5, I (i : Int))] /\ M.iterN (zba a_Floods b_Floods) m i = some ex16z /\ St w W [cBlk b_2 [v_b_Down, v_b_Travel, v_b_Springs, v_b_Towns, I b_Delay_Lo, I b_Delay_Hi, v_b_Floods] 29, cBlk b_1 [v_a_Down, v_a_Travel, v_a_Springs, v_a_Towns, I a_Delay_Lo, I a_Delay_Hi, v_a_Floods] 29] R) ?_ ?_
 ·exact ⟨_, 0, _, upds_of _ _ ⟨rfl, rfl, rfl, trivial⟩, hi17z, H⟩
 rintro m21z σ w19z ⟨i, ρ, rfl, hI20z, H⟩
 obtain ⟨m22z, lt23z, x24z, hM, hN25z⟩ := M.e_iterN hI20z
 simp only [zba] at hM
 clear hI20z
 refine W.seq ?_
 refine W.seq ?_
 refine W.region rfl ?_
 refine s_val (x_mv (v := I (i : Int)) rfl) ?_
 refine s_val (x_fa (a := .pointer (some ⟨b_1, 0, none⟩)) (v := .pointer (some ⟨b_1, 6, none⟩)) rfl (fa_blk (o := 0) Fd29_5 Sz27)) ?_
 refine s_val (x_ld (p := .pointer (some ⟨b_1, 6, none⟩)) (v := v_a_Floods) rfl (ldb_sc Sc27 (H.blk (k := 1) rfl) rfl)) ?_
 have hl26z := (hs_a_Floods).len_le
 refine s_val (x_lenS T27.und rfl hs_a_Floods) ?_
 refine s_val (x_cmp (kd := .i64) (a := (i : Int)) (b := (a_Floods.length : Int)) (r := decide ((i : Int) < (a_Floods.length : Int))) rfl rfl rfl) ?_
 refine s_nil ?_
 refine W.cond (decide ((i : Int) < (a_Floods.length : Int))) rfl (fun c27z => ?_) (fun c27z => ?_)
 ·replace hM := M.e_t hM c27z
  simp only [decide_eq_true_eq, decide_eq_false_iff_not, beq_iff_eq, bne_iff_ne, beq_eq_false_iff_ne, bne_eq_false_iff_eq, ne_eq, Decidable.not_not] at c27z
  refine W.skip ?_
  refine W.seq ?_
  refine W.block ?_
  refine W.seq ?_
  refine W.draw (fun W => St w W [cBlk b_2 [v_b_Down, v_b_Travel, v_b_Springs, v_b_Towns, I b_Delay_Lo, I b_Delay_Hi, v_b_Floods] 29, cBlk b_1 [v_a_Down, v_a_Travel, v_a_Springs, v_a_Towns, I a_Delay_Lo, I a_Delay_Hi, v_a_Floods] 29] R) [(0, true), (1, true), (2, true), (3, true), (4, true), (5, true), (6, true), (7, true), (8, true), (9, true), (10, true), (11, true), (12, true), (13, true), (14, true), (15, true), (16, true), (17, true), (18, true), (19, true), (20, true), (21, true), (22, true), (23, true), (24, true), (25, true), (26, false), (27, true), (28, true)] mixed (by decide +kernel) rfl ?_
  intro w28z hx_
  replace H := H.ext hx_
  clear hx_
  refine ⟨(H.pk [0, 1]), ?_⟩
  refine d_q rfl (fun w' H => x_fa (a := .pointer (some ⟨b_1, 0, none⟩)) (v := .pointer (some ⟨b_1, 6, none⟩)) rfl (fa_blk (o := 0) Fd29_5 Sz27)) ?_
  refine d_q rfl (fun w' H => x_ld (p := .pointer (some ⟨b_1, 6, none⟩)) (v := v_a_Floods) rfl (ldb_sc Sc27 (H.blk (k := 1) rfl) rfl)) ?_
  refine d_q rfl (fun w' H => x_mv (v := I (i : Int)) rfl) ?_
  obtain ⟨sd29z, hM⟩ := M.e_grd hM
  simp only [Bool.and_eq_true, decide_eq_true_eq] at sd29z
  refine d_q rfl (fun w' H => x_ix (a := v_a_Floods) (b := I (i : Int)) (v := vat v_a_Floods 2 (Int.toNat (i : Int))) rfl rfl (Sl.ix (α := Flood) T27.und T27.size hs_a_Floods (by omega) (by omega))) ?_
  refine d_q rfl (fun w' H => x_fa (a := vat v_a_Floods 2 (Int.toNat (i : Int))) (v := fat (vat v_a_Floods 2 (Int.toNat (i : Int))) 0) rfl (fa_pl Fd85_0 Sz3 (Sl.pl (i := (i : Int)) hs_a_Floods (by omega) (by omega)))) ?_
  refine d_q rfl (fun w' H => x_ld (p := fat (vat v_a_Floods 2 (Int.toNat (i : Int))) 0) (v := I ((a_Floods.getD i default).spring)) rfl (ld_sc Sc3 (At.mono (Flood_at0 hs_a_Floods (i := (i : Int)) (by omega) (by omega)) (hC_a_Floods.at H)))) ?_
  refine d_q rfl (fun w' H => x_fa (a := .pointer (some ⟨b_2, 0, none⟩)) (v := .pointer (some ⟨b_2, 6, none⟩)) rfl (fa_blk (o := 0) Fd29_5 Sz27)) ?_
  refine d_q rfl (fun w' H => x_ld (p := .pointer (some ⟨b_2, 6, none⟩)) (v := v_b_Floods) rfl (ldb_sc Sc27 (H.blk (k := 0) rfl) rfl)) ?_
  refine d_q rfl (fun w' H => x_mv (v := I (i : Int)) rfl) ?_
  obtain ⟨sd30z, hM⟩ := M.e_grd hM
  simp only [Bool.and_eq_true, decide_eq_true_eq] at sd30z
  refine d_q rfl (fun w' H => x_ix (a := v_b_Floods) (b := I (i : Int)) (v := vat v_b_Floods 2 (Int.toNat (i : Int))) rfl rfl (Sl.ix (α := Flood) T27.und T27.size hs_b_Floods (by omega) (by omega))) ?_
  refine d_q rfl (fun w' H => x_fa (a := vat v_b_Floods 2 (Int.toNat (i : Int))) (v := fat (vat v_b_Floods 2 (Int.toNat (i : Int))) 0) rfl (fa_pl Fd85_0 Sz3 (Sl.pl (i := (i : Int)) hs_b_Floods (by omega) (by omega)))) ?_
  refine d_q rfl (fun w' H => x_ld (p := fat (vat v_b_Floods 2 (Int.toNat (i : Int))) 0) (v := I ((b_Floods.getD i default).spring)) rfl (ld_sc Sc3 (At.mono (Flood_at0 hs_b_Floods (i := (i : Int)) (by omega) (by omega)) (hC_b_Floods.at H)))) ?_
  refine d_q rfl (fun w' H => x_cmp (kd := .i64) (a := (a_Floods.getD i default).spring) (b := (b_Floods.getD i default).spring) (r := ((a_Floods.getD i default).spring) != ((b_Floods.getD i default).spring)) rfl rfl rfl) ?_
  refine d_q rfl (fun w' H => x_mv (v := B (((a_Floods.getD i default).spring) != ((b_Floods.getD i default).spring))) rfl) ?_
  refine d_qg (!(((a_Floods.getD i default).spring) != ((b_Floods.getD i default).spring))) rfl (gy_f rfl) (fun hg => (fun w' H => x_fa (a := .pointer (some ⟨b_1, 0, none⟩)) (v := .pointer (some ⟨b_1, 6, none⟩)) rfl (fa_blk (o := 0) Fd29_5 Sz27))) ?_
  refine d_qg (!(((a_Floods.getD i default).spring) != ((b_Floods.getD i default).spring))) rfl (gy_f rfl) (fun hg => (fun w' H => x_ld (p := .pointer (some ⟨b_1, 6, none⟩)) (v := v_a_Floods) (gd_of (c := !(((a_Floods.getD i default).spring) != ((b_Floods.getD i default).spring))) hg (.pointer (some ⟨b_1, 6, none⟩))) (ldb_sc Sc27 (H.blk (k := 1) rfl) rfl))) ?_
  refine d_qg (!(((a_Floods.getD i default).spring) != ((b_Floods.getD i default).spring))) rfl (gy_f rfl) (fun hg => (fun w' H => x_mv (v := I (i : Int)) rfl)) ?_
  refine d_qg (!(((a_Floods.getD i default).spring) != ((b_Floods.getD i default).spring))) rfl (gy_f rfl) (fun hg => (fun w' H => x_ix (a := v_a_Floods) (b := I (i : Int)) (v := vat v_a_Floods 2 (Int.toNat (i : Int))) (gd_of (c := !(((a_Floods.getD i default).spring) != ((b_Floods.getD i default).spring))) hg (v_a_Floods)) (gd_of (c := !(((a_Floods.getD i default).spring) != ((b_Floods.getD i default).spring))) hg (I (i : Int))) (Sl.ix (α := Flood) T27.und T27.size hs_a_Floods (by first | omega | (have hx_ := hg; simp at hx_; omega)) (by first | omega | (have hx_ := hg; simp at hx_; omega))))) ?_
  refine d_qg (!(((a_Floods.getD i default).spring) != ((b_Floods.getD i default).spring))) rfl (gy_f rfl) (fun hg => (fun w' H => x_fa (a := vat v_a_Floods 2 (Int.toNat (i : Int))) (v := fat (vat v_a_Floods 2 (Int.toNat (i : Int))) 1) (gd_of (c := !(((a_Floods.getD i default).spring) != ((b_Floods.getD i default).spring))) hg (vat v_a_Floods 2 (Int.toNat (i : Int)))) (fa_pl Fd85_1 Sz22 (Sl.pl (i := (i : Int)) hs_a_Floods (by first | omega | (have hx_ := hg; simp at hx_; omega)) (by first | omega | (have hx_ := hg; simp at hx_; omega)))))) ?_
  obtain ⟨u31z, ha_u31z, hs32z⟩ := gd_ex (c := !(((a_Floods.getD i default).spring) != ((b_Floods.getD i default).spring))) fun hg => Flood_at1 hs_a_Floods (i := (i : Int)) (by first | omega | (have hx_ := hg; simp at hx_; omega)) (by first | omega | (have hx_ := hg; simp at hx_; omega))
  replace hs32z : (!(((a_Floods.getD i default).spring) != ((b_Floods.getD i default).spring))) = true -> Sl _ u31z (a_Floods.getD i default).stages := hs32z
  refine d_qg (!(((a_Floods.getD i default).spring) != ((b_Floods.getD i default).spring))) rfl (gy_f rfl) (fun hg => (fun w' H => x_ld (p := fat (vat v_a_Floods 2 (Int.toNat (i : Int))) 1) (v := u31z) (gd_of (c := !(((a_Floods.getD i default).spring) != ((b_Floods.getD i default).spring))) hg (fat (vat v_a_Floods 2 (Int.toNat (i : Int))) 1)) (ld_sc Sc22 (At.mono (ha_u31z hg) (hC_a_Floods.at H))))) ?_
  refine d_qg (!(((a_Floods.getD i default).spring) != ((b_Floods.getD i default).spring))) rfl (gy_f rfl) (fun hg => (fun w' H => x_fa (a := .pointer (some ⟨b_2, 0, none⟩)) (v := .pointer (some ⟨b_2, 6, none⟩)) rfl (fa_blk (o := 0) Fd29_5 Sz27))) ?_
  refine d_qg (!(((a_Floods.getD i default).spring) != ((b_Floods.getD i default).spring))) rfl (gy_f rfl) (fun hg => (fun w' H => x_ld (p := .pointer (some ⟨b_2, 6, none⟩)) (v := v_b_Floods) (gd_of (c := !(((a_Floods.getD i default).spring) != ((b_Floods.getD i default).spring))) hg (.pointer (some ⟨b_2, 6, none⟩))) (ldb_sc Sc27 (H.blk (k := 0) rfl) rfl))) ?_
  refine d_qg (!(((a_Floods.getD i default).spring) != ((b_Floods.getD i default).spring))) rfl (gy_f rfl) (fun hg => (fun w' H => x_mv (v := I (i : Int)) rfl)) ?_
  refine d_qg (!(((a_Floods.getD i default).spring) != ((b_Floods.getD i default).spring))) rfl (gy_f rfl) (fun hg => (fun w' H => x_ix (a := v_b_Floods) (b := I (i : Int)) (v := vat v_b_Floods 2 (Int.toNat (i : Int))) (gd_of (c := !(((a_Floods.getD i default).spring) != ((b_Floods.getD i default).spring))) hg (v_b_Floods)) (gd_of (c := !(((a_Floods.getD i default).spring) != ((b_Floods.getD i default).spring))) hg (I (i : Int))) (Sl.ix (α := Flood) T27.und T27.size hs_b_Floods (by first | omega | (have hx_ := hg; simp at hx_; omega)) (by first | omega | (have hx_ := hg; simp at hx_; omega))))) ?_
  refine d_qg (!(((a_Floods.getD i default).spring) != ((b_Floods.getD i default).spring))) rfl (gy_f rfl) (fun hg => (fun w' H => x_fa (a := vat v_b_Floods 2 (Int.toNat (i : Int))) (v := fat (vat v_b_Floods 2 (Int.toNat (i : Int))) 1) (gd_of (c := !(((a_Floods.getD i default).spring) != ((b_Floods.getD i default).spring))) hg (vat v_b_Floods 2 (Int.toNat (i : Int)))) (fa_pl Fd85_1 Sz22 (Sl.pl (i := (i : Int)) hs_b_Floods (by first | omega | (have hx_ := hg; simp at hx_; omega)) (by first | omega | (have hx_ := hg; simp at hx_; omega)))))) ?_
  obtain ⟨u33z, ha_u33z, hs34z⟩ := gd_ex (c := !(((a_Floods.getD i default).spring) != ((b_Floods.getD i default).spring))) fun hg => Flood_at1 hs_b_Floods (i := (i : Int)) (by first | omega | (have hx_ := hg; simp at hx_; omega)) (by first | omega | (have hx_ := hg; simp at hx_; omega))
  replace hs34z : (!(((a_Floods.getD i default).spring) != ((b_Floods.getD i default).spring))) = true -> Sl _ u33z (b_Floods.getD i default).stages := hs34z
  refine d_qg (!(((a_Floods.getD i default).spring) != ((b_Floods.getD i default).spring))) rfl (gy_f rfl) (fun hg => (fun w' H => x_ld (p := fat (vat v_b_Floods 2 (Int.toNat (i : Int))) 1) (v := u33z) (gd_of (c := !(((a_Floods.getD i default).spring) != ((b_Floods.getD i default).spring))) hg (fat (vat v_b_Floods 2 (Int.toNat (i : Int))) 1)) (ld_sc Sc22 (At.mono (ha_u33z hg) (hC_b_Floods.at H))))) ?_
  refine d_l rfl ?_
  obtain ⟨r6, hx35z, hM⟩ := M.e_bind hM
  refine t_gcall (!(((a_Floods.getD i default).spring) != ((b_Floods.getD i default).spring))) (gy_f rfl) cf15 (B r6) (fun _ => [u31z, u33z]) (fun hg => lst2 (gd_of (c := !(((a_Floods.getD i default).spring) != ((b_Floods.getD i default).spring))) hg (u31z)) (gd_of (c := !(((a_Floods.getD i default).spring) != ((b_Floods.getD i default).spring))) hg (u33z))) H (fun hg => (zai ((a_Floods.getD i default).stages) ((b_Floods.getD i default).stages) (hC_a_Floods.app _) (hs32z hg) (hC_b_Floods.app _) (hs34z hg) (M.e_opt hx35z hg) _ (H.give (A := []) rfl)).mono fun v_ w_ ⟨y_, hr_, hv_, H_⟩ => by subst hr_; exact ⟨hv_, H.via H_⟩) ?_
  intro w36z H
  refine s_nil ⟨(H.pk [0, 1]), ?_⟩
  refine d_qg (!(((a_Floods.getD i default).spring) != ((b_Floods.getD i default).spring))) rfl (gy_f rfl) (fun hg => (fun w' H => x_not (b := r6) (gd_of (c := !(((a_Floods.getD i default).spring) != ((b_Floods.getD i default).spring))) hg (B r6)))) ?_
  refine d_q rfl (fun w' H => x_por (b := ((a_Floods.getD i default).spring) != ((b_Floods.getD i default).spring)) (r := !r6) rfl rfl (fun hb => gd_of (c := !(((a_Floods.getD i default).spring) != ((b_Floods.getD i default).spring))) (by first | exact hb | (rw [hb]; rfl) | simp_all) (B (!r6)))) ?_
  refine d_nil ?_
  refine W.cond ((((a_Floods.getD i default).spring) != ((b_Floods.getD i default).spring)) || (!r6)) rfl (fun c37z => ?_) (fun c37z => ?_)
  ·replace hM := M.e_t hM c37z
   refine W.seq ?_
   refine W.region rfl ?_
   refine s_val (x_as (v := B false) rfl) ?_
   refine s_nil ?_
   refine W.ret ?_
   have hX38z := M.e_inr hM hN25z
   subst hX38z
   replace hM := hk18z
   try dsimp only at hM
   have hr_ := M.e_pure hM
   exact ⟨_, resE_tmp rfl, ⟨false, hr_, rfl, (H.pk [])⟩⟩
  replace hM := M.e_f hM c37z
  refine W.skip ?_
  refine W.region rfl ?_
  refine s_val (x_mv (v := I (i : Int)) rfl) ?_
  refine s_val (x_ari (a := (i : Int)) (b := 1) (r := (i : Int) + 1) rfl rfl rfl (by omega)) ?_
  refine s_val (x_as (v := I ((i : Int) + 1)) rfl) ?_
  refine s_nil ?_
  exact ⟨m22z, lt23z, i + 1, _, upds_of _ _ ⟨rfl, rfl, rfl, trivial⟩, M.e_inl hM hN25z, H⟩
 replace hM := M.e_f hM c27z
 simp only [decide_eq_true_eq, decide_eq_false_iff_not, beq_iff_eq, bne_iff_ne, beq_eq_false_iff_ne, bne_eq_false_iff_eq, ne_eq, Decidable.not_not] at c27z
 refine W.exit ?_
 have hX39z := M.e_inr hM hN25z
 subst hX39z
 replace hM := hk18z
 try dsimp only at hM
 replace H := H.pk []
 refine W.seq ?_
 refine W.region rfl ?_
 refine s_val (x_as (v := B true) rfl) ?_
 refine s_nil ?_
 refine W.ret ?_
 have hr_ := M.e_pure hM
 exact ⟨_, resE_tmp rfl, ⟨true, hr_, rfl, H⟩⟩

end Go.Proofs.YtbaehghammbjdaaGreat
end
section
set_option maxRecDepth 100000
set_option maxHeartbeats 16000000
namespace Go.Proofs.YtbaehghammbjdaaGreat
open Go Go.Nm
def zbm (r__Floods : List Flood) : Nat -> M (Nat ⊕ (Unit ⊕ Unit)) := fun i =>
  bif decide ((i : Int) < (r__Floods.length : Int)) then (
  M.grd (decide ((i : Int) < (r__Floods.length : Int))) <|
  bif decide (15 < (((r__Floods.getD i default).stages).length : Int)) then (
  M.pure (.inr (.inl ())))
  else (
  M.pure (.inl (i + 1))))
  else (
  M.pure (.inr (.inr ())))
def zbw (r__Down : List Int) (r__Travel : List Span) (r__Springs : List Int) (r__Towns : List Town) (r__Delay_Lo : Int) (r__Delay_Hi : Int) (r__Floods : List Flood) : M Bool :=
  bif (((((((decide (9 < (r__Down.length : Int))) && (decide ((r__Down.length : Int) < 13))) || (decide (15 < (r__Down.length : Int)))) || (decide (15 < (r__Travel.length : Int)))) || (decide (10 < (r__Springs.length : Int)))) || (decide (10 < (r__Towns.length : Int)))) || (decide (22 < (r__Floods.length : Int)))) then (
  M.pure true)
  else (
  M.bind (M.iter (zbm r__Floods) 0) fun x_ => match x_ with
  | (.inl (_ : Unit)) => (
  M.pure true)
  | (.inr (_ : Unit)) => (
  M.pure false))
theorem zdm {R : List Chunk} {C_r__Down : Cells} {v_r__Down : Value} {C_r__Travel : Cells} {v_r__Travel : Value} {C_r__Springs : Cells} {v_r__Springs : Value} {C_r__Towns : Cells} {v_r__Towns : Value} {C_r__Floods : Cells} {v_r__Floods : Value} (r__Down : List Int) (r__Travel : List Span) (r__Springs : List Int) (r__Towns : List Town) (r__Delay_Lo : Int) (r__Delay_Hi : Int) (r__Floods : List Flood) (hC_r__Down : Reads R C_r__Down) (hs_r__Down : Sl C_r__Down v_r__Down r__Down) (hC_r__Travel : Reads R C_r__Travel) (hs_r__Travel : Sl C_r__Travel v_r__Travel r__Travel) (hC_r__Springs : Reads R C_r__Springs) (hs_r__Springs : Sl C_r__Springs v_r__Springs r__Springs) (hC_r__Towns : Reads R C_r__Towns) (hs_r__Towns : Sl C_r__Towns v_r__Towns r__Towns) (hC_r__Floods : Reads R C_r__Floods) (hs_r__Floods : Sl C_r__Floods v_r__Floods r__Floods) {r : Bool} (hM : (zbw r__Down r__Travel r__Springs r__Towns r__Delay_Lo r__Delay_Hi r__Floods).Ends r) (w : World) (H : St w w [] R) : Ret Tryz.prog 6 #[.agg #[v_r__Down, v_r__Travel, v_r__Springs, v_r__Towns, I r__Delay_Lo, I r__Delay_Hi, v_r__Floods]] w fun v w' => ∃ (y0 : Bool), y0 = r /\ v = B y0 /\ St w w' [] R := by
 refine ret_of_W Tryz.func6 rfl rfl rfl ?_
 refine W.seq ?_
 refine W.region rfl ?_
 refine t_box (v := .agg #[v_r__Down, v_r__Travel, v_r__Springs, v_r__Towns, I r__Delay_Lo, I r__Delay_Hi, v_r__Floods]) (cs := [v_r__Down, v_r__Travel, v_r__Springs, v_r__Towns, I r__Delay_Lo, I r__Delay_Hi, v_r__Floods]) H rfl rfl ?_
 intro b_1 w1z H
 refine s_val (x_as (v := B false) rfl) ?_
 refine s_nil ?_
 refine W.seq ?_
 refine W.seq ?_
 refine W.region rfl ?_
 refine s_val (x_fa (a := .pointer (some ⟨b_1, 0, none⟩)) (v := .pointer (some ⟨b_1, 0, none⟩)) rfl (fa_blk (o := 0) Fd29_0 Sz22)) ?_
 refine s_val (x_ld (p := .pointer (some ⟨b_1, 0, none⟩)) (v := v_r__Down) rfl (ldb_sc Sc22 (H.blk (k := 0) rfl) rfl)) ?_
 have hl2z := (hs_r__Down).len_le
 refine s_val (x_lenS T22.und rfl hs_r__Down) ?_
 refine s_val (x_cmp (kd := .i64) (a := (r__Down.length : Int)) (b := 9) (r := decide (9 < (r__Down.length : Int))) rfl rfl rfl) ?_
 refine s_val (x_mv (v := B (decide (9 < (r__Down.length : Int)))) rfl) ?_
 refine g_val (decide (9 < (r__Down.length : Int))) (gy_t rfl) (fun hg => x_fa (a := .pointer (some ⟨b_1, 0, none⟩)) (v := .pointer (some ⟨b_1, 0, none⟩)) rfl (fa_blk (o := 0) Fd29_0 Sz22)) ?_
 refine g_val (decide (9 < (r__Down.length : Int))) (gy_t rfl) (fun hg => x_ld (p := .pointer (some ⟨b_1, 0, none⟩)) (v := v_r__Down) (gd_of (c := decide (9 < (r__Down.length : Int))) hg (.pointer (some ⟨b_1, 0, none⟩))) (ldb_sc Sc22 (H.blk (k := 0) rfl) rfl)) ?_
 have hl3z := (hs_r__Down).len_le
 refine g_val (decide (9 < (r__Down.length : Int))) (gy_t rfl) (fun hg => x_lenS T22.und (gd_of (c := decide (9 < (r__Down.length : Int))) hg (v_r__Down)) hs_r__Down) ?_
 refine g_val (decide (9 < (r__Down.length : Int))) (gy_t rfl) (fun hg => x_cmp (kd := .i64) (a := (r__Down.length : Int)) (b := 13) (r := decide ((r__Down.length : Int) < 13)) (gd_of (c := decide (9 < (r__Down.length : Int))) hg (I (r__Down.length : Int))) rfl rfl) ?_
 refine s_val (x_pand (b := decide (9 < (r__Down.length : Int))) (r := decide ((r__Down.length : Int) < 13)) rfl (fun hb => gd_of (c := decide (9 < (r__Down.length : Int))) (by first | exact hb | (rw [hb]; rfl) | simp_all) (B (decide ((r__Down.length : Int) < 13)))) rfl) ?_
 refine s_val (x_mv (v := B ((decide (9 < (r__Down.length : Int))) && (decide ((r__Down.length : Int) < 13)))) rfl) ?_
 refine g_val (!((decide (9 < (r__Down.length : Int))) && (decide ((r__Down.length : Int) < 13)))) (gy_f rfl) (fun hg => x_fa (a := .pointer (some ⟨b_1, 0, none⟩)) (v := .pointer (some ⟨b_1, 0, none⟩)) rfl (fa_blk (o := 0) Fd29_0 Sz22)) ?_
 refine g_val (!((decide (9 < (r__Down.length : Int))) && (decide ((r__Down.length : Int) < 13)))) (gy_f rfl) (fun hg => x_ld (p := .pointer (some ⟨b_1, 0, none⟩)) (v := v_r__Down) (gd_of (c := !((decide (9 < (r__Down.length : Int))) && (decide ((r__Down.length : Int) < 13)))) hg (.pointer (some ⟨b_1, 0, none⟩))) (ldb_sc Sc22 (H.blk (k := 0) rfl) rfl)) ?_
 have hl4z := (hs_r__Down).len_le
 refine g_val (!((decide (9 < (r__Down.length : Int))) && (decide ((r__Down.length : Int) < 13)))) (gy_f rfl) (fun hg => x_lenS T22.und (gd_of (c := !((decide (9 < (r__Down.length : Int))) && (decide ((r__Down.length : Int) < 13)))) hg (v_r__Down)) hs_r__Down) ?_
 refine g_val (!((decide (9 < (r__Down.length : Int))) && (decide ((r__Down.length : Int) < 13)))) (gy_f rfl) (fun hg => x_cmp (kd := .i64) (a := (r__Down.length : Int)) (b := 15) (r := decide (15 < (r__Down.length : Int))) (gd_of (c := !((decide (9 < (r__Down.length : Int))) && (decide ((r__Down.length : Int) < 13)))) hg (I (r__Down.length : Int))) rfl rfl) ?_
 refine s_val (x_por (b := ((decide (9 < (r__Down.length : Int))) && (decide ((r__Down.length : Int) < 13)))) (r := decide (15 < (r__Down.length : Int))) rfl rfl (fun hb => gd_of (c := !((decide (9 < (r__Down.length : Int))) && (decide ((r__Down.length : Int) < 13)))) (by first | exact hb | (rw [hb]; rfl) | simp_all) (B (decide (15 < (r__Down.length : Int)))))) ?_
 refine s_val (x_mv (v := B (((decide (9 < (r__Down.length : Int))) && (decide ((r__Down.length : Int) < 13))) || (decide (15 < (r__Down.length : Int))))) rfl) ?_
 refine g_val (!(((decide (9 < (r__Down.length : Int))) && (decide ((r__Down.length : Int) < 13))) || (decide (15 < (r__Down.length : Int))))) (gy_f rfl) (fun hg => x_fa (a := .pointer (some ⟨b_1, 0, none⟩)) (v := .pointer (some ⟨b_1, 1, none⟩)) rfl (fa_blk (o := 0) Fd29_1 Sz23)) ?_
 refine g_val (!(((decide (9 < (r__Down.length : Int))) && (decide ((r__Down.length : Int) < 13))) || (decide (15 < (r__Down.length : Int))))) (gy_f rfl) (fun hg => x_ld (p := .pointer (some ⟨b_1, 1, none⟩)) (v := v_r__Travel) (gd_of (c := !(((decide (9 < (r__Down.length : Int))) && (decide ((r__Down.length : Int) < 13))) || (decide (15 < (r__Down.length : Int))))) hg (.pointer (some ⟨b_1, 1, none⟩))) (ldb_sc Sc23 (H.blk (k := 0) rfl) rfl)) ?_
 have hl5z := (hs_r__Travel).len_le
 refine g_val (!(((decide (9 < (r__Down.length : Int))) && (decide ((r__Down.length : Int) < 13))) || (decide (15 < (r__Down.length : Int))))) (gy_f rfl) (fun hg => x_lenS T23.und (gd_of (c := !(((decide (9 < (r__Down.length : Int))) && (decide ((r__Down.length : Int) < 13))) || (decide (15 < (r__Down.length : Int))))) hg (v_r__Travel)) hs_r__Travel) ?_
 refine g_val (!(((decide (9 < (r__Down.length : Int))) && (decide ((r__Down.length : Int) < 13))) || (decide (15 < (r__Down.length : Int))))) (gy_f rfl) (fun hg => x_cmp (kd := .i64) (a := (r__Travel.length : Int)) (b := 15) (r := decide (15 < (r__Travel.length : Int))) (gd_of (c := !(((decide (9 < (r__Down.length : Int))) && (decide ((r__Down.length : Int) < 13))) || (decide (15 < (r__Down.length : Int))))) hg (I (r__Travel.length : Int))) rfl rfl) ?_
 refine s_val (x_por (b := (((decide (9 < (r__Down.length : Int))) && (decide ((r__Down.length : Int) < 13))) || (decide (15 < (r__Down.length : Int))))) (r := decide (15 < (r__Travel.length : Int))) rfl rfl (fun hb => gd_of (c := !(((decide (9 < (r__Down.length : Int))) && (decide ((r__Down.length : Int) < 13))) || (decide (15 < (r__Down.length : Int))))) (by first | exact hb | (rw [hb]; rfl) | simp_all) (B (decide (15 < (r__Travel.length : Int)))))) ?_
 refine s_val (x_mv (v := B ((((decide (9 < (r__Down.length : Int))) && (decide ((r__Down.length : Int) < 13))) || (decide (15 < (r__Down.length : Int)))) || (decide (15 < (r__Travel.length : Int))))) rfl) ?_
 refine g_val (!((((decide (9 < (r__Down.length : Int))) && (decide ((r__Down.length : Int) < 13))) || (decide (15 < (r__Down.length : Int)))) || (decide (15 < (r__Travel.length : Int))))) (gy_f rfl) (fun hg => x_fa (a := .pointer (some ⟨b_1, 0, none⟩)) (v := .pointer (some ⟨b_1, 2, none⟩)) rfl (fa_blk (o := 0) Fd29_2 Sz22)) ?_
 refine g_val (!((((decide (9 < (r__Down.length : Int))) && (decide ((r__Down.length : Int) < 13))) || (decide (15 < (r__Down.length : Int)))) || (decide (15 < (r__Travel.length : Int))))) (gy_f rfl) (fun hg => x_ld (p := .pointer (some ⟨b_1, 2, none⟩)) (v := v_r__Springs) (gd_of (c := !((((decide (9 < (r__Down.length : Int))) && (decide ((r__Down.length : Int) < 13))) || (decide (15 < (r__Down.length : Int)))) || (decide (15 < (r__Travel.length : Int))))) hg (.pointer (some ⟨b_1, 2, none⟩))) (ldb_sc Sc22 (H.blk (k := 0) rfl) rfl)) ?_
 have hl6z := (hs_r__Springs).len_le
 refine g_val (!((((decide (9 < (r__Down.length : Int))) && (decide ((r__Down.length : Int) < 13))) || (decide (15 < (r__Down.length : Int)))) || (decide (15 < (r__Travel.length : Int))))) (gy_f rfl) (fun hg => x_lenS T22.und (gd_of (c := !((((decide (9 < (r__Down.length : Int))) && (decide ((r__Down.length : Int) < 13))) || (decide (15 < (r__Down.length : Int)))) || (decide (15 < (r__Travel.length : Int))))) hg (v_r__Springs)) hs_r__Springs) ?_
 refine g_val (!((((decide (9 < (r__Down.length : Int))) && (decide ((r__Down.length : Int) < 13))) || (decide (15 < (r__Down.length : Int)))) || (decide (15 < (r__Travel.length : Int))))) (gy_f rfl) (fun hg => x_cmp (kd := .i64) (a := (r__Springs.length : Int)) (b := 10) (r := decide (10 < (r__Springs.length : Int))) (gd_of (c := !((((decide (9 < (r__Down.length : Int))) && (decide ((r__Down.length : Int) < 13))) || (decide (15 < (r__Down.length : Int)))) || (decide (15 < (r__Travel.length : Int))))) hg (I (r__Springs.length : Int))) rfl rfl) ?_
 refine s_val (x_por (b := ((((decide (9 < (r__Down.length : Int))) && (decide ((r__Down.length : Int) < 13))) || (decide (15 < (r__Down.length : Int)))) || (decide (15 < (r__Travel.length : Int))))) (r := decide (10 < (r__Springs.length : Int))) rfl rfl (fun hb => gd_of (c := !((((decide (9 < (r__Down.length : Int))) && (decide ((r__Down.length : Int) < 13))) || (decide (15 < (r__Down.length : Int)))) || (decide (15 < (r__Travel.length : Int))))) (by first | exact hb | (rw [hb]; rfl) | simp_all) (B (decide (10 < (r__Springs.length : Int)))))) ?_
 refine s_val (x_mv (v := B (((((decide (9 < (r__Down.length : Int))) && (decide ((r__Down.length : Int) < 13))) || (decide (15 < (r__Down.length : Int)))) || (decide (15 < (r__Travel.length : Int)))) || (decide (10 < (r__Springs.length : Int))))) rfl) ?_
 refine g_val (!(((((decide (9 < (r__Down.length : Int))) && (decide ((r__Down.length : Int) < 13))) || (decide (15 < (r__Down.length : Int)))) || (decide (15 < (r__Travel.length : Int)))) || (decide (10 < (r__Springs.length : Int))))) (gy_f rfl) (fun hg => x_fa (a := .pointer (some ⟨b_1, 0, none⟩)) (v := .pointer (some ⟨b_1, 3, none⟩)) rfl (fa_blk (o := 0) Fd29_3 Sz24)) ?_
 refine g_val (!(((((decide (9 < (r__Down.length : Int))) && (decide ((r__Down.length : Int) < 13))) || (decide (15 < (r__Down.length : Int)))) || (decide (15 < (r__Travel.length : Int)))) || (decide (10 < (r__Springs.length : Int))))) (gy_f rfl) (fun hg => x_ld (p := .pointer (some ⟨b_1, 3, none⟩)) (v := v_r__Towns) (gd_of (c := !(((((decide (9 < (r__Down.length : Int))) && (decide ((r__Down.length : Int) < 13))) || (decide (15 < (r__Down.length : Int)))) || (decide (15 < (r__Travel.length : Int)))) || (decide (10 < (r__Springs.length : Int))))) hg (.pointer (some ⟨b_1, 3, none⟩))) (ldb_sc Sc24 (H.blk (k := 0) rfl) rfl)) ?_
 have hl7z := (hs_r__Towns).len_le
 refine g_val (!(((((decide (9 < (r__Down.length : Int))) && (decide ((r__Down.length : Int) < 13))) || (decide (15 < (r__Down.length : Int)))) || (decide (15 < (r__Travel.length : Int)))) || (decide (10 < (r__Springs.length : Int))))) (gy_f rfl) (fun hg => x_lenS T24.und (gd_of (c := !(((((decide (9 < (r__Down.length : Int))) && (decide ((r__Down.length : Int) < 13))) || (decide (15 < (r__Down.length : Int)))) || (decide (15 < (r__Travel.length : Int)))) || (decide (10 < (r__Springs.length : Int))))) hg (v_r__Towns)) hs_r__Towns) ?_
 refine g_val (!(((((decide (9 < (r__Down.length : Int))) && (decide ((r__Down.length : Int) < 13))) || (decide (15 < (r__Down.length : Int)))) || (decide (15 < (r__Travel.length : Int)))) || (decide (10 < (r__Springs.length : Int))))) (gy_f rfl) (fun hg => x_cmp (kd := .i64) (a := (r__Towns.length : Int)) (b := 10) (r := decide (10 < (r__Towns.length : Int))) (gd_of (c := !(((((decide (9 < (r__Down.length : Int))) && (decide ((r__Down.length : Int) < 13))) || (decide (15 < (r__Down.length : Int)))) || (decide (15 < (r__Travel.length : Int)))) || (decide (10 < (r__Springs.length : Int))))) hg (I (r__Towns.length : Int))) rfl rfl) ?_
 refine s_val (x_por (b := (((((decide (9 < (r__Down.length : Int))) && (decide ((r__Down.length : Int) < 13))) || (decide (15 < (r__Down.length : Int)))) || (decide (15 < (r__Travel.length : Int)))) || (decide (10 < (r__Springs.length : Int))))) (r := decide (10 < (r__Towns.length : Int))) rfl rfl (fun hb => gd_of (c := !(((((decide (9 < (r__Down.length : Int))) && (decide ((r__Down.length : Int) < 13))) || (decide (15 < (r__Down.length : Int)))) || (decide (15 < (r__Travel.length : Int)))) || (decide (10 < (r__Springs.length : Int))))) (by first | exact hb | (rw [hb]; rfl) | simp_all) (B (decide (10 < (r__Towns.length : Int)))))) ?_
 refine s_val (x_mv (v := B ((((((decide (9 < (r__Down.length : Int))) && (decide ((r__Down.length : Int) < 13))) || (decide (15 < (r__Down.length : Int)))) || (decide (15 < (r__Travel.length : Int)))) || (decide (10 < (r__Springs.length : Int)))) || (decide (10 < (r__Towns.length : Int))))) rfl) ?_
 refine g_val (!((((((decide (9 < (r__Down.length : Int))) && (decide ((r__Down.length : Int) < 13))) || (decide (15 < (r__Down.length : Int)))) || (decide (15 < (r__Travel.length : Int)))) || (decide (10 < (r__Springs.length : Int)))) || (decide (10 < (r__Towns.length : Int))))) (gy_f rfl) (fun hg => x_fa (a := .pointer (some ⟨b_1, 0, none⟩)) (v := .pointer (some ⟨b_1, 6, none⟩)) rfl (fa_blk (o := 0) Fd29_5 Sz27)) ?_
 refine g_val (!((((((decide (9 < (r__Down.length : Int))) && (decide ((r__Down.length : Int) < 13))) || (decide (15 < (r__Down.length : Int)))) || (decide (15 < (r__Travel.length : Int)))) || (decide (10 < (r__Springs.length : Int)))) || (decide (10 < (r__Towns.length : Int))))) (gy_f rfl) (fun hg => x_ld (p := .pointer (some ⟨b_1, 6, none⟩)) (v := v_r__Floods) (gd_of (c := !((((((decide (9 < (r__Down.length : Int))) && (decide ((r__Down.length : Int) < 13))) || (decide (15 < (r__Down.length : Int)))) || (decide (15 < (r__Travel.length : Int)))) || (decide (10 < (r__Springs.length : Int)))) || (decide (10 < (r__Towns.length : Int))))) hg (.pointer (some ⟨b_1, 6, none⟩))) (ldb_sc Sc27 (H.blk (k := 0) rfl) rfl)) ?_
 have hl8z := (hs_r__Floods).len_le
 refine g_val (!((((((decide (9 < (r__Down.length : Int))) && (decide ((r__Down.length : Int) < 13))) || (decide (15 < (r__Down.length : Int)))) || (decide (15 < (r__Travel.length : Int)))) || (decide (10 < (r__Springs.length : Int)))) || (decide (10 < (r__Towns.length : Int))))) (gy_f rfl) (fun hg => x_lenS T27.und (gd_of (c := !((((((decide (9 < (r__Down.length : Int))) && (decide ((r__Down.length : Int) < 13))) || (decide (15 < (r__Down.length : Int)))) || (decide (15 < (r__Travel.length : Int)))) || (decide (10 < (r__Springs.length : Int)))) || (decide (10 < (r__Towns.length : Int))))) hg (v_r__Floods)) hs_r__Floods) ?_
 refine g_val (!((((((decide (9 < (r__Down.length : Int))) && (decide ((r__Down.length : Int) < 13))) || (decide (15 < (r__Down.length : Int)))) || (decide (15 < (r__Travel.length : Int)))) || (decide (10 < (r__Springs.length : Int)))) || (decide (10 < (r__Towns.length : Int))))) (gy_f rfl) (fun hg => x_cmp (kd := .i64) (a := (r__Floods.length : Int)) (b := 22) (r := decide (22 < (r__Floods.length : Int))) (gd_of (c := !((((((decide (9 < (r__Down.length : Int))) && (decide ((r__Down.length : Int) < 13))) || (decide (15 < (r__Down.length : Int)))) || (decide (15 < (r__Travel.length : Int)))) || (decide (10 < (r__Springs.length : Int)))) || (decide (10 < (r__Towns.length : Int))))) hg (I (r__Floods.length : Int))) rfl rfl) ?_
 refine s_val (x_por (b := ((((((decide (9 < (r__Down.length : Int))) && (decide ((r__Down.length : Int) < 13))) || (decide (15 < (r__Down.length : Int)))) || (decide (15 < (r__Travel.length : Int)))) || (decide (10 < (r__Springs.length : Int)))) || (decide (10 < (r__Towns.length : Int))))) (r := decide (22 < (r__Floods.length : Int))) rfl rfl (fun hb => gd_of (c := !((((((decide (9 < (r__Down.length : Int))) && (decide ((r__Down.length : Int) < 13))) || (decide (15 < (r__Down.length : Int)))) || (decide (15 < (r__Travel.length : Int)))) || (decide (10 < (r__Springs.length : Int)))) || (decide (10 < (r__Towns.length : Int))))) (by first | exact hb | (rw [hb]; rfl) | simp_all) (B (decide (22 < (r__Floods.length : Int)))))) ?_
 refine s_nil ?_
 refine W.cond (((((((decide (9 < (r__Down.length : Int))) && (decide ((r__Down.length : Int) < 13))) || (decide (15 < (r__Down.length : Int)))) || (decide (15 < (r__Travel.length : Int)))) || (decide (10 < (r__Springs.length : Int)))) || (decide (10 < (r__Towns.length : Int)))) || (decide (22 < (r__Floods.length : Int)))) rfl (fun c9z => ?_) (fun c9z => ?_)
 ·replace hM := M.e_t hM c9z
  refine W.seq ?_
  refine W.region rfl ?_
  refine s_val (x_as (v := B true) rfl) ?_
  refine s_nil ?_
  refine W.ret ?_
  have hr_ := M.e_pure hM
  exact ⟨_, resE_tmp rfl, ⟨true, hr_, rfl, (H.pk [])⟩⟩
 replace hM := M.e_f hM c9z
 refine W.skip ?_
 refine W.seq ?_
 refine W.seq ?_
 refine W.region rfl ?_
 refine s_val (x_as (v := I 0) rfl) ?_
 refine s_nil ?_
 refine W.block ?_
 obtain ⟨ex10z, hi11z, hk12z⟩ := M.e_bind hM
 obtain ⟨m0_, hi11z⟩ := M.e_iter hi11z
 refine W.loop (fun m σ W => ∃ (i : Nat) (ρ : Env), σ = upds ρ [(1, .pointer (some ⟨b_1, 0, none⟩)), (3, I (i : Int))] /\ M.iterN (zbm r__Floods) m i = some ex10z /\ St w W [cBlk b_1 [v_r__Down, v_r__Travel, v_r__Springs, v_r__Towns, I r__Delay_Lo, I r__Delay_Hi, v_r__Floods] 29] R) ?_ ?_
 ·exact ⟨_, 0, _, upds_of _ _ ⟨rfl, rfl, trivial⟩, hi11z, H⟩
 rintro m15z σ w13z ⟨i, ρ, rfl, hI14z, H⟩
 obtain ⟨m16z, lt17z, x18z, hM, hN19z⟩ := M.e_iterN hI14z
 simp only [zbm] at hM
 clear hI14z
 refine W.seq ?_
 refine W.seq ?_
 refine W.region rfl ?_
 refine s_val (x_mv (v := I (i : Int)) rfl) ?_
 refine s_val (x_fa (a := .pointer (some ⟨b_1, 0, none⟩)) (v := .pointer (some ⟨b_1, 6, none⟩)) rfl (fa_blk (o := 0) Fd29_5 Sz27)) ?_
 refine s_val (x_ld (p := .pointer (some ⟨b_1, 6, none⟩)) (v := v_r__Floods) rfl (ldb_sc Sc27 (H.blk (k := 0) rfl) rfl)) ?_
 have hl20z := (hs_r__Floods).len_le
 refine s_val (x_lenS T27.und rfl hs_r__Floods) ?_
 refine s_val (x_cmp (kd := .i64) (a := (i : Int)) (b := (r__Floods.length : Int)) (r := decide ((i : Int) < (r__Floods.length : Int))) rfl rfl rfl) ?_
 refine s_nil ?_
 refine W.cond (decide ((i : Int) < (r__Floods.length : Int))) rfl (fun c21z => ?_) (fun c21z => ?_)
 ·replace hM := M.e_t hM c21z
  simp only [decide_eq_true_eq, decide_eq_false_iff_not, beq_iff_eq, bne_iff_ne, beq_eq_false_iff_ne, bne_eq_false_iff_eq, ne_eq, Decidable.not_not] at c21z
  refine W.skip ?_
  refine W.seq ?_
  refine W.block ?_
  refine W.seq ?_
  refine W.region rfl ?_
  refine s_val (x_fa (a := .pointer (some ⟨b_1, 0, none⟩)) (v := .pointer (some ⟨b_1, 6, none⟩)) rfl (fa_blk (o := 0) Fd29_5 Sz27)) ?_
  refine s_val (x_ld (p := .pointer (some ⟨b_1, 6, none⟩)) (v := v_r__Floods) rfl (ldb_sc Sc27 (H.blk (k := 0) rfl) rfl)) ?_
  refine s_val (x_mv (v := I (i : Int)) rfl) ?_
  obtain ⟨sd22z, hM⟩ := M.e_grd hM
  simp only [Bool.and_eq_true, decide_eq_true_eq] at sd22z
  refine s_val (x_ix (a := v_r__Floods) (b := I (i : Int)) (v := vat v_r__Floods 2 (Int.toNat (i : Int))) rfl rfl (Sl.ix (α := Flood) T27.und T27.size hs_r__Floods (by omega) (by omega))) ?_
  refine s_val (x_fa (a := vat v_r__Floods 2 (Int.toNat (i : Int))) (v := fat (vat v_r__Floods 2 (Int.toNat (i : Int))) 1) rfl (fa_pl Fd85_1 Sz22 (Sl.pl (i := (i : Int)) hs_r__Floods (by omega) (by omega)))) ?_
  obtain ⟨u23z, ha_u23z, hs24z⟩ := Flood_at1 hs_r__Floods (i := (i : Int)) (by omega) (by omega)
  replace hs24z : Sl _ u23z (r__Floods.getD i default).stages := hs24z
  have hl_hs24z := hs24z.len_le
  refine s_val (x_ld (p := fat (vat v_r__Floods 2 (Int.toNat (i : Int))) 1) (v := u23z) rfl (ld_sc Sc22 (At.mono (ha_u23z) (hC_r__Floods.at H)))) ?_
  have hl25z := (hs24z).len_le
  refine s_val (x_lenS T22.und rfl hs24z) ?_
  refine s_val (x_cmp (kd := .i64) (a := (((r__Floods.getD i default).stages).length : Int)) (b := 15) (r := decide (15 < (((r__Floods.getD i default).stages).length : Int))) rfl rfl rfl) ?_
  refine s_nil ?_
  refine W.cond (decide (15 < (((r__Floods.getD i default).stages).length : Int))) rfl (fun c26z => ?_) (fun c26z => ?_)
  ·replace hM := M.e_t hM c26z
   simp only [decide_eq_true_eq, decide_eq_false_iff_not, beq_iff_eq, bne_iff_ne, beq_eq_false_iff_ne, bne_eq_false_iff_eq, ne_eq, Decidable.not_not] at c26z
   refine W.seq ?_
   refine W.region rfl ?_
   refine s_val (x_as (v := B true) rfl) ?_
   refine s_nil ?_
   refine W.ret ?_
   have hX27z := M.e_inr hM hN19z
   subst hX27z
   replace hM := hk12z
   try dsimp only at hM
   have hr_ := M.e_pure hM
   exact ⟨_, resE_tmp rfl, ⟨true, hr_, rfl, (H.pk [])⟩⟩
  replace hM := M.e_f hM c26z
  simp only [decide_eq_true_eq, decide_eq_false_iff_not, beq_iff_eq, bne_iff_ne, beq_eq_false_iff_ne, bne_eq_false_iff_eq, ne_eq, Decidable.not_not] at c26z
  refine W.skip ?_
  refine W.region rfl ?_
  refine s_val (x_mv (v := I (i : Int)) rfl) ?_
  refine s_val (x_ari (a := (i : Int)) (b := 1) (r := (i : Int) + 1) rfl rfl rfl (by omega)) ?_
  refine s_val (x_as (v := I ((i : Int) + 1)) rfl) ?_
  refine s_nil ?_
  exact ⟨m16z, lt17z, i + 1, _, upds_of _ _ ⟨rfl, rfl, trivial⟩, M.e_inl hM hN19z, H⟩
 replace hM := M.e_f hM c21z
 simp only [decide_eq_true_eq, decide_eq_false_iff_not, beq_iff_eq, bne_iff_ne, beq_eq_false_iff_ne, bne_eq_false_iff_eq, ne_eq, Decidable.not_not] at c21z
 refine W.exit ?_
 have hX28z := M.e_inr hM hN19z
 subst hX28z
 replace hM := hk12z
 try dsimp only at hM
 refine W.seq ?_
 refine W.region rfl ?_
 refine s_val (x_as (v := B false) rfl) ?_
 refine s_nil ?_
 refine W.ret ?_
 have hr_ := M.e_pure hM
 exact ⟨_, resE_tmp rfl, ⟨false, hr_, rfl, (H.pk [])⟩⟩

end Go.Proofs.YtbaehghammbjdaaGreat
end
