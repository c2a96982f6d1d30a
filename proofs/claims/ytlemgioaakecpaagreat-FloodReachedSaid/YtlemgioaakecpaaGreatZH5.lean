/- Part 5 of the texts on which the proof rests. Conditions: none. -/
import Derived.KernelRfl
import Derived.Test.YtlemgioaakecpaaGreatZH4
set_option linter.unusedVariables false
set_option linter.unusedSimpArgs false
set_option linter.unusedSectionVars false
section
set_option maxRecDepth 100000
set_option maxHeartbeats 16000000
namespace Go.Proofs.YtlemgioaakecpaaGreat
open Go Go.Nm
def zbo (place : Int) (lo : Int) (hi : Int) : M (Int × Int × Int) :=
  M.pure (place, lo, hi)
theorem zb0 {R : List Chunk}  (place : Int) (lo : Int) (hi : Int)  {r : (Int × Int × Int)} (hM : (zbo place lo hi).Ends r) (w : World) (H : St w w [] R) : Ret Tryz.prog 61 #[I place, I lo, I hi] w fun v w' => ∃ (y0 : Int) (y1 : Int) (y2 : Int), (y0, y1, y2) = r /\ v = .agg #[I y0, I y1, I y2] /\ St w w' [] R := by
 refine ret_of_W Tryz.func61 rfl rfl rfl ?_
 refine W.seq ?_
 refine W.region rfl ?_
 refine t_alloc (cs := [I 0, I 0, I 0]) H Al70 rfl ?_
 intro ac ae H
 refine s_nil ?_
 refine W.seq ?_
 refine W.region rfl ?_
 refine zM (I place) rfl ?_
 refine zM (I lo) rfl ?_
 refine zM (I hi) rfl ?_
 refine s_val (x_bld (ps := [(0, I lo), (1, I hi)]) (zs := [I 0, I 0]) (L' := [I lo, I hi]) rfl Tryz.underlying54 Al54 rfl (Bd54 Tryz.underlying54) (.cons (cs := [I lo]) rfl rfl rfl rfl rfl <| .cons (cs := [I hi]) rfl rfl rfl rfl rfl <| .nil)) ?_
 refine s_val (x_bld (ps := [(0, I place), (1, .agg #[I lo, I hi])]) (zs := [I 0, I 0, I 0]) (L' := [I place, I lo, I hi]) rfl Tryz.underlying70 Al70 rfl (Bd70 Tryz.underlying70) (.cons (cs := [I place]) rfl rfl rfl rfl rfl <| .cons (cs := [I lo, I hi]) rfl rfl rfl rfl rfl <| .nil)) ?_
 refine t_sw 0 0 [I place, I lo, I hi] (.agg #[I place, I lo, I hi]) H rfl rfl Sz70 rfl rfl rfl rfl ?_
 intro ag H
 refine s_nil ?_
 refine W.ret ?_
 have aa := (H.bl 0)
 have ab := M.e_pure hM
 exact ⟨_, (resE_of1 (v := .agg #[I place, I lo, I hi]) rfl (.cell (v := .agg #[I place, I lo, I hi]) rfl (run_loadVar_ag (ds := [I place, I lo, I hi]) Ag70 Sz70 aa rfl rfl) <| .nil)), ⟨place, lo, hi, ab, rfl, (H.pk [])⟩⟩

def za2 (marks : List Mrk) : M ((List Sect) × (List Mrk) × (List Rch)) :=
  M.bind (zbo 0 150 160) fun (r0, r1, r2) =>
  M.bind (zbo 100 100 110) fun (aa, ab, ac) =>
  M.grd (decide ((([(⟨(r0 : Int), (r1 : Int), (r2 : Int)⟩ : Mrk), (⟨(aa : Int), (ab : Int), (ac : Int)⟩ : Mrk)]).length + marks.length) * 24 <= 140737488355328)) <|
  M.pure (([(⟨(0 : Int), ([(⟨(0 : Int), (0 : Int)⟩ : FRow), (⟨(200 : Int), (2000 : Int)⟩ : FRow)])⟩ : Sect), (⟨(100 : Int), ([(⟨(0 : Int), (0 : Int)⟩ : FRow), (⟨(200 : Int), (2000 : Int)⟩ : FRow)])⟩ : Sect)]), (([(⟨(r0 : Int), (r1 : Int), (r2 : Int)⟩ : Mrk), (⟨(aa : Int), (ab : Int), (ac : Int)⟩ : Mrk)]) ++ marks), ([(⟨(0 : Int), (1 : Int), (50 : Int), (100 : Int), false⟩ : Rch)]))
theorem zbe {R : List Chunk} {aq : Cells} {ao : Value} (marks : List Mrk) (ay : Reads R aq) (az : Sl aq ao marks) {r : ((List Sect) × (List Mrk) × (List Rch))} (hM : (za2 marks).Ends r) (w : World) (H : St w w [] R) : Ret Tryz.prog 60 #[ao] w fun v w' => ∃ (y0 : List Sect) (y1 : List Mrk) (y2 : List Rch) (u0 : Value) (rr1 : List (Raw 1)) (au : Base) (u3 : Value) (u4 : Value), (y0, y1, y2) = r /\ v = .agg #[u0, u3, u4] /\ St w w' [cOwn (α := Raw 1) 68 u0 rr1, cRo au, cOwn (α := Mrk) 70 u3 y1, cOwn (α := Rch) 58 u4 y2] R /\ RepR (α := Sect) au.cells rr1 y0 := by
 refine ret_of_W Tryz.func60 rfl rfl rfl ?_
 refine W.seq ?_
 refine W.region rfl ?_
 refine t_alloc (cs := [.slice none 0 0, .slice none 0 0, .slice none 0 0]) H Al27 rfl ?_
 intro aJ aK H
 refine s_nil ?_
 refine W.seq ?_
 refine W.region rfl ?_
 refine s_val (x_bld (ps := []) (zs := [I 0, I 0]) (L' := [I 0, I 0]) rfl Tryz.underlying109 Al109 rfl (Bd109 Tryz.underlying109) (.nil)) ?_
 refine s_val (x_bld (ps := [(0, I 200), (1, I 2000)]) (zs := [I 0, I 0]) (L' := [I 200, I 2000]) rfl Tryz.underlying109 Al109 rfl (Bd109 Tryz.underlying109) (.cons (cs := [I 200]) rfl rfl rfl rfl rfl <| .cons (cs := [I 2000]) rfl rfl rfl rfl rfl <| .nil)) ?_
 refine t_bs (α := FRow) T66 [.agg #[I 0, I 0], .agg #[I 200, I 2000]] [(⟨(0 : Int), (0 : Int)⟩ : FRow), (⟨(200 : Int), (2000 : Int)⟩ : FRow)] H rfl (.cons rfl (Flat.rep_enc _ (⟨(0 : Int), (0 : Int)⟩ : FRow)) <| .cons rfl (Flat.rep_enc _ (⟨(200 : Int), (2000 : Int)⟩ : FRow)) <| .nil) rfl rfl rfl ?_
 intro aa aL H
 refine zA aa rfl ?_
 refine s_nil ?_
 refine W.seq ?_
 refine W.region rfl ?_
 refine zM aa rfl ?_
 refine s_val (x_bld (ps := [(1, aa)]) (zs := [I 0, .slice none 0 0]) (L' := [I 0, aa]) rfl Tryz.underlying68 Al68 rfl (Bd68 Tryz.underlying68) (.cons (cs := [aa]) (Sl.cells (H.os 0)) rfl rfl rfl rfl <| .nil)) ?_
 refine zM aa rfl ?_
 refine s_val (x_bld (ps := [(0, I 100), (1, aa)]) (zs := [I 0, .slice none 0 0]) (L' := [I 100, aa]) rfl Tryz.underlying68 Al68 rfl (Bd68 Tryz.underlying68) (.cons (cs := [I 100]) rfl rfl rfl rfl rfl <| .cons (cs := [aa]) (Sl.cells (H.os 0)) rfl rfl rfl rfl <| .nil)) ?_
 obtain ⟨aM, H⟩ := H.emptyE
 obtain ⟨aN, H, aA⟩ := H.freezeE (k := 1) rfl
 replace H := H.nf
 have ag := aA
 obtain ⟨av, H, aO, aB⟩ := H.joinE (i := 0) (j := 1) rfl rfl
 replace ag := ag.mono aB
 obtain ⟨ak, aw⟩ : ∃ r : Raw 1, r.cs = [I 0, aa] := ⟨Raw.of [I 0, aa] rfl (by simp only [List.all_cons, List.all_nil, Bool.true_and, Bool.and_true, Sl.oc ag]; try rfl), rfl⟩
 obtain ⟨al, ax⟩ : ∃ r : Raw 1, r.cs = [I 100, aa] := ⟨Raw.of [I 100, aa] rfl (by simp only [List.all_cons, List.all_nil, Bool.true_and, Bool.and_true, Sl.oc ag]; try rfl), rfl⟩
 have ap : RepR (α := Sect) av.cells [ak, al] [(⟨(0 : Int), ([(⟨(0 : Int), (0 : Int)⟩ : FRow), (⟨(200 : Int), (2000 : Int)⟩ : FRow)])⟩ : Sect), (⟨(100 : Int), ([(⟨(0 : Int), (0 : Int)⟩ : FRow), (⟨(200 : Int), (2000 : Int)⟩ : FRow)])⟩ : Sect)] := .cons (by rw [aw]; exact ⟨_, rfl, ag⟩) <| .cons (by rw [ax]; exact ⟨_, rfl, ag⟩) <| .nil
 refine t_bs (α := Raw 1) T23 [.agg #[I 0, aa], .agg #[I 100, aa]] [ak, al] H rfl (.cons (by rw [show (Flat.enc ak : List Value) = ak.cs from rfl, aw]; rfl) (Flat.rep_enc _ _) <| .cons (by rw [show (Flat.enc al : List Value) = al.cs from rfl, ax]; rfl) (Flat.rep_enc _ _) <| .nil) rfl rfl rfl ?_
 intro ab aP H
 replace H := H.nf
 obtain ⟨aQ, aC, hM⟩ := M.e_bind hM
 refine s_call cf61 [I 0, I 150, I 160] rfl (zb0 0 150 160 aC _ (H.gt 5)) ?_
 rintro vq aR ⟨r0, r1, r2, aD, hvq, am⟩
 subst aD
 subst vq
 try dsimp only at hM
 replace H := H.bk am
 clear am
 obtain ⟨aS, aE, hM⟩ := M.e_bind hM
 refine s_call cf61 [I 100, I 100, I 110] rfl (zb0 100 100 110 aE _ (H.gt 5)) ?_
 rintro vq aT ⟨ah, ai, aj, aF, hvq, am⟩
 subst aF
 subst vq
 try dsimp only at hM
 replace H := H.bk am
 clear am
 refine t_bs (α := Mrk) T24 [.agg #[I r0, I r1, I r2], .agg #[I ah, I ai, I aj]] [(⟨(r0 : Int), (r1 : Int), (r2 : Int)⟩ : Mrk), (⟨(ah : Int), (ai : Int), (aj : Int)⟩ : Mrk)] H rfl (.cons rfl (Flat.rep_enc _ (⟨(r0 : Int), (r1 : Int), (r2 : Int)⟩ : Mrk)) <| .cons rfl (Flat.rep_enc _ (⟨(ah : Int), (ai : Int), (aj : Int)⟩ : Mrk)) <| .nil) rfl rfl rfl ?_
 intro aU aV H
 refine zM ao rfl ?_
 obtain ⟨aG, hM⟩ := M.e_grd hM
 simp only [Bool.and_eq_true, decide_eq_true_eq] at aG
 refine t_app (α := Mrk) (k := 0) (l := [(⟨(r0 : Int), (r1 : Int), (r2 : Int)⟩ : Mrk), (⟨(ah : Int), (ai : Int), (aj : Int)⟩ : Mrk)]) (l2 := marks) (l' := ([(⟨(r0 : Int), (r1 : Int), (r2 : Int)⟩ : Mrk), (⟨(ah : Int), (ai : Int), (aj : Int)⟩ : Mrk)]) ++ marks) (vy := ao) T24 rfl H rfl rfl rfl az (ay.at H) (rfl) (by first | omega | (simp only [List.length_nil] at *; omega)) ?_
 intro ac aW H
 replace H := H.nf
 refine s_val (x_bld (ps := [(0, I 50), (1, I 100)]) (zs := [I 0, I 0]) (L' := [I 50, I 100]) rfl Tryz.underlying54 Al54 rfl (Bd54 Tryz.underlying54) (.cons (cs := [I 50]) rfl rfl rfl rfl rfl <| .cons (cs := [I 100]) rfl rfl rfl rfl rfl <| .nil)) ?_
 refine s_val (x_bld (ps := [(1, I 1), (2, .agg #[I 50, I 100])]) (zs := [I 0, I 0, I 0, I 0, B false]) (L' := [I 0, I 1, I 50, I 100, B false]) rfl Tryz.underlying58 Al58 rfl (Bd58 Tryz.underlying58) (.cons (cs := [I 1]) rfl rfl rfl rfl rfl <| .cons (cs := [I 50, I 100]) rfl rfl rfl rfl rfl <| .nil)) ?_
 refine t_bs (α := Rch) T25 [.agg #[I 0, I 1, I 50, I 100, B false]] [(⟨(0 : Int), (1 : Int), (50 : Int), (100 : Int), false⟩ : Rch)] H rfl (.cons rfl (Flat.rep_enc _ (⟨(0 : Int), (1 : Int), (50 : Int), (100 : Int), false⟩ : Rch)) <| .nil) rfl rfl rfl ?_
 intro ae aX H
 refine s_val (x_bld (ps := [(0, ab), (1, ac), (2, ae)]) (zs := [.slice none 0 0, .slice none 0 0, .slice none 0 0]) (L' := [ab, ac, ae]) rfl Tryz.underlying27 Al27 rfl (Bd27 Tryz.underlying27) (.cons (cs := [ab]) (Sl.cells (rowSl rfl (H.get (k := 2) rfl) (roLe _ (H.get (k := 3) rfl)) ap)) rfl rfl rfl rfl <| .cons (cs := [ac]) (Sl.cells (H.os 1)) rfl rfl rfl rfl <| .cons (cs := [ae]) (Sl.cells (H.os 0)) rfl rfl rfl rfl <| .nil)) ?_
 refine t_sw 6 0 [ab, ac, ae] (.agg #[ab, ac, ae]) H rfl rfl Sz27 rfl rfl rfl (by simp only [List.all_cons, List.all_nil, Bool.true_and, Bool.and_true, Sl.oc (rowSl rfl (H.get (k := 2) rfl) (roLe _ (H.get (k := 3) rfl)) ap), Sl.oc (H.os 1), Sl.oc (H.os 0)]; try rfl) ?_
 intro aY H
 refine s_nil ?_
 replace H := H.pk [0, 1, 2, 3, 6]
 refine W.ret ?_
 have aH := (H.bl 4)
 have aI := M.e_pure hM
 exact ⟨_, (resE_of1 (v := .agg #[ab, ac, ae]) rfl (.cell (v := .agg #[ab, ac, ae]) rfl (run_loadVar_ag (ds := [ab, ac, ae]) Ag27 Sz27 aH rfl rfl) <| .nil)), ⟨([(⟨(0 : Int), ([(⟨(0 : Int), (0 : Int)⟩ : FRow), (⟨(200 : Int), (2000 : Int)⟩ : FRow)])⟩ : Sect), (⟨(100 : Int), ([(⟨(0 : Int), (0 : Int)⟩ : FRow), (⟨(200 : Int), (2000 : Int)⟩ : FRow)])⟩ : Sect)]), (([(⟨(r0 : Int), (r1 : Int), (r2 : Int)⟩ : Mrk), (⟨(ah : Int), (ai : Int), (aj : Int)⟩ : Mrk)]) ++ marks), ([(⟨(0 : Int), (1 : Int), (50 : Int), (100 : Int), false⟩ : Rch)]), ab, [ak, al], av, ac, ae, aI, rfl, (H.pk [2, 3, 1, 0]), ap⟩⟩

def zbL : M Bool :=
  M.bind (za2 ([] : List Mrk)) fun (r0, r1, r2) =>
  M.bind (zar r0 r1 r2 ([(0 : Int), (1 : Int)]) 0) fun (ah, ai, aj) =>
  M.bind (za2 ([] : List Mrk)) fun (az, aA, aB) =>
  M.bind (zaU az aA aB 0 (⟨(160 : Int), (110 : Int), (50 : Int), (50 : Int)⟩ : Cas)) fun (ak, al) =>
  M.bind (za2 ([] : List Mrk)) fun (aC, aD, ag) =>
  M.grd (decide (0 < (ag.length : Int))) <|
  M.bind (zar aC aD (ag.set 0 ({ (ag.getD 0 default) with narrow := true })) ([(0 : Int), (1 : Int)]) 0) fun (aH, am, ao) =>
  M.bind (zbo 50 170 180) fun (aE, aF, aG) =>
  M.bind (za2 ([(⟨(aE : Int), (aF : Int), (aG : Int)⟩ : Mrk)])) fun (aa, ab, ac) =>
  M.bind (zcy aa ab ac 0 2) fun (ap, aq) =>
  M.bind (zcr aa ab ac) fun (au, av) =>
  M.bind (zcx aa ab ac 2 ([[(0 : Int), (2 : Int)], [(1 : Int)]])) fun (aw, ax) =>
  M.bind (zaX aa ab ac ([(1 : Int), (2 : Int)])) fun (ae, ay) =>
  M.grd ((!((((((((((((((aj == 0) && (al == 0)) && (ao == 0)) && (aq == 0)) && (av == 0)) && (ax == 0)) && (ay == 0)) && (decide ((⟨(ah : Int), (ai : Int)⟩ : Span) = (⟨(812 : Int), (1959 : Int)⟩ : Span)))) && (ak == 1876)) && (am == 1557)) && ap) && ((au.length : Int) == 2)) && aw) && ((ae.length : Int) == 2)) || (decide (0 < (ae.length : Int))))) <|
  M.pure (((((((((((((((aj == 0) && (al == 0)) && (ao == 0)) && (aq == 0)) && (av == 0)) && (ax == 0)) && (ay == 0)) && (decide ((⟨(ah : Int), (ai : Int)⟩ : Span) = (⟨(812 : Int), (1959 : Int)⟩ : Span)))) && (ak == 1876)) && (am == 1557)) && ap) && ((au.length : Int) == 2)) && aw) && ((ae.length : Int) == 2)) && (decide ((ae.getD 0 default) = (⟨(170 : Int), (2000 : Int)⟩ : Span))))
theorem zc9 {R : List Chunk}    {r : Bool} (hM : (zbL).Ends r) (w : World) (H : St w w [] R) : Ret Tryz.prog 16 #[] w fun v w' => ∃ (y0 : Bool), y0 = r /\ v = B y0 /\ St w w' [] R := by
 refine ret_of_W Tryz.func16 rfl rfl rfl ?_
 refine W.seq ?_
 refine W.region rfl ?_
 refine zA (B false) rfl ?_
 refine s_nil ?_
 refine W.seq ?_
 refine W.region rfl ?_
 refine t_bs (α := Int) T28 [I 0, I 1] [(0 : Int), (1 : Int)] H rfl (.cons rfl (Flat.rep_enc _ (0 : Int)) <| .cons rfl (Flat.rep_enc _ (1 : Int)) <| .nil) rfl rfl rfl ?_
 intro aJ b9 H
 refine zA aJ rfl ?_
 refine s_nil ?_
 refine W.seq ?_
 refine W.region rfl ?_
 obtain ⟨cb, bc, hM⟩ := M.e_bind hM
 refine s_call cf60 [.slice none 0 0] rfl (zbe ([] : List Mrk) Reads.none (Sl.nil (fun _ => none)) bc _ (H.gt 1)) ?_
 rintro vq cc ⟨r0, r1, r2, bf, cd, ce, bg, bh, bi, hvq, ap, bj⟩
 subst bi
 subst vq
 try dsimp only at hM
 replace H := H.bk ap
 clear ap
 refine zM aJ rfl ?_
 obtain ⟨cf, bm, hM⟩ := M.e_bind hM
 refine s_call cf20 [.agg #[bf, bg, bh], aJ, I 0] rfl (zaj r0 r1 r2 ([(0 : Int), (1 : Int)]) 0 (Reads.sup (rdo 0) (Reads.of (k := 1) rfl roLe)) (rowSl rfl (H.get (k := 0) rfl) (roLe _ (H.get (k := 1) rfl)) bj) (rdo 2) (H.os 2) (rdo 3) (H.os 3) (rdo 4) (H.os 4) bm _ (H.gt 5)) ?_
 rintro vq cg ⟨aj, ak, aa, bn, hvq, ap⟩
 subst bn
 subst vq
 try dsimp only at hM
 replace H := H.bk ap
 clear ap
 refine zM (.tuple #[.agg #[I aj, I ak], I aa]) rfl ?_
 refine zX [.agg #[I aj, I ak], I aa] (.agg #[I aj, I ak]) rfl rfl ?_
 refine zX [.agg #[I aj, I ak], I aa] (I aa) rfl rfl ?_
 refine t_alloc (cs := [I 0, I 0]) H Al54 rfl ?_
 intro a6 ch H
 refine t_sw 0 0 [I aj, I ak] (.agg #[I aj, I ak]) H rfl rfl Sz54 rfl rfl rfl rfl ?_
 intro ci H
 refine zA (I aa) rfl ?_
 refine s_nil ?_
 replace H := H.pk [0, 5]
 refine W.seq ?_
 refine W.region rfl ?_
 obtain ⟨cj, bo, hM⟩ := M.e_bind hM
 refine s_call cf60 [.slice none 0 0] rfl (zbe ([] : List Mrk) Reads.none (Sl.nil (fun _ => none)) bo _ (H.gt 2)) ?_
 rintro vq ck ⟨bp, bq, br, bt, cn, co, bu, bv, bw, hvq, ap, bx⟩
 subst bw
 subst vq
 try dsimp only at hM
 replace H := H.bk ap
 clear ap
 refine s_val (x_bld (ps := [(0, I 160), (1, I 110), (2, I 50), (3, I 50)]) (zs := [I 0, I 0, I 0, I 0]) (L' := [I 160, I 110, I 50, I 50]) rfl Tryz.underlying61 Al61 rfl (Bd61 Tryz.underlying61) (.cons (cs := [I 160]) rfl rfl rfl rfl rfl <| .cons (cs := [I 110]) rfl rfl rfl rfl rfl <| .cons (cs := [I 50]) rfl rfl rfl rfl rfl <| .cons (cs := [I 50]) rfl rfl rfl rfl rfl <| .nil)) ?_
 obtain ⟨cp, bz, hM⟩ := M.e_bind hM
 refine s_call cf22 [.agg #[bt, bu, bv], I 0, .agg #[I 160, I 110, I 50, I 50]] rfl (zct bp bq br 0 (⟨(160 : Int), (110 : Int), (50 : Int), (50 : Int)⟩ : Cas) (Reads.sup (rdo 0) (Reads.of (k := 1) rfl roLe)) (rowSl rfl (H.get (k := 0) rfl) (roLe _ (H.get (k := 1) rfl)) bx) (rdo 2) (H.os 2) (rdo 3) (H.os 3) bz _ (H.gt 6)) ?_
 rintro vq cq ⟨al, ab, bA, hvq, ap⟩
 subst bA
 subst vq
 try dsimp only at hM
 replace H := H.bk ap
 clear ap
 refine zM (.tuple #[I al, I ab]) rfl ?_
 refine zX [I al, I ab] (I al) rfl rfl ?_
 refine zX [I al, I ab] (I ab) rfl rfl ?_
 refine zA (I al) rfl ?_
 refine zA (I ab) rfl ?_
 refine s_nil ?_
 replace H := H.pk [4, 5]
 refine W.seq ?_
 refine W.region rfl ?_
 obtain ⟨cr, bB, hM⟩ := M.e_bind hM
 refine s_call cf60 [.slice none 0 0] rfl (zbe ([] : List Mrk) Reads.none (Sl.nil (fun _ => none)) bB _ (H.gt 2)) ?_
 rintro vq ct ⟨bC, a7, aB, aD, bD, bE, aE, aC, bF, hvq, ap, a8⟩
 subst bF
 subst vq
 try dsimp only at hM
 replace H := H.bk ap
 clear ap
 refine t_alloc (cs := [.slice none 0 0, .slice none 0 0, .slice none 0 0]) H Al27 rfl ?_
 intro aL cu H
 refine t_sw 0 0 [aD, aE, aC] (.agg #[aD, aE, aC]) H rfl rfl Sz27 rfl rfl rfl (by simp only [List.all_cons, List.all_nil, Bool.true_and, Bool.and_true, Sl.oc (rowSl rfl (H.get (k := 1) rfl) (roLe _ (H.get (k := 2) rfl)) a8), Sl.oc (H.os 3), Sl.oc (H.os 4)]; try rfl) ?_
 intro cv H
 refine s_nil ?_
 refine W.seq ?_
 refine W.region rfl ?_
 refine s_val (x_fa (a := Pq aL) (v := Oq aL 2) rfl (fa_blk (o := 0) Fd27_2 Sz25)) ?_
 refine s_val (x_ld (p := Oq aL 2) (v := aC) rfl (ldb_sc Sc25 (H.bl 0) rfl)) ?_
 obtain ⟨bG, hM⟩ := M.e_grd hM
 simp only [Bool.and_eq_true, decide_eq_true_eq] at bG
 refine s_val (x_ix (a := aC) (b := I 0) (v := vat aC 5 (Int.toNat 0)) rfl rfl (Sl.ix (α := Rch) T25.und T25.size (H.os 4) (by omega) (by omega))) ?_
 refine s_val (x_fa (a := vat aC 5 (Int.toNat 0)) (v := fat (vat aC 5 (Int.toNat 0)) 4) rfl (fa_pl Fd58_3 Sz4 (Sl.pl (i := 0) (H.os 4) (by omega) (by omega)))) ?_
 refine t_fst (α := Rch) (k := 4) (i := 0) (off := 4) (l := aB) (l' := aB.set 0 ({ (aB.getD 0 default) with narrow := true })) (val := B true) (L' := [cBlk aL [aD, aE, aC] 27, cOwn (α := Raw 1) 68 aD bD, cRo bE, cOwn (α := Mrk) 70 aE a7, cOwn (α := Rch) 58 aC (aB.set 0 ({ (aB.getD 0 default) with narrow := true })), cBlk a6 [I aj, I ak] 54, cOwn (α := Int) 3 aJ ([(0 : Int), (1 : Int)])]) H rfl Sz4 (by omega) (by omega) (aB.getD 0 default) ({ (aB.getD 0 default) with narrow := true }) (getD_some _ (by omega) _) rfl rfl [B true] rfl rfl rfl rfl rfl rfl rfl ?_
 intro cw H
 have cx : (aB.set 0 ({ (aB.getD 0 default) with narrow := true })).length = (aB).length := List.length_set
 refine s_nil ?_
 refine W.seq ?_
 refine W.region rfl ?_
 refine s_val (x_ld (p := Pq aL) (v := .agg #[aD, aE, aC]) rfl (ldb_ag (ds := [aD, aE, aC]) Ag27 Sz27 (H.bl 0) rfl rfl)) ?_
 refine zM aJ rfl ?_
 obtain ⟨cy, bH, hM⟩ := M.e_bind hM
 refine s_call cf20 [.agg #[aD, aE, aC], aJ, I 0] rfl (zaj bC a7 (aB.set 0 ({ (aB.getD 0 default) with narrow := true })) ([(0 : Int), (1 : Int)]) 0 (Reads.sup (rdo 1) (Reads.of (k := 2) rfl roLe)) (rowSl rfl (H.get (k := 1) rfl) (roLe _ (H.get (k := 2) rfl)) a8) (rdo 3) (H.os 3) (rdo 4) (H.os 4) (rdo 6) (H.os 6) bH _ (H.gt 7)) ?_
 rintro vq cz ⟨aK, am, ac, bI, hvq, ap⟩
 subst bI
 subst vq
 try dsimp only at hM
 replace H := H.bk ap
 clear ap
 refine zM (.tuple #[.agg #[I aK, I am], I ac]) rfl ?_
 refine zX [.agg #[I aK, I am], I ac] (.agg #[I aK, I am]) rfl rfl ?_
 refine zX [.agg #[I aK, I am], I ac] (I ac) rfl rfl ?_
 refine t_alloc (cs := [I 0, I 0]) H Al54 rfl ?_
 intro aO cA H
 refine t_sw 0 0 [I aK, I am] (.agg #[I aK, I am]) H rfl rfl Sz54 rfl rfl rfl rfl ?_
 intro cB H
 refine zA (I ac) rfl ?_
 refine s_nil ?_
 replace H := H.pk [0, 6]
 refine W.seq ?_
 refine W.region rfl ?_
 obtain ⟨cC, bJ, hM⟩ := M.e_bind hM
 refine s_call cf61 [I 50, I 170, I 180] rfl (zb0 50 170 180 bJ _ (H.gt 2)) ?_
 rintro vq cD ⟨aP, aQ, aR, bK, hvq, ap⟩
 subst bK
 subst vq
 try dsimp only at hM
 replace H := H.bk ap
 clear ap
 refine t_bs (α := Mrk) T24 [.agg #[I aP, I aQ, I aR]] [(⟨(aP : Int), (aQ : Int), (aR : Int)⟩ : Mrk)] H rfl (.cons rfl (Flat.rep_enc _ (⟨(aP : Int), (aQ : Int), (aR : Int)⟩ : Mrk)) <| .nil) rfl rfl rfl ?_
 intro bL cE H
 obtain ⟨cF, bM, hM⟩ := M.e_bind hM
 refine s_call cf60 [bL] rfl (zbe ([(⟨(aP : Int), (aQ : Int), (aR : Int)⟩ : Mrk)]) (rdo 0) (H.os 0) bM _ (H.gt 3)) ?_
 rintro vq cG ⟨aS, aT, aU, ax, cH, cI, ay, az, bN, hvq, ap, aM⟩
 subst bN
 subst vq
 try dsimp only at hM
 replace H := H.bk ap
 clear ap
 refine t_alloc (cs := [.slice none 0 0, .slice none 0 0, .slice none 0 0]) H Al27 rfl ?_
 intro aV cJ H
 refine t_sw 0 0 [ax, ay, az] (.agg #[ax, ay, az]) H rfl rfl Sz27 rfl rfl rfl (by simp only [List.all_cons, List.all_nil, Bool.true_and, Bool.and_true, Sl.oc (rowSl rfl (H.get (k := 1) rfl) (roLe _ (H.get (k := 2) rfl)) aM), Sl.oc (H.os 3), Sl.oc (H.os 4)]; try rfl) ?_
 intro cK H
 refine s_nil ?_
 refine W.seq ?_
 refine W.region rfl ?_
 refine s_val (x_ld (p := Pq aV) (v := .agg #[ax, ay, az]) rfl (ldb_ag (ds := [ax, ay, az]) Ag27 Sz27 (H.bl 0) rfl rfl)) ?_
 obtain ⟨cL, bO, hM⟩ := M.e_bind hM
 refine s_call cf30 [.agg #[ax, ay, az], I 0, I 2] rfl (zdl aS aT aU 0 2 (Reads.sup (rdo 1) (Reads.of (k := 2) rfl roLe)) (rowSl rfl (H.get (k := 1) rfl) (roLe _ (H.get (k := 2) rfl)) aM) (rdo 3) (H.os 3) (rdo 4) (H.os 4) bO _ (H.gt 8)) ?_
 rintro vq cM ⟨ao, ae, bP, hvq, ap⟩
 subst bP
 subst vq
 try dsimp only at hM
 replace H := H.bk ap
 clear ap
 refine zM (.tuple #[B ao, I ae]) rfl ?_
 refine zX [B ao, I ae] (B ao) rfl rfl ?_
 refine zX [B ao, I ae] (I ae) rfl rfl ?_
 refine zA (B ao) rfl ?_
 refine zA (I ae) rfl ?_
 refine s_nil ?_
 refine W.seq ?_
 refine W.region rfl ?_
 refine s_val (x_ld (p := Pq aV) (v := .agg #[ax, ay, az]) rfl (ldb_ag (ds := [ax, ay, az]) Ag27 Sz27 (H.bl 0) rfl rfl)) ?_
 obtain ⟨cN, bQ, hM⟩ := M.e_bind hM
 refine s_call cf10 [.agg #[ax, ay, az]] rfl (zc0 aS aT aU (Reads.sup (rdo 1) (Reads.of (k := 2) rfl roLe)) (rowSl rfl (H.get (k := 1) rfl) (roLe _ (H.get (k := 2) rfl)) aM) (rdo 3) (H.os 3) (rdo 4) (H.os 4) bQ _ (H.gt 8)) ?_
 rintro vq cO ⟨aq, ag, aF, bR, hvq, ap⟩
 subst bR
 subst vq
 try dsimp only at hM
 replace H := H.bk ap
 clear ap
 refine zM (.tuple #[aF, I ag]) rfl ?_
 refine zX [aF, I ag] aF rfl rfl ?_
 refine zX [aF, I ag] (I ag) rfl rfl ?_
 refine zA aF rfl ?_
 refine zA (I ag) rfl ?_
 refine s_nil ?_
 refine W.seq ?_
 refine W.region rfl ?_
 refine s_val (x_ld (p := Pq aV) (v := .agg #[ax, ay, az]) rfl (ldb_ag (ds := [ax, ay, az]) Ag27 Sz27 (H.bl 1) rfl rfl)) ?_
 refine t_bs (α := Int) T28 [I 0, I 2] [(0 : Int), (2 : Int)] H rfl (.cons rfl (Flat.rep_enc _ (0 : Int)) <| .cons rfl (Flat.rep_enc _ (2 : Int)) <| .nil) rfl rfl rfl ?_
 intro aY cP H
 refine t_bs (α := Int) T28 [I 1] [(1 : Int)] H rfl (.cons rfl (Flat.rep_enc _ (1 : Int)) <| .nil) rfl rfl rfl ?_
 intro aZ cQ H
 obtain ⟨cR, H⟩ := H.emptyE
 obtain ⟨cS, H, bS⟩ := H.freezeE (k := 2) rfl
 replace H := H.nf
 have aG := bS
 obtain ⟨cT, H, cU, bT⟩ := H.joinE (i := 0) (j := 2) rfl rfl
 replace aG := aG.mono bT
 obtain ⟨cV, H, bU⟩ := H.freezeE (k := 2) rfl
 replace H := H.nf
 have aN := bU
 obtain ⟨bV, H, bW, bX⟩ := H.joinE (i := 0) (j := 2) rfl rfl
 replace aG := aG.mono bW
 replace aN := aN.mono bX
 obtain ⟨aW, ba⟩ : ∃ r : Raw 0, r.cs = [aY] := ⟨Raw.of [aY] rfl (by simp only [List.all_cons, List.all_nil, Bool.true_and, Bool.and_true, Sl.oc aG]; try rfl), rfl⟩
 obtain ⟨aX, bb⟩ : ∃ r : Raw 0, r.cs = [aZ] := ⟨Raw.of [aZ] rfl (by simp only [List.all_cons, List.all_nil, Bool.true_and, Bool.and_true, Sl.oc aN]; try rfl), rfl⟩
 have bY : RepR (α := List Int) bV.cells [aW, aX] [[(0 : Int), (2 : Int)], [(1 : Int)]] := .cons (by rw [ba]; exact ⟨_, rfl, aG⟩) <| .cons (by rw [bb]; exact ⟨_, rfl, aN⟩) <| .nil
 refine t_bs (α := Raw 0) T38 [aY, aZ] [aW, aX] H rfl (.cons (by rw [show (Flat.enc aW : List Value) = aW.cs from rfl, ba]; exact Sl.cells aG) (Flat.rep_enc _ _) <| .cons (by rw [show (Flat.enc aX : List Value) = aX.cs from rfl, bb]; exact Sl.cells aN) (Flat.rep_enc _ _) <| .nil) rfl rfl rfl ?_
 intro bZ cW H
 replace H := H.nf
 obtain ⟨cX, b3, hM⟩ := M.e_bind hM
 refine s_call cf12 [.agg #[ax, ay, az], I 2, bZ] rfl (zcY aS aT aU 2 ([[(0 : Int), (2 : Int)], [(1 : Int)]]) (Reads.sup (rdo 8) (Reads.of (k := 9) rfl roLe)) (rowSl rfl (H.get (k := 8) rfl) (roLe _ (H.get (k := 9) rfl)) aM) (rdo 10) (H.os 10) (rdo 11) (H.os 11) (Reads.sup (rdo 0) (Reads.of (k := 1) rfl roLe)) (rowSl rfl (H.get (k := 0) rfl) (roLe _ (H.get (k := 1) rfl)) bY) b3 _ (H.gt 15)) ?_
 rintro vq cY ⟨au, ah, b4, hvq, ap⟩
 subst b4
 subst vq
 try dsimp only at hM
 replace H := H.bk ap
 clear ap
 refine zM (.tuple #[B au, I ah]) rfl ?_
 refine zX [B au, I ah] (B au) rfl rfl ?_
 refine zX [B au, I ah] (I ah) rfl rfl ?_
 refine zA (B au) rfl ?_
 refine zA (I ah) rfl ?_
 refine s_nil ?_
 replace H := H.pk [6, 7, 8, 9, 10, 11, 13, 14]
 refine W.seq ?_
 refine W.region rfl ?_
 refine s_val (x_ld (p := Pq aV) (v := .agg #[ax, ay, az]) rfl (ldb_ag (ds := [ax, ay, az]) Ag27 Sz27 (H.bl 1) rfl rfl)) ?_
 refine t_bs (α := Int) T28 [I 1, I 2] [(1 : Int), (2 : Int)] H rfl (.cons rfl (Flat.rep_enc _ (1 : Int)) <| .cons rfl (Flat.rep_enc _ (2 : Int)) <| .nil) rfl rfl rfl ?_
 intro b5 cZ H
 obtain ⟨c8, b6, hM⟩ := M.e_bind hM
 refine s_call cf13 [.agg #[ax, ay, az], b5] rfl (zcz aS aT aU ([(1 : Int), (2 : Int)]) (Reads.sup (rdo 3) (Reads.of (k := 4) rfl roLe)) (rowSl rfl (H.get (k := 3) rfl) (roLe _ (H.get (k := 4) rfl)) aM) (rdo 5) (H.os 5) (rdo 6) (H.os 6) (rdo 0) (H.os 0) b6 _ (H.gt 9)) ?_
 rintro vq c9 ⟨av, ai, aA, b7, hvq, ap⟩
 subst b7
 subst vq
 try dsimp only at hM
 replace H := H.bk ap
 clear ap
 refine zM (.tuple #[aA, I ai]) rfl ?_
 refine zX [aA, I ai] aA rfl rfl ?_
 refine zX [aA, I ai] (I ai) rfl rfl ?_
 refine zA aA rfl ?_
 refine zA (I ai) rfl ?_
 refine s_nil ?_
 replace H := H.pk [0, 2, 8, 9]
 refine W.seq ?_
 refine W.region rfl ?_
 refine zM (I aa) rfl ?_
 refine zC aa 0 (aa == 0) rfl rfl rfl ?_
 refine zM (B (aa == 0)) rfl ?_
 refine g_val (aa == 0) (gy_t rfl) (fun hg => x_mv (v := I ab) rfl) ?_
 refine g_val (aa == 0) (gy_t rfl) (fun hg => x_cmp (kd := .i64) (a := ab) (b := 0) (r := ab == 0) (gd_of (c := aa == 0) hg (I ab)) rfl rfl) ?_
 refine s_val (x_pand (b := aa == 0) (r := ab == 0) rfl (fun hb => gd_of (c := aa == 0) (by first | exact hb | (rw [hb]; rfl) | simp_all) (B (ab == 0))) rfl) ?_
 refine zM (B ((aa == 0) && (ab == 0))) rfl ?_
 refine g_val ((aa == 0) && (ab == 0)) (gy_t rfl) (fun hg => x_mv (v := I ac) rfl) ?_
 refine g_val ((aa == 0) && (ab == 0)) (gy_t rfl) (fun hg => x_cmp (kd := .i64) (a := ac) (b := 0) (r := ac == 0) (gd_of (c := ((aa == 0) && (ab == 0))) hg (I ac)) rfl rfl) ?_
 refine s_val (x_pand (b := ((aa == 0) && (ab == 0))) (r := ac == 0) rfl (fun hb => gd_of (c := ((aa == 0) && (ab == 0))) (by first | exact hb | (rw [hb]; rfl) | simp_all) (B (ac == 0))) rfl) ?_
 refine zM (B (((aa == 0) && (ab == 0)) && (ac == 0))) rfl ?_
 refine g_val (((aa == 0) && (ab == 0)) && (ac == 0)) (gy_t rfl) (fun hg => x_mv (v := I ae) rfl) ?_
 refine g_val (((aa == 0) && (ab == 0)) && (ac == 0)) (gy_t rfl) (fun hg => x_cmp (kd := .i64) (a := ae) (b := 0) (r := ae == 0) (gd_of (c := (((aa == 0) && (ab == 0)) && (ac == 0))) hg (I ae)) rfl rfl) ?_
 refine s_val (x_pand (b := (((aa == 0) && (ab == 0)) && (ac == 0))) (r := ae == 0) rfl (fun hb => gd_of (c := (((aa == 0) && (ab == 0)) && (ac == 0))) (by first | exact hb | (rw [hb]; rfl) | simp_all) (B (ae == 0))) rfl) ?_
 refine zM (B ((((aa == 0) && (ab == 0)) && (ac == 0)) && (ae == 0))) rfl ?_
 refine g_val ((((aa == 0) && (ab == 0)) && (ac == 0)) && (ae == 0)) (gy_t rfl) (fun hg => x_mv (v := I ag) rfl) ?_
 refine g_val ((((aa == 0) && (ab == 0)) && (ac == 0)) && (ae == 0)) (gy_t rfl) (fun hg => x_cmp (kd := .i64) (a := ag) (b := 0) (r := ag == 0) (gd_of (c := ((((aa == 0) && (ab == 0)) && (ac == 0)) && (ae == 0))) hg (I ag)) rfl rfl) ?_
 refine s_val (x_pand (b := ((((aa == 0) && (ab == 0)) && (ac == 0)) && (ae == 0))) (r := ag == 0) rfl (fun hb => gd_of (c := ((((aa == 0) && (ab == 0)) && (ac == 0)) && (ae == 0))) (by first | exact hb | (rw [hb]; rfl) | simp_all) (B (ag == 0))) rfl) ?_
 refine zM (B (((((aa == 0) && (ab == 0)) && (ac == 0)) && (ae == 0)) && (ag == 0))) rfl ?_
 refine g_val (((((aa == 0) && (ab == 0)) && (ac == 0)) && (ae == 0)) && (ag == 0)) (gy_t rfl) (fun hg => x_mv (v := I ah) rfl) ?_
 refine g_val (((((aa == 0) && (ab == 0)) && (ac == 0)) && (ae == 0)) && (ag == 0)) (gy_t rfl) (fun hg => x_cmp (kd := .i64) (a := ah) (b := 0) (r := ah == 0) (gd_of (c := (((((aa == 0) && (ab == 0)) && (ac == 0)) && (ae == 0)) && (ag == 0))) hg (I ah)) rfl rfl) ?_
 refine s_val (x_pand (b := (((((aa == 0) && (ab == 0)) && (ac == 0)) && (ae == 0)) && (ag == 0))) (r := ah == 0) rfl (fun hb => gd_of (c := (((((aa == 0) && (ab == 0)) && (ac == 0)) && (ae == 0)) && (ag == 0))) (by first | exact hb | (rw [hb]; rfl) | simp_all) (B (ah == 0))) rfl) ?_
 refine zM (B ((((((aa == 0) && (ab == 0)) && (ac == 0)) && (ae == 0)) && (ag == 0)) && (ah == 0))) rfl ?_
 refine g_val ((((((aa == 0) && (ab == 0)) && (ac == 0)) && (ae == 0)) && (ag == 0)) && (ah == 0)) (gy_t rfl) (fun hg => x_mv (v := I ai) rfl) ?_
 refine g_val ((((((aa == 0) && (ab == 0)) && (ac == 0)) && (ae == 0)) && (ag == 0)) && (ah == 0)) (gy_t rfl) (fun hg => x_cmp (kd := .i64) (a := ai) (b := 0) (r := ai == 0) (gd_of (c := ((((((aa == 0) && (ab == 0)) && (ac == 0)) && (ae == 0)) && (ag == 0)) && (ah == 0))) hg (I ai)) rfl rfl) ?_
 refine s_val (x_pand (b := ((((((aa == 0) && (ab == 0)) && (ac == 0)) && (ae == 0)) && (ag == 0)) && (ah == 0))) (r := ai == 0) rfl (fun hb => gd_of (c := ((((((aa == 0) && (ab == 0)) && (ac == 0)) && (ae == 0)) && (ag == 0)) && (ah == 0))) (by first | exact hb | (rw [hb]; rfl) | simp_all) (B (ai == 0))) rfl) ?_
 refine zM (B (((((((aa == 0) && (ab == 0)) && (ac == 0)) && (ae == 0)) && (ag == 0)) && (ah == 0)) && (ai == 0))) rfl ?_
 refine g_val (((((((aa == 0) && (ab == 0)) && (ac == 0)) && (ae == 0)) && (ag == 0)) && (ah == 0)) && (ai == 0)) (gy_t rfl) (fun hg => x_ld (p := Pq a6) (v := .agg #[I aj, I ak]) rfl (ldb_ag (ds := [I aj, I ak]) Ag54 Sz54 (H.bl 3) rfl rfl)) ?_
 refine g_val (((((((aa == 0) && (ab == 0)) && (ac == 0)) && (ae == 0)) && (ag == 0)) && (ah == 0)) && (ai == 0)) (gy_t rfl) (fun hg => x_bld (ps := [(0, I 812), (1, I 1959)]) (zs := [I 0, I 0]) (L' := [I 812, I 1959]) rfl Tryz.underlying54 Al54 rfl (Bd54 Tryz.underlying54) (.cons (cs := [I 812]) rfl rfl rfl rfl rfl <| .cons (cs := [I 1959]) rfl rfl rfl rfl rfl <| .nil)) ?_
 refine g_val (((((((aa == 0) && (ab == 0)) && (ac == 0)) && (ae == 0)) && (ag == 0)) && (ah == 0)) && (ai == 0)) (gy_t rfl) (fun hg => x_eqS (eqT54 (⟨(aj : Int), (ak : Int)⟩ : Span) (⟨(812 : Int), (1959 : Int)⟩ : Span) _) gdT54 (gd_of (c := (((((((aa == 0) && (ab == 0)) && (ac == 0)) && (ae == 0)) && (ag == 0)) && (ah == 0)) && (ai == 0))) hg (.agg #[I aj, I ak])) (gd_of (c := (((((((aa == 0) && (ab == 0)) && (ac == 0)) && (ae == 0)) && (ag == 0)) && (ah == 0)) && (ai == 0))) hg (.agg #[I 812, I 1959]))) ?_
 refine s_val (x_pand (b := (((((((aa == 0) && (ab == 0)) && (ac == 0)) && (ae == 0)) && (ag == 0)) && (ah == 0)) && (ai == 0))) (r := decide ((⟨(aj : Int), (ak : Int)⟩ : Span) = (⟨(812 : Int), (1959 : Int)⟩ : Span))) rfl (fun hb => gd_of (c := (((((((aa == 0) && (ab == 0)) && (ac == 0)) && (ae == 0)) && (ag == 0)) && (ah == 0)) && (ai == 0))) (by first | exact hb | (rw [hb]; rfl) | simp_all) (B (decide ((⟨(aj : Int), (ak : Int)⟩ : Span) = (⟨(812 : Int), (1959 : Int)⟩ : Span))))) rfl) ?_
 refine zM (B ((((((((aa == 0) && (ab == 0)) && (ac == 0)) && (ae == 0)) && (ag == 0)) && (ah == 0)) && (ai == 0)) && (decide ((⟨(aj : Int), (ak : Int)⟩ : Span) = (⟨(812 : Int), (1959 : Int)⟩ : Span))))) rfl ?_
 refine g_val ((((((((aa == 0) && (ab == 0)) && (ac == 0)) && (ae == 0)) && (ag == 0)) && (ah == 0)) && (ai == 0)) && (decide ((⟨(aj : Int), (ak : Int)⟩ : Span) = (⟨(812 : Int), (1959 : Int)⟩ : Span)))) (gy_t rfl) (fun hg => x_mv (v := I al) rfl) ?_
 refine g_val ((((((((aa == 0) && (ab == 0)) && (ac == 0)) && (ae == 0)) && (ag == 0)) && (ah == 0)) && (ai == 0)) && (decide ((⟨(aj : Int), (ak : Int)⟩ : Span) = (⟨(812 : Int), (1959 : Int)⟩ : Span)))) (gy_t rfl) (fun hg => x_cmp (kd := .i64) (a := al) (b := 1876) (r := al == 1876) (gd_of (c := ((((((((aa == 0) && (ab == 0)) && (ac == 0)) && (ae == 0)) && (ag == 0)) && (ah == 0)) && (ai == 0)) && (decide ((⟨(aj : Int), (ak : Int)⟩ : Span) = (⟨(812 : Int), (1959 : Int)⟩ : Span))))) hg (I al)) rfl rfl) ?_
 refine s_val (x_pand (b := ((((((((aa == 0) && (ab == 0)) && (ac == 0)) && (ae == 0)) && (ag == 0)) && (ah == 0)) && (ai == 0)) && (decide ((⟨(aj : Int), (ak : Int)⟩ : Span) = (⟨(812 : Int), (1959 : Int)⟩ : Span))))) (r := al == 1876) rfl (fun hb => gd_of (c := ((((((((aa == 0) && (ab == 0)) && (ac == 0)) && (ae == 0)) && (ag == 0)) && (ah == 0)) && (ai == 0)) && (decide ((⟨(aj : Int), (ak : Int)⟩ : Span) = (⟨(812 : Int), (1959 : Int)⟩ : Span))))) (by first | exact hb | (rw [hb]; rfl) | simp_all) (B (al == 1876))) rfl) ?_
 refine zM (B (((((((((aa == 0) && (ab == 0)) && (ac == 0)) && (ae == 0)) && (ag == 0)) && (ah == 0)) && (ai == 0)) && (decide ((⟨(aj : Int), (ak : Int)⟩ : Span) = (⟨(812 : Int), (1959 : Int)⟩ : Span)))) && (al == 1876))) rfl ?_
 refine g_val (((((((((aa == 0) && (ab == 0)) && (ac == 0)) && (ae == 0)) && (ag == 0)) && (ah == 0)) && (ai == 0)) && (decide ((⟨(aj : Int), (ak : Int)⟩ : Span) = (⟨(812 : Int), (1959 : Int)⟩ : Span)))) && (al == 1876)) (gy_t rfl) (fun hg => x_fa (a := Pq aO) (v := Oq aO 1) rfl (fa_blk (o := 0) Fd54_1 Sz3)) ?_
 refine g_val (((((((((aa == 0) && (ab == 0)) && (ac == 0)) && (ae == 0)) && (ag == 0)) && (ah == 0)) && (ai == 0)) && (decide ((⟨(aj : Int), (ak : Int)⟩ : Span) = (⟨(812 : Int), (1959 : Int)⟩ : Span)))) && (al == 1876)) (gy_t rfl) (fun hg => x_ld (p := Oq aO 1) (v := I am) (gd_of (c := (((((((((aa == 0) && (ab == 0)) && (ac == 0)) && (ae == 0)) && (ag == 0)) && (ah == 0)) && (ai == 0)) && (decide ((⟨(aj : Int), (ak : Int)⟩ : Span) = (⟨(812 : Int), (1959 : Int)⟩ : Span)))) && (al == 1876))) hg (Oq aO 1)) (ldb_sc Sc3 (H.bl 2) rfl)) ?_
 refine g_val (((((((((aa == 0) && (ab == 0)) && (ac == 0)) && (ae == 0)) && (ag == 0)) && (ah == 0)) && (ai == 0)) && (decide ((⟨(aj : Int), (ak : Int)⟩ : Span) = (⟨(812 : Int), (1959 : Int)⟩ : Span)))) && (al == 1876)) (gy_t rfl) (fun hg => x_cmp (kd := .i64) (a := am) (b := 1557) (r := am == 1557) (gd_of (c := (((((((((aa == 0) && (ab == 0)) && (ac == 0)) && (ae == 0)) && (ag == 0)) && (ah == 0)) && (ai == 0)) && (decide ((⟨(aj : Int), (ak : Int)⟩ : Span) = (⟨(812 : Int), (1959 : Int)⟩ : Span)))) && (al == 1876))) hg (I am)) rfl rfl) ?_
 refine s_val (x_pand (b := (((((((((aa == 0) && (ab == 0)) && (ac == 0)) && (ae == 0)) && (ag == 0)) && (ah == 0)) && (ai == 0)) && (decide ((⟨(aj : Int), (ak : Int)⟩ : Span) = (⟨(812 : Int), (1959 : Int)⟩ : Span)))) && (al == 1876))) (r := am == 1557) rfl (fun hb => gd_of (c := (((((((((aa == 0) && (ab == 0)) && (ac == 0)) && (ae == 0)) && (ag == 0)) && (ah == 0)) && (ai == 0)) && (decide ((⟨(aj : Int), (ak : Int)⟩ : Span) = (⟨(812 : Int), (1959 : Int)⟩ : Span)))) && (al == 1876))) (by first | exact hb | (rw [hb]; rfl) | simp_all) (B (am == 1557))) rfl) ?_
 refine zM (B ((((((((((aa == 0) && (ab == 0)) && (ac == 0)) && (ae == 0)) && (ag == 0)) && (ah == 0)) && (ai == 0)) && (decide ((⟨(aj : Int), (ak : Int)⟩ : Span) = (⟨(812 : Int), (1959 : Int)⟩ : Span)))) && (al == 1876)) && (am == 1557))) rfl ?_
 refine g_val ((((((((((aa == 0) && (ab == 0)) && (ac == 0)) && (ae == 0)) && (ag == 0)) && (ah == 0)) && (ai == 0)) && (decide ((⟨(aj : Int), (ak : Int)⟩ : Span) = (⟨(812 : Int), (1959 : Int)⟩ : Span)))) && (al == 1876)) && (am == 1557)) (gy_t rfl) (fun hg => x_mv (v := B ao) rfl) ?_
 refine s_val (x_pand (b := ((((((((((aa == 0) && (ab == 0)) && (ac == 0)) && (ae == 0)) && (ag == 0)) && (ah == 0)) && (ai == 0)) && (decide ((⟨(aj : Int), (ak : Int)⟩ : Span) = (⟨(812 : Int), (1959 : Int)⟩ : Span)))) && (al == 1876)) && (am == 1557))) (r := ao) rfl (fun hb => gd_of (c := ((((((((((aa == 0) && (ab == 0)) && (ac == 0)) && (ae == 0)) && (ag == 0)) && (ah == 0)) && (ai == 0)) && (decide ((⟨(aj : Int), (ak : Int)⟩ : Span) = (⟨(812 : Int), (1959 : Int)⟩ : Span)))) && (al == 1876)) && (am == 1557))) (by first | exact hb | (rw [hb]; rfl) | simp_all) (B ao)) rfl) ?_
 refine zM (B (((((((((((aa == 0) && (ab == 0)) && (ac == 0)) && (ae == 0)) && (ag == 0)) && (ah == 0)) && (ai == 0)) && (decide ((⟨(aj : Int), (ak : Int)⟩ : Span) = (⟨(812 : Int), (1959 : Int)⟩ : Span)))) && (al == 1876)) && (am == 1557)) && ao)) rfl ?_
 refine g_val (((((((((((aa == 0) && (ab == 0)) && (ac == 0)) && (ae == 0)) && (ag == 0)) && (ah == 0)) && (ai == 0)) && (decide ((⟨(aj : Int), (ak : Int)⟩ : Span) = (⟨(812 : Int), (1959 : Int)⟩ : Span)))) && (al == 1876)) && (am == 1557)) && ao) (gy_t rfl) (fun hg => x_mv (v := aF) rfl) ?_
 refine g_val (((((((((((aa == 0) && (ab == 0)) && (ac == 0)) && (ae == 0)) && (ag == 0)) && (ah == 0)) && (ai == 0)) && (decide ((⟨(aj : Int), (ak : Int)⟩ : Span) = (⟨(812 : Int), (1959 : Int)⟩ : Span)))) && (al == 1876)) && (am == 1557)) && ao) (gy_t rfl) (fun hg => x_lenS T28.und (gd_of (c := (((((((((((aa == 0) && (ab == 0)) && (ac == 0)) && (ae == 0)) && (ag == 0)) && (ah == 0)) && (ai == 0)) && (decide ((⟨(aj : Int), (ak : Int)⟩ : Span) = (⟨(812 : Int), (1959 : Int)⟩ : Span)))) && (al == 1876)) && (am == 1557)) && ao)) hg (aF)) (H.os 1)) ?_
 refine g_val (((((((((((aa == 0) && (ab == 0)) && (ac == 0)) && (ae == 0)) && (ag == 0)) && (ah == 0)) && (ai == 0)) && (decide ((⟨(aj : Int), (ak : Int)⟩ : Span) = (⟨(812 : Int), (1959 : Int)⟩ : Span)))) && (al == 1876)) && (am == 1557)) && ao) (gy_t rfl) (fun hg => x_cmp (kd := .i64) (a := (aq.length : Int)) (b := 2) (r := (aq.length : Int) == 2) (gd_of (c := (((((((((((aa == 0) && (ab == 0)) && (ac == 0)) && (ae == 0)) && (ag == 0)) && (ah == 0)) && (ai == 0)) && (decide ((⟨(aj : Int), (ak : Int)⟩ : Span) = (⟨(812 : Int), (1959 : Int)⟩ : Span)))) && (al == 1876)) && (am == 1557)) && ao)) hg (I (aq.length : Int))) rfl rfl) ?_
 refine s_val (x_pand (b := (((((((((((aa == 0) && (ab == 0)) && (ac == 0)) && (ae == 0)) && (ag == 0)) && (ah == 0)) && (ai == 0)) && (decide ((⟨(aj : Int), (ak : Int)⟩ : Span) = (⟨(812 : Int), (1959 : Int)⟩ : Span)))) && (al == 1876)) && (am == 1557)) && ao)) (r := (aq.length : Int) == 2) rfl (fun hb => gd_of (c := (((((((((((aa == 0) && (ab == 0)) && (ac == 0)) && (ae == 0)) && (ag == 0)) && (ah == 0)) && (ai == 0)) && (decide ((⟨(aj : Int), (ak : Int)⟩ : Span) = (⟨(812 : Int), (1959 : Int)⟩ : Span)))) && (al == 1876)) && (am == 1557)) && ao)) (by first | exact hb | (rw [hb]; rfl) | simp_all) (B ((aq.length : Int) == 2))) rfl) ?_
 refine zM (B ((((((((((((aa == 0) && (ab == 0)) && (ac == 0)) && (ae == 0)) && (ag == 0)) && (ah == 0)) && (ai == 0)) && (decide ((⟨(aj : Int), (ak : Int)⟩ : Span) = (⟨(812 : Int), (1959 : Int)⟩ : Span)))) && (al == 1876)) && (am == 1557)) && ao) && ((aq.length : Int) == 2))) rfl ?_
 refine g_val ((((((((((((aa == 0) && (ab == 0)) && (ac == 0)) && (ae == 0)) && (ag == 0)) && (ah == 0)) && (ai == 0)) && (decide ((⟨(aj : Int), (ak : Int)⟩ : Span) = (⟨(812 : Int), (1959 : Int)⟩ : Span)))) && (al == 1876)) && (am == 1557)) && ao) && ((aq.length : Int) == 2)) (gy_t rfl) (fun hg => x_mv (v := B au) rfl) ?_
 refine s_val (x_pand (b := ((((((((((((aa == 0) && (ab == 0)) && (ac == 0)) && (ae == 0)) && (ag == 0)) && (ah == 0)) && (ai == 0)) && (decide ((⟨(aj : Int), (ak : Int)⟩ : Span) = (⟨(812 : Int), (1959 : Int)⟩ : Span)))) && (al == 1876)) && (am == 1557)) && ao) && ((aq.length : Int) == 2))) (r := au) rfl (fun hb => gd_of (c := ((((((((((((aa == 0) && (ab == 0)) && (ac == 0)) && (ae == 0)) && (ag == 0)) && (ah == 0)) && (ai == 0)) && (decide ((⟨(aj : Int), (ak : Int)⟩ : Span) = (⟨(812 : Int), (1959 : Int)⟩ : Span)))) && (al == 1876)) && (am == 1557)) && ao) && ((aq.length : Int) == 2))) (by first | exact hb | (rw [hb]; rfl) | simp_all) (B au)) rfl) ?_
 refine zM (B (((((((((((((aa == 0) && (ab == 0)) && (ac == 0)) && (ae == 0)) && (ag == 0)) && (ah == 0)) && (ai == 0)) && (decide ((⟨(aj : Int), (ak : Int)⟩ : Span) = (⟨(812 : Int), (1959 : Int)⟩ : Span)))) && (al == 1876)) && (am == 1557)) && ao) && ((aq.length : Int) == 2)) && au)) rfl ?_
 refine g_val (((((((((((((aa == 0) && (ab == 0)) && (ac == 0)) && (ae == 0)) && (ag == 0)) && (ah == 0)) && (ai == 0)) && (decide ((⟨(aj : Int), (ak : Int)⟩ : Span) = (⟨(812 : Int), (1959 : Int)⟩ : Span)))) && (al == 1876)) && (am == 1557)) && ao) && ((aq.length : Int) == 2)) && au) (gy_t rfl) (fun hg => x_mv (v := aA) rfl) ?_
 refine g_val (((((((((((((aa == 0) && (ab == 0)) && (ac == 0)) && (ae == 0)) && (ag == 0)) && (ah == 0)) && (ai == 0)) && (decide ((⟨(aj : Int), (ak : Int)⟩ : Span) = (⟨(812 : Int), (1959 : Int)⟩ : Span)))) && (al == 1876)) && (am == 1557)) && ao) && ((aq.length : Int) == 2)) && au) (gy_t rfl) (fun hg => x_lenS T43.und (gd_of (c := (((((((((((((aa == 0) && (ab == 0)) && (ac == 0)) && (ae == 0)) && (ag == 0)) && (ah == 0)) && (ai == 0)) && (decide ((⟨(aj : Int), (ak : Int)⟩ : Span) = (⟨(812 : Int), (1959 : Int)⟩ : Span)))) && (al == 1876)) && (am == 1557)) && ao) && ((aq.length : Int) == 2)) && au)) hg (aA)) (H.os 0)) ?_
 refine g_val (((((((((((((aa == 0) && (ab == 0)) && (ac == 0)) && (ae == 0)) && (ag == 0)) && (ah == 0)) && (ai == 0)) && (decide ((⟨(aj : Int), (ak : Int)⟩ : Span) = (⟨(812 : Int), (1959 : Int)⟩ : Span)))) && (al == 1876)) && (am == 1557)) && ao) && ((aq.length : Int) == 2)) && au) (gy_t rfl) (fun hg => x_cmp (kd := .i64) (a := (av.length : Int)) (b := 2) (r := (av.length : Int) == 2) (gd_of (c := (((((((((((((aa == 0) && (ab == 0)) && (ac == 0)) && (ae == 0)) && (ag == 0)) && (ah == 0)) && (ai == 0)) && (decide ((⟨(aj : Int), (ak : Int)⟩ : Span) = (⟨(812 : Int), (1959 : Int)⟩ : Span)))) && (al == 1876)) && (am == 1557)) && ao) && ((aq.length : Int) == 2)) && au)) hg (I (av.length : Int))) rfl rfl) ?_
 refine s_val (x_pand (b := (((((((((((((aa == 0) && (ab == 0)) && (ac == 0)) && (ae == 0)) && (ag == 0)) && (ah == 0)) && (ai == 0)) && (decide ((⟨(aj : Int), (ak : Int)⟩ : Span) = (⟨(812 : Int), (1959 : Int)⟩ : Span)))) && (al == 1876)) && (am == 1557)) && ao) && ((aq.length : Int) == 2)) && au)) (r := (av.length : Int) == 2) rfl (fun hb => gd_of (c := (((((((((((((aa == 0) && (ab == 0)) && (ac == 0)) && (ae == 0)) && (ag == 0)) && (ah == 0)) && (ai == 0)) && (decide ((⟨(aj : Int), (ak : Int)⟩ : Span) = (⟨(812 : Int), (1959 : Int)⟩ : Span)))) && (al == 1876)) && (am == 1557)) && ao) && ((aq.length : Int) == 2)) && au)) (by first | exact hb | (rw [hb]; rfl) | simp_all) (B ((av.length : Int) == 2))) rfl) ?_
 refine zM (B ((((((((((((((aa == 0) && (ab == 0)) && (ac == 0)) && (ae == 0)) && (ag == 0)) && (ah == 0)) && (ai == 0)) && (decide ((⟨(aj : Int), (ak : Int)⟩ : Span) = (⟨(812 : Int), (1959 : Int)⟩ : Span)))) && (al == 1876)) && (am == 1557)) && ao) && ((aq.length : Int) == 2)) && au) && ((av.length : Int) == 2))) rfl ?_
 refine g_val ((((((((((((((aa == 0) && (ab == 0)) && (ac == 0)) && (ae == 0)) && (ag == 0)) && (ah == 0)) && (ai == 0)) && (decide ((⟨(aj : Int), (ak : Int)⟩ : Span) = (⟨(812 : Int), (1959 : Int)⟩ : Span)))) && (al == 1876)) && (am == 1557)) && ao) && ((aq.length : Int) == 2)) && au) && ((av.length : Int) == 2)) (gy_t rfl) (fun hg => x_mv (v := aA) rfl) ?_
 obtain ⟨aH, hM⟩ := M.e_grd hM
 replace aH := M.imp_of aH
 simp only [Bool.and_eq_true, decide_eq_true_eq] at aH
 refine g_val ((((((((((((((aa == 0) && (ab == 0)) && (ac == 0)) && (ae == 0)) && (ag == 0)) && (ah == 0)) && (ai == 0)) && (decide ((⟨(aj : Int), (ak : Int)⟩ : Span) = (⟨(812 : Int), (1959 : Int)⟩ : Span)))) && (al == 1876)) && (am == 1557)) && ao) && ((aq.length : Int) == 2)) && au) && ((av.length : Int) == 2)) (gy_t rfl) (fun hg => x_ix (a := aA) (b := I 0) (v := vat aA 2 (Int.toNat 0)) (gd_of (c := ((((((((((((((aa == 0) && (ab == 0)) && (ac == 0)) && (ae == 0)) && (ag == 0)) && (ah == 0)) && (ai == 0)) && (decide ((⟨(aj : Int), (ak : Int)⟩ : Span) = (⟨(812 : Int), (1959 : Int)⟩ : Span)))) && (al == 1876)) && (am == 1557)) && ao) && ((aq.length : Int) == 2)) && au) && ((av.length : Int) == 2))) hg (aA)) rfl (Sl.ix (α := Span) T43.und T43.size (H.os 0) (by have aw := aH.resolve_left (by rw [hg]; decide); first | exact aw | exact aw.1 | exact aw.2 | omega | (have aI := hg; simp at aI; omega)) (by have aw := aH.resolve_left (by rw [hg]; decide); first | exact aw | exact aw.1 | exact aw.2 | omega | (have aI := hg; simp at aI; omega)))) ?_
 refine g_val ((((((((((((((aa == 0) && (ab == 0)) && (ac == 0)) && (ae == 0)) && (ag == 0)) && (ah == 0)) && (ai == 0)) && (decide ((⟨(aj : Int), (ak : Int)⟩ : Span) = (⟨(812 : Int), (1959 : Int)⟩ : Span)))) && (al == 1876)) && (am == 1557)) && ao) && ((aq.length : Int) == 2)) && au) && ((av.length : Int) == 2)) (gy_t rfl) (fun hg => x_ld (p := vat aA 2 (Int.toNat 0)) (v := .agg #[I ((av.getD 0 default).lo), I ((av.getD 0 default).hi)]) (gd_of (c := ((((((((((((((aa == 0) && (ab == 0)) && (ac == 0)) && (ae == 0)) && (ag == 0)) && (ah == 0)) && (ai == 0)) && (decide ((⟨(aj : Int), (ak : Int)⟩ : Span) = (⟨(812 : Int), (1959 : Int)⟩ : Span)))) && (al == 1876)) && (am == 1557)) && ao) && ((aq.length : Int) == 2)) && au) && ((av.length : Int) == 2))) hg (vat aA 2 (Int.toNat 0))) (ld_ag Ag54 Sz54 (At.mono (Span_atA (H.os 0) (i := 0) (by have aw := aH.resolve_left (by rw [hg]; decide); first | exact aw | exact aw.1 | exact aw.2 | omega | (have aI := hg; simp at aI; omega)) (by have aw := aH.resolve_left (by rw [hg]; decide); first | exact aw | exact aw.1 | exact aw.2 | omega | (have aI := hg; simp at aI; omega))) (H.ol 0)))) ?_
 refine g_val ((((((((((((((aa == 0) && (ab == 0)) && (ac == 0)) && (ae == 0)) && (ag == 0)) && (ah == 0)) && (ai == 0)) && (decide ((⟨(aj : Int), (ak : Int)⟩ : Span) = (⟨(812 : Int), (1959 : Int)⟩ : Span)))) && (al == 1876)) && (am == 1557)) && ao) && ((aq.length : Int) == 2)) && au) && ((av.length : Int) == 2)) (gy_t rfl) (fun hg => x_bld (ps := [(0, I 170), (1, I 2000)]) (zs := [I 0, I 0]) (L' := [I 170, I 2000]) rfl Tryz.underlying54 Al54 rfl (Bd54 Tryz.underlying54) (.cons (cs := [I 170]) rfl rfl rfl rfl rfl <| .cons (cs := [I 2000]) rfl rfl rfl rfl rfl <| .nil)) ?_
 refine g_val ((((((((((((((aa == 0) && (ab == 0)) && (ac == 0)) && (ae == 0)) && (ag == 0)) && (ah == 0)) && (ai == 0)) && (decide ((⟨(aj : Int), (ak : Int)⟩ : Span) = (⟨(812 : Int), (1959 : Int)⟩ : Span)))) && (al == 1876)) && (am == 1557)) && ao) && ((aq.length : Int) == 2)) && au) && ((av.length : Int) == 2)) (gy_t rfl) (fun hg => x_eqS (eqT54 (av.getD 0 default) (⟨(170 : Int), (2000 : Int)⟩ : Span) _) gdT54 (gd_of (c := ((((((((((((((aa == 0) && (ab == 0)) && (ac == 0)) && (ae == 0)) && (ag == 0)) && (ah == 0)) && (ai == 0)) && (decide ((⟨(aj : Int), (ak : Int)⟩ : Span) = (⟨(812 : Int), (1959 : Int)⟩ : Span)))) && (al == 1876)) && (am == 1557)) && ao) && ((aq.length : Int) == 2)) && au) && ((av.length : Int) == 2))) hg (.agg #[I ((av.getD 0 default).lo), I ((av.getD 0 default).hi)])) (gd_of (c := ((((((((((((((aa == 0) && (ab == 0)) && (ac == 0)) && (ae == 0)) && (ag == 0)) && (ah == 0)) && (ai == 0)) && (decide ((⟨(aj : Int), (ak : Int)⟩ : Span) = (⟨(812 : Int), (1959 : Int)⟩ : Span)))) && (al == 1876)) && (am == 1557)) && ao) && ((aq.length : Int) == 2)) && au) && ((av.length : Int) == 2))) hg (.agg #[I 170, I 2000]))) ?_
 refine s_val (x_pand (b := ((((((((((((((aa == 0) && (ab == 0)) && (ac == 0)) && (ae == 0)) && (ag == 0)) && (ah == 0)) && (ai == 0)) && (decide ((⟨(aj : Int), (ak : Int)⟩ : Span) = (⟨(812 : Int), (1959 : Int)⟩ : Span)))) && (al == 1876)) && (am == 1557)) && ao) && ((aq.length : Int) == 2)) && au) && ((av.length : Int) == 2))) (r := decide ((av.getD 0 default) = (⟨(170 : Int), (2000 : Int)⟩ : Span))) rfl (fun hb => gd_of (c := ((((((((((((((aa == 0) && (ab == 0)) && (ac == 0)) && (ae == 0)) && (ag == 0)) && (ah == 0)) && (ai == 0)) && (decide ((⟨(aj : Int), (ak : Int)⟩ : Span) = (⟨(812 : Int), (1959 : Int)⟩ : Span)))) && (al == 1876)) && (am == 1557)) && ao) && ((aq.length : Int) == 2)) && au) && ((av.length : Int) == 2))) (by first | exact hb | (rw [hb]; rfl) | simp_all) (B (decide ((av.getD 0 default) = (⟨(170 : Int), (2000 : Int)⟩ : Span))))) rfl) ?_
 refine zA (B (((((((((((((((aa == 0) && (ab == 0)) && (ac == 0)) && (ae == 0)) && (ag == 0)) && (ah == 0)) && (ai == 0)) && (decide ((⟨(aj : Int), (ak : Int)⟩ : Span) = (⟨(812 : Int), (1959 : Int)⟩ : Span)))) && (al == 1876)) && (am == 1557)) && ao) && ((aq.length : Int) == 2)) && au) && ((av.length : Int) == 2)) && (decide ((av.getD 0 default) = (⟨(170 : Int), (2000 : Int)⟩ : Span))))) rfl ?_
 refine s_nil ?_
 replace H := H.pk []
 refine W.ret ?_
 have b8 := M.e_pure hM
 exact ⟨_, resE_tmp rfl, ⟨(((((((((((((((aa == 0) && (ab == 0)) && (ac == 0)) && (ae == 0)) && (ag == 0)) && (ah == 0)) && (ai == 0)) && (decide ((⟨(aj : Int), (ak : Int)⟩ : Span) = (⟨(812 : Int), (1959 : Int)⟩ : Span)))) && (al == 1876)) && (am == 1557)) && ao) && ((aq.length : Int) == 2)) && au) && ((av.length : Int) == 2)) && (decide ((av.getD 0 default) = (⟨(170 : Int), (2000 : Int)⟩ : Span)))), b8, rfl, H⟩⟩

end Go.Proofs.YtlemgioaakecpaaGreat
end
namespace Go.Proofs.YtlemgioaakecpaaGreat
open Go Go.Nm
set_option maxRecDepth 100000 in
theorem awake_ends : zbL.Ends true := ⟨400, by kernel_rfl⟩
end Go.Proofs.YtlemgioaakecpaaGreat
section
set_option maxRecDepth 100000
set_option maxHeartbeats 16000000
namespace Go.Proofs.YtlemgioaakecpaaGreat
open Go Go.Nm
def zbh (s_Sections : List Sect) (s_Marks : List Mrk) (s_Reaches : List Rch) (marks : List Int) (reach : Int) (most : Bool) : M (Int × Int × Int × Int × Int) :=
  M.bind (zaG s_Sections s_Marks s_Reaches marks reach) fun x_ => match x_ with
  | (.inl (am, ao, ap, aq, au, r2)) => (
  bif r2 != 0 then (
  M.pure (0, 0, 0, 0, r2))
  else (
  M.fail))
  | (.inr (ag, ah, ai, aj, ak, al)) => (
  bif al != 0 then (
  M.fail)
  else (
  M.bind (zaw s_Sections s_Marks s_Reaches marks) fun r3 =>
  bif !r3 then (
  M.pure (0, 0, 0, 0, 7))
  else (
  M.bind (zba) fun (_ : Unit) =>
  bif most then (
  M.bind (zaZ) fun (_ : Unit) =>
  M.bind (zav s_Sections s_Marks s_Reaches marks (⟨(ag : Int), (ah : Int), (ai : Int), (aj : Int), ak⟩ : Rch)) fun (aa, ab, ac, ae, r1) =>
  M.pure (aa, ab, ac, ae, 0))
  else (
  M.bind (zau s_Sections s_Marks s_Reaches marks (⟨(ag : Int), (ah : Int), (ai : Int), (aj : Int), ak⟩ : Rch)) fun (aa, ab, ac, ae, r1) =>
  M.pure (aa, ab, ac, ae, 0)))))
theorem zdq {R : List Chunk} {aQ : Cells} {aq : Value} {aR : Cells} {au : Value} {aS : Cells} {av : Value} {aT : Cells} {ap : Value} (s_Sections : List Sect) (s_Marks : List Mrk) (s_Reaches : List Rch) (marks : List Int) (reach : Int) (most : Bool) (aC : Reads R aQ) (aD : Sl aQ aq s_Sections) (aE : Reads R aR) (aF : Sl aR au s_Marks) (aG : Reads R aS) (aH : Sl aS av s_Reaches) (aI : Reads R aT) (aJ : Sl aT ap marks) {r : (Int × Int × Int × Int × Int)} (hM : (zbh s_Sections s_Marks s_Reaches marks reach most).Ends r) (w : World) (H : St w w [] R) : Ret Tryz.prog 21 #[.agg #[aq, au, av], ap, I reach, B most] w fun v w' => ∃ (y0 : Int) (y1 : Int) (y2 : Int) (y3 : Int) (y4 : Int), (y0, y1, y2, y3, y4) = r /\ v = .tuple #[.agg #[I y0, I y1, I y2, I y3], I y4] /\ St w w' [] R := by
 refine ret_of_W Tryz.func21 rfl rfl rfl ?_
 refine W.seq ?_
 refine W.region rfl ?_
 refine t_box (v := .agg #[aq, au, av]) (cs := [aq, au, av]) H rfl rfl ?_
 intro aV bo H
 refine t_alloc (cs := [I 0, I 0, I 0, I 0]) H Al61 rfl ?_
 intro bp bq H
 refine zA (I 0) rfl ?_
 refine s_nil ?_
 refine W.seq ?_
 refine W.region rfl ?_
 refine s_val (x_ld (p := Pq aV) (v := .agg #[aq, au, av]) rfl (ldb_ag (ds := [aq, au, av]) Ag27 Sz27 (H.bl 1) rfl rfl)) ?_
 refine zM ap rfl ?_
 refine zM (I reach) rfl ?_
 obtain ⟨br, aW, hM⟩ := M.e_bind hM
 refine s_call cf65 [.agg #[aq, au, av], ap, I reach] rfl (zcg s_Sections s_Marks s_Reaches marks reach (aC.app _) aD (aE.app _) aF (aG.app _) aH (aI.app _) aJ aW _ (H.gt 2)) ?_
 rintro vq bt (⟨aw, ax, ay, az, aA, r2, aX, hvq, ag⟩ | ⟨ah, ai, aj, ak, al, ao, am, bu, aY, hvq, ag⟩)
 ·subst aX
  subst vq
  try dsimp only at hM
  replace H := H.bk ag
  clear ag
  refine zM (.tuple #[.pointer none, .agg #[I aw, I ax, I ay, I az, B aA], I r2]) rfl ?_
  refine zX [.pointer none, .agg #[I aw, I ax, I ay, I az, B aA], I r2] (.pointer none) rfl rfl ?_
  refine zX [.pointer none, .agg #[I aw, I ax, I ay, I az, B aA], I r2] (.agg #[I aw, I ax, I ay, I az, B aA]) rfl rfl ?_
  refine zX [.pointer none, .agg #[I aw, I ax, I ay, I az, B aA], I r2] (I r2) rfl rfl ?_
  refine t_alloc (cs := [I 0, I 0, I 0, I 0, B false]) H Al58 rfl ?_
  intro aM bv H
  refine zA (.pointer none) rfl ?_
  refine t_sw 0 0 [I aw, I ax, I ay, I az, B aA] (.agg #[I aw, I ax, I ay, I az, B aA]) H rfl rfl Sz58 rfl rfl rfl rfl ?_
  intro bw H
  refine zA (I r2) rfl ?_
  refine s_nil ?_
  refine W.seq ?_
  refine W.block ?_
  refine W.seq ?_
  refine W.region rfl ?_
  refine zM (I r2) rfl ?_
  refine zC r2 0 (r2 != 0) rfl rfl rfl ?_
  refine zA (B (r2 != 0)) rfl ?_
  refine s_nil ?_
  refine W.cond (r2 != 0) rfl (fun aK => ?_) (fun aK => ?_)
  ·replace hM := M.e_t hM aK
   simp only [qy1, qy2, qy3, qy4, qy5, qy6, ne_eq, qy7] at aK
   refine W.seq ?_
   refine W.region rfl ?_
   refine s_val (x_bld (ps := []) (zs := [I 0, I 0, I 0, I 0]) (L' := [I 0, I 0, I 0, I 0]) rfl Tryz.underlying61 Al61 rfl (Bd61 Tryz.underlying61) (.nil)) ?_
   refine zM (I r2) rfl ?_
   refine t_sw 1 0 [I 0, I 0, I 0, I 0] (.agg #[I 0, I 0, I 0, I 0]) H rfl rfl Sz61 rfl rfl rfl rfl ?_
   intro bx H
   refine zA (I r2) rfl ?_
   refine s_nil ?_
   replace H := H.pk [1]
   refine W.ret ?_
   have aZ := (H.bl 0)
   have aB := M.e_pure hM
   exact ⟨_, (resE_ofn (vs := [.agg #[I 0, I 0, I 0, I 0], I r2]) rfl rfl (.cell (v := .agg #[I 0, I 0, I 0, I 0]) rfl (run_loadVar_ag (ds := [I 0, I 0, I 0, I 0]) Ag61 Sz61 aZ rfl rfl) <| .tmp (v := I r2) rfl <| .nil)), ⟨0, 0, 0, 0, r2, aB, rfl, (H.pk [])⟩⟩
  replace hM := M.e_f hM aK
  exact (M.e_fail hM).elim
 subst aY
 subst vq
 try dsimp only at hM
 replace H := H.bk ag
 clear ag
 refine zM (.tuple #[Pq am, .agg #[I ah, I ai, I aj, I ak, B al], I ao]) rfl ?_
 refine zX [Pq am, .agg #[I ah, I ai, I aj, I ak, B al], I ao] (Pq am) rfl rfl ?_
 refine zX [Pq am, .agg #[I ah, I ai, I aj, I ak, B al], I ao] (.agg #[I ah, I ai, I aj, I ak, B al]) rfl rfl ?_
 refine zX [Pq am, .agg #[I ah, I ai, I aj, I ak, B al], I ao] (I ao) rfl rfl ?_
 refine t_alloc (cs := [I 0, I 0, I 0, I 0, B false]) H Al58 rfl ?_
 intro aM bz H
 refine zA (Pq am) rfl ?_
 refine t_sw 0 0 [I ah, I ai, I aj, I ak, B al] (.agg #[I ah, I ai, I aj, I ak, B al]) H rfl rfl Sz58 rfl rfl rfl rfl ?_
 intro bA H
 refine zA (I ao) rfl ?_
 refine s_nil ?_
 refine W.seq ?_
 refine W.block ?_
 refine W.seq ?_
 refine W.region rfl ?_
 refine zM (I ao) rfl ?_
 refine zC ao 0 (ao != 0) rfl rfl rfl ?_
 refine zA (B (ao != 0)) rfl ?_
 refine s_nil ?_
 refine W.cond (ao != 0) rfl (fun aL => ?_) (fun aL => ?_)
 ·replace hM := M.e_t hM aL
  exact (M.e_fail hM).elim
 replace hM := M.e_f hM aL
 simp only [qy1, qy2, qy3, qy4, qy5, qy6, ne_eq, qy7] at aL
 refine W.seq ?_
 refine W.region rfl ?_
 refine zM (Pq am) rfl ?_
 refine zM ap rfl ?_
 obtain ⟨bB, a6, hM⟩ := M.e_bind hM
 refine s_call cf58 [Pq am, ap] rfl (zbG s_Sections s_Marks s_Reaches marks (aC.app _) aD (aE.app _) aF (aG.app _) aH (Has.here (k := 1) rfl) (aI.app _) aJ a6 _ (H.gt 5)) ?_
 rintro vq bC ⟨r3, a7, hvq, ag⟩
 subst a7
 subst vq
 try dsimp only at hM
 replace H := H.bk ag
 clear ag
 refine s_val (x_not (b := r3) rfl) ?_
 refine zA (B (!r3)) rfl ?_
 refine s_nil ?_
 refine W.cond (!r3) rfl (fun aN => ?_) (fun aN => ?_)
 ·replace hM := M.e_t hM aN
  refine W.seq ?_
  refine W.region rfl ?_
  refine s_val (x_bld (ps := []) (zs := [I 0, I 0, I 0, I 0]) (L' := [I 0, I 0, I 0, I 0]) rfl Tryz.underlying61 Al61 rfl (Bd61 Tryz.underlying61) (.nil)) ?_
  refine t_sw 3 0 [I 0, I 0, I 0, I 0] (.agg #[I 0, I 0, I 0, I 0]) H rfl rfl Sz61 rfl rfl rfl rfl ?_
  intro bD H
  refine zA (I 7) rfl ?_
  refine s_nil ?_
  replace H := H.pk [3]
  refine W.ret ?_
  have a8 := (H.bl 0)
  have aB := M.e_pure hM
  exact ⟨_, (resE_ofn (vs := [.agg #[I 0, I 0, I 0, I 0], I 7]) rfl rfl (.cell (v := .agg #[I 0, I 0, I 0, I 0]) rfl (run_loadVar_ag (ds := [I 0, I 0, I 0, I 0]) Ag61 Sz61 a8 rfl rfl) <| .tmp (v := I 7) rfl <| .nil)), ⟨0, 0, 0, 0, 7, aB, rfl, (H.pk [])⟩⟩
 replace hM := M.e_f hM aN
 refine W.skip ?_
 refine W.seq ?_
 refine W.region rfl ?_
 obtain ⟨bE, ba, hM⟩ := M.e_bind hM
 refine s_call cf67 [] rfl (zbM ba _ (H.gt 5)) ?_
 rintro vq bF ⟨bb, hvq, ag⟩
 subst bb
 subst vq
 try dsimp only at hM
 replace H := H.bk ag
 clear ag
 refine t_alloc (cs := [.nilFunc]) H Al138 rfl ?_
 intro aU bG H
 refine t_sw 0 0 [.func (.func 106) #[] #[]] (.agg #[.func (.func 106) #[] #[]]) H rfl rfl Sz138 rfl rfl rfl rfl ?_
 intro bH H
 refine s_nil ?_
 refine W.seq ?_
 refine W.seq ?_
 refine W.region rfl ?_
 refine zM (B most) rfl ?_
 refine s_nil ?_
 refine W.cond most rfl (fun aO => ?_) (fun aO => ?_)
 ·replace hM := M.e_t hM aO
  refine W.region rfl ?_
  obtain ⟨bI, bc, hM⟩ := M.e_bind hM
  refine s_call cf68 [] rfl (zas bc _ (H.gt 6)) ?_
  rintro vq bJ ⟨bf, hvq, ag⟩
  subst bf
  subst vq
  try dsimp only at hM
  replace H := H.bk ag
  clear ag
  refine t_sw 0 0 [.func (.func 107) #[] #[]] (.agg #[.func (.func 107) #[] #[]]) H rfl rfl Sz138 rfl rfl rfl rfl ?_
  intro bK H
  refine s_nil ?_
  refine W.seq ?_
  refine W.region rfl ?_
  refine zM (Pq am) rfl ?_
  refine zM ap rfl ?_
  refine s_val (x_ld (p := Pq aM) (v := .agg #[I ah, I ai, I aj, I ak, B al]) rfl (ldb_ag (ds := [I ah, I ai, I aj, I ak, B al]) Ag58 Sz58 (H.bl 1) rfl rfl)) ?_
  refine s_val (x_ld (p := Pq aU) (v := .agg #[.func (.func 107) #[] #[]]) rfl (ldb_ag (ds := [.func (.func 107) #[] #[]]) Ag138 Sz138 (H.bl 0) rfl rfl)) ?_
  obtain ⟨bL, bg, hM⟩ := M.e_bind hM
  refine s_call cf69 [Pq am, ap, .agg #[I ah, I ai, I aj, I ak, B al], .agg #[.func (.func 107) #[] #[]]] rfl (zai s_Sections s_Marks s_Reaches marks (⟨(ah : Int), (ai : Int), (aj : Int), (ak : Int), al⟩ : Rch) (aC.app _) aD (aE.app _) aF (aG.app _) aH (Has.here (k := 2) rfl) (aI.app _) aJ bg _ ((H.pk [3, 0, 1, 2, 4, 5]).gt 5)) ?_
  rintro vq bM ⟨aa, ab, ac, ae, r1, bh, hvq, ag⟩
  subst bh
  subst vq
  try dsimp only at hM
  replace H := H.pk [3, 0, 1, 2, 4, 5] |>.bk ag
  clear ag
  refine zM (.tuple #[.agg #[I aa, I ab, I ac, I ae], I r1]) rfl ?_
  refine zX [.agg #[I aa, I ab, I ac, I ae], I r1] (.agg #[I aa, I ab, I ac, I ae]) rfl rfl ?_
  refine zX [.agg #[I aa, I ab, I ac, I ae], I r1] (I r1) rfl rfl ?_
  refine t_alloc (cs := [I 0, I 0, I 0, I 0]) H Al61 rfl ?_
  intro aP bN H
  refine t_sw 0 0 [I aa, I ab, I ac, I ae] (.agg #[I aa, I ab, I ac, I ae]) H rfl rfl Sz61 rfl rfl rfl rfl ?_
  intro bO H
  refine zA (I r1) rfl ?_
  refine s_nil ?_
  replace H := H.pk [0, 5]
  refine W.seq ?_
  refine W.region rfl ?_
  refine s_val (x_ld (p := Pq aP) (v := .agg #[I aa, I ab, I ac, I ae]) rfl (ldb_ag (ds := [I aa, I ab, I ac, I ae]) Ag61 Sz61 (H.bl 0) rfl rfl)) ?_
  refine t_sw 1 0 [I aa, I ab, I ac, I ae] (.agg #[I aa, I ab, I ac, I ae]) H rfl rfl Sz61 rfl rfl rfl rfl ?_
  intro bP H
  refine zA (I 0) rfl ?_
  refine s_nil ?_
  refine W.ret ?_
  have bi := (H.bl 1)
  have aB := M.e_pure hM
  exact ⟨_, (resE_ofn (vs := [.agg #[I aa, I ab, I ac, I ae], I 0]) rfl rfl (.cell (v := .agg #[I aa, I ab, I ac, I ae]) rfl (run_loadVar_ag (ds := [I aa, I ab, I ac, I ae]) Ag61 Sz61 bi rfl rfl) <| .tmp (v := I 0) rfl <| .nil)), ⟨aa, ab, ac, ae, 0, aB, rfl, (H.pk [])⟩⟩
 replace hM := M.e_f hM aO
 refine W.skip ?_
 refine W.seq ?_
 refine W.region rfl ?_
 refine zM (Pq am) rfl ?_
 refine zM ap rfl ?_
 refine s_val (x_ld (p := Pq aM) (v := .agg #[I ah, I ai, I aj, I ak, B al]) rfl (ldb_ag (ds := [I ah, I ai, I aj, I ak, B al]) Ag58 Sz58 (H.bl 1) rfl rfl)) ?_
 refine s_val (x_ld (p := Pq aU) (v := .agg #[.func (.func 106) #[] #[]]) rfl (ldb_ag (ds := [.func (.func 106) #[] #[]]) Ag138 Sz138 (H.bl 0) rfl rfl)) ?_
 obtain ⟨bQ, bj, hM⟩ := M.e_bind hM
 refine s_call cf69 [Pq am, ap, .agg #[I ah, I ai, I aj, I ak, B al], .agg #[.func (.func 106) #[] #[]]] rfl (zbt s_Sections s_Marks s_Reaches marks (⟨(ah : Int), (ai : Int), (aj : Int), (ak : Int), al⟩ : Rch) (aC.app _) aD (aE.app _) aF (aG.app _) aH (Has.here (k := 2) rfl) (aI.app _) aJ bj _ ((H.pk [3, 0, 1, 2, 4, 5]).gt 5)) ?_
 rintro vq bR ⟨aa, ab, ac, ae, r1, bm, hvq, ag⟩
 subst bm
 subst vq
 try dsimp only at hM
 replace H := H.pk [3, 0, 1, 2, 4, 5] |>.bk ag
 clear ag
 refine zM (.tuple #[.agg #[I aa, I ab, I ac, I ae], I r1]) rfl ?_
 refine zX [.agg #[I aa, I ab, I ac, I ae], I r1] (.agg #[I aa, I ab, I ac, I ae]) rfl rfl ?_
 refine zX [.agg #[I aa, I ab, I ac, I ae], I r1] (I r1) rfl rfl ?_
 refine t_alloc (cs := [I 0, I 0, I 0, I 0]) H Al61 rfl ?_
 intro aP bS H
 refine t_sw 0 0 [I aa, I ab, I ac, I ae] (.agg #[I aa, I ab, I ac, I ae]) H rfl rfl Sz61 rfl rfl rfl rfl ?_
 intro bT H
 refine zA (I r1) rfl ?_
 refine s_nil ?_
 replace H := H.pk [0, 5]
 refine W.seq ?_
 refine W.region rfl ?_
 refine s_val (x_ld (p := Pq aP) (v := .agg #[I aa, I ab, I ac, I ae]) rfl (ldb_ag (ds := [I aa, I ab, I ac, I ae]) Ag61 Sz61 (H.bl 0) rfl rfl)) ?_
 refine t_sw 1 0 [I aa, I ab, I ac, I ae] (.agg #[I aa, I ab, I ac, I ae]) H rfl rfl Sz61 rfl rfl rfl rfl ?_
 intro bU H
 refine zA (I 0) rfl ?_
 refine s_nil ?_
 refine W.ret ?_
 have bn := (H.bl 1)
 have aB := M.e_pure hM
 exact ⟨_, (resE_ofn (vs := [.agg #[I aa, I ab, I ac, I ae], I 0]) rfl rfl (.cell (v := .agg #[I aa, I ab, I ac, I ae]) rfl (run_loadVar_ag (ds := [I aa, I ab, I ac, I ae]) Ag61 Sz61 bn rfl rfl) <| .tmp (v := I 0) rfl <| .nil)), ⟨aa, ab, ac, ae, 0, aB, rfl, (H.pk [])⟩⟩

def za6 (s_Marks : List Mrk) : (Nat × (List Int)) -> M ((Nat × (List Int)) ⊕ ((List Int) × (List Int))) := fun (i, l) =>
  bif decide ((i : Int) < (s_Marks.length : Int)) then (
  M.grd (decide ((l.length + ([(i : Int)]).length) * 8 <= 140737488355328)) <|
  M.pure (.inl (i + 1, l ++ ([(i : Int)]))))
  else (
  M.pure (.inr (l, l)))
def za4 (s_Sections : List Sect) (s_Marks : List Mrk) (s_Reaches : List Rch) : M (List Int) :=
  M.bind (M.iter (za6 s_Marks) (0, [])) fun (l2, l3) =>
  M.pure l3
theorem zaR {R : List Chunk} {aj : Cells} {ac : Value} {ak : Cells} {ab : Value} {al : Cells} {ae : Value} (s_Sections : List Sect) (s_Marks : List Mrk) (s_Reaches : List Rch) (aC : Reads R aj) (aD : Sl aj ac s_Sections) (aE : Reads R ak) (am : Sl ak ab s_Marks) (aF : Reads R al) (aG : Sl al ae s_Reaches) {r : (List Int)} (hM : (za4 s_Sections s_Marks s_Reaches).Ends r) (w : World) (H : St w w [] R) : Ret Tryz.prog 18 #[.agg #[ac, ab, ae]] w fun v w' => ∃ (y0 : List Int) (u0 : Value), y0 = r /\ v = u0 /\ St w w' [cOwn (α := Int) 3 u0 y0] R := by
 refine ret_of_W Tryz.func18 rfl rfl rfl ?_
 refine W.seq ?_
 refine W.region rfl ?_
 refine t_box (v := .agg #[ac, ab, ae]) (cs := [ac, ab, ae]) H rfl rfl ?_
 intro ag aH H
 refine zA (.slice none 0 0) rfl ?_
 refine s_nil ?_
 refine W.seq ?_
 refine W.region rfl ?_
 refine zA (.slice none 0 0) rfl ?_
 refine s_nil ?_
 refine W.seq ?_
 refine W.seq ?_
 refine W.region rfl ?_
 refine zA (I 0) rfl ?_
 refine s_nil ?_
 refine W.block ?_
 replace H := H.nilOwn (α := Int) 3
 obtain ⟨au, ai, av⟩ := M.e_bind hM
 obtain ⟨aI, ai⟩ := M.e_iter ai
 refine W.loop (fun m σ W => ∃ (i : Nat) (l : List Int) (aa : Value) (ρ : Env), σ = upds ρ [(1, Pq ag), (3, aa), (4, I (i : Int))] /\ M.iterN (za6 s_Marks) m (i, l) = some au /\ St w W [cOwn (α := Int) 3 aa l, cBlk ag [ac, ab, ae] 27] R) ?_ ?_
 ·exact ⟨_, 0, [], (.slice none 0 0), _, upds_of _ _ ⟨rfl, rfl, rfl, trivial⟩, ai, H⟩
 rintro aJ σ aK ⟨i, l, aa, ρ, rfl, ao, H⟩
 obtain ⟨aw, ax, aL, hM, ap⟩ := M.e_iterN ao
 simp only [za6] at hM
 clear ao
 refine W.seq ?_
 refine W.seq ?_
 refine W.region rfl ?_
 refine zM (I (i : Int)) rfl ?_
 refine s_val (x_fa (a := Pq ag) (v := Oq ag 1) rfl (fa_blk (o := 0) Fd27_1 Sz24)) ?_
 refine s_val (x_ld (p := Oq ag 1) (v := ab) rfl (ldb_sc Sc24 (H.bl 1) rfl)) ?_
 have aM := (am).len_le
 refine s_val (x_lenS T24.und rfl am) ?_
 refine zC (i : Int) (s_Marks.length : Int) (decide ((i : Int) < (s_Marks.length : Int))) rfl rfl rfl ?_
 refine s_nil ?_
 refine W.cond (decide ((i : Int) < (s_Marks.length : Int))) rfl (fun ah => ?_) (fun ah => ?_)
 ·replace hM := M.e_t hM ah
  simp only [qy1, qy2, qy3, qy4, qy5, qy6, ne_eq, qy7] at ah
  refine W.skip ?_
  refine W.seq ?_
  refine W.block ?_
  refine W.region rfl ?_
  refine zM aa rfl ?_
  refine zM (I (i : Int)) rfl ?_
  refine t_bs (α := Int) T28 [I (i : Int)] [(i : Int)] H rfl (.cons rfl (Flat.rep_enc _ (i : Int)) <| .nil) rfl rfl rfl ?_
  intro ay aN H
  obtain ⟨az, hM⟩ := M.e_grd hM
  simp only [Bool.and_eq_true, decide_eq_true_eq] at az
  refine t_app (α := Int) (k := 1) (l := l) (l2 := [(i : Int)]) (l' := l ++ ([(i : Int)])) (vy := ay) T28 rfl H rfl rfl rfl (H.os 0) (H.ol 0) (rfl) (by first | omega | (simp only [List.length_nil] at *; omega)) ?_
  intro aq aO H
  replace H := H.nf
  refine zA aq rfl ?_
  refine s_nil ?_
  refine W.region rfl ?_
  refine zM (I (i : Int)) rfl ?_
  refine zR (i : Int) 1 ((i : Int) + 1) rfl rfl rfl (by omega) ?_
  refine zA (I ((i : Int) + 1)) rfl ?_
  refine s_nil ?_
  exact ⟨aw, ax, i + 1, l ++ ([(i : Int)]), aq, _, upds_of _ _ ⟨rfl, rfl, rfl, trivial⟩, M.e_inl hM ap, (H.pk [1, 2])⟩
 replace hM := M.e_f hM ah
 simp only [qy1, qy2, qy3, qy4, qy5, qy6, ne_eq, qy7] at ah
 refine W.exit ?_
 have aA := M.e_inr hM ap
 subst aA
 replace hM := av
 try dsimp only at hM
 refine W.seq ?_
 refine W.region rfl ?_
 refine zM aa rfl ?_
 refine zA aa rfl ?_
 refine s_nil ?_
 refine W.ret ?_
 have aB := M.e_pure hM
 exact ⟨_, resE_tmp rfl, ⟨l, aa, aB, rfl, (H.pk [0])⟩⟩

def zb8 (l : List Mrk) : M (List Mrk) :=
  M.grd (decide ((([] : List Mrk).length + l.length) * 24 <= 140737488355328)) <|
  M.pure l
theorem zcj {R : List Chunk} {ab : Cells} {aa : Value} (l : List Mrk) (ae : Reads R ab) (ag : Sl ab aa l) {r : (List Mrk)} (hM : (zb8 l).Ends r) (w : World) (H : St w w [] R) : Ret Tryz.prog 62 #[aa] w fun v w' => ∃ (y0 : List Mrk) (u0 : Value), y0 = r /\ v = u0 /\ St w w' [cOwn (α := Mrk) 70 u0 y0] R := by
 refine ret_of_W Tryz.func62 rfl rfl rfl ?_
 refine W.seq ?_
 refine W.region rfl ?_
 refine zA (.slice none 0 0) rfl ?_
 refine s_nil ?_
 refine W.seq ?_
 refine W.region rfl ?_
 refine zA (.slice none 0 0) rfl ?_
 refine s_nil ?_
 refine W.seq ?_
 refine W.region rfl ?_
 refine zM (.slice none 0 0) rfl ?_
 refine zM aa rfl ?_
 replace H := H.nilOwn (α := Mrk) 70
 obtain ⟨ah, hM⟩ := M.e_grd hM
 simp only [Bool.and_eq_true, decide_eq_true_eq] at ah
 refine t_app (α := Mrk) (k := 0) (l := []) (l2 := l) (l' := l) (vy := aa) T24 rfl H rfl rfl rfl ag (ae.at H) (List.nil_append _) (by first | omega | (simp only [List.length_nil] at *; omega)) ?_
 intro ac aj H
 replace H := H.nf
 refine zA ac rfl ?_
 refine s_nil ?_
 refine W.ret ?_
 have ai := M.e_pure hM
 exact ⟨_, resE_tmp rfl, ⟨l, ac, ai, rfl, H⟩⟩

def zbV (l : List Rch) : M (List Rch) :=
  M.grd (decide ((([] : List Rch).length + l.length) * 40 <= 140737488355328)) <|
  M.pure l
theorem zcb {R : List Chunk} {ab : Cells} {aa : Value} (l : List Rch) (ae : Reads R ab) (ag : Sl ab aa l) {r : (List Rch)} (hM : (zbV l).Ends r) (w : World) (H : St w w [] R) : Ret Tryz.prog 63 #[aa] w fun v w' => ∃ (y0 : List Rch) (u0 : Value), y0 = r /\ v = u0 /\ St w w' [cOwn (α := Rch) 58 u0 y0] R := by
 refine ret_of_W Tryz.func63 rfl rfl rfl ?_
 refine W.seq ?_
 refine W.region rfl ?_
 refine zA (.slice none 0 0) rfl ?_
 refine s_nil ?_
 refine W.seq ?_
 refine W.region rfl ?_
 refine zA (.slice none 0 0) rfl ?_
 refine s_nil ?_
 refine W.seq ?_
 refine W.region rfl ?_
 refine zM (.slice none 0 0) rfl ?_
 refine zM aa rfl ?_
 replace H := H.nilOwn (α := Rch) 58
 obtain ⟨ah, hM⟩ := M.e_grd hM
 simp only [Bool.and_eq_true, decide_eq_true_eq] at ah
 refine t_app (α := Rch) (k := 0) (l := []) (l2 := l) (l' := l) (vy := aa) T25 rfl H rfl rfl rfl ag (ae.at H) (List.nil_append _) (by first | omega | (simp only [List.length_nil] at *; omega)) ?_
 intro ac aj H
 replace H := H.nf
 refine zA ac rfl ?_
 refine s_nil ?_
 refine W.ret ?_
 have ai := M.e_pure hM
 exact ⟨_, resE_tmp rfl, ⟨l, ac, ai, rfl, H⟩⟩

def zbC (l : List FRow) : M (List FRow) :=
  M.grd (decide ((([] : List FRow).length + l.length) * 16 <= 140737488355328)) <|
  M.pure l
theorem zaB {R : List Chunk} {ab : Cells} {aa : Value} (l : List FRow) (ae : Reads R ab) (ag : Sl ab aa l) {r : (List FRow)} (hM : (zbC l).Ends r) (w : World) (H : St w w [] R) : Ret Tryz.prog 64 #[aa] w fun v w' => ∃ (y0 : List FRow) (u0 : Value), y0 = r /\ v = u0 /\ St w w' [cOwn (α := FRow) 109 u0 y0] R := by
 refine ret_of_W Tryz.func64 rfl rfl rfl ?_
 refine W.seq ?_
 refine W.region rfl ?_
 refine zA (.slice none 0 0) rfl ?_
 refine s_nil ?_
 refine W.seq ?_
 refine W.region rfl ?_
 refine zA (.slice none 0 0) rfl ?_
 refine s_nil ?_
 refine W.seq ?_
 refine W.region rfl ?_
 refine zM (.slice none 0 0) rfl ?_
 refine zM aa rfl ?_
 replace H := H.nilOwn (α := FRow) 109
 obtain ⟨ah, hM⟩ := M.e_grd hM
 simp only [Bool.and_eq_true, decide_eq_true_eq] at ah
 refine t_app (α := FRow) (k := 0) (l := []) (l2 := l) (l' := l) (vy := aa) T66 rfl H rfl rfl rfl ag (ae.at H) (List.nil_append _) (by first | omega | (simp only [List.length_nil] at *; omega)) ?_
 intro ac aj H
 replace H := H.nf
 refine zA ac rfl ?_
 refine s_nil ?_
 refine W.ret ?_
 have ai := M.e_pure hM
 exact ⟨_, resE_tmp rfl, ⟨l, ac, ai, rfl, H⟩⟩

def zak (s_Sections : List Sect) : (Nat × (List Sect)) -> M ((Nat × (List Sect)) ⊕ ((List Sect) × (List Sect))) := fun (i, l) =>
  bif decide ((i : Int) < (s_Sections.length : Int)) then (
  M.grd (decide ((i : Int) < (s_Sections.length : Int))) <|
  M.bind (zbC ((s_Sections.getD i default).rows)) fun r4 =>
  M.grd (decide ((l.length + ([(⟨((s_Sections.getD i default).place : Int), r4⟩ : Sect)]).length) * 32 <= 140737488355328)) <|
  M.pure (.inl (i + 1, l ++ ([(⟨((s_Sections.getD i default).place : Int), r4⟩ : Sect)]))))
  else (
  M.pure (.inr (l, l)))
def zbg (s_Sections : List Sect) (s_Marks : List Mrk) (s_Reaches : List Rch) : M ((List Sect) × (List Mrk) × (List Rch)) :=
  M.bind (zb8 s_Marks) fun r2 =>
  M.bind (zbV s_Reaches) fun r3 =>
  M.bind (M.iter (zak s_Sections) (0, [])) fun (l2, l3) =>
  M.pure (l3, r2, r3)
theorem zcQ {R : List Chunk} {ce : Cells} {ae : Value} {cf : Cells} {au : Value} {cg : Cells} {aq : Value} (s_Sections : List Sect) (s_Marks : List Mrk) (s_Reaches : List Rch) (av : Reads R ce) (am : Sl ce ae s_Sections) (ch : Reads R cf) (ci : Sl cf au s_Marks) (bH : Reads R cg) (bI : Sl cg aq s_Reaches) {r : ((List Sect) × (List Mrk) × (List Rch))} (hM : (zbg s_Sections s_Marks s_Reaches).Ends r) (w : World) (H : St w w [] R) : Ret Tryz.prog 17 #[.agg #[ae, au, aq]] w fun v w' => ∃ (y0 : List Sect) (y1 : List Mrk) (y2 : List Rch) (u0 : Value) (rr1 : List (Raw 1)) (cj : Base) (u3 : Value) (u4 : Value), (y0, y1, y2) = r /\ v = .agg #[u0, u3, u4] /\ St w w' [cOwn (α := Raw 1) 68 u0 rr1, cRo cj, cOwn (α := Mrk) 70 u3 y1, cOwn (α := Rch) 58 u4 y2] R /\ RepR (α := Sect) cj.cells rr1 y0 := by
 refine ret_of_W Tryz.func17 rfl rfl rfl ?_
 refine W.seq ?_
 refine W.region rfl ?_
 refine t_box (v := .agg #[ae, au, aq]) (cs := [ae, au, aq]) H rfl rfl ?_
 intro ak ff H
 refine t_alloc (cs := [.slice none 0 0, .slice none 0 0, .slice none 0 0]) H Al27 rfl ?_
 intro az fg H
 refine s_nil ?_
 refine W.seq ?_
 refine W.drawT (fun W => St w W [cBlk az [.slice none 0 0, .slice none 0 0, .slice none 0 0] 27, cBlk ak [ae, au, aq] 27] R) (.q 0 (.q 1 (.q 3 (.q 4 (.l2 2 (.l2 5 (.q 6 (.l 7 (.l 8 .nil))) 7 (.l 5 (.q 6 (.l 8 .nil)))) 7 (.l 2 (.l 5 (.q 6 (.l 8 .nil))))))))) mixed (by decide +kernel) rfl ?_
 intro fh aw
 replace H := H.ext aw
 clear aw
 refine ⟨(H.pk [0, 1]), ?_⟩
 refine t_q rfl (fun w' H => x_fa (a := Pq ak) (v := Oq ak 1) rfl (fa_blk (o := 0) Fd27_1 Sz24)) ?_
 refine t_q rfl (fun w' H => x_ld (p := Oq ak 1) (v := au) rfl (ldb_sc Sc24 (H.bl 1) rfl)) ?_
 refine t_q rfl (fun w' H => x_fa (a := Pq ak) (v := Oq ak 2) rfl (fa_blk (o := 0) Fd27_2 Sz25)) ?_
 refine t_q rfl (fun w' H => x_ld (p := Oq ak 2) (v := aq) rfl (ldb_sc Sc25 (H.bl 1) rfl)) ?_
 refine t_l2 rfl rfl ?_ ?_
 ·skip
  obtain ⟨fi, cE, hM⟩ := M.e_bind hM
  refine s_call cf62 [au] rfl (zcj s_Marks (ch.app _) ci cE _ (H.gt 2)) ?_
  rintro vq fj ⟨r2, ai, cF, hvq, al⟩
  subst cF
  subst vq
  try dsimp only at hM
  replace H := H.bk al
  clear al
  have ck := Sl.cells (H.os 0)
  have fk := Sl.oc (H.os 0)
  refine s_nil ⟨(H.pk [1, 2]), ?_⟩
  refine t_l2 rfl rfl ?_ ?_
  ·skip
   obtain ⟨fm, cG, hM⟩ := M.e_bind hM
   refine s_call cf63 [aq] rfl (zcb s_Reaches (bH.app _) bI cG _ (H.gt 3)) ?_
   rintro vq fo ⟨r3, ag, cH, hvq, al⟩
   subst cH
   subst vq
   try dsimp only at hM
   replace H := H.bk al
   clear al
   have cI := Sl.cells (H.os 0)
   have fp := Sl.oc (H.os 0)
   refine s_nil ⟨(H.pk [2, 3]), ?_⟩
   refine t_q rfl (fun w' H => x_bld (ps := [(1, ai), (2, ag)]) (zs := [.slice none 0 0, .slice none 0 0, .slice none 0 0]) (L' := [.slice none 0 0, ai, ag]) rfl Tryz.underlying27 Al27 rfl (Bd27 Tryz.underlying27) (.cons (cs := [ai]) ck rfl rfl rfl rfl <| .cons (cs := [ag]) cI rfl rfl rfl rfl <| .nil)) ?_
   refine t_l rfl ?_
   refine t_alloc (cs := [.slice none 0 0, .slice none 0 0, .slice none 0 0]) H Al27 rfl ?_
   intro ac fq H
   refine s_nil ⟨(H.pk [3, 4]), ?_⟩
   refine t_l rfl ?_
   refine t_sw 0 0 [.slice none 0 0, ai, ag] (.agg #[.slice none 0 0, ai, ag]) H rfl rfl Sz27 rfl rfl rfl (by simp only [List.all_cons, List.all_nil, Bool.true_and, Bool.and_true, Sl.oc (H.os 2), Sl.oc (H.os 1)]; try rfl) ?_
   intro fu H
   refine s_nil ⟨(H.pk [3, 4]), ?_⟩
   refine t_nil ?_
   refine W.seq ?_
   refine W.seq ?_
   refine W.region rfl ?_
   refine zA (I 0) rfl ?_
   refine s_nil ?_
   refine W.block ?_
   obtain ⟨aA, H⟩ := H.emptyE
   replace H := H.nilOwn (α := Raw 1) 68
   have cJ : RepR (α := Sect) (n := 1) aA.cells [] [] := .nil
   obtain ⟨cK, bJ, cL⟩ := M.e_bind hM
   obtain ⟨cn, bJ⟩ := M.e_iter bJ
   refine W.loop (fun m σ W => ∃ (i : Nat) (l : List Sect) (aj : Value) (ah : List (Raw 1)) (B_l : Base) (ρ : Env), σ = upds ρ [(1, Pq ak), (2, Pq az), (3, Pq ac), (4, I (i : Int))] /\ M.iterN (zak s_Sections) m (i, l) = some cK /\ St w W [cOwn (α := Raw 1) 68 aj ah, cRo B_l, cBlk ac [aj, ai, ag] 27, cOwn (α := Rch) 58 ag r3, cOwn (α := Mrk) 70 ai r2, cBlk az [.slice none 0 0, .slice none 0 0, .slice none 0 0] 27, cBlk ak [ae, au, aq] 27] R /\ RepR (α := Sect) B_l.cells ah l) ?_ ?_
   ·exact ⟨_, 0, [], (.slice none 0 0), [], aA, _, upds_of _ _ ⟨rfl, rfl, rfl, rfl, trivial⟩, bJ, H, cJ⟩
   rintro fw σ fx ⟨i, l, aj, ah, B_l, ρ, rfl, co, H, ab⟩
   obtain ⟨aX, aY, fy, hM, aN⟩ := M.e_iterN co
   simp only [zak] at hM
   clear co
   refine W.seq ?_
   refine W.seq ?_
   refine W.region rfl ?_
   refine zM (I (i : Int)) rfl ?_
   refine s_val (x_fa (a := Pq ak) (v := Pq ak) rfl (fa_blk (o := 0) Fd27_0 Sz23)) ?_
   refine s_val (x_ld (p := Pq ak) (v := ae) rfl (ldb_sc Sc23 (H.bl 6) rfl)) ?_
   have fA := (am).len_le
   refine s_val (x_lenS T23.und rfl am) ?_
   refine zC (i : Int) (s_Sections.length : Int) (decide ((i : Int) < (s_Sections.length : Int))) rfl rfl rfl ?_
   refine s_nil ?_
   refine W.cond (decide ((i : Int) < (s_Sections.length : Int))) rfl (fun aO => ?_) (fun aO => ?_)
   ·replace hM := M.e_t hM aO
    simp only [qy1, qy2, qy3, qy4, qy5, qy6, ne_eq, qy7] at aO
    refine W.skip ?_
    refine W.seq ?_
    refine W.block ?_
    refine W.drawT (fun W => St w W [cRo B_l, cOwn (α := Rch) 58 ag r3, cOwn (α := Mrk) 70 ai r2, cBlk az [.slice none 0 0, .slice none 0 0, .slice none 0 0] 27, cBlk ak [ae, au, aq] 27] R) (.q 0 (.q 2 (.q 3 (.q 4 (.q 5 (.q 6 (.q 7 (.q 8 (.q 9 (.q 10 (.q 11 (.q 12 (.q 13 (.l2 1 (.l 14 (.l 15 (.l 16 (.l 17 (.q 18 (.l 19 .nil)))))) 14 (.l2 1 (.l 15 (.l 16 (.l 17 (.q 18 (.l 19 .nil))))) 15 (.l2 1 (.l 16 (.l 17 (.q 18 (.l 19 .nil)))) 16 (.l 1 (.l 17 (.q 18 (.l 19 .nil)))))))))))))))))))) mixed (by decide +kernel) rfl ?_
    intro fB aw
    replace H := H.ext aw
    clear aw
    refine ⟨(H.pk [1, 3, 4, 5, 6]), ?_⟩
    refine t_q rfl (fun w' H => x_fa (a := Pq ac) (v := Pq ac) rfl (fa_blk (o := 0) Fd27_0 Sz23)) ?_
    refine t_q rfl (fun w' H => x_fa (a := Pq ak) (v := Pq ak) rfl (fa_blk (o := 0) Fd27_0 Sz23)) ?_
    refine t_q rfl (fun w' H => x_ld (p := Pq ak) (v := ae) rfl (ldb_sc Sc23 (H.bl 4) rfl)) ?_
    refine t_q rfl (fun w' H => x_mv (v := I (i : Int)) rfl) ?_
    obtain ⟨cM, hM⟩ := M.e_grd hM
    simp only [Bool.and_eq_true, decide_eq_true_eq] at cM
    refine t_q rfl (fun w' H => x_ix (a := ae) (b := I (i : Int)) (v := vat ae 2 (Int.toNat (i : Int))) rfl rfl (Sl.ix (α := Sect) T23.und T23.size am (by omega) (by omega))) ?_
    refine t_q rfl (fun w' H => x_fa (a := vat ae 2 (Int.toNat (i : Int))) (v := fat (vat ae 2 (Int.toNat (i : Int))) 0) rfl (fa_pl Fd68_0 Sz3 (Sl.pl (i := (i : Int)) am (by omega) (by omega)))) ?_
    refine t_q rfl (fun w' H => x_ld (p := fat (vat ae 2 (Int.toNat (i : Int))) 0) (v := I ((s_Sections.getD i default).place)) rfl (ld_sc Sc3 (At.mono (Sect_at0 am (i := (i : Int)) (by omega) (by omega)) (av.at H)))) ?_
    refine t_q rfl (fun w' H => x_fa (a := Pq ak) (v := Pq ak) rfl (fa_blk (o := 0) Fd27_0 Sz23)) ?_
    refine t_q rfl (fun w' H => x_ld (p := Pq ak) (v := ae) rfl (ldb_sc Sc23 (H.bl 4) rfl)) ?_
    refine t_q rfl (fun w' H => x_mv (v := I (i : Int)) rfl) ?_
    refine t_q rfl (fun w' H => x_ix (a := ae) (b := I (i : Int)) (v := vat ae 2 (Int.toNat (i : Int))) rfl rfl (Sl.ix (α := Sect) T23.und T23.size am (by omega) (by omega))) ?_
    refine t_q rfl (fun w' H => x_fa (a := vat ae 2 (Int.toNat (i : Int))) (v := fat (vat ae 2 (Int.toNat (i : Int))) 1) rfl (fa_pl Fd68_1 Sz66 (Sl.pl (i := (i : Int)) am (by omega) (by omega)))) ?_
    obtain ⟨aZ, cN, aP⟩ := Sect_at1 am (i := (i : Int)) (by omega) (by omega)
    replace aP : Sl _ aZ (s_Sections.getD i default).rows := aP
    have fC := aP.len_le
    refine t_q rfl (fun w' H => x_ld (p := fat (vat ae 2 (Int.toNat (i : Int))) 1) (v := aZ) rfl (ld_sc Sc66 (At.mono (cN) (av.at H)))) ?_
    refine t_l2 rfl rfl ?_ ?_
    ·skip
     refine s_val (x_ld (p := Pq ac) (v := aj) rfl (ldb_sc Sc23 (H.bl 2) rfl)) ?_
     have fD := Sl.cells (H.os 0)
     have fE := Sl.oc (H.os 0)
     refine s_nil ⟨(H.pk [1, 3, 4, 5, 6]), ?_⟩
     refine t_l rfl ?_
     obtain ⟨fF, cO, hM⟩ := M.e_bind hM
     refine s_call cf64 [aZ] rfl (zaB ((s_Sections.getD i default).rows) (av.app _) aP cO _ (H.gt 7)) ?_
     rintro vq fG ⟨r4, aa, cP, hvq, al⟩
     subst cP
     subst vq
     try dsimp only at hM
     replace H := H.bk al
     clear al
     have fH := Sl.cells (H.os 0)
     have fI := Sl.oc (H.os 0)
     refine s_nil ⟨(H.pk [2, 4, 5, 6, 7]), ?_⟩
     refine t_l rfl ?_
     refine s_val (x_bld (ps := [(0, I ((s_Sections.getD i default).place)), (1, aa)]) (zs := [I 0, .slice none 0 0]) (L' := [I ((s_Sections.getD i default).place), aa]) rfl Tryz.underlying68 Al68 rfl (Bd68 Tryz.underlying68) (.cons (cs := [I ((s_Sections.getD i default).place)]) rfl rfl rfl rfl rfl <| .cons (cs := [aa]) (Sl.cells (H.os 0)) rfl rfl rfl rfl <| .nil)) ?_
     refine s_nil ⟨(H.pk [2, 4, 5, 6, 7]), ?_⟩
     refine t_l rfl ?_
     obtain ⟨ax, H⟩ := H.emptyE
     obtain ⟨ay, H, cQ⟩ := H.freezeE (k := 1) rfl
     replace H := H.nf
     have a6 := cQ
     obtain ⟨ao, H, fJ, cR⟩ := H.joinE (i := 0) (j := 1) rfl rfl
     replace a6 := a6.mono cR
     obtain ⟨aB, cp⟩ : ∃ r : Raw 1, r.cs = [I ((s_Sections.getD i default).place), aa] := ⟨Raw.of [I ((s_Sections.getD i default).place), aa] rfl (by simp only [List.all_cons, List.all_nil, Bool.true_and, Bool.and_true, Sl.oc a6]; try rfl), rfl⟩
     have cS : RepR (α := Sect) ao.cells [aB] [(⟨((s_Sections.getD i default).place : Int), r4⟩ : Sect)] := .cons (by rw [cp]; exact ⟨_, rfl, a6⟩) <| .nil
     refine t_bs (α := Raw 1) T23 [.agg #[I ((s_Sections.getD i default).place), aa]] [aB] H rfl (.cons (by rw [show (Flat.enc aB : List Value) = aB.cs from rfl, cp]; rfl) (Flat.rep_enc _ _) <| .nil) rfl rfl rfl ?_
     intro cT fK H
     replace H := H.nf
     have fL := Sl.cells (H.os 0)
     have fM := Sl.oc (H.os 0)
     refine s_nil ⟨(H.pk [5, 7, 8, 9, 10]), ?_⟩
     refine t_l rfl ?_
     obtain ⟨cU, hM⟩ := M.e_grd hM
     simp only [Bool.and_eq_true, decide_eq_true_eq] at cU
     have a7 := cS
     obtain ⟨ap, H, cV, cW⟩ := H.joinE (i := 5) (j := 1) rfl rfl
     replace ab := ab.mono cV
     replace a7 := a7.mono cW
     have bK := ab.app a7
     refine t_app (α := Raw 1) (k := 5) (l := ah) (l2 := [aB]) (l' := ah ++ ([aB])) (vy := cT) T23 rfl H rfl rfl rfl (H.os 1) (H.ol 1) (rfl) (by have a_ := ab.len; have b_ := a7.len; (try simp only [List.length_nil] at *); first | omega | (rw [a_, b_]; omega)) ?_
     intro bL fN H
     replace H := H.nf
     have fO := Sl.cells (H.os 5)
     have fP := Sl.oc (H.os 5)
     refine s_nil ⟨(H.pk [6, 8, 9, 10, 11]), ?_⟩
     refine t_q rfl (fun w' H => x_fa (a := Pq ac) (v := Pq ac) rfl (fa_blk (o := 0) Fd27_0 Sz23)) ?_
     refine t_l rfl ?_
     refine t_sw 7 0 [bL] bL H rfl rfl Sz23 (Sl.cells (rowSl rfl (H.get (k := 5) rfl) (roLe _ (H.get (k := 0) rfl)) bK)) rfl rfl (by simp only [List.all_cons, List.all_nil, Bool.true_and, Bool.and_true, Sl.oc (rowSl rfl (H.get (k := 5) rfl) (roLe _ (H.get (k := 0) rfl)) bK)]; try rfl) ?_
     intro fQ H
     refine s_nil ⟨(H.pk [6, 8, 9, 10, 11]), ?_⟩
     refine t_nil ?_
     replace H := H.pk [0, 5, 6, 7, 8, 9, 10, 11]
     refine W.region rfl ?_
     refine zM (I (i : Int)) rfl ?_
     refine zR (i : Int) 1 ((i : Int) + 1) rfl rfl rfl (by omega) ?_
     refine zA (I ((i : Int) + 1)) rfl ?_
     refine s_nil ?_
     exact ⟨aX, aY, i + 1, l ++ ([(⟨((s_Sections.getD i default).place : Int), r4⟩ : Sect)]), bL, ah ++ ([aB]), ap, _, upds_of _ _ ⟨rfl, rfl, rfl, rfl, trivial⟩, M.e_inl hM aN, (H.pk [1, 0, 3, 4, 5, 6, 7]), bK⟩
    skip
    obtain ⟨fR, cX, hM⟩ := M.e_bind hM
    refine s_call cf64 [aZ] rfl (zaB ((s_Sections.getD i default).rows) (av.app _) aP cX _ (H.gt 7)) ?_
    rintro vq fS ⟨r4, aa, cY, hvq, al⟩
    subst cY
    subst vq
    try dsimp only at hM
    replace H := H.bk al
    clear al
    have fT := Sl.cells (H.os 0)
    have fU := Sl.oc (H.os 0)
    have fV := Sl.cells (H.os 1)
    have fW := Sl.oc (H.os 1)
    refine s_nil ⟨(H.pk [2, 4, 5, 6, 7]), ?_⟩
    obtain ⟨cZ, hM⟩ := M.e_grd hM
    simp only [Bool.and_eq_true, decide_eq_true_eq] at cZ
    refine t_l2 rfl rfl ?_ ?_
    ·skip
     refine s_val (x_ld (p := Pq ac) (v := aj) rfl (ldb_sc Sc23 (H.bl 3) rfl)) ?_
     refine s_nil ⟨(H.pk [2, 4, 5, 6, 7]), ?_⟩
     refine t_l rfl ?_
     refine s_val (x_bld (ps := [(0, I ((s_Sections.getD i default).place)), (1, aa)]) (zs := [I 0, .slice none 0 0]) (L' := [I ((s_Sections.getD i default).place), aa]) rfl Tryz.underlying68 Al68 rfl (Bd68 Tryz.underlying68) (.cons (cs := [I ((s_Sections.getD i default).place)]) rfl rfl rfl rfl rfl <| .cons (cs := [aa]) (Sl.cells (H.os 0)) rfl rfl rfl rfl <| .nil)) ?_
     refine s_nil ⟨(H.pk [2, 4, 5, 6, 7]), ?_⟩
     refine t_l rfl ?_
     obtain ⟨ax, H⟩ := H.emptyE
     obtain ⟨ay, H, c8⟩ := H.freezeE (k := 1) rfl
     replace H := H.nf
     have a8 := c8
     obtain ⟨ao, H, fX, c9⟩ := H.joinE (i := 0) (j := 1) rfl rfl
     replace a8 := a8.mono c9
     obtain ⟨aC, cq⟩ : ∃ r : Raw 1, r.cs = [I ((s_Sections.getD i default).place), aa] := ⟨Raw.of [I ((s_Sections.getD i default).place), aa] rfl (by simp only [List.all_cons, List.all_nil, Bool.true_and, Bool.and_true, Sl.oc a8]; try rfl), rfl⟩
     have da : RepR (α := Sect) ao.cells [aC] [(⟨((s_Sections.getD i default).place : Int), r4⟩ : Sect)] := .cons (by rw [cq]; exact ⟨_, rfl, a8⟩) <| .nil
     refine t_bs (α := Raw 1) T23 [.agg #[I ((s_Sections.getD i default).place), aa]] [aC] H rfl (.cons (by rw [show (Flat.enc aC : List Value) = aC.cs from rfl, cq]; rfl) (Flat.rep_enc _ _) <| .nil) rfl rfl rfl ?_
     intro db fY H
     replace H := H.nf
     have fZ := Sl.cells (H.os 0)
     have f2 := Sl.oc (H.os 0)
     refine s_nil ⟨(H.pk [5, 7, 8, 9, 10]), ?_⟩
     refine t_l rfl ?_
     have ba := da
     obtain ⟨ap, H, dc, dd⟩ := H.joinE (i := 5) (j := 1) rfl rfl
     replace ab := ab.mono dc
     replace ba := ba.mono dd
     have bM := ab.app ba
     refine t_app (α := Raw 1) (k := 5) (l := ah) (l2 := [aC]) (l' := ah ++ ([aC])) (vy := db) T23 rfl H rfl rfl rfl (H.os 1) (H.ol 1) (rfl) (by have a_ := ab.len; have b_ := ba.len; (try simp only [List.length_nil] at *); first | omega | (rw [a_, b_]; omega)) ?_
     intro bN f3 H
     replace H := H.nf
     have f6 := Sl.cells (H.os 5)
     have f9 := Sl.oc (H.os 5)
     refine s_nil ⟨(H.pk [6, 8, 9, 10, 11]), ?_⟩
     refine t_q rfl (fun w' H => x_fa (a := Pq ac) (v := Pq ac) rfl (fa_blk (o := 0) Fd27_0 Sz23)) ?_
     refine t_l rfl ?_
     refine t_sw 7 0 [bN] bN H rfl rfl Sz23 (Sl.cells (rowSl rfl (H.get (k := 5) rfl) (roLe _ (H.get (k := 0) rfl)) bM)) rfl rfl (by simp only [List.all_cons, List.all_nil, Bool.true_and, Bool.and_true, Sl.oc (rowSl rfl (H.get (k := 5) rfl) (roLe _ (H.get (k := 0) rfl)) bM)]; try rfl) ?_
     intro ga H
     refine s_nil ⟨(H.pk [6, 8, 9, 10, 11]), ?_⟩
     refine t_nil ?_
     replace H := H.pk [0, 5, 6, 7, 8, 9, 10, 11]
     refine W.region rfl ?_
     refine zM (I (i : Int)) rfl ?_
     refine zR (i : Int) 1 ((i : Int) + 1) rfl rfl rfl (by omega) ?_
     refine zA (I ((i : Int) + 1)) rfl ?_
     refine s_nil ?_
     exact ⟨aX, aY, i + 1, l ++ ([(⟨((s_Sections.getD i default).place : Int), r4⟩ : Sect)]), bN, ah ++ ([aC]), ap, _, upds_of _ _ ⟨rfl, rfl, rfl, rfl, trivial⟩, M.e_inl hM aN, (H.pk [1, 0, 3, 4, 5, 6, 7]), bM⟩
    skip
    refine s_val (x_bld (ps := [(0, I ((s_Sections.getD i default).place)), (1, aa)]) (zs := [I 0, .slice none 0 0]) (L' := [I ((s_Sections.getD i default).place), aa]) rfl Tryz.underlying68 Al68 rfl (Bd68 Tryz.underlying68) (.cons (cs := [I ((s_Sections.getD i default).place)]) rfl rfl rfl rfl rfl <| .cons (cs := [aa]) (Sl.cells (H.os 0)) rfl rfl rfl rfl <| .nil)) ?_
    refine s_nil ⟨(H.pk [2, 4, 5, 6, 7]), ?_⟩
    refine t_l2 rfl rfl ?_ ?_
    ·skip
     refine s_val (x_ld (p := Pq ac) (v := aj) rfl (ldb_sc Sc23 (H.bl 3) rfl)) ?_
     refine s_nil ⟨(H.pk [2, 4, 5, 6, 7]), ?_⟩
     refine t_l rfl ?_
     obtain ⟨ax, H⟩ := H.emptyE
     obtain ⟨ay, H, de⟩ := H.freezeE (k := 1) rfl
     replace H := H.nf
     have bb := de
     obtain ⟨ao, H, gc, dg⟩ := H.joinE (i := 0) (j := 1) rfl rfl
     replace bb := bb.mono dg
     obtain ⟨aD, cr⟩ : ∃ r : Raw 1, r.cs = [I ((s_Sections.getD i default).place), aa] := ⟨Raw.of [I ((s_Sections.getD i default).place), aa] rfl (by simp only [List.all_cons, List.all_nil, Bool.true_and, Bool.and_true, Sl.oc bb]; try rfl), rfl⟩
     have dh : RepR (α := Sect) ao.cells [aD] [(⟨((s_Sections.getD i default).place : Int), r4⟩ : Sect)] := .cons (by rw [cr]; exact ⟨_, rfl, bb⟩) <| .nil
     refine t_bs (α := Raw 1) T23 [.agg #[I ((s_Sections.getD i default).place), aa]] [aD] H rfl (.cons (by rw [show (Flat.enc aD : List Value) = aD.cs from rfl, cr]; rfl) (Flat.rep_enc _ _) <| .nil) rfl rfl rfl ?_
     intro di gf H
     replace H := H.nf
     have gg := Sl.cells (H.os 0)
     have gh := Sl.oc (H.os 0)
     refine s_nil ⟨(H.pk [5, 7, 8, 9, 10]), ?_⟩
     refine t_l rfl ?_
     have bc := dh
     obtain ⟨ap, H, dj, dk⟩ := H.joinE (i := 5) (j := 1) rfl rfl
     replace ab := ab.mono dj
     replace bc := bc.mono dk
     have bO := ab.app bc
     refine t_app (α := Raw 1) (k := 5) (l := ah) (l2 := [aD]) (l' := ah ++ ([aD])) (vy := di) T23 rfl H rfl rfl rfl (H.os 1) (H.ol 1) (rfl) (by have a_ := ab.len; have b_ := bc.len; (try simp only [List.length_nil] at *); first | omega | (rw [a_, b_]; omega)) ?_
     intro bP gi H
     replace H := H.nf
     have gj := Sl.cells (H.os 5)
     have gk := Sl.oc (H.os 5)
     refine s_nil ⟨(H.pk [6, 8, 9, 10, 11]), ?_⟩
     refine t_q rfl (fun w' H => x_fa (a := Pq ac) (v := Pq ac) rfl (fa_blk (o := 0) Fd27_0 Sz23)) ?_
     refine t_l rfl ?_
     refine t_sw 7 0 [bP] bP H rfl rfl Sz23 (Sl.cells (rowSl rfl (H.get (k := 5) rfl) (roLe _ (H.get (k := 0) rfl)) bO)) rfl rfl (by simp only [List.all_cons, List.all_nil, Bool.true_and, Bool.and_true, Sl.oc (rowSl rfl (H.get (k := 5) rfl) (roLe _ (H.get (k := 0) rfl)) bO)]; try rfl) ?_
     intro gl H
     refine s_nil ⟨(H.pk [6, 8, 9, 10, 11]), ?_⟩
     refine t_nil ?_
     replace H := H.pk [0, 5, 6, 7, 8, 9, 10, 11]
     refine W.region rfl ?_
     refine zM (I (i : Int)) rfl ?_
     refine zR (i : Int) 1 ((i : Int) + 1) rfl rfl rfl (by omega) ?_
     refine zA (I ((i : Int) + 1)) rfl ?_
     refine s_nil ?_
     exact ⟨aX, aY, i + 1, l ++ ([(⟨((s_Sections.getD i default).place : Int), r4⟩ : Sect)]), bP, ah ++ ([aD]), ap, _, upds_of _ _ ⟨rfl, rfl, rfl, rfl, trivial⟩, M.e_inl hM aN, (H.pk [1, 0, 3, 4, 5, 6, 7]), bO⟩
    skip
    obtain ⟨ax, H⟩ := H.emptyE
    obtain ⟨ay, H, dm⟩ := H.freezeE (k := 1) rfl
    replace H := H.nf
    have bf := dm
    obtain ⟨ao, H, gm, dp⟩ := H.joinE (i := 0) (j := 1) rfl rfl
    replace bf := bf.mono dp
    obtain ⟨aE, ct⟩ : ∃ r : Raw 1, r.cs = [I ((s_Sections.getD i default).place), aa] := ⟨Raw.of [I ((s_Sections.getD i default).place), aa] rfl (by simp only [List.all_cons, List.all_nil, Bool.true_and, Bool.and_true, Sl.oc bf]; try rfl), rfl⟩
    have dq : RepR (α := Sect) ao.cells [aE] [(⟨((s_Sections.getD i default).place : Int), r4⟩ : Sect)] := .cons (by rw [ct]; exact ⟨_, rfl, bf⟩) <| .nil
    refine t_bs (α := Raw 1) T23 [.agg #[I ((s_Sections.getD i default).place), aa]] [aE] H rfl (.cons (by rw [show (Flat.enc aE : List Value) = aE.cs from rfl, ct]; rfl) (Flat.rep_enc _ _) <| .nil) rfl rfl rfl ?_
    intro dr gn H
    replace H := H.nf
    have gp := Sl.cells (H.os 0)
    have gq := Sl.oc (H.os 0)
    refine s_nil ⟨(H.pk [5, 7, 8, 9, 10]), ?_⟩
    refine t_l rfl ?_
    refine s_val (x_ld (p := Pq ac) (v := aj) rfl (ldb_sc Sc23 (H.bl 6) rfl)) ?_
    refine s_nil ⟨(H.pk [5, 7, 8, 9, 10]), ?_⟩
    refine t_l rfl ?_
    have bg := dq
    obtain ⟨ap, H, dt, dv⟩ := H.joinE (i := 5) (j := 1) rfl rfl
    replace ab := ab.mono dt
    replace bg := bg.mono dv
    have bQ := ab.app bg
    refine t_app (α := Raw 1) (k := 5) (l := ah) (l2 := [aE]) (l' := ah ++ ([aE])) (vy := dr) T23 rfl H rfl rfl rfl (H.os 1) (H.ol 1) (rfl) (by have a_ := ab.len; have b_ := bg.len; (try simp only [List.length_nil] at *); first | omega | (rw [a_, b_]; omega)) ?_
    intro bR gr H
    replace H := H.nf
    have gu := Sl.cells (H.os 5)
    have gv := Sl.oc (H.os 5)
    refine s_nil ⟨(H.pk [6, 8, 9, 10, 11]), ?_⟩
    refine t_q rfl (fun w' H => x_fa (a := Pq ac) (v := Pq ac) rfl (fa_blk (o := 0) Fd27_0 Sz23)) ?_
    refine t_l rfl ?_
    refine t_sw 7 0 [bR] bR H rfl rfl Sz23 (Sl.cells (rowSl rfl (H.get (k := 5) rfl) (roLe _ (H.get (k := 0) rfl)) bQ)) rfl rfl (by simp only [List.all_cons, List.all_nil, Bool.true_and, Bool.and_true, Sl.oc (rowSl rfl (H.get (k := 5) rfl) (roLe _ (H.get (k := 0) rfl)) bQ)]; try rfl) ?_
    intro gw H
    refine s_nil ⟨(H.pk [6, 8, 9, 10, 11]), ?_⟩
    refine t_nil ?_
    replace H := H.pk [0, 5, 6, 7, 8, 9, 10, 11]
    refine W.region rfl ?_
    refine zM (I (i : Int)) rfl ?_
    refine zR (i : Int) 1 ((i : Int) + 1) rfl rfl rfl (by omega) ?_
    refine zA (I ((i : Int) + 1)) rfl ?_
    refine s_nil ?_
    exact ⟨aX, aY, i + 1, l ++ ([(⟨((s_Sections.getD i default).place : Int), r4⟩ : Sect)]), bR, ah ++ ([aE]), ap, _, upds_of _ _ ⟨rfl, rfl, rfl, rfl, trivial⟩, M.e_inl hM aN, (H.pk [1, 0, 3, 4, 5, 6, 7]), bQ⟩
   replace hM := M.e_f hM aO
   simp only [qy1, qy2, qy3, qy4, qy5, qy6, ne_eq, qy7] at aO
   refine W.exit ?_
   have dw := M.e_inr hM aN
   subst dw
   replace hM := cL
   try dsimp only at hM
   refine W.seq ?_
   refine W.region rfl ?_
   refine s_val (x_ld (p := Pq ac) (v := .agg #[aj, ai, ag]) rfl (ldb_ag (ds := [aj, ai, ag]) Ag27 Sz27 (H.bl 2) rfl rfl)) ?_
   refine t_sw 5 0 [aj, ai, ag] (.agg #[aj, ai, ag]) H rfl rfl Sz27 rfl rfl rfl (by simp only [List.all_cons, List.all_nil, Bool.true_and, Bool.and_true, Sl.oc (rowSl rfl (H.get (k := 0) rfl) (roLe _ (H.get (k := 1) rfl)) ab), Sl.oc (H.os 4), Sl.oc (H.os 3)]; try rfl) ?_
   intro gx H
   refine s_nil ?_
   replace H := H.pk [0, 1, 3, 4, 5]
   refine W.ret ?_
   have dx := (H.bl 4)
   have aQ := M.e_pure hM
   exact ⟨_, (resE_of1 (v := .agg #[aj, ai, ag]) rfl (.cell (v := .agg #[aj, ai, ag]) rfl (run_loadVar_ag (ds := [aj, ai, ag]) Ag27 Sz27 dx rfl rfl) <| .nil)), ⟨l, r2, r3, aj, ah, B_l, ai, ag, aQ, rfl, (H.pk [0, 1, 3, 2]), ab⟩⟩
  skip
  refine t_alloc (cs := [.slice none 0 0, .slice none 0 0, .slice none 0 0]) H Al27 rfl ?_
  intro ac gy H
  refine s_nil ⟨(H.pk [2, 3]), ?_⟩
  refine t_l rfl ?_
  obtain ⟨gz, dy, hM⟩ := M.e_bind hM
  refine s_call cf63 [aq] rfl (zcb s_Reaches (bH.app _) bI dy _ (H.gt 4)) ?_
  rintro vq gA ⟨r3, ag, dz, hvq, al⟩
  subst dz
  subst vq
  try dsimp only at hM
  replace H := H.bk al
  clear al
  have dA := Sl.cells (H.os 0)
  have gB := Sl.oc (H.os 0)
  refine s_nil ⟨(H.pk [3, 4]), ?_⟩
  refine t_q rfl (fun w' H => x_bld (ps := [(1, ai), (2, ag)]) (zs := [.slice none 0 0, .slice none 0 0, .slice none 0 0]) (L' := [.slice none 0 0, ai, ag]) rfl Tryz.underlying27 Al27 rfl (Bd27 Tryz.underlying27) (.cons (cs := [ai]) ck rfl rfl rfl rfl <| .cons (cs := [ag]) dA rfl rfl rfl rfl <| .nil)) ?_
  refine t_l rfl ?_
  refine t_sw 1 0 [.slice none 0 0, ai, ag] (.agg #[.slice none 0 0, ai, ag]) H rfl rfl Sz27 rfl rfl rfl (by simp only [List.all_cons, List.all_nil, Bool.true_and, Bool.and_true, Sl.oc (H.os 2), Sl.oc (H.os 0)]; try rfl) ?_
  intro gC H
  refine s_nil ⟨(H.pk [3, 4]), ?_⟩
  refine t_nil ?_
  refine W.seq ?_
  refine W.seq ?_
  refine W.region rfl ?_
  refine zA (I 0) rfl ?_
  refine s_nil ?_
  refine W.block ?_
  obtain ⟨aA, H⟩ := H.emptyE
  replace H := H.nilOwn (α := Raw 1) 68
  have dB : RepR (α := Sect) (n := 1) aA.cells [] [] := .nil
  obtain ⟨dC, bS, dD⟩ := M.e_bind hM
  obtain ⟨cn, bS⟩ := M.e_iter bS
  refine W.loop (fun m σ W => ∃ (i : Nat) (l : List Sect) (aj : Value) (ah : List (Raw 1)) (B_l : Base) (ρ : Env), σ = upds ρ [(1, Pq ak), (2, Pq az), (3, Pq ac), (4, I (i : Int))] /\ M.iterN (zak s_Sections) m (i, l) = some dC /\ St w W [cOwn (α := Raw 1) 68 aj ah, cRo B_l, cOwn (α := Rch) 58 ag r3, cBlk ac [aj, ai, ag] 27, cOwn (α := Mrk) 70 ai r2, cBlk az [.slice none 0 0, .slice none 0 0, .slice none 0 0] 27, cBlk ak [ae, au, aq] 27] R /\ RepR (α := Sect) B_l.cells ah l) ?_ ?_
  ·exact ⟨_, 0, [], (.slice none 0 0), [], aA, _, upds_of _ _ ⟨rfl, rfl, rfl, rfl, trivial⟩, bS, H, dB⟩
  rintro gD σ gE ⟨i, l, aj, ah, B_l, ρ, rfl, cu, H, ab⟩
  obtain ⟨bh, bi, gF, hM, aR⟩ := M.e_iterN cu
  simp only [zak] at hM
  clear cu
  refine W.seq ?_
  refine W.seq ?_
  refine W.region rfl ?_
  refine zM (I (i : Int)) rfl ?_
  refine s_val (x_fa (a := Pq ak) (v := Pq ak) rfl (fa_blk (o := 0) Fd27_0 Sz23)) ?_
  refine s_val (x_ld (p := Pq ak) (v := ae) rfl (ldb_sc Sc23 (H.bl 6) rfl)) ?_
  have gG := (am).len_le
  refine s_val (x_lenS T23.und rfl am) ?_
  refine zC (i : Int) (s_Sections.length : Int) (decide ((i : Int) < (s_Sections.length : Int))) rfl rfl rfl ?_
  refine s_nil ?_
  refine W.cond (decide ((i : Int) < (s_Sections.length : Int))) rfl (fun aS => ?_) (fun aS => ?_)
  ·replace hM := M.e_t hM aS
   simp only [qy1, qy2, qy3, qy4, qy5, qy6, ne_eq, qy7] at aS
   refine W.skip ?_
   refine W.seq ?_
   refine W.block ?_
   refine W.drawT (fun W => St w W [cRo B_l, cOwn (α := Rch) 58 ag r3, cOwn (α := Mrk) 70 ai r2, cBlk az [.slice none 0 0, .slice none 0 0, .slice none 0 0] 27, cBlk ak [ae, au, aq] 27] R) (.q 0 (.q 2 (.q 3 (.q 4 (.q 5 (.q 6 (.q 7 (.q 8 (.q 9 (.q 10 (.q 11 (.q 12 (.q 13 (.l2 1 (.l 14 (.l 15 (.l 16 (.l 17 (.q 18 (.l 19 .nil)))))) 14 (.l2 1 (.l 15 (.l 16 (.l 17 (.q 18 (.l 19 .nil))))) 15 (.l2 1 (.l 16 (.l 17 (.q 18 (.l 19 .nil)))) 16 (.l 1 (.l 17 (.q 18 (.l 19 .nil)))))))))))))))))))) mixed (by decide +kernel) rfl ?_
   intro gH aw
   replace H := H.ext aw
   clear aw
   refine ⟨(H.pk [1, 2, 4, 5, 6]), ?_⟩
   refine t_q rfl (fun w' H => x_fa (a := Pq ac) (v := Pq ac) rfl (fa_blk (o := 0) Fd27_0 Sz23)) ?_
   refine t_q rfl (fun w' H => x_fa (a := Pq ak) (v := Pq ak) rfl (fa_blk (o := 0) Fd27_0 Sz23)) ?_
   refine t_q rfl (fun w' H => x_ld (p := Pq ak) (v := ae) rfl (ldb_sc Sc23 (H.bl 4) rfl)) ?_
   refine t_q rfl (fun w' H => x_mv (v := I (i : Int)) rfl) ?_
   obtain ⟨dE, hM⟩ := M.e_grd hM
   simp only [Bool.and_eq_true, decide_eq_true_eq] at dE
   refine t_q rfl (fun w' H => x_ix (a := ae) (b := I (i : Int)) (v := vat ae 2 (Int.toNat (i : Int))) rfl rfl (Sl.ix (α := Sect) T23.und T23.size am (by omega) (by omega))) ?_
   refine t_q rfl (fun w' H => x_fa (a := vat ae 2 (Int.toNat (i : Int))) (v := fat (vat ae 2 (Int.toNat (i : Int))) 0) rfl (fa_pl Fd68_0 Sz3 (Sl.pl (i := (i : Int)) am (by omega) (by omega)))) ?_
   refine t_q rfl (fun w' H => x_ld (p := fat (vat ae 2 (Int.toNat (i : Int))) 0) (v := I ((s_Sections.getD i default).place)) rfl (ld_sc Sc3 (At.mono (Sect_at0 am (i := (i : Int)) (by omega) (by omega)) (av.at H)))) ?_
   refine t_q rfl (fun w' H => x_fa (a := Pq ak) (v := Pq ak) rfl (fa_blk (o := 0) Fd27_0 Sz23)) ?_
   refine t_q rfl (fun w' H => x_ld (p := Pq ak) (v := ae) rfl (ldb_sc Sc23 (H.bl 4) rfl)) ?_
   refine t_q rfl (fun w' H => x_mv (v := I (i : Int)) rfl) ?_
   refine t_q rfl (fun w' H => x_ix (a := ae) (b := I (i : Int)) (v := vat ae 2 (Int.toNat (i : Int))) rfl rfl (Sl.ix (α := Sect) T23.und T23.size am (by omega) (by omega))) ?_
   refine t_q rfl (fun w' H => x_fa (a := vat ae 2 (Int.toNat (i : Int))) (v := fat (vat ae 2 (Int.toNat (i : Int))) 1) rfl (fa_pl Fd68_1 Sz66 (Sl.pl (i := (i : Int)) am (by omega) (by omega)))) ?_
   obtain ⟨bj, dF, aT⟩ := Sect_at1 am (i := (i : Int)) (by omega) (by omega)
   replace aT : Sl _ bj (s_Sections.getD i default).rows := aT
   have gI := aT.len_le
   refine t_q rfl (fun w' H => x_ld (p := fat (vat ae 2 (Int.toNat (i : Int))) 1) (v := bj) rfl (ld_sc Sc66 (At.mono (dF) (av.at H)))) ?_
   refine t_l2 rfl rfl ?_ ?_
   ·skip
    refine s_val (x_ld (p := Pq ac) (v := aj) rfl (ldb_sc Sc23 (H.bl 3) rfl)) ?_
    have gJ := Sl.cells (H.os 0)
    have gK := Sl.oc (H.os 0)
    refine s_nil ⟨(H.pk [1, 2, 4, 5, 6]), ?_⟩
    refine t_l rfl ?_
    obtain ⟨gL, dG, hM⟩ := M.e_bind hM
    refine s_call cf64 [bj] rfl (zaB ((s_Sections.getD i default).rows) (av.app _) aT dG _ (H.gt 7)) ?_
    rintro vq gM ⟨r4, aa, dH, hvq, al⟩
    subst dH
    subst vq
    try dsimp only at hM
    replace H := H.bk al
    clear al
    have gN := Sl.cells (H.os 0)
    have gO := Sl.oc (H.os 0)
    refine s_nil ⟨(H.pk [2, 3, 5, 6, 7]), ?_⟩
    refine t_l rfl ?_
    refine s_val (x_bld (ps := [(0, I ((s_Sections.getD i default).place)), (1, aa)]) (zs := [I 0, .slice none 0 0]) (L' := [I ((s_Sections.getD i default).place), aa]) rfl Tryz.underlying68 Al68 rfl (Bd68 Tryz.underlying68) (.cons (cs := [I ((s_Sections.getD i default).place)]) rfl rfl rfl rfl rfl <| .cons (cs := [aa]) (Sl.cells (H.os 0)) rfl rfl rfl rfl <| .nil)) ?_
    refine s_nil ⟨(H.pk [2, 3, 5, 6, 7]), ?_⟩
    refine t_l rfl ?_
    obtain ⟨ax, H⟩ := H.emptyE
    obtain ⟨ay, H, dI⟩ := H.freezeE (k := 1) rfl
    replace H := H.nf
    have bm := dI
    obtain ⟨ao, H, gP, dJ⟩ := H.joinE (i := 0) (j := 1) rfl rfl
    replace bm := bm.mono dJ
    obtain ⟨aF, cv⟩ : ∃ r : Raw 1, r.cs = [I ((s_Sections.getD i default).place), aa] := ⟨Raw.of [I ((s_Sections.getD i default).place), aa] rfl (by simp only [List.all_cons, List.all_nil, Bool.true_and, Bool.and_true, Sl.oc bm]; try rfl), rfl⟩
    have dK : RepR (α := Sect) ao.cells [aF] [(⟨((s_Sections.getD i default).place : Int), r4⟩ : Sect)] := .cons (by rw [cv]; exact ⟨_, rfl, bm⟩) <| .nil
    refine t_bs (α := Raw 1) T23 [.agg #[I ((s_Sections.getD i default).place), aa]] [aF] H rfl (.cons (by rw [show (Flat.enc aF : List Value) = aF.cs from rfl, cv]; rfl) (Flat.rep_enc _ _) <| .nil) rfl rfl rfl ?_
    intro dL gQ H
    replace H := H.nf
    have gR := Sl.cells (H.os 0)
    have gS := Sl.oc (H.os 0)
    refine s_nil ⟨(H.pk [5, 6, 8, 9, 10]), ?_⟩
    refine t_l rfl ?_
    obtain ⟨dM, hM⟩ := M.e_grd hM
    simp only [Bool.and_eq_true, decide_eq_true_eq] at dM
    have bn := dK
    obtain ⟨ap, H, dN, dO⟩ := H.joinE (i := 5) (j := 1) rfl rfl
    replace ab := ab.mono dN
    replace bn := bn.mono dO
    have bT := ab.app bn
    refine t_app (α := Raw 1) (k := 5) (l := ah) (l2 := [aF]) (l' := ah ++ ([aF])) (vy := dL) T23 rfl H rfl rfl rfl (H.os 1) (H.ol 1) (rfl) (by have a_ := ab.len; have b_ := bn.len; (try simp only [List.length_nil] at *); first | omega | (rw [a_, b_]; omega)) ?_
    intro bU gT H
    replace H := H.nf
    have gU := Sl.cells (H.os 5)
    have gV := Sl.oc (H.os 5)
    refine s_nil ⟨(H.pk [6, 7, 9, 10, 11]), ?_⟩
    refine t_q rfl (fun w' H => x_fa (a := Pq ac) (v := Pq ac) rfl (fa_blk (o := 0) Fd27_0 Sz23)) ?_
    refine t_l rfl ?_
    refine t_sw 8 0 [bU] bU H rfl rfl Sz23 (Sl.cells (rowSl rfl (H.get (k := 5) rfl) (roLe _ (H.get (k := 0) rfl)) bT)) rfl rfl (by simp only [List.all_cons, List.all_nil, Bool.true_and, Bool.and_true, Sl.oc (rowSl rfl (H.get (k := 5) rfl) (roLe _ (H.get (k := 0) rfl)) bT)]; try rfl) ?_
    intro gW H
    refine s_nil ⟨(H.pk [6, 7, 9, 10, 11]), ?_⟩
    refine t_nil ?_
    replace H := H.pk [0, 5, 6, 7, 8, 9, 10, 11]
    refine W.region rfl ?_
    refine zM (I (i : Int)) rfl ?_
    refine zR (i : Int) 1 ((i : Int) + 1) rfl rfl rfl (by omega) ?_
    refine zA (I ((i : Int) + 1)) rfl ?_
    refine s_nil ?_
    exact ⟨bh, bi, i + 1, l ++ ([(⟨((s_Sections.getD i default).place : Int), r4⟩ : Sect)]), bU, ah ++ ([aF]), ap, _, upds_of _ _ ⟨rfl, rfl, rfl, rfl, trivial⟩, M.e_inl hM aR, (H.pk [1, 0, 3, 4, 5, 6, 7]), bT⟩
   skip
   obtain ⟨gX, dP, hM⟩ := M.e_bind hM
   refine s_call cf64 [bj] rfl (zaB ((s_Sections.getD i default).rows) (av.app _) aT dP _ (H.gt 7)) ?_
   rintro vq gY ⟨r4, aa, dQ, hvq, al⟩
   subst dQ
   subst vq
   try dsimp only at hM
   replace H := H.bk al
   clear al
   have gZ := Sl.cells (H.os 0)
   have g0 := Sl.oc (H.os 0)
   have hG := Sl.cells (H.os 1)
   have hO := Sl.oc (H.os 1)
   refine s_nil ⟨(H.pk [2, 3, 5, 6, 7]), ?_⟩
   obtain ⟨dR, hM⟩ := M.e_grd hM
   simp only [Bool.and_eq_true, decide_eq_true_eq] at dR
   refine t_l2 rfl rfl ?_ ?_
   ·skip
    refine s_val (x_ld (p := Pq ac) (v := aj) rfl (ldb_sc Sc23 (H.bl 4) rfl)) ?_
    refine s_nil ⟨(H.pk [2, 3, 5, 6, 7]), ?_⟩
    refine t_l rfl ?_
    refine s_val (x_bld (ps := [(0, I ((s_Sections.getD i default).place)), (1, aa)]) (zs := [I 0, .slice none 0 0]) (L' := [I ((s_Sections.getD i default).place), aa]) rfl Tryz.underlying68 Al68 rfl (Bd68 Tryz.underlying68) (.cons (cs := [I ((s_Sections.getD i default).place)]) rfl rfl rfl rfl rfl <| .cons (cs := [aa]) (Sl.cells (H.os 0)) rfl rfl rfl rfl <| .nil)) ?_
    refine s_nil ⟨(H.pk [2, 3, 5, 6, 7]), ?_⟩
    refine t_l rfl ?_
    obtain ⟨ax, H⟩ := H.emptyE
    obtain ⟨ay, H, dS⟩ := H.freezeE (k := 1) rfl
    replace H := H.nf
    have bo := dS
    obtain ⟨ao, H, hZ, dT⟩ := H.joinE (i := 0) (j := 1) rfl rfl
    replace bo := bo.mono dT
    obtain ⟨aG, cw⟩ : ∃ r : Raw 1, r.cs = [I ((s_Sections.getD i default).place), aa] := ⟨Raw.of [I ((s_Sections.getD i default).place), aa] rfl (by simp only [List.all_cons, List.all_nil, Bool.true_and, Bool.and_true, Sl.oc bo]; try rfl), rfl⟩
    have dU : RepR (α := Sect) ao.cells [aG] [(⟨((s_Sections.getD i default).place : Int), r4⟩ : Sect)] := .cons (by rw [cw]; exact ⟨_, rfl, bo⟩) <| .nil
    refine t_bs (α := Raw 1) T23 [.agg #[I ((s_Sections.getD i default).place), aa]] [aG] H rfl (.cons (by rw [show (Flat.enc aG : List Value) = aG.cs from rfl, cw]; rfl) (Flat.rep_enc _ _) <| .nil) rfl rfl rfl ?_
    intro dV h9 H
    replace H := H.nf
    have ia := Sl.cells (H.os 0)
    have ib := Sl.oc (H.os 0)
    refine s_nil ⟨(H.pk [5, 6, 8, 9, 10]), ?_⟩
    refine t_l rfl ?_
    have bp := dU
    obtain ⟨ap, H, dW, dX⟩ := H.joinE (i := 5) (j := 1) rfl rfl
    replace ab := ab.mono dW
    replace bp := bp.mono dX
    have bV := ab.app bp
    refine t_app (α := Raw 1) (k := 5) (l := ah) (l2 := [aG]) (l' := ah ++ ([aG])) (vy := dV) T23 rfl H rfl rfl rfl (H.os 1) (H.ol 1) (rfl) (by have a_ := ab.len; have b_ := bp.len; (try simp only [List.length_nil] at *); first | omega | (rw [a_, b_]; omega)) ?_
    intro bW ic H
    replace H := H.nf
    have ie := Sl.cells (H.os 5)
    have ig := Sl.oc (H.os 5)
    refine s_nil ⟨(H.pk [6, 7, 9, 10, 11]), ?_⟩
    refine t_q rfl (fun w' H => x_fa (a := Pq ac) (v := Pq ac) rfl (fa_blk (o := 0) Fd27_0 Sz23)) ?_
    refine t_l rfl ?_
    refine t_sw 8 0 [bW] bW H rfl rfl Sz23 (Sl.cells (rowSl rfl (H.get (k := 5) rfl) (roLe _ (H.get (k := 0) rfl)) bV)) rfl rfl (by simp only [List.all_cons, List.all_nil, Bool.true_and, Bool.and_true, Sl.oc (rowSl rfl (H.get (k := 5) rfl) (roLe _ (H.get (k := 0) rfl)) bV)]; try rfl) ?_
    intro ii H
    refine s_nil ⟨(H.pk [6, 7, 9, 10, 11]), ?_⟩
    refine t_nil ?_
    replace H := H.pk [0, 5, 6, 7, 8, 9, 10, 11]
    refine W.region rfl ?_
    refine zM (I (i : Int)) rfl ?_
    refine zR (i : Int) 1 ((i : Int) + 1) rfl rfl rfl (by omega) ?_
    refine zA (I ((i : Int) + 1)) rfl ?_
    refine s_nil ?_
    exact ⟨bh, bi, i + 1, l ++ ([(⟨((s_Sections.getD i default).place : Int), r4⟩ : Sect)]), bW, ah ++ ([aG]), ap, _, upds_of _ _ ⟨rfl, rfl, rfl, rfl, trivial⟩, M.e_inl hM aR, (H.pk [1, 0, 3, 4, 5, 6, 7]), bV⟩
   skip
   refine s_val (x_bld (ps := [(0, I ((s_Sections.getD i default).place)), (1, aa)]) (zs := [I 0, .slice none 0 0]) (L' := [I ((s_Sections.getD i default).place), aa]) rfl Tryz.underlying68 Al68 rfl (Bd68 Tryz.underlying68) (.cons (cs := [I ((s_Sections.getD i default).place)]) rfl rfl rfl rfl rfl <| .cons (cs := [aa]) (Sl.cells (H.os 0)) rfl rfl rfl rfl <| .nil)) ?_
   refine s_nil ⟨(H.pk [2, 3, 5, 6, 7]), ?_⟩
   refine t_l2 rfl rfl ?_ ?_
   ·skip
    refine s_val (x_ld (p := Pq ac) (v := aj) rfl (ldb_sc Sc23 (H.bl 4) rfl)) ?_
    refine s_nil ⟨(H.pk [2, 3, 5, 6, 7]), ?_⟩
    refine t_l rfl ?_
    obtain ⟨ax, H⟩ := H.emptyE
    obtain ⟨ay, H, dY⟩ := H.freezeE (k := 1) rfl
    replace H := H.nf
    have bq := dY
    obtain ⟨ao, H, ij, dZ⟩ := H.joinE (i := 0) (j := 1) rfl rfl
    replace bq := bq.mono dZ
    obtain ⟨aH, cx⟩ : ∃ r : Raw 1, r.cs = [I ((s_Sections.getD i default).place), aa] := ⟨Raw.of [I ((s_Sections.getD i default).place), aa] rfl (by simp only [List.all_cons, List.all_nil, Bool.true_and, Bool.and_true, Sl.oc bq]; try rfl), rfl⟩
    have d4 : RepR (α := Sect) ao.cells [aH] [(⟨((s_Sections.getD i default).place : Int), r4⟩ : Sect)] := .cons (by rw [cx]; exact ⟨_, rfl, bq⟩) <| .nil
    refine t_bs (α := Raw 1) T23 [.agg #[I ((s_Sections.getD i default).place), aa]] [aH] H rfl (.cons (by rw [show (Flat.enc aH : List Value) = aH.cs from rfl, cx]; rfl) (Flat.rep_enc _ _) <| .nil) rfl rfl rfl ?_
    intro d5 ik H
    replace H := H.nf
    have il := Sl.cells (H.os 0)
    have im := Sl.oc (H.os 0)
    refine s_nil ⟨(H.pk [5, 6, 8, 9, 10]), ?_⟩
    refine t_l rfl ?_
    have br := d4
    obtain ⟨ap, H, d6, d7⟩ := H.joinE (i := 5) (j := 1) rfl rfl
    replace ab := ab.mono d6
    replace br := br.mono d7
    have bX := ab.app br
    refine t_app (α := Raw 1) (k := 5) (l := ah) (l2 := [aH]) (l' := ah ++ ([aH])) (vy := d5) T23 rfl H rfl rfl rfl (H.os 1) (H.ol 1) (rfl) (by have a_ := ab.len; have b_ := br.len; (try simp only [List.length_nil] at *); first | omega | (rw [a_, b_]; omega)) ?_
    intro bY io H
    replace H := H.nf
    have iq := Sl.cells (H.os 5)
    have ir := Sl.oc (H.os 5)
    refine s_nil ⟨(H.pk [6, 7, 9, 10, 11]), ?_⟩
    refine t_q rfl (fun w' H => x_fa (a := Pq ac) (v := Pq ac) rfl (fa_blk (o := 0) Fd27_0 Sz23)) ?_
    refine t_l rfl ?_
    refine t_sw 8 0 [bY] bY H rfl rfl Sz23 (Sl.cells (rowSl rfl (H.get (k := 5) rfl) (roLe _ (H.get (k := 0) rfl)) bX)) rfl rfl (by simp only [List.all_cons, List.all_nil, Bool.true_and, Bool.and_true, Sl.oc (rowSl rfl (H.get (k := 5) rfl) (roLe _ (H.get (k := 0) rfl)) bX)]; try rfl) ?_
    intro iw H
    refine s_nil ⟨(H.pk [6, 7, 9, 10, 11]), ?_⟩
    refine t_nil ?_
    replace H := H.pk [0, 5, 6, 7, 8, 9, 10, 11]
    refine W.region rfl ?_
    refine zM (I (i : Int)) rfl ?_
    refine zR (i : Int) 1 ((i : Int) + 1) rfl rfl rfl (by omega) ?_
    refine zA (I ((i : Int) + 1)) rfl ?_
    refine s_nil ?_
    exact ⟨bh, bi, i + 1, l ++ ([(⟨((s_Sections.getD i default).place : Int), r4⟩ : Sect)]), bY, ah ++ ([aH]), ap, _, upds_of _ _ ⟨rfl, rfl, rfl, rfl, trivial⟩, M.e_inl hM aR, (H.pk [1, 0, 3, 4, 5, 6, 7]), bX⟩
   skip
   obtain ⟨ax, H⟩ := H.emptyE
   obtain ⟨ay, H, d8⟩ := H.freezeE (k := 1) rfl
   replace H := H.nf
   have bt := d8
   obtain ⟨ao, H, iy, d9⟩ := H.joinE (i := 0) (j := 1) rfl rfl
   replace bt := bt.mono d9
   obtain ⟨aI, cy⟩ : ∃ r : Raw 1, r.cs = [I ((s_Sections.getD i default).place), aa] := ⟨Raw.of [I ((s_Sections.getD i default).place), aa] rfl (by simp only [List.all_cons, List.all_nil, Bool.true_and, Bool.and_true, Sl.oc bt]; try rfl), rfl⟩
   have ed : RepR (α := Sect) ao.cells [aI] [(⟨((s_Sections.getD i default).place : Int), r4⟩ : Sect)] := .cons (by rw [cy]; exact ⟨_, rfl, bt⟩) <| .nil
   refine t_bs (α := Raw 1) T23 [.agg #[I ((s_Sections.getD i default).place), aa]] [aI] H rfl (.cons (by rw [show (Flat.enc aI : List Value) = aI.cs from rfl, cy]; rfl) (Flat.rep_enc _ _) <| .nil) rfl rfl rfl ?_
   intro ee iz H
   replace H := H.nf
   have iA := Sl.cells (H.os 0)
   have iB := Sl.oc (H.os 0)
   refine s_nil ⟨(H.pk [5, 6, 8, 9, 10]), ?_⟩
   refine t_l rfl ?_
   refine s_val (x_ld (p := Pq ac) (v := aj) rfl (ldb_sc Sc23 (H.bl 7) rfl)) ?_
   refine s_nil ⟨(H.pk [5, 6, 8, 9, 10]), ?_⟩
   refine t_l rfl ?_
   have bu := ed
   obtain ⟨ap, H, ef, eg⟩ := H.joinE (i := 5) (j := 1) rfl rfl
   replace ab := ab.mono ef
   replace bu := bu.mono eg
   have bZ := ab.app bu
   refine t_app (α := Raw 1) (k := 5) (l := ah) (l2 := [aI]) (l' := ah ++ ([aI])) (vy := ee) T23 rfl H rfl rfl rfl (H.os 1) (H.ol 1) (rfl) (by have a_ := ab.len; have b_ := bu.len; (try simp only [List.length_nil] at *); first | omega | (rw [a_, b_]; omega)) ?_
   intro b3 iC H
   replace H := H.nf
   have iD := Sl.cells (H.os 5)
   have iE := Sl.oc (H.os 5)
   refine s_nil ⟨(H.pk [6, 7, 9, 10, 11]), ?_⟩
   refine t_q rfl (fun w' H => x_fa (a := Pq ac) (v := Pq ac) rfl (fa_blk (o := 0) Fd27_0 Sz23)) ?_
   refine t_l rfl ?_
   refine t_sw 8 0 [b3] b3 H rfl rfl Sz23 (Sl.cells (rowSl rfl (H.get (k := 5) rfl) (roLe _ (H.get (k := 0) rfl)) bZ)) rfl rfl (by simp only [List.all_cons, List.all_nil, Bool.true_and, Bool.and_true, Sl.oc (rowSl rfl (H.get (k := 5) rfl) (roLe _ (H.get (k := 0) rfl)) bZ)]; try rfl) ?_
   intro iF H
   refine s_nil ⟨(H.pk [6, 7, 9, 10, 11]), ?_⟩
   refine t_nil ?_
   replace H := H.pk [0, 5, 6, 7, 8, 9, 10, 11]
   refine W.region rfl ?_
   refine zM (I (i : Int)) rfl ?_
   refine zR (i : Int) 1 ((i : Int) + 1) rfl rfl rfl (by omega) ?_
   refine zA (I ((i : Int) + 1)) rfl ?_
   refine s_nil ?_
   exact ⟨bh, bi, i + 1, l ++ ([(⟨((s_Sections.getD i default).place : Int), r4⟩ : Sect)]), b3, ah ++ ([aI]), ap, _, upds_of _ _ ⟨rfl, rfl, rfl, rfl, trivial⟩, M.e_inl hM aR, (H.pk [1, 0, 3, 4, 5, 6, 7]), bZ⟩
  replace hM := M.e_f hM aS
  simp only [qy1, qy2, qy3, qy4, qy5, qy6, ne_eq, qy7] at aS
  refine W.exit ?_
  have ei := M.e_inr hM aR
  subst ei
  replace hM := dD
  try dsimp only at hM
  refine W.seq ?_
  refine W.region rfl ?_
  refine s_val (x_ld (p := Pq ac) (v := .agg #[aj, ai, ag]) rfl (ldb_ag (ds := [aj, ai, ag]) Ag27 Sz27 (H.bl 3) rfl rfl)) ?_
  refine t_sw 5 0 [aj, ai, ag] (.agg #[aj, ai, ag]) H rfl rfl Sz27 rfl rfl rfl (by simp only [List.all_cons, List.all_nil, Bool.true_and, Bool.and_true, Sl.oc (rowSl rfl (H.get (k := 0) rfl) (roLe _ (H.get (k := 1) rfl)) ab), Sl.oc (H.os 4), Sl.oc (H.os 2)]; try rfl) ?_
  intro iG H
  refine s_nil ?_
  replace H := H.pk [0, 1, 2, 4, 5]
  refine W.ret ?_
  have ej := (H.bl 4)
  have aQ := M.e_pure hM
  exact ⟨_, (resE_of1 (v := .agg #[aj, ai, ag]) rfl (.cell (v := .agg #[aj, ai, ag]) rfl (run_loadVar_ag (ds := [aj, ai, ag]) Ag27 Sz27 ej rfl rfl) <| .nil)), ⟨l, r2, r3, aj, ah, B_l, ai, ag, aQ, rfl, (H.pk [0, 1, 3, 2]), ab⟩⟩
 skip
 refine t_alloc (cs := [.slice none 0 0, .slice none 0 0, .slice none 0 0]) H Al27 rfl ?_
 intro ac iH H
 refine s_nil ⟨(H.pk [1, 2]), ?_⟩
 refine t_l rfl ?_
 obtain ⟨iI, ek, hM⟩ := M.e_bind hM
 refine s_call cf62 [au] rfl (zcj s_Marks (ch.app _) ci ek _ (H.gt 3)) ?_
 rintro vq iJ ⟨r2, ai, em, hvq, al⟩
 subst em
 subst vq
 try dsimp only at hM
 replace H := H.bk al
 clear al
 have eo := Sl.cells (H.os 0)
 have iK := Sl.oc (H.os 0)
 refine s_nil ⟨(H.pk [2, 3]), ?_⟩
 refine t_l rfl ?_
 obtain ⟨iL, ep, hM⟩ := M.e_bind hM
 refine s_call cf63 [aq] rfl (zcb s_Reaches (bH.app _) bI ep _ (H.gt 4)) ?_
 rintro vq iM ⟨r3, ag, eq, hvq, al⟩
 subst eq
 subst vq
 try dsimp only at hM
 replace H := H.bk al
 clear al
 have eu := Sl.cells (H.os 0)
 have iN := Sl.oc (H.os 0)
 refine s_nil ⟨(H.pk [3, 4]), ?_⟩
 refine t_q rfl (fun w' H => x_bld (ps := [(1, ai), (2, ag)]) (zs := [.slice none 0 0, .slice none 0 0, .slice none 0 0]) (L' := [.slice none 0 0, ai, ag]) rfl Tryz.underlying27 Al27 rfl (Bd27 Tryz.underlying27) (.cons (cs := [ai]) eo rfl rfl rfl rfl <| .cons (cs := [ag]) eu rfl rfl rfl rfl <| .nil)) ?_
 refine t_l rfl ?_
 refine t_sw 2 0 [.slice none 0 0, ai, ag] (.agg #[.slice none 0 0, ai, ag]) H rfl rfl Sz27 rfl rfl rfl (by simp only [List.all_cons, List.all_nil, Bool.true_and, Bool.and_true, Sl.oc (H.os 1), Sl.oc (H.os 0)]; try rfl) ?_
 intro iO H
 refine s_nil ⟨(H.pk [3, 4]), ?_⟩
 refine t_nil ?_
 refine W.seq ?_
 refine W.seq ?_
 refine W.region rfl ?_
 refine zA (I 0) rfl ?_
 refine s_nil ?_
 refine W.block ?_
 obtain ⟨aA, H⟩ := H.emptyE
 replace H := H.nilOwn (α := Raw 1) 68
 have ew : RepR (α := Sect) (n := 1) aA.cells [] [] := .nil
 obtain ⟨ey, b4, ez⟩ := M.e_bind hM
 obtain ⟨cn, b4⟩ := M.e_iter b4
 refine W.loop (fun m σ W => ∃ (i : Nat) (l : List Sect) (aj : Value) (ah : List (Raw 1)) (B_l : Base) (ρ : Env), σ = upds ρ [(1, Pq ak), (2, Pq az), (3, Pq ac), (4, I (i : Int))] /\ M.iterN (zak s_Sections) m (i, l) = some ey /\ St w W [cOwn (α := Raw 1) 68 aj ah, cRo B_l, cOwn (α := Rch) 58 ag r3, cOwn (α := Mrk) 70 ai r2, cBlk ac [aj, ai, ag] 27, cBlk az [.slice none 0 0, .slice none 0 0, .slice none 0 0] 27, cBlk ak [ae, au, aq] 27] R /\ RepR (α := Sect) B_l.cells ah l) ?_ ?_
 ·exact ⟨_, 0, [], (.slice none 0 0), [], aA, _, upds_of _ _ ⟨rfl, rfl, rfl, rfl, trivial⟩, b4, H, ew⟩
 rintro iP σ iQ ⟨i, l, aj, ah, B_l, ρ, rfl, cz, H, ab⟩
 obtain ⟨bv, bw, iR, hM, aU⟩ := M.e_iterN cz
 simp only [zak] at hM
 clear cz
 refine W.seq ?_
 refine W.seq ?_
 refine W.region rfl ?_
 refine zM (I (i : Int)) rfl ?_
 refine s_val (x_fa (a := Pq ak) (v := Pq ak) rfl (fa_blk (o := 0) Fd27_0 Sz23)) ?_
 refine s_val (x_ld (p := Pq ak) (v := ae) rfl (ldb_sc Sc23 (H.bl 6) rfl)) ?_
 have iS := (am).len_le
 refine s_val (x_lenS T23.und rfl am) ?_
 refine zC (i : Int) (s_Sections.length : Int) (decide ((i : Int) < (s_Sections.length : Int))) rfl rfl rfl ?_
 refine s_nil ?_
 refine W.cond (decide ((i : Int) < (s_Sections.length : Int))) rfl (fun aV => ?_) (fun aV => ?_)
 ·replace hM := M.e_t hM aV
  simp only [qy1, qy2, qy3, qy4, qy5, qy6, ne_eq, qy7] at aV
  refine W.skip ?_
  refine W.seq ?_
  refine W.block ?_
  refine W.drawT (fun W => St w W [cRo B_l, cOwn (α := Rch) 58 ag r3, cOwn (α := Mrk) 70 ai r2, cBlk az [.slice none 0 0, .slice none 0 0, .slice none 0 0] 27, cBlk ak [ae, au, aq] 27] R) (.q 0 (.q 2 (.q 3 (.q 4 (.q 5 (.q 6 (.q 7 (.q 8 (.q 9 (.q 10 (.q 11 (.q 12 (.q 13 (.l2 1 (.l 14 (.l 15 (.l 16 (.l 17 (.q 18 (.l 19 .nil)))))) 14 (.l2 1 (.l 15 (.l 16 (.l 17 (.q 18 (.l 19 .nil))))) 15 (.l2 1 (.l 16 (.l 17 (.q 18 (.l 19 .nil)))) 16 (.l 1 (.l 17 (.q 18 (.l 19 .nil)))))))))))))))))))) mixed (by decide +kernel) rfl ?_
  intro iT aw
  replace H := H.ext aw
  clear aw
  refine ⟨(H.pk [1, 2, 3, 5, 6]), ?_⟩
  refine t_q rfl (fun w' H => x_fa (a := Pq ac) (v := Pq ac) rfl (fa_blk (o := 0) Fd27_0 Sz23)) ?_
  refine t_q rfl (fun w' H => x_fa (a := Pq ak) (v := Pq ak) rfl (fa_blk (o := 0) Fd27_0 Sz23)) ?_
  refine t_q rfl (fun w' H => x_ld (p := Pq ak) (v := ae) rfl (ldb_sc Sc23 (H.bl 4) rfl)) ?_
  refine t_q rfl (fun w' H => x_mv (v := I (i : Int)) rfl) ?_
  obtain ⟨eA, hM⟩ := M.e_grd hM
  simp only [Bool.and_eq_true, decide_eq_true_eq] at eA
  refine t_q rfl (fun w' H => x_ix (a := ae) (b := I (i : Int)) (v := vat ae 2 (Int.toNat (i : Int))) rfl rfl (Sl.ix (α := Sect) T23.und T23.size am (by omega) (by omega))) ?_
  refine t_q rfl (fun w' H => x_fa (a := vat ae 2 (Int.toNat (i : Int))) (v := fat (vat ae 2 (Int.toNat (i : Int))) 0) rfl (fa_pl Fd68_0 Sz3 (Sl.pl (i := (i : Int)) am (by omega) (by omega)))) ?_
  refine t_q rfl (fun w' H => x_ld (p := fat (vat ae 2 (Int.toNat (i : Int))) 0) (v := I ((s_Sections.getD i default).place)) rfl (ld_sc Sc3 (At.mono (Sect_at0 am (i := (i : Int)) (by omega) (by omega)) (av.at H)))) ?_
  refine t_q rfl (fun w' H => x_fa (a := Pq ak) (v := Pq ak) rfl (fa_blk (o := 0) Fd27_0 Sz23)) ?_
  refine t_q rfl (fun w' H => x_ld (p := Pq ak) (v := ae) rfl (ldb_sc Sc23 (H.bl 4) rfl)) ?_
  refine t_q rfl (fun w' H => x_mv (v := I (i : Int)) rfl) ?_
  refine t_q rfl (fun w' H => x_ix (a := ae) (b := I (i : Int)) (v := vat ae 2 (Int.toNat (i : Int))) rfl rfl (Sl.ix (α := Sect) T23.und T23.size am (by omega) (by omega))) ?_
  refine t_q rfl (fun w' H => x_fa (a := vat ae 2 (Int.toNat (i : Int))) (v := fat (vat ae 2 (Int.toNat (i : Int))) 1) rfl (fa_pl Fd68_1 Sz66 (Sl.pl (i := (i : Int)) am (by omega) (by omega)))) ?_
  obtain ⟨bx, eB, aW⟩ := Sect_at1 am (i := (i : Int)) (by omega) (by omega)
  replace aW : Sl _ bx (s_Sections.getD i default).rows := aW
  have iU := aW.len_le
  refine t_q rfl (fun w' H => x_ld (p := fat (vat ae 2 (Int.toNat (i : Int))) 1) (v := bx) rfl (ld_sc Sc66 (At.mono (eB) (av.at H)))) ?_
  refine t_l2 rfl rfl ?_ ?_
  ·skip
   refine s_val (x_ld (p := Pq ac) (v := aj) rfl (ldb_sc Sc23 (H.bl 4) rfl)) ?_
   have iV := Sl.cells (H.os 0)
   have iW := Sl.oc (H.os 0)
   refine s_nil ⟨(H.pk [1, 2, 3, 5, 6]), ?_⟩
   refine t_l rfl ?_
   obtain ⟨iX, eC, hM⟩ := M.e_bind hM
   refine s_call cf64 [bx] rfl (zaB ((s_Sections.getD i default).rows) (av.app _) aW eC _ (H.gt 7)) ?_
   rintro vq iY ⟨r4, aa, eD, hvq, al⟩
   subst eD
   subst vq
   try dsimp only at hM
   replace H := H.bk al
   clear al
   have iZ := Sl.cells (H.os 0)
   have i6 := Sl.oc (H.os 0)
   refine s_nil ⟨(H.pk [2, 3, 4, 6, 7]), ?_⟩
   refine t_l rfl ?_
   refine s_val (x_bld (ps := [(0, I ((s_Sections.getD i default).place)), (1, aa)]) (zs := [I 0, .slice none 0 0]) (L' := [I ((s_Sections.getD i default).place), aa]) rfl Tryz.underlying68 Al68 rfl (Bd68 Tryz.underlying68) (.cons (cs := [I ((s_Sections.getD i default).place)]) rfl rfl rfl rfl rfl <| .cons (cs := [aa]) (Sl.cells (H.os 0)) rfl rfl rfl rfl <| .nil)) ?_
   refine s_nil ⟨(H.pk [2, 3, 4, 6, 7]), ?_⟩
   refine t_l rfl ?_
   obtain ⟨ax, H⟩ := H.emptyE
   obtain ⟨ay, H, eE⟩ := H.freezeE (k := 1) rfl
   replace H := H.nf
   have bz := eE
   obtain ⟨ao, H, i7, eF⟩ := H.joinE (i := 0) (j := 1) rfl rfl
   replace bz := bz.mono eF
   obtain ⟨aJ, cA⟩ : ∃ r : Raw 1, r.cs = [I ((s_Sections.getD i default).place), aa] := ⟨Raw.of [I ((s_Sections.getD i default).place), aa] rfl (by simp only [List.all_cons, List.all_nil, Bool.true_and, Bool.and_true, Sl.oc bz]; try rfl), rfl⟩
   have eG : RepR (α := Sect) ao.cells [aJ] [(⟨((s_Sections.getD i default).place : Int), r4⟩ : Sect)] := .cons (by rw [cA]; exact ⟨_, rfl, bz⟩) <| .nil
   refine t_bs (α := Raw 1) T23 [.agg #[I ((s_Sections.getD i default).place), aa]] [aJ] H rfl (.cons (by rw [show (Flat.enc aJ : List Value) = aJ.cs from rfl, cA]; rfl) (Flat.rep_enc _ _) <| .nil) rfl rfl rfl ?_
   intro eH i8 H
   replace H := H.nf
   have i9 := Sl.cells (H.os 0)
   have ja := Sl.oc (H.os 0)
   refine s_nil ⟨(H.pk [5, 6, 7, 9, 10]), ?_⟩
   refine t_l rfl ?_
   obtain ⟨eI, hM⟩ := M.e_grd hM
   simp only [Bool.and_eq_true, decide_eq_true_eq] at eI
   have bA := eG
   obtain ⟨ap, H, eJ, eK⟩ := H.joinE (i := 5) (j := 1) rfl rfl
   replace ab := ab.mono eJ
   replace bA := bA.mono eK
   have b5 := ab.app bA
   refine t_app (α := Raw 1) (k := 5) (l := ah) (l2 := [aJ]) (l' := ah ++ ([aJ])) (vy := eH) T23 rfl H rfl rfl rfl (H.os 1) (H.ol 1) (rfl) (by have a_ := ab.len; have b_ := bA.len; (try simp only [List.length_nil] at *); first | omega | (rw [a_, b_]; omega)) ?_
   intro b6 jb H
   replace H := H.nf
   have jc := Sl.cells (H.os 5)
   have jd := Sl.oc (H.os 5)
   refine s_nil ⟨(H.pk [6, 7, 8, 10, 11]), ?_⟩
   refine t_q rfl (fun w' H => x_fa (a := Pq ac) (v := Pq ac) rfl (fa_blk (o := 0) Fd27_0 Sz23)) ?_
   refine t_l rfl ?_
   refine t_sw 9 0 [b6] b6 H rfl rfl Sz23 (Sl.cells (rowSl rfl (H.get (k := 5) rfl) (roLe _ (H.get (k := 0) rfl)) b5)) rfl rfl (by simp only [List.all_cons, List.all_nil, Bool.true_and, Bool.and_true, Sl.oc (rowSl rfl (H.get (k := 5) rfl) (roLe _ (H.get (k := 0) rfl)) b5)]; try rfl) ?_
   intro je H
   refine s_nil ⟨(H.pk [6, 7, 8, 10, 11]), ?_⟩
   refine t_nil ?_
   replace H := H.pk [0, 5, 6, 7, 8, 9, 10, 11]
   refine W.region rfl ?_
   refine zM (I (i : Int)) rfl ?_
   refine zR (i : Int) 1 ((i : Int) + 1) rfl rfl rfl (by omega) ?_
   refine zA (I ((i : Int) + 1)) rfl ?_
   refine s_nil ?_
   exact ⟨bv, bw, i + 1, l ++ ([(⟨((s_Sections.getD i default).place : Int), r4⟩ : Sect)]), b6, ah ++ ([aJ]), ap, _, upds_of _ _ ⟨rfl, rfl, rfl, rfl, trivial⟩, M.e_inl hM aU, (H.pk [1, 0, 3, 4, 5, 6, 7]), b5⟩
  skip
  obtain ⟨jf, eL, hM⟩ := M.e_bind hM
  refine s_call cf64 [bx] rfl (zaB ((s_Sections.getD i default).rows) (av.app _) aW eL _ (H.gt 7)) ?_
  rintro vq jg ⟨r4, aa, eM, hvq, al⟩
  subst eM
  subst vq
  try dsimp only at hM
  replace H := H.bk al
  clear al
  have jh := Sl.cells (H.os 0)
  have ji := Sl.oc (H.os 0)
  have jj := Sl.cells (H.os 1)
  have jk := Sl.oc (H.os 1)
  refine s_nil ⟨(H.pk [2, 3, 4, 6, 7]), ?_⟩
  obtain ⟨eN, hM⟩ := M.e_grd hM
  simp only [Bool.and_eq_true, decide_eq_true_eq] at eN
  refine t_l2 rfl rfl ?_ ?_
  ·skip
   refine s_val (x_ld (p := Pq ac) (v := aj) rfl (ldb_sc Sc23 (H.bl 5) rfl)) ?_
   refine s_nil ⟨(H.pk [2, 3, 4, 6, 7]), ?_⟩
   refine t_l rfl ?_
   refine s_val (x_bld (ps := [(0, I ((s_Sections.getD i default).place)), (1, aa)]) (zs := [I 0, .slice none 0 0]) (L' := [I ((s_Sections.getD i default).place), aa]) rfl Tryz.underlying68 Al68 rfl (Bd68 Tryz.underlying68) (.cons (cs := [I ((s_Sections.getD i default).place)]) rfl rfl rfl rfl rfl <| .cons (cs := [aa]) (Sl.cells (H.os 0)) rfl rfl rfl rfl <| .nil)) ?_
   refine s_nil ⟨(H.pk [2, 3, 4, 6, 7]), ?_⟩
   refine t_l rfl ?_
   obtain ⟨ax, H⟩ := H.emptyE
   obtain ⟨ay, H, eO⟩ := H.freezeE (k := 1) rfl
   replace H := H.nf
   have bB := eO
   obtain ⟨ao, H, jl, eP⟩ := H.joinE (i := 0) (j := 1) rfl rfl
   replace bB := bB.mono eP
   obtain ⟨aK, cB⟩ : ∃ r : Raw 1, r.cs = [I ((s_Sections.getD i default).place), aa] := ⟨Raw.of [I ((s_Sections.getD i default).place), aa] rfl (by simp only [List.all_cons, List.all_nil, Bool.true_and, Bool.and_true, Sl.oc bB]; try rfl), rfl⟩
   have eQ : RepR (α := Sect) ao.cells [aK] [(⟨((s_Sections.getD i default).place : Int), r4⟩ : Sect)] := .cons (by rw [cB]; exact ⟨_, rfl, bB⟩) <| .nil
   refine t_bs (α := Raw 1) T23 [.agg #[I ((s_Sections.getD i default).place), aa]] [aK] H rfl (.cons (by rw [show (Flat.enc aK : List Value) = aK.cs from rfl, cB]; rfl) (Flat.rep_enc _ _) <| .nil) rfl rfl rfl ?_
   intro eR jm H
   replace H := H.nf
   have jn := Sl.cells (H.os 0)
   have jo := Sl.oc (H.os 0)
   refine s_nil ⟨(H.pk [5, 6, 7, 9, 10]), ?_⟩
   refine t_l rfl ?_
   have bC := eQ
   obtain ⟨ap, H, eS, eT⟩ := H.joinE (i := 5) (j := 1) rfl rfl
   replace ab := ab.mono eS
   replace bC := bC.mono eT
   have b7 := ab.app bC
   refine t_app (α := Raw 1) (k := 5) (l := ah) (l2 := [aK]) (l' := ah ++ ([aK])) (vy := eR) T23 rfl H rfl rfl rfl (H.os 1) (H.ol 1) (rfl) (by have a_ := ab.len; have b_ := bC.len; (try simp only [List.length_nil] at *); first | omega | (rw [a_, b_]; omega)) ?_
   intro b8 jp H
   replace H := H.nf
   have jq := Sl.cells (H.os 5)
   have jr := Sl.oc (H.os 5)
   refine s_nil ⟨(H.pk [6, 7, 8, 10, 11]), ?_⟩
   refine t_q rfl (fun w' H => x_fa (a := Pq ac) (v := Pq ac) rfl (fa_blk (o := 0) Fd27_0 Sz23)) ?_
   refine t_l rfl ?_
   refine t_sw 9 0 [b8] b8 H rfl rfl Sz23 (Sl.cells (rowSl rfl (H.get (k := 5) rfl) (roLe _ (H.get (k := 0) rfl)) b7)) rfl rfl (by simp only [List.all_cons, List.all_nil, Bool.true_and, Bool.and_true, Sl.oc (rowSl rfl (H.get (k := 5) rfl) (roLe _ (H.get (k := 0) rfl)) b7)]; try rfl) ?_
   intro js H
   refine s_nil ⟨(H.pk [6, 7, 8, 10, 11]), ?_⟩
   refine t_nil ?_
   replace H := H.pk [0, 5, 6, 7, 8, 9, 10, 11]
   refine W.region rfl ?_
   refine zM (I (i : Int)) rfl ?_
   refine zR (i : Int) 1 ((i : Int) + 1) rfl rfl rfl (by omega) ?_
   refine zA (I ((i : Int) + 1)) rfl ?_
   refine s_nil ?_
   exact ⟨bv, bw, i + 1, l ++ ([(⟨((s_Sections.getD i default).place : Int), r4⟩ : Sect)]), b8, ah ++ ([aK]), ap, _, upds_of _ _ ⟨rfl, rfl, rfl, rfl, trivial⟩, M.e_inl hM aU, (H.pk [1, 0, 3, 4, 5, 6, 7]), b7⟩
  skip
  refine s_val (x_bld (ps := [(0, I ((s_Sections.getD i default).place)), (1, aa)]) (zs := [I 0, .slice none 0 0]) (L' := [I ((s_Sections.getD i default).place), aa]) rfl Tryz.underlying68 Al68 rfl (Bd68 Tryz.underlying68) (.cons (cs := [I ((s_Sections.getD i default).place)]) rfl rfl rfl rfl rfl <| .cons (cs := [aa]) (Sl.cells (H.os 0)) rfl rfl rfl rfl <| .nil)) ?_
  refine s_nil ⟨(H.pk [2, 3, 4, 6, 7]), ?_⟩
  refine t_l2 rfl rfl ?_ ?_
  ·skip
   refine s_val (x_ld (p := Pq ac) (v := aj) rfl (ldb_sc Sc23 (H.bl 5) rfl)) ?_
   refine s_nil ⟨(H.pk [2, 3, 4, 6, 7]), ?_⟩
   refine t_l rfl ?_
   obtain ⟨ax, H⟩ := H.emptyE
   obtain ⟨ay, H, eU⟩ := H.freezeE (k := 1) rfl
   replace H := H.nf
   have bD := eU
   obtain ⟨ao, H, jt, eV⟩ := H.joinE (i := 0) (j := 1) rfl rfl
   replace bD := bD.mono eV
   obtain ⟨aL, cC⟩ : ∃ r : Raw 1, r.cs = [I ((s_Sections.getD i default).place), aa] := ⟨Raw.of [I ((s_Sections.getD i default).place), aa] rfl (by simp only [List.all_cons, List.all_nil, Bool.true_and, Bool.and_true, Sl.oc bD]; try rfl), rfl⟩
   have eW : RepR (α := Sect) ao.cells [aL] [(⟨((s_Sections.getD i default).place : Int), r4⟩ : Sect)] := .cons (by rw [cC]; exact ⟨_, rfl, bD⟩) <| .nil
   refine t_bs (α := Raw 1) T23 [.agg #[I ((s_Sections.getD i default).place), aa]] [aL] H rfl (.cons (by rw [show (Flat.enc aL : List Value) = aL.cs from rfl, cC]; rfl) (Flat.rep_enc _ _) <| .nil) rfl rfl rfl ?_
   intro eX ju H
   replace H := H.nf
   have jv := Sl.cells (H.os 0)
   have jw := Sl.oc (H.os 0)
   refine s_nil ⟨(H.pk [5, 6, 7, 9, 10]), ?_⟩
   refine t_l rfl ?_
   have bE := eW
   obtain ⟨ap, H, eY, eZ⟩ := H.joinE (i := 5) (j := 1) rfl rfl
   replace ab := ab.mono eY
   replace bE := bE.mono eZ
   have b9 := ab.app bE
   refine t_app (α := Raw 1) (k := 5) (l := ah) (l2 := [aL]) (l' := ah ++ ([aL])) (vy := eX) T23 rfl H rfl rfl rfl (H.os 1) (H.ol 1) (rfl) (by have a_ := ab.len; have b_ := bE.len; (try simp only [List.length_nil] at *); first | omega | (rw [a_, b_]; omega)) ?_
   intro cb jx H
   replace H := H.nf
   have jy := Sl.cells (H.os 5)
   have jz := Sl.oc (H.os 5)
   refine s_nil ⟨(H.pk [6, 7, 8, 10, 11]), ?_⟩
   refine t_q rfl (fun w' H => x_fa (a := Pq ac) (v := Pq ac) rfl (fa_blk (o := 0) Fd27_0 Sz23)) ?_
   refine t_l rfl ?_
   refine t_sw 9 0 [cb] cb H rfl rfl Sz23 (Sl.cells (rowSl rfl (H.get (k := 5) rfl) (roLe _ (H.get (k := 0) rfl)) b9)) rfl rfl (by simp only [List.all_cons, List.all_nil, Bool.true_and, Bool.and_true, Sl.oc (rowSl rfl (H.get (k := 5) rfl) (roLe _ (H.get (k := 0) rfl)) b9)]; try rfl) ?_
   intro jA H
   refine s_nil ⟨(H.pk [6, 7, 8, 10, 11]), ?_⟩
   refine t_nil ?_
   replace H := H.pk [0, 5, 6, 7, 8, 9, 10, 11]
   refine W.region rfl ?_
   refine zM (I (i : Int)) rfl ?_
   refine zR (i : Int) 1 ((i : Int) + 1) rfl rfl rfl (by omega) ?_
   refine zA (I ((i : Int) + 1)) rfl ?_
   refine s_nil ?_
   exact ⟨bv, bw, i + 1, l ++ ([(⟨((s_Sections.getD i default).place : Int), r4⟩ : Sect)]), cb, ah ++ ([aL]), ap, _, upds_of _ _ ⟨rfl, rfl, rfl, rfl, trivial⟩, M.e_inl hM aU, (H.pk [1, 0, 3, 4, 5, 6, 7]), b9⟩
  skip
  obtain ⟨ax, H⟩ := H.emptyE
  obtain ⟨ay, H, e6⟩ := H.freezeE (k := 1) rfl
  replace H := H.nf
  have bF := e6
  obtain ⟨ao, H, jB, e7⟩ := H.joinE (i := 0) (j := 1) rfl rfl
  replace bF := bF.mono e7
  obtain ⟨aM, cD⟩ : ∃ r : Raw 1, r.cs = [I ((s_Sections.getD i default).place), aa] := ⟨Raw.of [I ((s_Sections.getD i default).place), aa] rfl (by simp only [List.all_cons, List.all_nil, Bool.true_and, Bool.and_true, Sl.oc bF]; try rfl), rfl⟩
  have e8 : RepR (α := Sect) ao.cells [aM] [(⟨((s_Sections.getD i default).place : Int), r4⟩ : Sect)] := .cons (by rw [cD]; exact ⟨_, rfl, bF⟩) <| .nil
  refine t_bs (α := Raw 1) T23 [.agg #[I ((s_Sections.getD i default).place), aa]] [aM] H rfl (.cons (by rw [show (Flat.enc aM : List Value) = aM.cs from rfl, cD]; rfl) (Flat.rep_enc _ _) <| .nil) rfl rfl rfl ?_
  intro e9 jC H
  replace H := H.nf
  have jD := Sl.cells (H.os 0)
  have jE := Sl.oc (H.os 0)
  refine s_nil ⟨(H.pk [5, 6, 7, 9, 10]), ?_⟩
  refine t_l rfl ?_
  refine s_val (x_ld (p := Pq ac) (v := aj) rfl (ldb_sc Sc23 (H.bl 8) rfl)) ?_
  refine s_nil ⟨(H.pk [5, 6, 7, 9, 10]), ?_⟩
  refine t_l rfl ?_
  have bG := e8
  obtain ⟨ap, H, fa, fb⟩ := H.joinE (i := 5) (j := 1) rfl rfl
  replace ab := ab.mono fa
  replace bG := bG.mono fb
  have cc := ab.app bG
  refine t_app (α := Raw 1) (k := 5) (l := ah) (l2 := [aM]) (l' := ah ++ ([aM])) (vy := e9) T23 rfl H rfl rfl rfl (H.os 1) (H.ol 1) (rfl) (by have a_ := ab.len; have b_ := bG.len; (try simp only [List.length_nil] at *); first | omega | (rw [a_, b_]; omega)) ?_
  intro cd jF H
  replace H := H.nf
  have jG := Sl.cells (H.os 5)
  have jH := Sl.oc (H.os 5)
  refine s_nil ⟨(H.pk [6, 7, 8, 10, 11]), ?_⟩
  refine t_q rfl (fun w' H => x_fa (a := Pq ac) (v := Pq ac) rfl (fa_blk (o := 0) Fd27_0 Sz23)) ?_
  refine t_l rfl ?_
  refine t_sw 9 0 [cd] cd H rfl rfl Sz23 (Sl.cells (rowSl rfl (H.get (k := 5) rfl) (roLe _ (H.get (k := 0) rfl)) cc)) rfl rfl (by simp only [List.all_cons, List.all_nil, Bool.true_and, Bool.and_true, Sl.oc (rowSl rfl (H.get (k := 5) rfl) (roLe _ (H.get (k := 0) rfl)) cc)]; try rfl) ?_
  intro jI H
  refine s_nil ⟨(H.pk [6, 7, 8, 10, 11]), ?_⟩
  refine t_nil ?_
  replace H := H.pk [0, 5, 6, 7, 8, 9, 10, 11]
  refine W.region rfl ?_
  refine zM (I (i : Int)) rfl ?_
  refine zR (i : Int) 1 ((i : Int) + 1) rfl rfl rfl (by omega) ?_
  refine zA (I ((i : Int) + 1)) rfl ?_
  refine s_nil ?_
  exact ⟨bv, bw, i + 1, l ++ ([(⟨((s_Sections.getD i default).place : Int), r4⟩ : Sect)]), cd, ah ++ ([aM]), ap, _, upds_of _ _ ⟨rfl, rfl, rfl, rfl, trivial⟩, M.e_inl hM aU, (H.pk [1, 0, 3, 4, 5, 6, 7]), cc⟩
 replace hM := M.e_f hM aV
 simp only [qy1, qy2, qy3, qy4, qy5, qy6, ne_eq, qy7] at aV
 refine W.exit ?_
 have fd := M.e_inr hM aU
 subst fd
 replace hM := ez
 try dsimp only at hM
 refine W.seq ?_
 refine W.region rfl ?_
 refine s_val (x_ld (p := Pq ac) (v := .agg #[aj, ai, ag]) rfl (ldb_ag (ds := [aj, ai, ag]) Ag27 Sz27 (H.bl 4) rfl rfl)) ?_
 refine t_sw 5 0 [aj, ai, ag] (.agg #[aj, ai, ag]) H rfl rfl Sz27 rfl rfl rfl (by simp only [List.all_cons, List.all_nil, Bool.true_and, Bool.and_true, Sl.oc (rowSl rfl (H.get (k := 0) rfl) (roLe _ (H.get (k := 1) rfl)) ab), Sl.oc (H.os 3), Sl.oc (H.os 2)]; try rfl) ?_
 intro jJ H
 refine s_nil ?_
 replace H := H.pk [0, 1, 2, 3, 5]
 refine W.ret ?_
 have fe := (H.bl 4)
 have aQ := M.e_pure hM
 exact ⟨_, (resE_of1 (v := .agg #[aj, ai, ag]) rfl (.cell (v := .agg #[aj, ai, ag]) rfl (run_loadVar_ag (ds := [aj, ai, ag]) Ag27 Sz27 fe rfl rfl) <| .nil)), ⟨l, r2, r3, aj, ah, B_l, ai, ag, aQ, rfl, (H.pk [0, 1, 3, 2]), ab⟩⟩

end Go.Proofs.YtlemgioaakecpaaGreat
end
section
set_option maxRecDepth 100000
set_option maxHeartbeats 16000000
namespace Go.Proofs.YtlemgioaakecpaaGreat
open Go Go.Nm
def zay (ac : List Sect) (ag : List Mrk) (aa : List Rch) (r3 : List Int) (r4 : Int) (aq : Int) (au : Int) (r0 : List Span) : Nat -> M (Nat ⊕ (Unit ⊕ Unit)) := fun s =>
  bif decide ((s : Int) < (([false, true]).length : Int)) then (
  M.grd (decide ((s : Int) < (([false, true]).length : Int))) <|
  M.bind (zbh ac ag aa r3 r4 (([false, true]).getD s false)) fun (ab, ae, ah, ao, ai) =>
  M.bind (zaU ac ag aa r4 (⟨(ab : Int), (ae : Int), (ah : Int), (ao : Int)⟩ : Cas)) fun (al, aj) =>
  M.grd ((!(!((ai != 0) || (aj != 0))) || (decide ((0 : Int) <= ((aa.getD (Int.toNat r4) default).up)) && decide (((aa.getD (Int.toNat r4) default).up) < (r0.length : Int))))) <|
  M.grd ((!(!(((ai != 0) || (aj != 0)) || (decide (ab < ((r0.getD (Int.toNat ((aa.getD (Int.toNat r4) default).up)) default).lo))))) || (decide ((0 : Int) <= ((aa.getD (Int.toNat r4) default).up)) && decide (((aa.getD (Int.toNat r4) default).up) < (r0.length : Int))))) <|
  M.grd ((!(!((((ai != 0) || (aj != 0)) || (decide (ab < ((r0.getD (Int.toNat ((aa.getD (Int.toNat r4) default).up)) default).lo)))) || (decide (((r0.getD (Int.toNat ((aa.getD (Int.toNat r4) default).up)) default).hi) < ab)))) || (decide ((0 : Int) <= ((aa.getD (Int.toNat r4) default).down)) && decide (((aa.getD (Int.toNat r4) default).down) < (r0.length : Int))))) <|
  M.grd ((!(!(((((ai != 0) || (aj != 0)) || (decide (ab < ((r0.getD (Int.toNat ((aa.getD (Int.toNat r4) default).up)) default).lo)))) || (decide (((r0.getD (Int.toNat ((aa.getD (Int.toNat r4) default).up)) default).hi) < ab))) || (decide (ae < ((r0.getD (Int.toNat ((aa.getD (Int.toNat r4) default).down)) default).lo))))) || (decide ((0 : Int) <= ((aa.getD (Int.toNat r4) default).down)) && decide (((aa.getD (Int.toNat r4) default).down) < (r0.length : Int))))) <|
  bif ((((((((ai != 0) || (aj != 0)) || (decide (ab < ((r0.getD (Int.toNat ((aa.getD (Int.toNat r4) default).up)) default).lo)))) || (decide (((r0.getD (Int.toNat ((aa.getD (Int.toNat r4) default).up)) default).hi) < ab))) || (decide (ae < ((r0.getD (Int.toNat ((aa.getD (Int.toNat r4) default).down)) default).lo)))) || (decide (((r0.getD (Int.toNat ((aa.getD (Int.toNat r4) default).down)) default).hi) < ae))) || ((([false, true]).getD s false) && (al != au))) || ((!(([false, true]).getD s false)) && (al != aq))) then (
  M.pure (.inr (.inl ())))
  else (
  M.grd (decide ((-9223372036854775808 : Int) <= ((ag.length : Int) + 2)) && decide (((ag.length : Int) + 2) <= (9223372036854775807 : Int))) <|
  bif ((decide (16 < ((ag.length : Int) + 2))) || (ah != ao)) then (
  M.pure (.inl (s + 1)))
  else (
  M.bind (zbg ac ag aa) fun (ap, am, ak) =>
  M.grd (decide ((0 : Int) <= ((aa.getD (Int.toNat r4) default).up)) && decide (((aa.getD (Int.toNat r4) default).up) < (ac.length : Int))) <|
  M.grd (decide ((0 : Int) <= ((aa.getD (Int.toNat r4) default).down)) && decide (((aa.getD (Int.toNat r4) default).down) < (ac.length : Int))) <|
  M.grd (decide ((am.length + ([(⟨((ac.getD (Int.toNat ((aa.getD (Int.toNat r4) default).up)) default).place : Int), (ab : Int), (ab : Int)⟩ : Mrk), (⟨((ac.getD (Int.toNat ((aa.getD (Int.toNat r4) default).down)) default).place : Int), (ae : Int), (ae : Int)⟩ : Mrk)]).length) * 24 <= 140737488355328)) <|
  M.grd (decide ((0 : Int) <= r4) && decide (r4 < (ak.length : Int))) <|
  M.bind (za4 ap (am ++ ([(⟨((ac.getD (Int.toNat ((aa.getD (Int.toNat r4) default).up)) default).place : Int), (ab : Int), (ab : Int)⟩ : Mrk), (⟨((ac.getD (Int.toNat ((aa.getD (Int.toNat r4) default).down)) default).place : Int), (ae : Int), (ae : Int)⟩ : Mrk)])) (ak.set (Int.toNat r4) ({ (ak.getD (Int.toNat r4) default) with lo := ah, hi := ah }))) fun r5 =>
  M.bind (zar ap (am ++ ([(⟨((ac.getD (Int.toNat ((aa.getD (Int.toNat r4) default).up)) default).place : Int), (ab : Int), (ab : Int)⟩ : Mrk), (⟨((ac.getD (Int.toNat ((aa.getD (Int.toNat r4) default).down)) default).place : Int), (ae : Int), (ae : Int)⟩ : Mrk)])) (ak.set (Int.toNat r4) ({ (ak.getD (Int.toNat r4) default) with lo := ah, hi := ah })) r5 r4) fun (av, aw, ax) =>
  bif ((ax != 0) || (!(decide ((⟨(av : Int), (aw : Int)⟩ : Span) = (⟨(al : Int), (al : Int)⟩ : Span))))) then (
  M.pure (.inr (.inl ())))
  else (
  M.pure (.inl (s + 1))))))
  else (
  M.pure (.inr (.inr ())))
def zb6 (numbers : List UInt8) (reach : Int) : M Bool :=
  M.bind (zbK numbers) fun (r1, r2) =>
  M.bind (zbw numbers r1 r2 8 false) fun (ab, ac, aa, aj, ak, q1, q2) =>
  M.bind (za4 ab ac aa) fun r3 =>
  M.bind (zbv reach (aa.length : Int)) fun r4 =>
  M.bind (zar ab ac aa r3 r4) fun (ae, ag, ah) =>
  M.bind (zaX ab ac aa r3) fun (r0, ai) =>
  bif (((ah != 0) || (ai != 0)) || ((r0.length : Int) != (ab.length : Int))) then (
  M.pure false)
  else (
  M.grd (decide ((0 : Int) <= r4) && decide (r4 < (aa.length : Int))) <|
  M.bind (M.iter (zay ab ac aa r3 r4 ae ag r0) 0) fun x_ => match x_ with
  | (.inl (_ : Unit)) => (
  M.pure false)
  | (.inr (_ : Unit)) => (
  M.bind (zbL) fun r6 =>
  M.pure r6))
theorem zcW {R : List Chunk} {bD : Cells} {bn : Value} (numbers : List UInt8) (reach : Int) (bE : Reads R bD) (bF : Sl bD bn numbers) {r : Bool} (hM : (zb6 numbers reach).Ends r) (w : World) (H : St w w [] R) : Ret Tryz.prog 4 #[bn, I reach] w fun v w' => ∃ (y0 : Bool), y0 = r /\ v = B y0 /\ St w w' [] R := by
 refine ret_of_W Tryz.func4 rfl rfl rfl ?_
 refine W.seq ?_
 refine W.region rfl ?_
 refine zA (B false) rfl ?_
 refine s_nil ?_
 refine W.seq ?_
 refine W.region rfl ?_
 refine zM bn rfl ?_
 obtain ⟨cK, bH, hM⟩ := M.e_bind hM
 refine s_call cf9 [bn] rfl (zc4 numbers (bE.app _) bF bH _ (H.gt 0)) ?_
 rintro vq cL ⟨r1, r2, bI, bJ, hvq, ap⟩
 subst bJ
 subst vq
 try dsimp only at hM
 replace H := H.bk ap
 clear ap
 obtain ⟨cM, bK, hM⟩ := M.e_bind hM
 refine s_call cf8 [Pq bI, I 8, B false] rfl (zcK numbers r1 r2 8 false (bE.app _) bF bK _ (H.gt 0)) ?_
 rintro vq cN ⟨ao, aD, aa, cO, cP, q1, q2, av, ba, bb, aA, ay, bg, bh, bL, hvq, ap, aS⟩
 subst bL
 subst vq
 try dsimp only at hM
 replace H := H.bk ap
 clear ap
 refine zM (.tuple #[.agg #[av, aA, ay], .agg #[bg, bh]]) rfl ?_
 refine zX [.agg #[av, aA, ay], .agg #[bg, bh]] (.agg #[av, aA, ay]) rfl rfl ?_
 refine zX [.agg #[av, aA, ay], .agg #[bg, bh]] (.agg #[bg, bh]) rfl rfl ?_
 refine t_alloc (cs := [.slice none 0 0, .slice none 0 0, .slice none 0 0]) H Al27 rfl ?_
 intro aC cQ H
 refine t_alloc (cs := [.slice none 0 0, .slice none 0 0]) H Al30 rfl ?_
 intro cR cS H
 refine t_sw 1 0 [av, aA, ay] (.agg #[av, aA, ay]) H rfl rfl Sz27 rfl rfl rfl (by simp only [List.all_cons, List.all_nil, Bool.true_and, Bool.and_true, Sl.oc (rowSl rfl (H.get (k := 2) rfl) (roLe _ (H.get (k := 3) rfl)) aS), Sl.oc (H.os 4), Sl.oc (H.os 5)]; try rfl) ?_
 intro cT H
 refine t_sw 0 0 [bg, bh] (.agg #[bg, bh]) H rfl rfl Sz30 rfl rfl rfl (by simp only [List.all_cons, List.all_nil, Bool.true_and, Bool.and_true, Sl.oc (H.os 6), Sl.oc (H.os 7)]; try rfl) ?_
 intro cU H
 refine s_nil ?_
 replace H := H.pk [1, 2, 3, 4, 5]
 refine W.seq ?_
 refine W.region rfl ?_
 refine s_val (x_ld (p := Pq aC) (v := .agg #[av, aA, ay]) rfl (ldb_ag (ds := [av, aA, ay]) Ag27 Sz27 (H.bl 0) rfl rfl)) ?_
 obtain ⟨cV, bM, hM⟩ := M.e_bind hM
 refine s_call cf18 [.agg #[av, aA, ay]] rfl (zaR ao aD aa (Reads.sup (rdo 1) (Reads.of (k := 2) rfl roLe)) (rowSl rfl (H.get (k := 1) rfl) (roLe _ (H.get (k := 2) rfl)) aS) (rdo 3) (H.os 3) (rdo 4) (H.os 4) bM _ (H.gt 5)) ?_
 rintro vq cW ⟨r3, aO, bN, hvq, ap⟩
 subst bN
 subst vq
 try dsimp only at hM
 replace H := H.bk ap
 clear ap
 refine zA aO rfl ?_
 refine s_nil ?_
 refine W.seq ?_
 refine W.region rfl ?_
 refine zM (I reach) rfl ?_
 refine s_val (x_fa (a := Pq aC) (v := Oq aC 2) rfl (fa_blk (o := 0) Fd27_2 Sz25)) ?_
 refine s_val (x_ld (p := Oq aC 2) (v := ay) rfl (ldb_sc Sc25 (H.bl 1) rfl)) ?_
 have cX := ((H.os 5)).len_le
 refine s_val (x_lenS T25.und rfl (H.os 5)) ?_
 obtain ⟨cY, bO, hM⟩ := M.e_bind hM
 refine s_call cf19 [I reach, I (aa.length : Int)] rfl (zcD reach (aa.length : Int) bO _ (H.gt 6)) ?_
 rintro vq cZ ⟨r4, bP, hvq, ap⟩
 subst bP
 subst vq
 try dsimp only at hM
 replace H := H.bk ap
 clear ap
 refine zA (I r4) rfl ?_
 refine s_nil ?_
 refine W.seq ?_
 refine W.region rfl ?_
 refine s_val (x_ld (p := Pq aC) (v := .agg #[av, aA, ay]) rfl (ldb_ag (ds := [av, aA, ay]) Ag27 Sz27 (H.bl 1) rfl rfl)) ?_
 refine zM aO rfl ?_
 refine zM (I r4) rfl ?_
 obtain ⟨c8, bQ, hM⟩ := M.e_bind hM
 refine s_call cf20 [.agg #[av, aA, ay], aO, I r4] rfl (zaj ao aD aa r3 r4 (Reads.sup (rdo 2) (Reads.of (k := 3) rfl roLe)) (rowSl rfl (H.get (k := 2) rfl) (roLe _ (H.get (k := 3) rfl)) aS) (rdo 4) (H.os 4) (rdo 5) (H.os 5) (rdo 0) (H.os 0) bQ _ (H.gt 6)) ?_
 rintro vq c9 ⟨aI, az, aF, bR, hvq, ap⟩
 subst bR
 subst vq
 try dsimp only at hM
 replace H := H.bk ap
 clear ap
 refine zM (.tuple #[.agg #[I aI, I az], I aF]) rfl ?_
 refine zX [.agg #[I aI, I az], I aF] (.agg #[I aI, I az]) rfl rfl ?_
 refine zX [.agg #[I aI, I az], I aF] (I aF) rfl rfl ?_
 refine t_alloc (cs := [I 0, I 0]) H Al54 rfl ?_
 intro aN da H
 refine t_sw 0 0 [I aI, I az] (.agg #[I aI, I az]) H rfl rfl Sz54 rfl rfl rfl rfl ?_
 intro db H
 refine zA (I aF) rfl ?_
 refine s_nil ?_
 refine W.seq ?_
 refine W.region rfl ?_
 refine s_val (x_ld (p := Pq aC) (v := .agg #[av, aA, ay]) rfl (ldb_ag (ds := [av, aA, ay]) Ag27 Sz27 (H.bl 2) rfl rfl)) ?_
 refine zM aO rfl ?_
 obtain ⟨dc, bS, hM⟩ := M.e_bind hM
 refine s_call cf13 [.agg #[av, aA, ay], aO] rfl (zcz ao aD aa r3 (Reads.sup (rdo 3) (Reads.of (k := 4) rfl roLe)) (rowSl rfl (H.get (k := 3) rfl) (roLe _ (H.get (k := 4) rfl)) aS) (rdo 5) (H.os 5) (rdo 6) (H.os 6) (rdo 1) (H.os 1) bS _ (H.gt 7)) ?_
 rintro vq dd ⟨r0, aH, aw, bT, hvq, ap⟩
 subst bT
 subst vq
 try dsimp only at hM
 replace H := H.bk ap
 clear ap
 refine zM (.tuple #[aw, I aH]) rfl ?_
 refine zX [aw, I aH] aw rfl rfl ?_
 refine zX [aw, I aH] (I aH) rfl rfl ?_
 refine zA aw rfl ?_
 refine zA (I aH) rfl ?_
 refine s_nil ?_
 refine W.seq ?_
 refine W.seq ?_
 refine W.region rfl ?_
 refine zM (I aF) rfl ?_
 refine zC aF 0 (aF != 0) rfl rfl rfl ?_
 refine zM (B (aF != 0)) rfl ?_
 refine g_val (!(aF != 0)) (gy_f rfl) (fun hg => x_mv (v := I aH) rfl) ?_
 refine g_val (!(aF != 0)) (gy_f rfl) (fun hg => x_cmp (kd := .i64) (a := aH) (b := 0) (r := aH != 0) (gd_of (c := !(aF != 0)) hg (I aH)) rfl rfl) ?_
 refine s_val (x_por (b := aF != 0) (r := aH != 0) rfl rfl (fun hb => gd_of (c := !(aF != 0)) (by first | exact hb | (rw [hb]; rfl) | simp_all) (B (aH != 0)))) ?_
 refine zM (B ((aF != 0) || (aH != 0))) rfl ?_
 refine g_val (!((aF != 0) || (aH != 0))) (gy_f rfl) (fun hg => x_mv (v := aw) rfl) ?_
 refine g_val (!((aF != 0) || (aH != 0))) (gy_f rfl) (fun hg => x_lenS T43.und (gd_of (c := !((aF != 0) || (aH != 0))) hg (aw)) (H.os 0)) ?_
 refine g_val (!((aF != 0) || (aH != 0))) (gy_f rfl) (fun hg => x_fa (a := Pq aC) (v := Pq aC) rfl (fa_blk (o := 0) Fd27_0 Sz23)) ?_
 refine g_val (!((aF != 0) || (aH != 0))) (gy_f rfl) (fun hg => x_ld (p := Pq aC) (v := av) (gd_of (c := !((aF != 0) || (aH != 0))) hg (Pq aC)) (ldb_sc Sc23 (H.bl 3) rfl)) ?_
 refine g_val (!((aF != 0) || (aH != 0))) (gy_f rfl) (fun hg => x_lenS T23.und (gd_of (c := !((aF != 0) || (aH != 0))) hg (av)) (rowSl rfl (H.get (k := 4) rfl) (roLe _ (H.get (k := 5) rfl)) aS)) ?_
 refine g_val (!((aF != 0) || (aH != 0))) (gy_f rfl) (fun hg => x_cmp (kd := .i64) (a := (r0.length : Int)) (b := (ao.length : Int)) (r := (r0.length : Int) != (ao.length : Int)) (gd_of (c := !((aF != 0) || (aH != 0))) hg (I (r0.length : Int))) (gd_of (c := !((aF != 0) || (aH != 0))) hg (I (ao.length : Int))) rfl) ?_
 refine s_val (x_por (b := ((aF != 0) || (aH != 0))) (r := (r0.length : Int) != (ao.length : Int)) rfl rfl (fun hb => gd_of (c := !((aF != 0) || (aH != 0))) (by first | exact hb | (rw [hb]; rfl) | simp_all) (B ((r0.length : Int) != (ao.length : Int))))) ?_
 refine s_nil ?_
 refine W.cond (((aF != 0) || (aH != 0)) || ((r0.length : Int) != (ao.length : Int))) rfl (fun bp => ?_) (fun bp => ?_)
 ·replace hM := M.e_t hM bp
  refine W.seq ?_
  refine W.region rfl ?_
  refine zA (B false) rfl ?_
  refine s_nil ?_
  replace H := H.pk []
  refine W.ret ?_
  have aM := M.e_pure hM
  exact ⟨_, resE_tmp rfl, ⟨false, aM, rfl, H⟩⟩
 replace hM := M.e_f hM bp
 refine W.skip ?_
 refine W.seq ?_
 refine W.region rfl ?_
 refine s_val (x_fa (a := Pq aC) (v := Oq aC 2) rfl (fa_blk (o := 0) Fd27_2 Sz25)) ?_
 refine s_val (x_ld (p := Oq aC 2) (v := ay) rfl (ldb_sc Sc25 (H.bl 3) rfl)) ?_
 refine zM (I r4) rfl ?_
 obtain ⟨bU, hM⟩ := M.e_grd hM
 simp only [Bool.and_eq_true, decide_eq_true_eq] at bU
 refine s_val (x_ix (a := ay) (b := I r4) (v := vat ay 5 (Int.toNat r4)) rfl rfl (Sl.ix (α := Rch) T25.und T25.size (H.os 7) (by omega) (by omega))) ?_
 refine s_val (x_ld (p := vat ay 5 (Int.toNat r4)) (v := .agg #[I ((aa.getD (Int.toNat r4) default).up), I ((aa.getD (Int.toNat r4) default).down), I ((aa.getD (Int.toNat r4) default).lo), I ((aa.getD (Int.toNat r4) default).hi), B ((aa.getD (Int.toNat r4) default).narrow)]) rfl (ld_ag Ag58 Sz58 (At.mono (Rch_atA (H.os 7) (i := r4) (by omega) (by omega)) (H.ol 7)))) ?_
 refine t_alloc (cs := [I 0, I 0, I 0, I 0, B false]) H Al58 rfl ?_
 intro aE de H
 refine t_sw 0 0 [I ((aa.getD (Int.toNat r4) default).up), I ((aa.getD (Int.toNat r4) default).down), I ((aa.getD (Int.toNat r4) default).lo), I ((aa.getD (Int.toNat r4) default).hi), B ((aa.getD (Int.toNat r4) default).narrow)] (.agg #[I ((aa.getD (Int.toNat r4) default).up), I ((aa.getD (Int.toNat r4) default).down), I ((aa.getD (Int.toNat r4) default).lo), I ((aa.getD (Int.toNat r4) default).hi), B ((aa.getD (Int.toNat r4) default).narrow)]) H rfl rfl Sz58 rfl rfl rfl rfl ?_
 intro dg H
 refine s_nil ?_
 refine W.seq ?_
 refine W.seq ?_
 refine W.region rfl ?_
 refine t_bs (α := Bool) T59 [B false, B true] [false, true] H rfl (.cons rfl (Flat.rep_enc _ false) <| .cons rfl (Flat.rep_enc _ true) <| .nil) rfl rfl rfl ?_
 intro aT dh H
 have di := ((H.os 0)).len_le
 refine s_val (x_lenS T59.und rfl (H.os 0)) ?_
 refine zM (I 0) rfl ?_
 refine s_nil ?_
 refine W.block ?_
 obtain ⟨bV, bq, a8⟩ := M.e_bind hM
 obtain ⟨dj, bq⟩ := M.e_iter bq
 refine W.loop (fun m σ W => ∃ (s : Nat) (ρ : Env), σ = upds ρ [(5, Pq aC), (7, aO), (8, I r4), (9, Pq aN), (11, aw), (13, Pq aE), (67, aT), (68, I (([false, true]).length : Int)), (69, I (s : Int))] /\ M.iterN (zay ao aD aa r3 r4 aI az r0) m s = some bV /\ St w W [cOwn (α := Bool) 4 aT ([false, true]), cBlk aE [I ((aa.getD (Int.toNat r4) default).up), I ((aa.getD (Int.toNat r4) default).down), I ((aa.getD (Int.toNat r4) default).lo), I ((aa.getD (Int.toNat r4) default).hi), B ((aa.getD (Int.toNat r4) default).narrow)] 58, cOwn (α := Span) 54 aw r0, cBlk aN [I aI, I az] 54, cOwn (α := Int) 3 aO r3, cBlk aC [av, aA, ay] 27, cOwn (α := Raw 1) 68 av ba, cRo bb, cOwn (α := Mrk) 70 aA aD, cOwn (α := Rch) 58 ay aa] R) ?_ ?_
 ·exact ⟨_, 0, _, upds_of _ _ ⟨rfl, rfl, rfl, rfl, rfl, rfl, rfl, rfl, rfl, trivial⟩, bq, H⟩
 rintro dk σ dm ⟨s, ρ, rfl, bG, H⟩
 obtain ⟨bc, bf, dp, hM, aP⟩ := M.e_iterN bG
 simp only [zay] at hM
 clear bG
 refine W.seq ?_
 refine W.region rfl ?_
 refine zC (s : Int) (([false, true]).length : Int) (decide ((s : Int) < (([false, true]).length : Int))) rfl rfl rfl ?_
 refine s_nil ?_
 refine W.seq ?_
 refine W.cond (decide ((s : Int) < (([false, true]).length : Int))) rfl (fun bi => ?_) (fun bi => ?_)
 ·replace hM := M.e_t hM bi
  simp only [qy1, qy2, qy3, qy4, qy5, qy6, ne_eq, qy7] at bi
  refine W.skip ?_
  refine W.seq ?_
  refine W.block ?_
  refine W.seq ?_
  refine W.region rfl ?_
  obtain ⟨bW, hM⟩ := M.e_grd hM
  simp only [Bool.and_eq_true, decide_eq_true_eq] at bW
  refine s_val (x_ix (a := aT) (b := I (s : Int)) (v := vat aT 1 (Int.toNat (s : Int))) rfl rfl (Sl.ix (α := Bool) T59.und T59.size (H.os 0) (by omega) (by omega))) ?_
  refine s_val (x_ld (p := vat aT 1 (Int.toNat (s : Int))) (v := B (([false, true]).getD s false)) rfl (ld_sc Sc4 (At.mono (Bool_at (H.os 0) (i := (s : Int)) (by omega) (by omega)) (H.ol 0)))) ?_
  refine zA (B (([false, true]).getD s false)) rfl ?_
  refine s_nil ?_
  refine W.seq ?_
  refine W.region rfl ?_
  refine s_val (x_ld (p := Pq aC) (v := .agg #[av, aA, ay]) rfl (ldb_ag (ds := [av, aA, ay]) Ag27 Sz27 (H.bl 5) rfl rfl)) ?_
  refine zM aO rfl ?_
  refine zM (I r4) rfl ?_
  refine zM (B (([false, true]).getD s false)) rfl ?_
  obtain ⟨dq, bX, hM⟩ := M.e_bind hM
  refine s_call cf21 [.agg #[av, aA, ay], aO, I r4, B (([false, true]).getD s false)] rfl (zdq ao aD aa r3 r4 (([false, true]).getD s false) (Reads.sup (rdo 6) (Reads.of (k := 7) rfl roLe)) (rowSl rfl (H.get (k := 6) rfl) (roLe _ (H.get (k := 7) rfl)) aS) (rdo 8) (H.os 8) (rdo 9) (H.os 9) (rdo 4) (H.os 4) bX _ (H.gt 10)) ?_
  rintro vq dr ⟨ab, ac, ak, aJ, ah, bY, hvq, ap⟩
  subst bY
  subst vq
  try dsimp only at hM
  replace H := H.bk ap
  clear ap
  refine zM (.tuple #[.agg #[I ab, I ac, I ak, I aJ], I ah]) rfl ?_
  refine zX [.agg #[I ab, I ac, I ak, I aJ], I ah] (.agg #[I ab, I ac, I ak, I aJ]) rfl rfl ?_
  refine zX [.agg #[I ab, I ac, I ak, I aJ], I ah] (I ah) rfl rfl ?_
  refine t_alloc (cs := [I 0, I 0, I 0, I 0]) H Al61 rfl ?_
  intro au dt H
  refine t_sw 0 0 [I ab, I ac, I ak, I aJ] (.agg #[I ab, I ac, I ak, I aJ]) H rfl rfl Sz61 rfl rfl rfl rfl ?_
  intro dv H
  refine zA (I ah) rfl ?_
  refine s_nil ?_
  refine W.seq ?_
  refine W.region rfl ?_
  refine s_val (x_ld (p := Pq aC) (v := .agg #[av, aA, ay]) rfl (ldb_ag (ds := [av, aA, ay]) Ag27 Sz27 (H.bl 6) rfl rfl)) ?_
  refine zM (I r4) rfl ?_
  refine s_val (x_ld (p := Pq au) (v := .agg #[I ab, I ac, I ak, I aJ]) rfl (ldb_ag (ds := [I ab, I ac, I ak, I aJ]) Ag61 Sz61 (H.bl 0) rfl rfl)) ?_
  obtain ⟨dw, bZ, hM⟩ := M.e_bind hM
  refine s_call cf22 [.agg #[av, aA, ay], I r4, .agg #[I ab, I ac, I ak, I aJ]] rfl (zct ao aD aa r4 (⟨(ab : Int), (ac : Int), (ak : Int), (aJ : Int)⟩ : Cas) (Reads.sup (rdo 7) (Reads.of (k := 8) rfl roLe)) (rowSl rfl (H.get (k := 7) rfl) (roLe _ (H.get (k := 8) rfl)) aS) (rdo 9) (H.os 9) (rdo 10) (H.os 10) bZ _ (H.gt 11)) ?_
  rintro vq dx ⟨ae, ai, b3, hvq, ap⟩
  subst b3
  subst vq
  try dsimp only at hM
  replace H := H.bk ap
  clear ap
  refine zM (.tuple #[I ae, I ai]) rfl ?_
  refine zX [I ae, I ai] (I ae) rfl rfl ?_
  refine zX [I ae, I ai] (I ai) rfl rfl ?_
  refine zA (I ae) rfl ?_
  refine zA (I ai) rfl ?_
  refine s_nil ?_
  refine W.seq ?_
  refine W.seq ?_
  refine W.draw (fun W => St w W [cBlk au [I ab, I ac, I ak, I aJ] 61, cOwn (α := Bool) 4 aT ([false, true]), cBlk aE [I ((aa.getD (Int.toNat r4) default).up), I ((aa.getD (Int.toNat r4) default).down), I ((aa.getD (Int.toNat r4) default).lo), I ((aa.getD (Int.toNat r4) default).hi), B ((aa.getD (Int.toNat r4) default).narrow)] 58, cOwn (α := Span) 54 aw r0, cBlk aN [I aI, I az] 54, cOwn (α := Int) 3 aO r3, cBlk aC [av, aA, ay] 27, cOwn (α := Raw 1) 68 av ba, cRo bb, cOwn (α := Mrk) 70 aA aD, cOwn (α := Rch) 58 ay aa] R) [(0, true), (1, true), (2, true), (3, true), (4, true), (5, true), (6, true), (7, true), (8, true), (9, true), (10, true), (11, true), (12, true), (13, true), (14, true), (15, true), (16, true), (17, true), (18, true), (19, true), (20, true), (21, true), (22, true), (23, true), (24, true), (25, true), (26, true), (27, true), (28, true), (29, true), (30, true), (31, true), (32, true), (33, true), (34, true), (35, true), (36, true), (37, true), (38, true), (39, true), (40, true), (41, true), (42, true), (43, true), (44, true), (45, true), (46, true), (47, true), (48, true), (49, true), (50, true), (51, true), (52, true), (53, true), (54, true), (55, true), (56, true), (57, true), (58, true), (59, true), (60, true), (61, true), (62, true), (63, true), (64, true), (65, true), (66, true), (67, true), (68, true)] mixed (by decide +kernel) rfl ?_
  intro dy aq
  replace H := H.ext aq
  clear aq
  refine ⟨(H.pk [0, 1, 2, 3, 4, 5, 6, 7, 8, 9, 10]), ?_⟩
  refine d_q rfl (fun w' H => x_mv (v := I ah) rfl) ?_
  refine d_q rfl (fun w' H => x_cmp (kd := .i64) (a := ah) (b := 0) (r := ah != 0) rfl rfl rfl) ?_
  refine d_q rfl (fun w' H => x_mv (v := B (ah != 0)) rfl) ?_
  refine d_qg (!(ah != 0)) rfl (gy_f rfl) (fun hg => (fun w' H => x_mv (v := I ai) rfl)) ?_
  refine d_qg (!(ah != 0)) rfl (gy_f rfl) (fun hg => (fun w' H => x_cmp (kd := .i64) (a := ai) (b := 0) (r := ai != 0) (gd_of (c := !(ah != 0)) hg (I ai)) rfl rfl)) ?_
  refine d_q rfl (fun w' H => x_por (b := ah != 0) (r := ai != 0) rfl rfl (fun hb => gd_of (c := !(ah != 0)) (by first | exact hb | (rw [hb]; rfl) | simp_all) (B (ai != 0)))) ?_
  refine d_q rfl (fun w' H => x_mv (v := B ((ah != 0) || (ai != 0))) rfl) ?_
  refine d_qg (!((ah != 0) || (ai != 0))) rfl (gy_f rfl) (fun hg => (fun w' H => x_fa (a := Pq au) (v := Pq au) rfl (fa_blk (o := 0) Fd61_0 Sz3))) ?_
  refine d_qg (!((ah != 0) || (ai != 0))) rfl (gy_f rfl) (fun hg => (fun w' H => x_ld (p := Pq au) (v := I ab) (gd_of (c := !((ah != 0) || (ai != 0))) hg (Pq au)) (ldb_sc Sc3 (H.bl 0) rfl))) ?_
  refine d_qg (!((ah != 0) || (ai != 0))) rfl (gy_f rfl) (fun hg => (fun w' H => x_mv (v := aw) rfl)) ?_
  refine d_qg (!((ah != 0) || (ai != 0))) rfl (gy_f rfl) (fun hg => (fun w' H => x_fa (a := Pq aE) (v := Pq aE) rfl (fa_blk (o := 0) Fd58_0 Sz3))) ?_
  refine d_qg (!((ah != 0) || (ai != 0))) rfl (gy_f rfl) (fun hg => (fun w' H => x_ld (p := Pq aE) (v := I ((aa.getD (Int.toNat r4) default).up)) (gd_of (c := !((ah != 0) || (ai != 0))) hg (Pq aE)) (ldb_sc Sc3 (H.bl 2) rfl))) ?_
  obtain ⟨aX, hM⟩ := M.e_grd hM
  replace aX := M.imp_of aX
  simp only [Bool.and_eq_true, decide_eq_true_eq] at aX
  refine d_qg (!((ah != 0) || (ai != 0))) rfl (gy_f rfl) (fun hg => (fun w' H => x_ix (a := aw) (b := I ((aa.getD (Int.toNat r4) default).up)) (v := vat aw 2 (Int.toNat ((aa.getD (Int.toNat r4) default).up))) (gd_of (c := !((ah != 0) || (ai != 0))) hg (aw)) (gd_of (c := !((ah != 0) || (ai != 0))) hg (I ((aa.getD (Int.toNat r4) default).up))) (Sl.ix (α := Span) T43.und T43.size (H.os 3) (by have aj := aX.resolve_left (by rw [hg]; decide); first | exact aj | exact aj.1 | exact aj.2 | omega | (have aq := hg; simp at aq; omega)) (by have aj := aX.resolve_left (by rw [hg]; decide); first | exact aj | exact aj.1 | exact aj.2 | omega | (have aq := hg; simp at aq; omega))))) ?_
  refine d_qg (!((ah != 0) || (ai != 0))) rfl (gy_f rfl) (fun hg => (fun w' H => x_fa (a := vat aw 2 (Int.toNat ((aa.getD (Int.toNat r4) default).up))) (v := fat (vat aw 2 (Int.toNat ((aa.getD (Int.toNat r4) default).up))) 0) (gd_of (c := !((ah != 0) || (ai != 0))) hg (vat aw 2 (Int.toNat ((aa.getD (Int.toNat r4) default).up)))) (fa_pl Fd54_0 Sz3 (Sl.pl (i := (aa.getD (Int.toNat r4) default).up) (H.os 3) (by have aj := aX.resolve_left (by rw [hg]; decide); first | exact aj | exact aj.1 | exact aj.2 | omega | (have aq := hg; simp at aq; omega)) (by have aj := aX.resolve_left (by rw [hg]; decide); first | exact aj | exact aj.1 | exact aj.2 | omega | (have aq := hg; simp at aq; omega)))))) ?_
  refine d_qg (!((ah != 0) || (ai != 0))) rfl (gy_f rfl) (fun hg => (fun w' H => x_ld (p := fat (vat aw 2 (Int.toNat ((aa.getD (Int.toNat r4) default).up))) 0) (v := I ((r0.getD (Int.toNat ((aa.getD (Int.toNat r4) default).up)) default).lo)) (gd_of (c := !((ah != 0) || (ai != 0))) hg (fat (vat aw 2 (Int.toNat ((aa.getD (Int.toNat r4) default).up))) 0)) (ld_sc Sc3 (At.mono (Span_at0 (H.os 3) (i := (aa.getD (Int.toNat r4) default).up) (by have aj := aX.resolve_left (by rw [hg]; decide); first | exact aj | exact aj.1 | exact aj.2 | omega | (have aq := hg; simp at aq; omega)) (by have aj := aX.resolve_left (by rw [hg]; decide); first | exact aj | exact aj.1 | exact aj.2 | omega | (have aq := hg; simp at aq; omega))) (H.ol 3))))) ?_
  refine d_qg (!((ah != 0) || (ai != 0))) rfl (gy_f rfl) (fun hg => (fun w' H => x_cmp (kd := .i64) (a := ab) (b := (r0.getD (Int.toNat ((aa.getD (Int.toNat r4) default).up)) default).lo) (r := decide (ab < ((r0.getD (Int.toNat ((aa.getD (Int.toNat r4) default).up)) default).lo))) (gd_of (c := !((ah != 0) || (ai != 0))) hg (I ab)) (gd_of (c := !((ah != 0) || (ai != 0))) hg (I ((r0.getD (Int.toNat ((aa.getD (Int.toNat r4) default).up)) default).lo))) rfl)) ?_
  refine d_q rfl (fun w' H => x_por (b := ((ah != 0) || (ai != 0))) (r := decide (ab < ((r0.getD (Int.toNat ((aa.getD (Int.toNat r4) default).up)) default).lo))) rfl rfl (fun hb => gd_of (c := !((ah != 0) || (ai != 0))) (by first | exact hb | (rw [hb]; rfl) | simp_all) (B (decide (ab < ((r0.getD (Int.toNat ((aa.getD (Int.toNat r4) default).up)) default).lo)))))) ?_
  refine d_q rfl (fun w' H => x_mv (v := B (((ah != 0) || (ai != 0)) || (decide (ab < ((r0.getD (Int.toNat ((aa.getD (Int.toNat r4) default).up)) default).lo))))) rfl) ?_
  refine d_qg (!(((ah != 0) || (ai != 0)) || (decide (ab < ((r0.getD (Int.toNat ((aa.getD (Int.toNat r4) default).up)) default).lo))))) rfl (gy_f rfl) (fun hg => (fun w' H => x_fa (a := Pq au) (v := Pq au) rfl (fa_blk (o := 0) Fd61_0 Sz3))) ?_
  refine d_qg (!(((ah != 0) || (ai != 0)) || (decide (ab < ((r0.getD (Int.toNat ((aa.getD (Int.toNat r4) default).up)) default).lo))))) rfl (gy_f rfl) (fun hg => (fun w' H => x_ld (p := Pq au) (v := I ab) (gd_of (c := !(((ah != 0) || (ai != 0)) || (decide (ab < ((r0.getD (Int.toNat ((aa.getD (Int.toNat r4) default).up)) default).lo))))) hg (Pq au)) (ldb_sc Sc3 (H.bl 0) rfl))) ?_
  refine d_qg (!(((ah != 0) || (ai != 0)) || (decide (ab < ((r0.getD (Int.toNat ((aa.getD (Int.toNat r4) default).up)) default).lo))))) rfl (gy_f rfl) (fun hg => (fun w' H => x_mv (v := aw) rfl)) ?_
  refine d_qg (!(((ah != 0) || (ai != 0)) || (decide (ab < ((r0.getD (Int.toNat ((aa.getD (Int.toNat r4) default).up)) default).lo))))) rfl (gy_f rfl) (fun hg => (fun w' H => x_fa (a := Pq aE) (v := Pq aE) rfl (fa_blk (o := 0) Fd58_0 Sz3))) ?_
  refine d_qg (!(((ah != 0) || (ai != 0)) || (decide (ab < ((r0.getD (Int.toNat ((aa.getD (Int.toNat r4) default).up)) default).lo))))) rfl (gy_f rfl) (fun hg => (fun w' H => x_ld (p := Pq aE) (v := I ((aa.getD (Int.toNat r4) default).up)) (gd_of (c := !(((ah != 0) || (ai != 0)) || (decide (ab < ((r0.getD (Int.toNat ((aa.getD (Int.toNat r4) default).up)) default).lo))))) hg (Pq aE)) (ldb_sc Sc3 (H.bl 2) rfl))) ?_
  obtain ⟨aY, hM⟩ := M.e_grd hM
  replace aY := M.imp_of aY
  simp only [Bool.and_eq_true, decide_eq_true_eq] at aY
  refine d_qg (!(((ah != 0) || (ai != 0)) || (decide (ab < ((r0.getD (Int.toNat ((aa.getD (Int.toNat r4) default).up)) default).lo))))) rfl (gy_f rfl) (fun hg => (fun w' H => x_ix (a := aw) (b := I ((aa.getD (Int.toNat r4) default).up)) (v := vat aw 2 (Int.toNat ((aa.getD (Int.toNat r4) default).up))) (gd_of (c := !(((ah != 0) || (ai != 0)) || (decide (ab < ((r0.getD (Int.toNat ((aa.getD (Int.toNat r4) default).up)) default).lo))))) hg (aw)) (gd_of (c := !(((ah != 0) || (ai != 0)) || (decide (ab < ((r0.getD (Int.toNat ((aa.getD (Int.toNat r4) default).up)) default).lo))))) hg (I ((aa.getD (Int.toNat r4) default).up))) (Sl.ix (α := Span) T43.und T43.size (H.os 3) (by have aj := aY.resolve_left (by rw [hg]; decide); first | exact aj | exact aj.1 | exact aj.2 | omega | (have aq := hg; simp at aq; omega)) (by have aj := aY.resolve_left (by rw [hg]; decide); first | exact aj | exact aj.1 | exact aj.2 | omega | (have aq := hg; simp at aq; omega))))) ?_
  refine d_qg (!(((ah != 0) || (ai != 0)) || (decide (ab < ((r0.getD (Int.toNat ((aa.getD (Int.toNat r4) default).up)) default).lo))))) rfl (gy_f rfl) (fun hg => (fun w' H => x_fa (a := vat aw 2 (Int.toNat ((aa.getD (Int.toNat r4) default).up))) (v := fat (vat aw 2 (Int.toNat ((aa.getD (Int.toNat r4) default).up))) 1) (gd_of (c := !(((ah != 0) || (ai != 0)) || (decide (ab < ((r0.getD (Int.toNat ((aa.getD (Int.toNat r4) default).up)) default).lo))))) hg (vat aw 2 (Int.toNat ((aa.getD (Int.toNat r4) default).up)))) (fa_pl Fd54_1 Sz3 (Sl.pl (i := (aa.getD (Int.toNat r4) default).up) (H.os 3) (by have aj := aY.resolve_left (by rw [hg]; decide); first | exact aj | exact aj.1 | exact aj.2 | omega | (have aq := hg; simp at aq; omega)) (by have aj := aY.resolve_left (by rw [hg]; decide); first | exact aj | exact aj.1 | exact aj.2 | omega | (have aq := hg; simp at aq; omega)))))) ?_
  refine d_qg (!(((ah != 0) || (ai != 0)) || (decide (ab < ((r0.getD (Int.toNat ((aa.getD (Int.toNat r4) default).up)) default).lo))))) rfl (gy_f rfl) (fun hg => (fun w' H => x_ld (p := fat (vat aw 2 (Int.toNat ((aa.getD (Int.toNat r4) default).up))) 1) (v := I ((r0.getD (Int.toNat ((aa.getD (Int.toNat r4) default).up)) default).hi)) (gd_of (c := !(((ah != 0) || (ai != 0)) || (decide (ab < ((r0.getD (Int.toNat ((aa.getD (Int.toNat r4) default).up)) default).lo))))) hg (fat (vat aw 2 (Int.toNat ((aa.getD (Int.toNat r4) default).up))) 1)) (ld_sc Sc3 (At.mono (Span_at1 (H.os 3) (i := (aa.getD (Int.toNat r4) default).up) (by have aj := aY.resolve_left (by rw [hg]; decide); first | exact aj | exact aj.1 | exact aj.2 | omega | (have aq := hg; simp at aq; omega)) (by have aj := aY.resolve_left (by rw [hg]; decide); first | exact aj | exact aj.1 | exact aj.2 | omega | (have aq := hg; simp at aq; omega))) (H.ol 3))))) ?_
  refine d_qg (!(((ah != 0) || (ai != 0)) || (decide (ab < ((r0.getD (Int.toNat ((aa.getD (Int.toNat r4) default).up)) default).lo))))) rfl (gy_f rfl) (fun hg => (fun w' H => x_cmp (kd := .i64) (a := ab) (b := (r0.getD (Int.toNat ((aa.getD (Int.toNat r4) default).up)) default).hi) (r := decide (((r0.getD (Int.toNat ((aa.getD (Int.toNat r4) default).up)) default).hi) < ab)) (gd_of (c := !(((ah != 0) || (ai != 0)) || (decide (ab < ((r0.getD (Int.toNat ((aa.getD (Int.toNat r4) default).up)) default).lo))))) hg (I ab)) (gd_of (c := !(((ah != 0) || (ai != 0)) || (decide (ab < ((r0.getD (Int.toNat ((aa.getD (Int.toNat r4) default).up)) default).lo))))) hg (I ((r0.getD (Int.toNat ((aa.getD (Int.toNat r4) default).up)) default).hi))) rfl)) ?_
  refine d_q rfl (fun w' H => x_por (b := (((ah != 0) || (ai != 0)) || (decide (ab < ((r0.getD (Int.toNat ((aa.getD (Int.toNat r4) default).up)) default).lo))))) (r := decide (((r0.getD (Int.toNat ((aa.getD (Int.toNat r4) default).up)) default).hi) < ab)) rfl rfl (fun hb => gd_of (c := !(((ah != 0) || (ai != 0)) || (decide (ab < ((r0.getD (Int.toNat ((aa.getD (Int.toNat r4) default).up)) default).lo))))) (by first | exact hb | (rw [hb]; rfl) | simp_all) (B (decide (((r0.getD (Int.toNat ((aa.getD (Int.toNat r4) default).up)) default).hi) < ab))))) ?_
  refine d_q rfl (fun w' H => x_mv (v := B ((((ah != 0) || (ai != 0)) || (decide (ab < ((r0.getD (Int.toNat ((aa.getD (Int.toNat r4) default).up)) default).lo)))) || (decide (((r0.getD (Int.toNat ((aa.getD (Int.toNat r4) default).up)) default).hi) < ab)))) rfl) ?_
  refine d_qg (!((((ah != 0) || (ai != 0)) || (decide (ab < ((r0.getD (Int.toNat ((aa.getD (Int.toNat r4) default).up)) default).lo)))) || (decide (((r0.getD (Int.toNat ((aa.getD (Int.toNat r4) default).up)) default).hi) < ab)))) rfl (gy_f rfl) (fun hg => (fun w' H => x_fa (a := Pq au) (v := Oq au 1) rfl (fa_blk (o := 0) Fd61_1 Sz3))) ?_
  refine d_qg (!((((ah != 0) || (ai != 0)) || (decide (ab < ((r0.getD (Int.toNat ((aa.getD (Int.toNat r4) default).up)) default).lo)))) || (decide (((r0.getD (Int.toNat ((aa.getD (Int.toNat r4) default).up)) default).hi) < ab)))) rfl (gy_f rfl) (fun hg => (fun w' H => x_ld (p := Oq au 1) (v := I ac) (gd_of (c := !((((ah != 0) || (ai != 0)) || (decide (ab < ((r0.getD (Int.toNat ((aa.getD (Int.toNat r4) default).up)) default).lo)))) || (decide (((r0.getD (Int.toNat ((aa.getD (Int.toNat r4) default).up)) default).hi) < ab)))) hg (Oq au 1)) (ldb_sc Sc3 (H.bl 0) rfl))) ?_
  refine d_qg (!((((ah != 0) || (ai != 0)) || (decide (ab < ((r0.getD (Int.toNat ((aa.getD (Int.toNat r4) default).up)) default).lo)))) || (decide (((r0.getD (Int.toNat ((aa.getD (Int.toNat r4) default).up)) default).hi) < ab)))) rfl (gy_f rfl) (fun hg => (fun w' H => x_mv (v := aw) rfl)) ?_
  refine d_qg (!((((ah != 0) || (ai != 0)) || (decide (ab < ((r0.getD (Int.toNat ((aa.getD (Int.toNat r4) default).up)) default).lo)))) || (decide (((r0.getD (Int.toNat ((aa.getD (Int.toNat r4) default).up)) default).hi) < ab)))) rfl (gy_f rfl) (fun hg => (fun w' H => x_fa (a := Pq aE) (v := Oq aE 1) rfl (fa_blk (o := 0) Fd58_1 Sz3))) ?_
  refine d_qg (!((((ah != 0) || (ai != 0)) || (decide (ab < ((r0.getD (Int.toNat ((aa.getD (Int.toNat r4) default).up)) default).lo)))) || (decide (((r0.getD (Int.toNat ((aa.getD (Int.toNat r4) default).up)) default).hi) < ab)))) rfl (gy_f rfl) (fun hg => (fun w' H => x_ld (p := Oq aE 1) (v := I ((aa.getD (Int.toNat r4) default).down)) (gd_of (c := !((((ah != 0) || (ai != 0)) || (decide (ab < ((r0.getD (Int.toNat ((aa.getD (Int.toNat r4) default).up)) default).lo)))) || (decide (((r0.getD (Int.toNat ((aa.getD (Int.toNat r4) default).up)) default).hi) < ab)))) hg (Oq aE 1)) (ldb_sc Sc3 (H.bl 2) rfl))) ?_
  obtain ⟨aZ, hM⟩ := M.e_grd hM
  replace aZ := M.imp_of aZ
  simp only [Bool.and_eq_true, decide_eq_true_eq] at aZ
  refine d_qg (!((((ah != 0) || (ai != 0)) || (decide (ab < ((r0.getD (Int.toNat ((aa.getD (Int.toNat r4) default).up)) default).lo)))) || (decide (((r0.getD (Int.toNat ((aa.getD (Int.toNat r4) default).up)) default).hi) < ab)))) rfl (gy_f rfl) (fun hg => (fun w' H => x_ix (a := aw) (b := I ((aa.getD (Int.toNat r4) default).down)) (v := vat aw 2 (Int.toNat ((aa.getD (Int.toNat r4) default).down))) (gd_of (c := !((((ah != 0) || (ai != 0)) || (decide (ab < ((r0.getD (Int.toNat ((aa.getD (Int.toNat r4) default).up)) default).lo)))) || (decide (((r0.getD (Int.toNat ((aa.getD (Int.toNat r4) default).up)) default).hi) < ab)))) hg (aw)) (gd_of (c := !((((ah != 0) || (ai != 0)) || (decide (ab < ((r0.getD (Int.toNat ((aa.getD (Int.toNat r4) default).up)) default).lo)))) || (decide (((r0.getD (Int.toNat ((aa.getD (Int.toNat r4) default).up)) default).hi) < ab)))) hg (I ((aa.getD (Int.toNat r4) default).down))) (Sl.ix (α := Span) T43.und T43.size (H.os 3) (by have aj := aZ.resolve_left (by rw [hg]; decide); first | exact aj | exact aj.1 | exact aj.2 | omega | (have aq := hg; simp at aq; omega)) (by have aj := aZ.resolve_left (by rw [hg]; decide); first | exact aj | exact aj.1 | exact aj.2 | omega | (have aq := hg; simp at aq; omega))))) ?_
  refine d_qg (!((((ah != 0) || (ai != 0)) || (decide (ab < ((r0.getD (Int.toNat ((aa.getD (Int.toNat r4) default).up)) default).lo)))) || (decide (((r0.getD (Int.toNat ((aa.getD (Int.toNat r4) default).up)) default).hi) < ab)))) rfl (gy_f rfl) (fun hg => (fun w' H => x_fa (a := vat aw 2 (Int.toNat ((aa.getD (Int.toNat r4) default).down))) (v := fat (vat aw 2 (Int.toNat ((aa.getD (Int.toNat r4) default).down))) 0) (gd_of (c := !((((ah != 0) || (ai != 0)) || (decide (ab < ((r0.getD (Int.toNat ((aa.getD (Int.toNat r4) default).up)) default).lo)))) || (decide (((r0.getD (Int.toNat ((aa.getD (Int.toNat r4) default).up)) default).hi) < ab)))) hg (vat aw 2 (Int.toNat ((aa.getD (Int.toNat r4) default).down)))) (fa_pl Fd54_0 Sz3 (Sl.pl (i := (aa.getD (Int.toNat r4) default).down) (H.os 3) (by have aj := aZ.resolve_left (by rw [hg]; decide); first | exact aj | exact aj.1 | exact aj.2 | omega | (have aq := hg; simp at aq; omega)) (by have aj := aZ.resolve_left (by rw [hg]; decide); first | exact aj | exact aj.1 | exact aj.2 | omega | (have aq := hg; simp at aq; omega)))))) ?_
  refine d_qg (!((((ah != 0) || (ai != 0)) || (decide (ab < ((r0.getD (Int.toNat ((aa.getD (Int.toNat r4) default).up)) default).lo)))) || (decide (((r0.getD (Int.toNat ((aa.getD (Int.toNat r4) default).up)) default).hi) < ab)))) rfl (gy_f rfl) (fun hg => (fun w' H => x_ld (p := fat (vat aw 2 (Int.toNat ((aa.getD (Int.toNat r4) default).down))) 0) (v := I ((r0.getD (Int.toNat ((aa.getD (Int.toNat r4) default).down)) default).lo)) (gd_of (c := !((((ah != 0) || (ai != 0)) || (decide (ab < ((r0.getD (Int.toNat ((aa.getD (Int.toNat r4) default).up)) default).lo)))) || (decide (((r0.getD (Int.toNat ((aa.getD (Int.toNat r4) default).up)) default).hi) < ab)))) hg (fat (vat aw 2 (Int.toNat ((aa.getD (Int.toNat r4) default).down))) 0)) (ld_sc Sc3 (At.mono (Span_at0 (H.os 3) (i := (aa.getD (Int.toNat r4) default).down) (by have aj := aZ.resolve_left (by rw [hg]; decide); first | exact aj | exact aj.1 | exact aj.2 | omega | (have aq := hg; simp at aq; omega)) (by have aj := aZ.resolve_left (by rw [hg]; decide); first | exact aj | exact aj.1 | exact aj.2 | omega | (have aq := hg; simp at aq; omega))) (H.ol 3))))) ?_
  refine d_qg (!((((ah != 0) || (ai != 0)) || (decide (ab < ((r0.getD (Int.toNat ((aa.getD (Int.toNat r4) default).up)) default).lo)))) || (decide (((r0.getD (Int.toNat ((aa.getD (Int.toNat r4) default).up)) default).hi) < ab)))) rfl (gy_f rfl) (fun hg => (fun w' H => x_cmp (kd := .i64) (a := ac) (b := (r0.getD (Int.toNat ((aa.getD (Int.toNat r4) default).down)) default).lo) (r := decide (ac < ((r0.getD (Int.toNat ((aa.getD (Int.toNat r4) default).down)) default).lo))) (gd_of (c := !((((ah != 0) || (ai != 0)) || (decide (ab < ((r0.getD (Int.toNat ((aa.getD (Int.toNat r4) default).up)) default).lo)))) || (decide (((r0.getD (Int.toNat ((aa.getD (Int.toNat r4) default).up)) default).hi) < ab)))) hg (I ac)) (gd_of (c := !((((ah != 0) || (ai != 0)) || (decide (ab < ((r0.getD (Int.toNat ((aa.getD (Int.toNat r4) default).up)) default).lo)))) || (decide (((r0.getD (Int.toNat ((aa.getD (Int.toNat r4) default).up)) default).hi) < ab)))) hg (I ((r0.getD (Int.toNat ((aa.getD (Int.toNat r4) default).down)) default).lo))) rfl)) ?_
  refine d_q rfl (fun w' H => x_por (b := ((((ah != 0) || (ai != 0)) || (decide (ab < ((r0.getD (Int.toNat ((aa.getD (Int.toNat r4) default).up)) default).lo)))) || (decide (((r0.getD (Int.toNat ((aa.getD (Int.toNat r4) default).up)) default).hi) < ab)))) (r := decide (ac < ((r0.getD (Int.toNat ((aa.getD (Int.toNat r4) default).down)) default).lo))) rfl rfl (fun hb => gd_of (c := !((((ah != 0) || (ai != 0)) || (decide (ab < ((r0.getD (Int.toNat ((aa.getD (Int.toNat r4) default).up)) default).lo)))) || (decide (((r0.getD (Int.toNat ((aa.getD (Int.toNat r4) default).up)) default).hi) < ab)))) (by first | exact hb | (rw [hb]; rfl) | simp_all) (B (decide (ac < ((r0.getD (Int.toNat ((aa.getD (Int.toNat r4) default).down)) default).lo)))))) ?_
  refine d_q rfl (fun w' H => x_mv (v := B (((((ah != 0) || (ai != 0)) || (decide (ab < ((r0.getD (Int.toNat ((aa.getD (Int.toNat r4) default).up)) default).lo)))) || (decide (((r0.getD (Int.toNat ((aa.getD (Int.toNat r4) default).up)) default).hi) < ab))) || (decide (ac < ((r0.getD (Int.toNat ((aa.getD (Int.toNat r4) default).down)) default).lo))))) rfl) ?_
  refine d_qg (!(((((ah != 0) || (ai != 0)) || (decide (ab < ((r0.getD (Int.toNat ((aa.getD (Int.toNat r4) default).up)) default).lo)))) || (decide (((r0.getD (Int.toNat ((aa.getD (Int.toNat r4) default).up)) default).hi) < ab))) || (decide (ac < ((r0.getD (Int.toNat ((aa.getD (Int.toNat r4) default).down)) default).lo))))) rfl (gy_f rfl) (fun hg => (fun w' H => x_fa (a := Pq au) (v := Oq au 1) rfl (fa_blk (o := 0) Fd61_1 Sz3))) ?_
  refine d_qg (!(((((ah != 0) || (ai != 0)) || (decide (ab < ((r0.getD (Int.toNat ((aa.getD (Int.toNat r4) default).up)) default).lo)))) || (decide (((r0.getD (Int.toNat ((aa.getD (Int.toNat r4) default).up)) default).hi) < ab))) || (decide (ac < ((r0.getD (Int.toNat ((aa.getD (Int.toNat r4) default).down)) default).lo))))) rfl (gy_f rfl) (fun hg => (fun w' H => x_ld (p := Oq au 1) (v := I ac) (gd_of (c := !(((((ah != 0) || (ai != 0)) || (decide (ab < ((r0.getD (Int.toNat ((aa.getD (Int.toNat r4) default).up)) default).lo)))) || (decide (((r0.getD (Int.toNat ((aa.getD (Int.toNat r4) default).up)) default).hi) < ab))) || (decide (ac < ((r0.getD (Int.toNat ((aa.getD (Int.toNat r4) default).down)) default).lo))))) hg (Oq au 1)) (ldb_sc Sc3 (H.bl 0) rfl))) ?_
  refine d_qg (!(((((ah != 0) || (ai != 0)) || (decide (ab < ((r0.getD (Int.toNat ((aa.getD (Int.toNat r4) default).up)) default).lo)))) || (decide (((r0.getD (Int.toNat ((aa.getD (Int.toNat r4) default).up)) default).hi) < ab))) || (decide (ac < ((r0.getD (Int.toNat ((aa.getD (Int.toNat r4) default).down)) default).lo))))) rfl (gy_f rfl) (fun hg => (fun w' H => x_mv (v := aw) rfl)) ?_
  refine d_qg (!(((((ah != 0) || (ai != 0)) || (decide (ab < ((r0.getD (Int.toNat ((aa.getD (Int.toNat r4) default).up)) default).lo)))) || (decide (((r0.getD (Int.toNat ((aa.getD (Int.toNat r4) default).up)) default).hi) < ab))) || (decide (ac < ((r0.getD (Int.toNat ((aa.getD (Int.toNat r4) default).down)) default).lo))))) rfl (gy_f rfl) (fun hg => (fun w' H => x_fa (a := Pq aE) (v := Oq aE 1) rfl (fa_blk (o := 0) Fd58_1 Sz3))) ?_
  refine d_qg (!(((((ah != 0) || (ai != 0)) || (decide (ab < ((r0.getD (Int.toNat ((aa.getD (Int.toNat r4) default).up)) default).lo)))) || (decide (((r0.getD (Int.toNat ((aa.getD (Int.toNat r4) default).up)) default).hi) < ab))) || (decide (ac < ((r0.getD (Int.toNat ((aa.getD (Int.toNat r4) default).down)) default).lo))))) rfl (gy_f rfl) (fun hg => (fun w' H => x_ld (p := Oq aE 1) (v := I ((aa.getD (Int.toNat r4) default).down)) (gd_of (c := !(((((ah != 0) || (ai != 0)) || (decide (ab < ((r0.getD (Int.toNat ((aa.getD (Int.toNat r4) default).up)) default).lo)))) || (decide (((r0.getD (Int.toNat ((aa.getD (Int.toNat r4) default).up)) default).hi) < ab))) || (decide (ac < ((r0.getD (Int.toNat ((aa.getD (Int.toNat r4) default).down)) default).lo))))) hg (Oq aE 1)) (ldb_sc Sc3 (H.bl 2) rfl))) ?_
  obtain ⟨a6, hM⟩ := M.e_grd hM
  replace a6 := M.imp_of a6
  simp only [Bool.and_eq_true, decide_eq_true_eq] at a6
  refine d_qg (!(((((ah != 0) || (ai != 0)) || (decide (ab < ((r0.getD (Int.toNat ((aa.getD (Int.toNat r4) default).up)) default).lo)))) || (decide (((r0.getD (Int.toNat ((aa.getD (Int.toNat r4) default).up)) default).hi) < ab))) || (decide (ac < ((r0.getD (Int.toNat ((aa.getD (Int.toNat r4) default).down)) default).lo))))) rfl (gy_f rfl) (fun hg => (fun w' H => x_ix (a := aw) (b := I ((aa.getD (Int.toNat r4) default).down)) (v := vat aw 2 (Int.toNat ((aa.getD (Int.toNat r4) default).down))) (gd_of (c := !(((((ah != 0) || (ai != 0)) || (decide (ab < ((r0.getD (Int.toNat ((aa.getD (Int.toNat r4) default).up)) default).lo)))) || (decide (((r0.getD (Int.toNat ((aa.getD (Int.toNat r4) default).up)) default).hi) < ab))) || (decide (ac < ((r0.getD (Int.toNat ((aa.getD (Int.toNat r4) default).down)) default).lo))))) hg (aw)) (gd_of (c := !(((((ah != 0) || (ai != 0)) || (decide (ab < ((r0.getD (Int.toNat ((aa.getD (Int.toNat r4) default).up)) default).lo)))) || (decide (((r0.getD (Int.toNat ((aa.getD (Int.toNat r4) default).up)) default).hi) < ab))) || (decide (ac < ((r0.getD (Int.toNat ((aa.getD (Int.toNat r4) default).down)) default).lo))))) hg (I ((aa.getD (Int.toNat r4) default).down))) (Sl.ix (α := Span) T43.und T43.size (H.os 3) (by have aj := a6.resolve_left (by rw [hg]; decide); first | exact aj | exact aj.1 | exact aj.2 | omega | (have aq := hg; simp at aq; omega)) (by have aj := a6.resolve_left (by rw [hg]; decide); first | exact aj | exact aj.1 | exact aj.2 | omega | (have aq := hg; simp at aq; omega))))) ?_
  refine d_qg (!(((((ah != 0) || (ai != 0)) || (decide (ab < ((r0.getD (Int.toNat ((aa.getD (Int.toNat r4) default).up)) default).lo)))) || (decide (((r0.getD (Int.toNat ((aa.getD (Int.toNat r4) default).up)) default).hi) < ab))) || (decide (ac < ((r0.getD (Int.toNat ((aa.getD (Int.toNat r4) default).down)) default).lo))))) rfl (gy_f rfl) (fun hg => (fun w' H => x_fa (a := vat aw 2 (Int.toNat ((aa.getD (Int.toNat r4) default).down))) (v := fat (vat aw 2 (Int.toNat ((aa.getD (Int.toNat r4) default).down))) 1) (gd_of (c := !(((((ah != 0) || (ai != 0)) || (decide (ab < ((r0.getD (Int.toNat ((aa.getD (Int.toNat r4) default).up)) default).lo)))) || (decide (((r0.getD (Int.toNat ((aa.getD (Int.toNat r4) default).up)) default).hi) < ab))) || (decide (ac < ((r0.getD (Int.toNat ((aa.getD (Int.toNat r4) default).down)) default).lo))))) hg (vat aw 2 (Int.toNat ((aa.getD (Int.toNat r4) default).down)))) (fa_pl Fd54_1 Sz3 (Sl.pl (i := (aa.getD (Int.toNat r4) default).down) (H.os 3) (by have aj := a6.resolve_left (by rw [hg]; decide); first | exact aj | exact aj.1 | exact aj.2 | omega | (have aq := hg; simp at aq; omega)) (by have aj := a6.resolve_left (by rw [hg]; decide); first | exact aj | exact aj.1 | exact aj.2 | omega | (have aq := hg; simp at aq; omega)))))) ?_
  refine d_qg (!(((((ah != 0) || (ai != 0)) || (decide (ab < ((r0.getD (Int.toNat ((aa.getD (Int.toNat r4) default).up)) default).lo)))) || (decide (((r0.getD (Int.toNat ((aa.getD (Int.toNat r4) default).up)) default).hi) < ab))) || (decide (ac < ((r0.getD (Int.toNat ((aa.getD (Int.toNat r4) default).down)) default).lo))))) rfl (gy_f rfl) (fun hg => (fun w' H => x_ld (p := fat (vat aw 2 (Int.toNat ((aa.getD (Int.toNat r4) default).down))) 1) (v := I ((r0.getD (Int.toNat ((aa.getD (Int.toNat r4) default).down)) default).hi)) (gd_of (c := !(((((ah != 0) || (ai != 0)) || (decide (ab < ((r0.getD (Int.toNat ((aa.getD (Int.toNat r4) default).up)) default).lo)))) || (decide (((r0.getD (Int.toNat ((aa.getD (Int.toNat r4) default).up)) default).hi) < ab))) || (decide (ac < ((r0.getD (Int.toNat ((aa.getD (Int.toNat r4) default).down)) default).lo))))) hg (fat (vat aw 2 (Int.toNat ((aa.getD (Int.toNat r4) default).down))) 1)) (ld_sc Sc3 (At.mono (Span_at1 (H.os 3) (i := (aa.getD (Int.toNat r4) default).down) (by have aj := a6.resolve_left (by rw [hg]; decide); first | exact aj | exact aj.1 | exact aj.2 | omega | (have aq := hg; simp at aq; omega)) (by have aj := a6.resolve_left (by rw [hg]; decide); first | exact aj | exact aj.1 | exact aj.2 | omega | (have aq := hg; simp at aq; omega))) (H.ol 3))))) ?_
  refine d_qg (!(((((ah != 0) || (ai != 0)) || (decide (ab < ((r0.getD (Int.toNat ((aa.getD (Int.toNat r4) default).up)) default).lo)))) || (decide (((r0.getD (Int.toNat ((aa.getD (Int.toNat r4) default).up)) default).hi) < ab))) || (decide (ac < ((r0.getD (Int.toNat ((aa.getD (Int.toNat r4) default).down)) default).lo))))) rfl (gy_f rfl) (fun hg => (fun w' H => x_cmp (kd := .i64) (a := ac) (b := (r0.getD (Int.toNat ((aa.getD (Int.toNat r4) default).down)) default).hi) (r := decide (((r0.getD (Int.toNat ((aa.getD (Int.toNat r4) default).down)) default).hi) < ac)) (gd_of (c := !(((((ah != 0) || (ai != 0)) || (decide (ab < ((r0.getD (Int.toNat ((aa.getD (Int.toNat r4) default).up)) default).lo)))) || (decide (((r0.getD (Int.toNat ((aa.getD (Int.toNat r4) default).up)) default).hi) < ab))) || (decide (ac < ((r0.getD (Int.toNat ((aa.getD (Int.toNat r4) default).down)) default).lo))))) hg (I ac)) (gd_of (c := !(((((ah != 0) || (ai != 0)) || (decide (ab < ((r0.getD (Int.toNat ((aa.getD (Int.toNat r4) default).up)) default).lo)))) || (decide (((r0.getD (Int.toNat ((aa.getD (Int.toNat r4) default).up)) default).hi) < ab))) || (decide (ac < ((r0.getD (Int.toNat ((aa.getD (Int.toNat r4) default).down)) default).lo))))) hg (I ((r0.getD (Int.toNat ((aa.getD (Int.toNat r4) default).down)) default).hi))) rfl)) ?_
  refine d_q rfl (fun w' H => x_por (b := (((((ah != 0) || (ai != 0)) || (decide (ab < ((r0.getD (Int.toNat ((aa.getD (Int.toNat r4) default).up)) default).lo)))) || (decide (((r0.getD (Int.toNat ((aa.getD (Int.toNat r4) default).up)) default).hi) < ab))) || (decide (ac < ((r0.getD (Int.toNat ((aa.getD (Int.toNat r4) default).down)) default).lo))))) (r := decide (((r0.getD (Int.toNat ((aa.getD (Int.toNat r4) default).down)) default).hi) < ac)) rfl rfl (fun hb => gd_of (c := !(((((ah != 0) || (ai != 0)) || (decide (ab < ((r0.getD (Int.toNat ((aa.getD (Int.toNat r4) default).up)) default).lo)))) || (decide (((r0.getD (Int.toNat ((aa.getD (Int.toNat r4) default).up)) default).hi) < ab))) || (decide (ac < ((r0.getD (Int.toNat ((aa.getD (Int.toNat r4) default).down)) default).lo))))) (by first | exact hb | (rw [hb]; rfl) | simp_all) (B (decide (((r0.getD (Int.toNat ((aa.getD (Int.toNat r4) default).down)) default).hi) < ac))))) ?_
  refine d_q rfl (fun w' H => x_mv (v := B ((((((ah != 0) || (ai != 0)) || (decide (ab < ((r0.getD (Int.toNat ((aa.getD (Int.toNat r4) default).up)) default).lo)))) || (decide (((r0.getD (Int.toNat ((aa.getD (Int.toNat r4) default).up)) default).hi) < ab))) || (decide (ac < ((r0.getD (Int.toNat ((aa.getD (Int.toNat r4) default).down)) default).lo)))) || (decide (((r0.getD (Int.toNat ((aa.getD (Int.toNat r4) default).down)) default).hi) < ac)))) rfl) ?_
  refine d_qg (!((((((ah != 0) || (ai != 0)) || (decide (ab < ((r0.getD (Int.toNat ((aa.getD (Int.toNat r4) default).up)) default).lo)))) || (decide (((r0.getD (Int.toNat ((aa.getD (Int.toNat r4) default).up)) default).hi) < ab))) || (decide (ac < ((r0.getD (Int.toNat ((aa.getD (Int.toNat r4) default).down)) default).lo)))) || (decide (((r0.getD (Int.toNat ((aa.getD (Int.toNat r4) default).down)) default).hi) < ac)))) rfl (gy_f rfl) (fun hg => (fun w' H => x_mv (v := B (([false, true]).getD s false)) rfl)) ?_
  refine d_qg (!((((((ah != 0) || (ai != 0)) || (decide (ab < ((r0.getD (Int.toNat ((aa.getD (Int.toNat r4) default).up)) default).lo)))) || (decide (((r0.getD (Int.toNat ((aa.getD (Int.toNat r4) default).up)) default).hi) < ab))) || (decide (ac < ((r0.getD (Int.toNat ((aa.getD (Int.toNat r4) default).down)) default).lo)))) || (decide (((r0.getD (Int.toNat ((aa.getD (Int.toNat r4) default).down)) default).hi) < ac)))) rfl (gy_f rfl) (fun hg => (fun w' H => x_mv (v := B (([false, true]).getD s false)) (gd_of (c := !((((((ah != 0) || (ai != 0)) || (decide (ab < ((r0.getD (Int.toNat ((aa.getD (Int.toNat r4) default).up)) default).lo)))) || (decide (((r0.getD (Int.toNat ((aa.getD (Int.toNat r4) default).up)) default).hi) < ab))) || (decide (ac < ((r0.getD (Int.toNat ((aa.getD (Int.toNat r4) default).down)) default).lo)))) || (decide (((r0.getD (Int.toNat ((aa.getD (Int.toNat r4) default).down)) default).hi) < ac)))) hg (B (([false, true]).getD s false))))) ?_
  refine d_qg ((!((((((ah != 0) || (ai != 0)) || (decide (ab < ((r0.getD (Int.toNat ((aa.getD (Int.toNat r4) default).up)) default).lo)))) || (decide (((r0.getD (Int.toNat ((aa.getD (Int.toNat r4) default).up)) default).hi) < ab))) || (decide (ac < ((r0.getD (Int.toNat ((aa.getD (Int.toNat r4) default).down)) default).lo)))) || (decide (((r0.getD (Int.toNat ((aa.getD (Int.toNat r4) default).down)) default).hi) < ac)))) && (([false, true]).getD s false)) rfl (gy_gt rfl rfl) (fun hg => (fun w' H => x_mv (v := I ae) rfl)) ?_
  refine d_qg ((!((((((ah != 0) || (ai != 0)) || (decide (ab < ((r0.getD (Int.toNat ((aa.getD (Int.toNat r4) default).up)) default).lo)))) || (decide (((r0.getD (Int.toNat ((aa.getD (Int.toNat r4) default).up)) default).hi) < ab))) || (decide (ac < ((r0.getD (Int.toNat ((aa.getD (Int.toNat r4) default).down)) default).lo)))) || (decide (((r0.getD (Int.toNat ((aa.getD (Int.toNat r4) default).down)) default).hi) < ac)))) && (([false, true]).getD s false)) rfl (gy_gt rfl rfl) (fun hg => (fun w' H => x_fa (a := Pq aN) (v := Oq aN 1) rfl (fa_blk (o := 0) Fd54_1 Sz3))) ?_
  refine d_qg ((!((((((ah != 0) || (ai != 0)) || (decide (ab < ((r0.getD (Int.toNat ((aa.getD (Int.toNat r4) default).up)) default).lo)))) || (decide (((r0.getD (Int.toNat ((aa.getD (Int.toNat r4) default).up)) default).hi) < ab))) || (decide (ac < ((r0.getD (Int.toNat ((aa.getD (Int.toNat r4) default).down)) default).lo)))) || (decide (((r0.getD (Int.toNat ((aa.getD (Int.toNat r4) default).down)) default).hi) < ac)))) && (([false, true]).getD s false)) rfl (gy_gt rfl rfl) (fun hg => (fun w' H => x_ld (p := Oq aN 1) (v := I az) (gd_of (c := ((!((((((ah != 0) || (ai != 0)) || (decide (ab < ((r0.getD (Int.toNat ((aa.getD (Int.toNat r4) default).up)) default).lo)))) || (decide (((r0.getD (Int.toNat ((aa.getD (Int.toNat r4) default).up)) default).hi) < ab))) || (decide (ac < ((r0.getD (Int.toNat ((aa.getD (Int.toNat r4) default).down)) default).lo)))) || (decide (((r0.getD (Int.toNat ((aa.getD (Int.toNat r4) default).down)) default).hi) < ac)))) && (([false, true]).getD s false))) hg (Oq aN 1)) (ldb_sc Sc3 (H.bl 4) rfl))) ?_
  refine d_qg ((!((((((ah != 0) || (ai != 0)) || (decide (ab < ((r0.getD (Int.toNat ((aa.getD (Int.toNat r4) default).up)) default).lo)))) || (decide (((r0.getD (Int.toNat ((aa.getD (Int.toNat r4) default).up)) default).hi) < ab))) || (decide (ac < ((r0.getD (Int.toNat ((aa.getD (Int.toNat r4) default).down)) default).lo)))) || (decide (((r0.getD (Int.toNat ((aa.getD (Int.toNat r4) default).down)) default).hi) < ac)))) && (([false, true]).getD s false)) rfl (gy_gt rfl rfl) (fun hg => (fun w' H => x_cmp (kd := .i64) (a := ae) (b := az) (r := ae != az) (gd_of (c := ((!((((((ah != 0) || (ai != 0)) || (decide (ab < ((r0.getD (Int.toNat ((aa.getD (Int.toNat r4) default).up)) default).lo)))) || (decide (((r0.getD (Int.toNat ((aa.getD (Int.toNat r4) default).up)) default).hi) < ab))) || (decide (ac < ((r0.getD (Int.toNat ((aa.getD (Int.toNat r4) default).down)) default).lo)))) || (decide (((r0.getD (Int.toNat ((aa.getD (Int.toNat r4) default).down)) default).hi) < ac)))) && (([false, true]).getD s false))) hg (I ae)) (gd_of (c := ((!((((((ah != 0) || (ai != 0)) || (decide (ab < ((r0.getD (Int.toNat ((aa.getD (Int.toNat r4) default).up)) default).lo)))) || (decide (((r0.getD (Int.toNat ((aa.getD (Int.toNat r4) default).up)) default).hi) < ab))) || (decide (ac < ((r0.getD (Int.toNat ((aa.getD (Int.toNat r4) default).down)) default).lo)))) || (decide (((r0.getD (Int.toNat ((aa.getD (Int.toNat r4) default).down)) default).hi) < ac)))) && (([false, true]).getD s false))) hg (I az)) rfl)) ?_
  refine d_qg (!((((((ah != 0) || (ai != 0)) || (decide (ab < ((r0.getD (Int.toNat ((aa.getD (Int.toNat r4) default).up)) default).lo)))) || (decide (((r0.getD (Int.toNat ((aa.getD (Int.toNat r4) default).up)) default).hi) < ab))) || (decide (ac < ((r0.getD (Int.toNat ((aa.getD (Int.toNat r4) default).down)) default).lo)))) || (decide (((r0.getD (Int.toNat ((aa.getD (Int.toNat r4) default).down)) default).hi) < ac)))) rfl (gy_f rfl) (fun hg => (fun w' H => x_pand (b := ([false, true]).getD s false) (r := ae != az) (gd_of (c := !((((((ah != 0) || (ai != 0)) || (decide (ab < ((r0.getD (Int.toNat ((aa.getD (Int.toNat r4) default).up)) default).lo)))) || (decide (((r0.getD (Int.toNat ((aa.getD (Int.toNat r4) default).up)) default).hi) < ab))) || (decide (ac < ((r0.getD (Int.toNat ((aa.getD (Int.toNat r4) default).down)) default).lo)))) || (decide (((r0.getD (Int.toNat ((aa.getD (Int.toNat r4) default).down)) default).hi) < ac)))) hg (B (([false, true]).getD s false))) (fun hb => gd_of (c := ((!((((((ah != 0) || (ai != 0)) || (decide (ab < ((r0.getD (Int.toNat ((aa.getD (Int.toNat r4) default).up)) default).lo)))) || (decide (((r0.getD (Int.toNat ((aa.getD (Int.toNat r4) default).up)) default).hi) < ab))) || (decide (ac < ((r0.getD (Int.toNat ((aa.getD (Int.toNat r4) default).down)) default).lo)))) || (decide (((r0.getD (Int.toNat ((aa.getD (Int.toNat r4) default).down)) default).hi) < ac)))) && (([false, true]).getD s false))) (by first | exact hb | (rw [hb]; rfl) | simp_all) (B (ae != az))) rfl)) ?_
  refine d_q rfl (fun w' H => x_por (b := ((((((ah != 0) || (ai != 0)) || (decide (ab < ((r0.getD (Int.toNat ((aa.getD (Int.toNat r4) default).up)) default).lo)))) || (decide (((r0.getD (Int.toNat ((aa.getD (Int.toNat r4) default).up)) default).hi) < ab))) || (decide (ac < ((r0.getD (Int.toNat ((aa.getD (Int.toNat r4) default).down)) default).lo)))) || (decide (((r0.getD (Int.toNat ((aa.getD (Int.toNat r4) default).down)) default).hi) < ac)))) (r := ((([false, true]).getD s false) && (ae != az))) rfl rfl (fun hb => gd_of (c := !((((((ah != 0) || (ai != 0)) || (decide (ab < ((r0.getD (Int.toNat ((aa.getD (Int.toNat r4) default).up)) default).lo)))) || (decide (((r0.getD (Int.toNat ((aa.getD (Int.toNat r4) default).up)) default).hi) < ab))) || (decide (ac < ((r0.getD (Int.toNat ((aa.getD (Int.toNat r4) default).down)) default).lo)))) || (decide (((r0.getD (Int.toNat ((aa.getD (Int.toNat r4) default).down)) default).hi) < ac)))) (by first | exact hb | (rw [hb]; rfl) | simp_all) (B ((([false, true]).getD s false) && (ae != az))))) ?_
  refine d_q rfl (fun w' H => x_mv (v := B (((((((ah != 0) || (ai != 0)) || (decide (ab < ((r0.getD (Int.toNat ((aa.getD (Int.toNat r4) default).up)) default).lo)))) || (decide (((r0.getD (Int.toNat ((aa.getD (Int.toNat r4) default).up)) default).hi) < ab))) || (decide (ac < ((r0.getD (Int.toNat ((aa.getD (Int.toNat r4) default).down)) default).lo)))) || (decide (((r0.getD (Int.toNat ((aa.getD (Int.toNat r4) default).down)) default).hi) < ac))) || ((([false, true]).getD s false) && (ae != az)))) rfl) ?_
  refine d_qg (!(((((((ah != 0) || (ai != 0)) || (decide (ab < ((r0.getD (Int.toNat ((aa.getD (Int.toNat r4) default).up)) default).lo)))) || (decide (((r0.getD (Int.toNat ((aa.getD (Int.toNat r4) default).up)) default).hi) < ab))) || (decide (ac < ((r0.getD (Int.toNat ((aa.getD (Int.toNat r4) default).down)) default).lo)))) || (decide (((r0.getD (Int.toNat ((aa.getD (Int.toNat r4) default).down)) default).hi) < ac))) || ((([false, true]).getD s false) && (ae != az)))) rfl (gy_f rfl) (fun hg => (fun w' H => x_mv (v := B (([false, true]).getD s false)) rfl)) ?_
  refine d_qg (!(((((((ah != 0) || (ai != 0)) || (decide (ab < ((r0.getD (Int.toNat ((aa.getD (Int.toNat r4) default).up)) default).lo)))) || (decide (((r0.getD (Int.toNat ((aa.getD (Int.toNat r4) default).up)) default).hi) < ab))) || (decide (ac < ((r0.getD (Int.toNat ((aa.getD (Int.toNat r4) default).down)) default).lo)))) || (decide (((r0.getD (Int.toNat ((aa.getD (Int.toNat r4) default).down)) default).hi) < ac))) || ((([false, true]).getD s false) && (ae != az)))) rfl (gy_f rfl) (fun hg => (fun w' H => x_not (b := ([false, true]).getD s false) (gd_of (c := !(((((((ah != 0) || (ai != 0)) || (decide (ab < ((r0.getD (Int.toNat ((aa.getD (Int.toNat r4) default).up)) default).lo)))) || (decide (((r0.getD (Int.toNat ((aa.getD (Int.toNat r4) default).up)) default).hi) < ab))) || (decide (ac < ((r0.getD (Int.toNat ((aa.getD (Int.toNat r4) default).down)) default).lo)))) || (decide (((r0.getD (Int.toNat ((aa.getD (Int.toNat r4) default).down)) default).hi) < ac))) || ((([false, true]).getD s false) && (ae != az)))) hg (B (([false, true]).getD s false))))) ?_
  refine d_qg (!(((((((ah != 0) || (ai != 0)) || (decide (ab < ((r0.getD (Int.toNat ((aa.getD (Int.toNat r4) default).up)) default).lo)))) || (decide (((r0.getD (Int.toNat ((aa.getD (Int.toNat r4) default).up)) default).hi) < ab))) || (decide (ac < ((r0.getD (Int.toNat ((aa.getD (Int.toNat r4) default).down)) default).lo)))) || (decide (((r0.getD (Int.toNat ((aa.getD (Int.toNat r4) default).down)) default).hi) < ac))) || ((([false, true]).getD s false) && (ae != az)))) rfl (gy_f rfl) (fun hg => (fun w' H => x_mv (v := B (!(([false, true]).getD s false))) (gd_of (c := !(((((((ah != 0) || (ai != 0)) || (decide (ab < ((r0.getD (Int.toNat ((aa.getD (Int.toNat r4) default).up)) default).lo)))) || (decide (((r0.getD (Int.toNat ((aa.getD (Int.toNat r4) default).up)) default).hi) < ab))) || (decide (ac < ((r0.getD (Int.toNat ((aa.getD (Int.toNat r4) default).down)) default).lo)))) || (decide (((r0.getD (Int.toNat ((aa.getD (Int.toNat r4) default).down)) default).hi) < ac))) || ((([false, true]).getD s false) && (ae != az)))) hg (B (!(([false, true]).getD s false)))))) ?_
  refine d_qg ((!(((((((ah != 0) || (ai != 0)) || (decide (ab < ((r0.getD (Int.toNat ((aa.getD (Int.toNat r4) default).up)) default).lo)))) || (decide (((r0.getD (Int.toNat ((aa.getD (Int.toNat r4) default).up)) default).hi) < ab))) || (decide (ac < ((r0.getD (Int.toNat ((aa.getD (Int.toNat r4) default).down)) default).lo)))) || (decide (((r0.getD (Int.toNat ((aa.getD (Int.toNat r4) default).down)) default).hi) < ac))) || ((([false, true]).getD s false) && (ae != az)))) && (!(([false, true]).getD s false))) rfl (gy_gt rfl rfl) (fun hg => (fun w' H => x_mv (v := I ae) rfl)) ?_
  refine d_qg ((!(((((((ah != 0) || (ai != 0)) || (decide (ab < ((r0.getD (Int.toNat ((aa.getD (Int.toNat r4) default).up)) default).lo)))) || (decide (((r0.getD (Int.toNat ((aa.getD (Int.toNat r4) default).up)) default).hi) < ab))) || (decide (ac < ((r0.getD (Int.toNat ((aa.getD (Int.toNat r4) default).down)) default).lo)))) || (decide (((r0.getD (Int.toNat ((aa.getD (Int.toNat r4) default).down)) default).hi) < ac))) || ((([false, true]).getD s false) && (ae != az)))) && (!(([false, true]).getD s false))) rfl (gy_gt rfl rfl) (fun hg => (fun w' H => x_fa (a := Pq aN) (v := Pq aN) rfl (fa_blk (o := 0) Fd54_0 Sz3))) ?_
  refine d_qg ((!(((((((ah != 0) || (ai != 0)) || (decide (ab < ((r0.getD (Int.toNat ((aa.getD (Int.toNat r4) default).up)) default).lo)))) || (decide (((r0.getD (Int.toNat ((aa.getD (Int.toNat r4) default).up)) default).hi) < ab))) || (decide (ac < ((r0.getD (Int.toNat ((aa.getD (Int.toNat r4) default).down)) default).lo)))) || (decide (((r0.getD (Int.toNat ((aa.getD (Int.toNat r4) default).down)) default).hi) < ac))) || ((([false, true]).getD s false) && (ae != az)))) && (!(([false, true]).getD s false))) rfl (gy_gt rfl rfl) (fun hg => (fun w' H => x_ld (p := Pq aN) (v := I aI) (gd_of (c := ((!(((((((ah != 0) || (ai != 0)) || (decide (ab < ((r0.getD (Int.toNat ((aa.getD (Int.toNat r4) default).up)) default).lo)))) || (decide (((r0.getD (Int.toNat ((aa.getD (Int.toNat r4) default).up)) default).hi) < ab))) || (decide (ac < ((r0.getD (Int.toNat ((aa.getD (Int.toNat r4) default).down)) default).lo)))) || (decide (((r0.getD (Int.toNat ((aa.getD (Int.toNat r4) default).down)) default).hi) < ac))) || ((([false, true]).getD s false) && (ae != az)))) && (!(([false, true]).getD s false)))) hg (Pq aN)) (ldb_sc Sc3 (H.bl 4) rfl))) ?_
  refine d_qg ((!(((((((ah != 0) || (ai != 0)) || (decide (ab < ((r0.getD (Int.toNat ((aa.getD (Int.toNat r4) default).up)) default).lo)))) || (decide (((r0.getD (Int.toNat ((aa.getD (Int.toNat r4) default).up)) default).hi) < ab))) || (decide (ac < ((r0.getD (Int.toNat ((aa.getD (Int.toNat r4) default).down)) default).lo)))) || (decide (((r0.getD (Int.toNat ((aa.getD (Int.toNat r4) default).down)) default).hi) < ac))) || ((([false, true]).getD s false) && (ae != az)))) && (!(([false, true]).getD s false))) rfl (gy_gt rfl rfl) (fun hg => (fun w' H => x_cmp (kd := .i64) (a := ae) (b := aI) (r := ae != aI) (gd_of (c := ((!(((((((ah != 0) || (ai != 0)) || (decide (ab < ((r0.getD (Int.toNat ((aa.getD (Int.toNat r4) default).up)) default).lo)))) || (decide (((r0.getD (Int.toNat ((aa.getD (Int.toNat r4) default).up)) default).hi) < ab))) || (decide (ac < ((r0.getD (Int.toNat ((aa.getD (Int.toNat r4) default).down)) default).lo)))) || (decide (((r0.getD (Int.toNat ((aa.getD (Int.toNat r4) default).down)) default).hi) < ac))) || ((([false, true]).getD s false) && (ae != az)))) && (!(([false, true]).getD s false)))) hg (I ae)) (gd_of (c := ((!(((((((ah != 0) || (ai != 0)) || (decide (ab < ((r0.getD (Int.toNat ((aa.getD (Int.toNat r4) default).up)) default).lo)))) || (decide (((r0.getD (Int.toNat ((aa.getD (Int.toNat r4) default).up)) default).hi) < ab))) || (decide (ac < ((r0.getD (Int.toNat ((aa.getD (Int.toNat r4) default).down)) default).lo)))) || (decide (((r0.getD (Int.toNat ((aa.getD (Int.toNat r4) default).down)) default).hi) < ac))) || ((([false, true]).getD s false) && (ae != az)))) && (!(([false, true]).getD s false)))) hg (I aI)) rfl)) ?_
  refine d_qg (!(((((((ah != 0) || (ai != 0)) || (decide (ab < ((r0.getD (Int.toNat ((aa.getD (Int.toNat r4) default).up)) default).lo)))) || (decide (((r0.getD (Int.toNat ((aa.getD (Int.toNat r4) default).up)) default).hi) < ab))) || (decide (ac < ((r0.getD (Int.toNat ((aa.getD (Int.toNat r4) default).down)) default).lo)))) || (decide (((r0.getD (Int.toNat ((aa.getD (Int.toNat r4) default).down)) default).hi) < ac))) || ((([false, true]).getD s false) && (ae != az)))) rfl (gy_f rfl) (fun hg => (fun w' H => x_pand (b := !(([false, true]).getD s false)) (r := ae != aI) (gd_of (c := !(((((((ah != 0) || (ai != 0)) || (decide (ab < ((r0.getD (Int.toNat ((aa.getD (Int.toNat r4) default).up)) default).lo)))) || (decide (((r0.getD (Int.toNat ((aa.getD (Int.toNat r4) default).up)) default).hi) < ab))) || (decide (ac < ((r0.getD (Int.toNat ((aa.getD (Int.toNat r4) default).down)) default).lo)))) || (decide (((r0.getD (Int.toNat ((aa.getD (Int.toNat r4) default).down)) default).hi) < ac))) || ((([false, true]).getD s false) && (ae != az)))) hg (B (!(([false, true]).getD s false)))) (fun hb => gd_of (c := ((!(((((((ah != 0) || (ai != 0)) || (decide (ab < ((r0.getD (Int.toNat ((aa.getD (Int.toNat r4) default).up)) default).lo)))) || (decide (((r0.getD (Int.toNat ((aa.getD (Int.toNat r4) default).up)) default).hi) < ab))) || (decide (ac < ((r0.getD (Int.toNat ((aa.getD (Int.toNat r4) default).down)) default).lo)))) || (decide (((r0.getD (Int.toNat ((aa.getD (Int.toNat r4) default).down)) default).hi) < ac))) || ((([false, true]).getD s false) && (ae != az)))) && (!(([false, true]).getD s false)))) (by first | exact hb | (rw [hb]; rfl) | simp_all) (B (ae != aI))) rfl)) ?_
  refine d_q rfl (fun w' H => x_por (b := (((((((ah != 0) || (ai != 0)) || (decide (ab < ((r0.getD (Int.toNat ((aa.getD (Int.toNat r4) default).up)) default).lo)))) || (decide (((r0.getD (Int.toNat ((aa.getD (Int.toNat r4) default).up)) default).hi) < ab))) || (decide (ac < ((r0.getD (Int.toNat ((aa.getD (Int.toNat r4) default).down)) default).lo)))) || (decide (((r0.getD (Int.toNat ((aa.getD (Int.toNat r4) default).down)) default).hi) < ac))) || ((([false, true]).getD s false) && (ae != az)))) (r := ((!(([false, true]).getD s false)) && (ae != aI))) rfl rfl (fun hb => gd_of (c := !(((((((ah != 0) || (ai != 0)) || (decide (ab < ((r0.getD (Int.toNat ((aa.getD (Int.toNat r4) default).up)) default).lo)))) || (decide (((r0.getD (Int.toNat ((aa.getD (Int.toNat r4) default).up)) default).hi) < ab))) || (decide (ac < ((r0.getD (Int.toNat ((aa.getD (Int.toNat r4) default).down)) default).lo)))) || (decide (((r0.getD (Int.toNat ((aa.getD (Int.toNat r4) default).down)) default).hi) < ac))) || ((([false, true]).getD s false) && (ae != az)))) (by first | exact hb | (rw [hb]; rfl) | simp_all) (B ((!(([false, true]).getD s false)) && (ae != aI))))) ?_
  refine d_nil ?_
  refine W.cond ((((((((ah != 0) || (ai != 0)) || (decide (ab < ((r0.getD (Int.toNat ((aa.getD (Int.toNat r4) default).up)) default).lo)))) || (decide (((r0.getD (Int.toNat ((aa.getD (Int.toNat r4) default).up)) default).hi) < ab))) || (decide (ac < ((r0.getD (Int.toNat ((aa.getD (Int.toNat r4) default).down)) default).lo)))) || (decide (((r0.getD (Int.toNat ((aa.getD (Int.toNat r4) default).down)) default).hi) < ac))) || ((([false, true]).getD s false) && (ae != az))) || ((!(([false, true]).getD s false)) && (ae != aI))) rfl (fun br => ?_) (fun br => ?_)
  ·replace hM := M.e_t hM br
   refine W.seq ?_
   refine W.region rfl ?_
   refine zA (B false) rfl ?_
   refine s_nil ?_
   refine W.ret ?_
   have b4 := M.e_inr hM aP
   subst b4
   replace hM := a8
   try dsimp only at hM
   have aM := M.e_pure hM
   exact ⟨_, resE_tmp rfl, ⟨false, aM, rfl, (H.pk [])⟩⟩
  replace hM := M.e_f hM br
  refine W.skip ?_
  refine W.seq ?_
  refine W.seq ?_
  refine W.region rfl ?_
  refine s_val (x_fa (a := Pq aC) (v := Oq aC 1) rfl (fa_blk (o := 0) Fd27_1 Sz24)) ?_
  refine s_val (x_ld (p := Oq aC 1) (v := aA) rfl (ldb_sc Sc24 (H.bl 6) rfl)) ?_
  have dz := ((H.os 9)).len_le
  refine s_val (x_lenS T24.und rfl (H.os 9)) ?_
  obtain ⟨b5, hM⟩ := M.e_grd hM
  simp only [Bool.and_eq_true, decide_eq_true_eq] at b5
  refine zR (aD.length : Int) 2 ((aD.length : Int) + 2) rfl rfl rfl (by omega) ?_
  refine zC ((aD.length : Int) + 2) 16 (decide (16 < ((aD.length : Int) + 2))) rfl rfl rfl ?_
  refine zM (B (decide (16 < ((aD.length : Int) + 2)))) rfl ?_
  refine g_val (!(decide (16 < ((aD.length : Int) + 2)))) (gy_f rfl) (fun hg => x_fa (a := Pq au) (v := Oq au 2) rfl (fa_blk (o := 0) Fd61_2 Sz3)) ?_
  refine g_val (!(decide (16 < ((aD.length : Int) + 2)))) (gy_f rfl) (fun hg => x_ld (p := Oq au 2) (v := I ak) (gd_of (c := !(decide (16 < ((aD.length : Int) + 2)))) hg (Oq au 2)) (ldb_sc Sc3 (H.bl 0) rfl)) ?_
  refine g_val (!(decide (16 < ((aD.length : Int) + 2)))) (gy_f rfl) (fun hg => x_fa (a := Pq au) (v := Oq au 3) rfl (fa_blk (o := 0) Fd61_3 Sz3)) ?_
  refine g_val (!(decide (16 < ((aD.length : Int) + 2)))) (gy_f rfl) (fun hg => x_ld (p := Oq au 3) (v := I aJ) (gd_of (c := !(decide (16 < ((aD.length : Int) + 2)))) hg (Oq au 3)) (ldb_sc Sc3 (H.bl 0) rfl)) ?_
  refine g_val (!(decide (16 < ((aD.length : Int) + 2)))) (gy_f rfl) (fun hg => x_cmp (kd := .i64) (a := ak) (b := aJ) (r := ak != aJ) (gd_of (c := !(decide (16 < ((aD.length : Int) + 2)))) hg (I ak)) (gd_of (c := !(decide (16 < ((aD.length : Int) + 2)))) hg (I aJ)) rfl) ?_
  refine s_val (x_por (b := decide (16 < ((aD.length : Int) + 2))) (r := ak != aJ) rfl rfl (fun hb => gd_of (c := !(decide (16 < ((aD.length : Int) + 2)))) (by first | exact hb | (rw [hb]; rfl) | simp_all) (B (ak != aJ)))) ?_
  refine s_nil ?_
  refine W.cond ((decide (16 < ((aD.length : Int) + 2))) || (ak != aJ)) rfl (fun bt => ?_) (fun bt => ?_)
  ·replace hM := M.e_t hM bt
   refine W.exit ?_
   refine W.region rfl ?_
   refine zR (s : Int) 1 ((s : Int) + 1) rfl rfl rfl (by omega) ?_
   refine zM (I ((s : Int) + 1)) rfl ?_
   refine s_nil ?_
   exact ⟨bc, bf, s + 1, _, upds_of _ _ ⟨rfl, rfl, rfl, rfl, rfl, rfl, rfl, rfl, rfl, trivial⟩, M.e_inl hM aP, (H.pk [1, 2, 3, 4, 5, 6, 7, 8, 9, 10])⟩
  replace hM := M.e_f hM bt
  refine W.skip ?_
  refine W.seq ?_
  refine W.region rfl ?_
  refine s_val (x_ld (p := Pq aC) (v := .agg #[av, aA, ay]) rfl (ldb_ag (ds := [av, aA, ay]) Ag27 Sz27 (H.bl 6) rfl rfl)) ?_
  obtain ⟨dA, b6, hM⟩ := M.e_bind hM
  refine s_call cf17 [.agg #[av, aA, ay]] rfl (zcQ ao aD aa (Reads.sup (rdo 7) (Reads.of (k := 8) rfl roLe)) (rowSl rfl (H.get (k := 7) rfl) (roLe _ (H.get (k := 8) rfl)) aS) (rdo 9) (H.os 9) (rdo 10) (H.os 10) b6 _ (H.gt 11)) ?_
  rintro vq dB ⟨aW, aL, ax, aG, bj, bm, bo, aB, b7, hvq, ap, aU⟩
  subst b7
  subst vq
  try dsimp only at hM
  replace H := H.bk ap
  clear ap
  refine t_alloc (cs := [.slice none 0 0, .slice none 0 0, .slice none 0 0]) H Al27 rfl ?_
  intro aK dC H
  refine t_sw 0 0 [aG, bo, aB] (.agg #[aG, bo, aB]) H rfl rfl Sz27 rfl rfl rfl (by simp only [List.all_cons, List.all_nil, Bool.true_and, Bool.and_true, Sl.oc (rowSl rfl (H.get (k := 1) rfl) (roLe _ (H.get (k := 2) rfl)) aU), Sl.oc (H.os 3), Sl.oc (H.os 4)]; try rfl) ?_
  intro dD H
  refine s_nil ?_
  refine W.seq ?_
  refine W.drawT (fun W => St w W [cOwn (α := Raw 1) 68 aG bj, cRo bm, cOwn (α := Rch) 58 aB ax, cBlk au [I ab, I ac, I ak, I aJ] 61, cOwn (α := Bool) 4 aT ([false, true]), cBlk aE [I ((aa.getD (Int.toNat r4) default).up), I ((aa.getD (Int.toNat r4) default).down), I ((aa.getD (Int.toNat r4) default).lo), I ((aa.getD (Int.toNat r4) default).hi), B ((aa.getD (Int.toNat r4) default).narrow)] 58, cOwn (α := Span) 54 aw r0, cBlk aN [I aI, I az] 54, cOwn (α := Int) 3 aO r3, cBlk aC [av, aA, ay] 27, cOwn (α := Raw 1) 68 av ba, cRo bb, cOwn (α := Mrk) 70 aA aD, cOwn (α := Rch) 58 ay aa] R) (.q 0 (.q 2 (.q 3 (.q 4 (.q 5 (.q 6 (.q 7 (.q 8 (.q 9 (.q 10 (.q 11 (.q 12 (.q 13 (.q 14 (.q 15 (.q 16 (.q 17 (.q 18 (.q 19 (.q 20 (.q 21 (.q 22 (.q 23 (.q 24 (.q 25 (.q 26 (.q 27 (.l2 1 (.l 28 (.l 29 (.q 30 (.l 31 .nil)))) 28 (.l 1 (.l 29 (.q 30 (.l 31 .nil)))))))))))))))))))))))))))))))) mixed (by decide +kernel) rfl ?_
  intro dE aq
  replace H := H.ext aq
  clear aq
  refine ⟨(H.pk [1, 2, 4, 5, 6, 7, 8, 9, 10, 11, 12, 13, 14, 15]), ?_⟩
  refine t_q rfl (fun w' H => x_fa (a := Pq aK) (v := Oq aK 1) rfl (fa_blk (o := 0) Fd27_1 Sz24)) ?_
  refine t_q rfl (fun w' H => x_fa (a := Pq aC) (v := Pq aC) rfl (fa_blk (o := 0) Fd27_0 Sz23)) ?_
  refine t_q rfl (fun w' H => x_ld (p := Pq aC) (v := av) rfl (ldb_sc Sc23 (H.bl 9) rfl)) ?_
  refine t_q rfl (fun w' H => x_fa (a := Pq aE) (v := Pq aE) rfl (fa_blk (o := 0) Fd58_0 Sz3)) ?_
  refine t_q rfl (fun w' H => x_ld (p := Pq aE) (v := I ((aa.getD (Int.toNat r4) default).up)) rfl (ldb_sc Sc3 (H.bl 5) rfl)) ?_
  obtain ⟨b8, hM⟩ := M.e_grd hM
  simp only [Bool.and_eq_true, decide_eq_true_eq] at b8
  refine t_q rfl (fun w' H => x_ix (a := av) (b := I ((aa.getD (Int.toNat r4) default).up)) (v := vat av 2 (Int.toNat ((aa.getD (Int.toNat r4) default).up))) rfl rfl (Sl.ix (α := Sect) T23.und T23.size (rowSl rfl (H.get (k := 10) rfl) (roLe _ (H.get (k := 11) rfl)) aS) (by omega) (by omega))) ?_
  refine t_q rfl (fun w' H => x_fa (a := vat av 2 (Int.toNat ((aa.getD (Int.toNat r4) default).up))) (v := fat (vat av 2 (Int.toNat ((aa.getD (Int.toNat r4) default).up))) 0) rfl (fa_pl Fd68_0 Sz3 (Sl.pl (i := (aa.getD (Int.toNat r4) default).up) (rowSl rfl (H.get (k := 10) rfl) (roLe _ (H.get (k := 11) rfl)) aS) (by omega) (by omega)))) ?_
  refine t_q rfl (fun w' H => x_ld (p := fat (vat av 2 (Int.toNat ((aa.getD (Int.toNat r4) default).up))) 0) (v := I ((ao.getD (Int.toNat ((aa.getD (Int.toNat r4) default).up)) default).place)) rfl (ld_sc Sc3 (At.mono (Sect_at0 (rowSl rfl (H.get (k := 10) rfl) (roLe _ (H.get (k := 11) rfl)) aS) (i := (aa.getD (Int.toNat r4) default).up) (by omega) (by omega)) (Cells.sup_le (H.ol 10) (roLe _ (H.get (k := 11) rfl)))))) ?_
  refine t_q rfl (fun w' H => x_fa (a := Pq au) (v := Pq au) rfl (fa_blk (o := 0) Fd61_0 Sz3)) ?_
  refine t_q rfl (fun w' H => x_ld (p := Pq au) (v := I ab) rfl (ldb_sc Sc3 (H.bl 3) rfl)) ?_
  refine t_q rfl (fun w' H => x_fa (a := Pq au) (v := Pq au) rfl (fa_blk (o := 0) Fd61_0 Sz3)) ?_
  refine t_q rfl (fun w' H => x_ld (p := Pq au) (v := I ab) rfl (ldb_sc Sc3 (H.bl 3) rfl)) ?_
  refine t_q rfl (fun w' H => x_bld (ps := [(0, I ab), (1, I ab)]) (zs := [I 0, I 0]) (L' := [I ab, I ab]) rfl Tryz.underlying54 Al54 rfl (Bd54 Tryz.underlying54) (.cons (cs := [I ab]) rfl rfl rfl rfl rfl <| .cons (cs := [I ab]) rfl rfl rfl rfl rfl <| .nil)) ?_
  refine t_q rfl (fun w' H => x_bld (ps := [(0, I ((ao.getD (Int.toNat ((aa.getD (Int.toNat r4) default).up)) default).place)), (1, .agg #[I ab, I ab])]) (zs := [I 0, I 0, I 0]) (L' := [I ((ao.getD (Int.toNat ((aa.getD (Int.toNat r4) default).up)) default).place), I ab, I ab]) rfl Tryz.underlying70 Al70 rfl (Bd70 Tryz.underlying70) (.cons (cs := [I ((ao.getD (Int.toNat ((aa.getD (Int.toNat r4) default).up)) default).place)]) rfl rfl rfl rfl rfl <| .cons (cs := [I ab, I ab]) rfl rfl rfl rfl rfl <| .nil)) ?_
  refine t_q rfl (fun w' H => x_fa (a := Pq aC) (v := Pq aC) rfl (fa_blk (o := 0) Fd27_0 Sz23)) ?_
  refine t_q rfl (fun w' H => x_ld (p := Pq aC) (v := av) rfl (ldb_sc Sc23 (H.bl 9) rfl)) ?_
  refine t_q rfl (fun w' H => x_fa (a := Pq aE) (v := Oq aE 1) rfl (fa_blk (o := 0) Fd58_1 Sz3)) ?_
  refine t_q rfl (fun w' H => x_ld (p := Oq aE 1) (v := I ((aa.getD (Int.toNat r4) default).down)) rfl (ldb_sc Sc3 (H.bl 5) rfl)) ?_
  obtain ⟨b9, hM⟩ := M.e_grd hM
  simp only [Bool.and_eq_true, decide_eq_true_eq] at b9
  refine t_q rfl (fun w' H => x_ix (a := av) (b := I ((aa.getD (Int.toNat r4) default).down)) (v := vat av 2 (Int.toNat ((aa.getD (Int.toNat r4) default).down))) rfl rfl (Sl.ix (α := Sect) T23.und T23.size (rowSl rfl (H.get (k := 10) rfl) (roLe _ (H.get (k := 11) rfl)) aS) (by omega) (by omega))) ?_
  refine t_q rfl (fun w' H => x_fa (a := vat av 2 (Int.toNat ((aa.getD (Int.toNat r4) default).down))) (v := fat (vat av 2 (Int.toNat ((aa.getD (Int.toNat r4) default).down))) 0) rfl (fa_pl Fd68_0 Sz3 (Sl.pl (i := (aa.getD (Int.toNat r4) default).down) (rowSl rfl (H.get (k := 10) rfl) (roLe _ (H.get (k := 11) rfl)) aS) (by omega) (by omega)))) ?_
  refine t_q rfl (fun w' H => x_ld (p := fat (vat av 2 (Int.toNat ((aa.getD (Int.toNat r4) default).down))) 0) (v := I ((ao.getD (Int.toNat ((aa.getD (Int.toNat r4) default).down)) default).place)) rfl (ld_sc Sc3 (At.mono (Sect_at0 (rowSl rfl (H.get (k := 10) rfl) (roLe _ (H.get (k := 11) rfl)) aS) (i := (aa.getD (Int.toNat r4) default).down) (by omega) (by omega)) (Cells.sup_le (H.ol 10) (roLe _ (H.get (k := 11) rfl)))))) ?_
  refine t_q rfl (fun w' H => x_fa (a := Pq au) (v := Oq au 1) rfl (fa_blk (o := 0) Fd61_1 Sz3)) ?_
  refine t_q rfl (fun w' H => x_ld (p := Oq au 1) (v := I ac) rfl (ldb_sc Sc3 (H.bl 3) rfl)) ?_
  refine t_q rfl (fun w' H => x_fa (a := Pq au) (v := Oq au 1) rfl (fa_blk (o := 0) Fd61_1 Sz3)) ?_
  refine t_q rfl (fun w' H => x_ld (p := Oq au 1) (v := I ac) rfl (ldb_sc Sc3 (H.bl 3) rfl)) ?_
  refine t_q rfl (fun w' H => x_bld (ps := [(0, I ac), (1, I ac)]) (zs := [I 0, I 0]) (L' := [I ac, I ac]) rfl Tryz.underlying54 Al54 rfl (Bd54 Tryz.underlying54) (.cons (cs := [I ac]) rfl rfl rfl rfl rfl <| .cons (cs := [I ac]) rfl rfl rfl rfl rfl <| .nil)) ?_
  refine t_q rfl (fun w' H => x_bld (ps := [(0, I ((ao.getD (Int.toNat ((aa.getD (Int.toNat r4) default).down)) default).place)), (1, .agg #[I ac, I ac])]) (zs := [I 0, I 0, I 0]) (L' := [I ((ao.getD (Int.toNat ((aa.getD (Int.toNat r4) default).down)) default).place), I ac, I ac]) rfl Tryz.underlying70 Al70 rfl (Bd70 Tryz.underlying70) (.cons (cs := [I ((ao.getD (Int.toNat ((aa.getD (Int.toNat r4) default).down)) default).place)]) rfl rfl rfl rfl rfl <| .cons (cs := [I ac, I ac]) rfl rfl rfl rfl rfl <| .nil)) ?_
  obtain ⟨cb, hM⟩ := M.e_grd hM
  simp only [Bool.and_eq_true, decide_eq_true_eq] at cb
  refine t_l2 rfl rfl ?_ ?_
  ·skip
   refine s_val (x_ld (p := Oq aK 1) (v := bo) rfl (ldb_sc Sc24 (H.bl 0) rfl)) ?_
   have dF := Sl.cells (H.os 3)
   have dG := Sl.oc (H.os 3)
   refine s_nil ⟨(H.pk [1, 2, 4, 5, 6, 7, 8, 9, 10, 11, 12, 13, 14, 15]), ?_⟩
   refine t_l rfl ?_
   refine t_bs (α := Mrk) T24 [.agg #[I ((ao.getD (Int.toNat ((aa.getD (Int.toNat r4) default).up)) default).place), I ab, I ab], .agg #[I ((ao.getD (Int.toNat ((aa.getD (Int.toNat r4) default).down)) default).place), I ac, I ac]] [(⟨((ao.getD (Int.toNat ((aa.getD (Int.toNat r4) default).up)) default).place : Int), (ab : Int), (ab : Int)⟩ : Mrk), (⟨((ao.getD (Int.toNat ((aa.getD (Int.toNat r4) default).down)) default).place : Int), (ac : Int), (ac : Int)⟩ : Mrk)] H rfl (.cons rfl (Flat.rep_enc _ (⟨((ao.getD (Int.toNat ((aa.getD (Int.toNat r4) default).up)) default).place : Int), (ab : Int), (ab : Int)⟩ : Mrk)) <| .cons rfl (Flat.rep_enc _ (⟨((ao.getD (Int.toNat ((aa.getD (Int.toNat r4) default).down)) default).place : Int), (ac : Int), (ac : Int)⟩ : Mrk)) <| .nil) rfl rfl rfl ?_
   intro bu dH H
   have dI := Sl.cells (H.os 0)
   have dJ := Sl.oc (H.os 0)
   refine s_nil ⟨(H.pk [2, 3, 5, 6, 7, 8, 9, 10, 11, 12, 13, 14, 15, 16]), ?_⟩
   refine t_l rfl ?_
   refine t_app (α := Mrk) (k := 4) (l := aL) (l2 := [(⟨((ao.getD (Int.toNat ((aa.getD (Int.toNat r4) default).up)) default).place : Int), (ab : Int), (ab : Int)⟩ : Mrk), (⟨((ao.getD (Int.toNat ((aa.getD (Int.toNat r4) default).down)) default).place : Int), (ac : Int), (ac : Int)⟩ : Mrk)]) (l' := aL ++ ([(⟨((ao.getD (Int.toNat ((aa.getD (Int.toNat r4) default).up)) default).place : Int), (ab : Int), (ab : Int)⟩ : Mrk), (⟨((ao.getD (Int.toNat ((aa.getD (Int.toNat r4) default).down)) default).place : Int), (ac : Int), (ac : Int)⟩ : Mrk)])) (vy := bu) T24 rfl H rfl rfl rfl (H.os 0) (H.ol 0) (rfl) (by first | omega | (simp only [List.length_nil] at *; omega)) ?_
   intro aQ dK H
   replace H := H.nf
   have dL := Sl.cells (H.os 4)
   have dM := Sl.oc (H.os 4)
   refine s_nil ⟨(H.pk [2, 3, 5, 6, 7, 8, 9, 10, 11, 12, 13, 14, 15, 16]), ?_⟩
   refine t_q rfl (fun w' H => x_fa (a := Pq aK) (v := Oq aK 1) rfl (fa_blk (o := 0) Fd27_1 Sz24)) ?_
   refine t_l rfl ?_
   refine t_sw 1 1 [aQ] aQ H rfl rfl Sz24 (Sl.cells (H.os 4)) rfl rfl (by simp only [List.all_cons, List.all_nil, Bool.true_and, Bool.and_true, Sl.oc (H.os 4)]; try rfl) ?_
   intro dN H
   refine s_nil ⟨(H.pk [2, 3, 5, 6, 7, 8, 9, 10, 11, 12, 13, 14, 15, 16]), ?_⟩
   refine t_nil ?_
   refine W.seq ?_
   refine W.region rfl ?_
   refine s_val (x_fa (a := Pq aK) (v := Oq aK 2) rfl (fa_blk (o := 0) Fd27_2 Sz25)) ?_
   refine s_val (x_ld (p := Oq aK 2) (v := aB) rfl (ldb_sc Sc25 (H.bl 1) rfl)) ?_
   refine zM (I r4) rfl ?_
   refine s_val (x_fa (a := Pq au) (v := Oq au 2) rfl (fa_blk (o := 0) Fd61_2 Sz3)) ?_
   refine s_val (x_ld (p := Oq au 2) (v := I ak) rfl (ldb_sc Sc3 (H.bl 6) rfl)) ?_
   refine s_val (x_fa (a := Pq au) (v := Oq au 2) rfl (fa_blk (o := 0) Fd61_2 Sz3)) ?_
   refine s_val (x_ld (p := Oq au 2) (v := I ak) rfl (ldb_sc Sc3 (H.bl 6) rfl)) ?_
   refine s_val (x_bld (ps := [(0, I ak), (1, I ak)]) (zs := [I 0, I 0]) (L' := [I ak, I ak]) rfl Tryz.underlying54 Al54 rfl (Bd54 Tryz.underlying54) (.cons (cs := [I ak]) rfl rfl rfl rfl rfl <| .cons (cs := [I ak]) rfl rfl rfl rfl rfl <| .nil)) ?_
   obtain ⟨cc, hM⟩ := M.e_grd hM
   simp only [Bool.and_eq_true, decide_eq_true_eq] at cc
   refine s_val (x_ix (a := aB) (b := I r4) (v := vat aB 5 (Int.toNat r4)) rfl rfl (Sl.ix (α := Rch) T25.und T25.size (H.os 5) (by omega) (by omega))) ?_
   refine s_val (x_fa (a := vat aB 5 (Int.toNat r4)) (v := fat (vat aB 5 (Int.toNat r4)) 2) rfl (fa_pl Fd58_2 Sz54 (Sl.pl (i := r4) (H.os 5) (by omega) (by omega)))) ?_
   refine t_fst (α := Rch) (k := 5) (i := r4) (off := 2) (l := ax) (l' := ax.set (Int.toNat r4) ({ (ax.getD (Int.toNat r4) default) with lo := ak, hi := ak })) (val := .agg #[I ak, I ak]) (L' := [cOwn (α := Mrk) 70 bu ([(⟨((ao.getD (Int.toNat ((aa.getD (Int.toNat r4) default).up)) default).place : Int), (ab : Int), (ab : Int)⟩ : Mrk), (⟨((ao.getD (Int.toNat ((aa.getD (Int.toNat r4) default).down)) default).place : Int), (ac : Int), (ac : Int)⟩ : Mrk)]), cBlk aK [aG, aQ, aB] 27, cOwn (α := Raw 1) 68 aG bj, cRo bm, cOwn (α := Mrk) 70 aQ (aL ++ ([(⟨((ao.getD (Int.toNat ((aa.getD (Int.toNat r4) default).up)) default).place : Int), (ab : Int), (ab : Int)⟩ : Mrk), (⟨((ao.getD (Int.toNat ((aa.getD (Int.toNat r4) default).down)) default).place : Int), (ac : Int), (ac : Int)⟩ : Mrk)])), cOwn (α := Rch) 58 aB (ax.set (Int.toNat r4) ({ (ax.getD (Int.toNat r4) default) with lo := ak, hi := ak })), cBlk au [I ab, I ac, I ak, I aJ] 61, cOwn (α := Bool) 4 aT ([false, true]), cBlk aE [I ((aa.getD (Int.toNat r4) default).up), I ((aa.getD (Int.toNat r4) default).down), I ((aa.getD (Int.toNat r4) default).lo), I ((aa.getD (Int.toNat r4) default).hi), B ((aa.getD (Int.toNat r4) default).narrow)] 58, cOwn (α := Span) 54 aw r0, cBlk aN [I aI, I az] 54, cOwn (α := Int) 3 aO r3, cBlk aC [av, aA, ay] 27, cOwn (α := Raw 1) 68 av ba, cRo bb, cOwn (α := Mrk) 70 aA aD, cOwn (α := Rch) 58 ay aa]) H rfl Sz54 (by omega) (by omega) (ax.getD (Int.toNat r4) default) ({ (ax.getD (Int.toNat r4) default) with lo := ak, hi := ak }) (getD_some _ (by omega) _) rfl rfl [I ak, I ak] rfl rfl rfl rfl rfl rfl rfl ?_
   intro dO H
   have dP : (ax.set (Int.toNat r4) ({ (ax.getD (Int.toNat r4) default) with lo := ak, hi := ak })).length = (ax).length := List.length_set
   refine s_nil ?_
   refine W.seq ?_
   refine W.drawT (fun W => St w W [cOwn (α := Mrk) 70 bu ([(⟨((ao.getD (Int.toNat ((aa.getD (Int.toNat r4) default).up)) default).place : Int), (ab : Int), (ab : Int)⟩ : Mrk), (⟨((ao.getD (Int.toNat ((aa.getD (Int.toNat r4) default).down)) default).place : Int), (ac : Int), (ac : Int)⟩ : Mrk)]), cBlk aK [aG, aQ, aB] 27, cOwn (α := Raw 1) 68 aG bj, cRo bm, cOwn (α := Mrk) 70 aQ (aL ++ ([(⟨((ao.getD (Int.toNat ((aa.getD (Int.toNat r4) default).up)) default).place : Int), (ab : Int), (ab : Int)⟩ : Mrk), (⟨((ao.getD (Int.toNat ((aa.getD (Int.toNat r4) default).down)) default).place : Int), (ac : Int), (ac : Int)⟩ : Mrk)])), cOwn (α := Rch) 58 aB (ax.set (Int.toNat r4) ({ (ax.getD (Int.toNat r4) default) with lo := ak, hi := ak })), cBlk au [I ab, I ac, I ak, I aJ] 61, cOwn (α := Bool) 4 aT ([false, true]), cBlk aE [I ((aa.getD (Int.toNat r4) default).up), I ((aa.getD (Int.toNat r4) default).down), I ((aa.getD (Int.toNat r4) default).lo), I ((aa.getD (Int.toNat r4) default).hi), B ((aa.getD (Int.toNat r4) default).narrow)] 58, cOwn (α := Span) 54 aw r0, cBlk aN [I aI, I az] 54, cOwn (α := Int) 3 aO r3, cBlk aC [av, aA, ay] 27, cOwn (α := Raw 1) 68 av ba, cRo bb, cOwn (α := Mrk) 70 aA aD, cOwn (α := Rch) 58 ay aa] R) (.q 0 (.q 1 (.q 3 (.l2 2 (.l2 4 (.q 5 (.q 6 (.q 7 (.l 8 (.l 9 (.q 10 .nil)))))) 8 (.l 4 (.q 5 (.q 6 (.q 7 (.l 9 (.q 10 .nil))))))) 8 (.l 2 (.l 4 (.q 5 (.q 6 (.q 7 (.l 9 (.q 10 .nil))))))))))) mixed (by decide +kernel) rfl ?_
   intro dQ aq
   replace H := H.ext aq
   clear aq
   refine ⟨(H.pk [0, 1, 2, 3, 4, 5, 6, 7, 8, 9, 10, 11, 12, 13, 14, 15, 16]), ?_⟩
   refine t_q rfl (fun w' H => x_ld (p := Pq aK) (v := .agg #[aG, aQ, aB]) rfl (ldb_ag (ds := [aG, aQ, aB]) Ag27 Sz27 (H.bl 1) rfl rfl)) ?_
   refine t_q rfl (fun w' H => x_ld (p := Pq aK) (v := .agg #[aG, aQ, aB]) rfl (ldb_ag (ds := [aG, aQ, aB]) Ag27 Sz27 (H.bl 1) rfl rfl)) ?_
   refine t_q rfl (fun w' H => x_mv (v := I r4) rfl) ?_
   refine t_l2 rfl rfl ?_ ?_
   ·skip
    obtain ⟨dR, cd, hM⟩ := M.e_bind hM
    refine s_call cf18 [.agg #[aG, aQ, aB]] rfl (zaR aW (aL ++ ([(⟨((ao.getD (Int.toNat ((aa.getD (Int.toNat r4) default).up)) default).place : Int), (ab : Int), (ab : Int)⟩ : Mrk), (⟨((ao.getD (Int.toNat ((aa.getD (Int.toNat r4) default).down)) default).place : Int), (ac : Int), (ac : Int)⟩ : Mrk)])) (ax.set (Int.toNat r4) ({ (ax.getD (Int.toNat r4) default) with lo := ak, hi := ak })) (Reads.sup (rdo 2) (Reads.of (k := 3) rfl roLe)) (rowSl rfl (H.get (k := 2) rfl) (roLe _ (H.get (k := 3) rfl)) aU) (rdo 4) (H.os 4) (rdo 5) (H.os 5) cd _ (H.gt 17)) ?_
    rintro vq dS ⟨r5, a7, ce, hvq, ap⟩
    subst ce
    subst vq
    try dsimp only at hM
    replace H := H.bk ap
    clear ap
    have dT := Sl.cells (H.os 0)
    have dU := Sl.oc (H.os 0)
    refine s_nil ⟨(H.pk [1, 2, 3, 4, 5, 6, 7, 8, 9, 10, 11, 12, 13, 14, 15, 16, 17]), ?_⟩
    refine t_l2 rfl rfl ?_ ?_
    ·skip
     obtain ⟨dV, cf, hM⟩ := M.e_bind hM
     refine s_call cf20 [.agg #[aG, aQ, aB], a7, I r4] rfl (zaj aW (aL ++ ([(⟨((ao.getD (Int.toNat ((aa.getD (Int.toNat r4) default).up)) default).place : Int), (ab : Int), (ab : Int)⟩ : Mrk), (⟨((ao.getD (Int.toNat ((aa.getD (Int.toNat r4) default).down)) default).place : Int), (ac : Int), (ac : Int)⟩ : Mrk)])) (ax.set (Int.toNat r4) ({ (ax.getD (Int.toNat r4) default) with lo := ak, hi := ak })) r5 r4 (Reads.sup (rdo 3) (Reads.of (k := 4) rfl roLe)) (rowSl rfl (H.get (k := 3) rfl) (roLe _ (H.get (k := 4) rfl)) aU) (rdo 5) (H.os 5) (rdo 6) (H.os 6) (rdo 0) (H.os 0) cf _ (H.gt 18)) ?_
     rintro vq dW ⟨al, am, ag, cg, hvq, ap⟩
     subst cg
     subst vq
     try dsimp only at hM
     replace H := H.bk ap
     clear ap
     refine s_nil ⟨(H.pk [1, 2, 3, 4, 5, 6, 7, 8, 9, 10, 11, 12, 13, 14, 15, 16, 17]), ?_⟩
     refine t_q rfl (fun w' H => x_mv (v := .tuple #[.agg #[I al, I am], I ag]) rfl) ?_
     refine t_q rfl (fun w' H => x_ext (vs := [.agg #[I al, I am], I ag]) (v := .agg #[I al, I am]) rfl rfl) ?_
     refine t_q rfl (fun w' H => x_ext (vs := [.agg #[I al, I am], I ag]) (v := I ag) rfl rfl) ?_
     refine t_l rfl ?_
     refine t_alloc (cs := [I 0, I 0]) H Al54 rfl ?_
     intro aV dX H
     refine s_nil ⟨(H.pk [2, 3, 4, 5, 6, 7, 8, 9, 10, 11, 12, 13, 14, 15, 16, 17, 18]), ?_⟩
     refine t_l rfl ?_
     refine t_sw 0 0 [I al, I am] (.agg #[I al, I am]) H rfl rfl Sz54 rfl rfl rfl rfl ?_
     intro dY H
     refine s_nil ⟨(H.pk [2, 3, 4, 5, 6, 7, 8, 9, 10, 11, 12, 13, 14, 15, 16, 17, 18]), ?_⟩
     refine t_q rfl (fun w' H => x_as (v := I ag) rfl) ?_
     refine t_nil ?_
     replace H := H.pk [0, 8, 9, 10, 11, 12, 13, 14, 15, 16, 17, 18]
     refine W.seq ?_
     refine W.region rfl ?_
     refine zM (I ag) rfl ?_
     refine zC ag 0 (ag != 0) rfl rfl rfl ?_
     refine zM (B (ag != 0)) rfl ?_
     refine g_val (!(ag != 0)) (gy_f rfl) (fun hg => x_ld (p := Pq aV) (v := .agg #[I al, I am]) rfl (ldb_ag (ds := [I al, I am]) Ag54 Sz54 (H.bl 0) rfl rfl)) ?_
     refine g_val (!(ag != 0)) (gy_f rfl) (fun hg => x_mv (v := I ae) rfl) ?_
     refine g_val (!(ag != 0)) (gy_f rfl) (fun hg => x_mv (v := I ae) rfl) ?_
     refine g_val (!(ag != 0)) (gy_f rfl) (fun hg => x_bld (ps := [(0, I ae), (1, I ae)]) (zs := [I 0, I 0]) (L' := [I ae, I ae]) (by exact prs2 (gd_of (c := !(ag != 0)) hg (I ae)) (gd_of (c := !(ag != 0)) hg (I ae))) Tryz.underlying54 Al54 rfl (Bd54 Tryz.underlying54) (.cons (cs := [I ae]) rfl rfl rfl rfl rfl <| .cons (cs := [I ae]) rfl rfl rfl rfl rfl <| .nil)) ?_
     refine g_val (!(ag != 0)) (gy_f rfl) (fun hg => x_neS (eqT54 (⟨(al : Int), (am : Int)⟩ : Span) (⟨(ae : Int), (ae : Int)⟩ : Span) _) gdT54 (gd_of (c := !(ag != 0)) hg (.agg #[I al, I am])) (gd_of (c := !(ag != 0)) hg (.agg #[I ae, I ae]))) ?_
     refine s_val (x_por (b := ag != 0) (r := !(decide ((⟨(al : Int), (am : Int)⟩ : Span) = (⟨(ae : Int), (ae : Int)⟩ : Span)))) rfl rfl (fun hb => gd_of (c := !(ag != 0)) (by first | exact hb | (rw [hb]; rfl) | simp_all) (B (!(decide ((⟨(al : Int), (am : Int)⟩ : Span) = (⟨(ae : Int), (ae : Int)⟩ : Span))))))) ?_
     refine s_nil ?_
     refine W.cond ((ag != 0) || (!(decide ((⟨(al : Int), (am : Int)⟩ : Span) = (⟨(ae : Int), (ae : Int)⟩ : Span))))) rfl (fun bv => ?_) (fun bv => ?_)
     ·replace hM := M.e_t hM bv
      refine W.seq ?_
      refine W.region rfl ?_
      refine zA (B false) rfl ?_
      refine s_nil ?_
      replace H := H.pk [2, 3, 4, 5, 6, 7, 8, 9, 10, 11]
      refine W.ret ?_
      have ch := M.e_inr hM aP
      subst ch
      replace hM := a8
      try dsimp only at hM
      have aM := M.e_pure hM
      exact ⟨_, resE_tmp rfl, ⟨false, aM, rfl, (H.pk [])⟩⟩
     replace hM := M.e_f hM bv
     refine W.skip ?_
     refine W.region rfl ?_
     refine zR (s : Int) 1 ((s : Int) + 1) rfl rfl rfl (by omega) ?_
     refine zM (I ((s : Int) + 1)) rfl ?_
     refine s_nil ?_
     exact ⟨bc, bf, s + 1, _, upds_of _ _ ⟨rfl, rfl, rfl, rfl, rfl, rfl, rfl, rfl, rfl, trivial⟩, M.e_inl hM aP, (H.pk [2, 3, 4, 5, 6, 7, 8, 9, 10, 11])⟩
    skip
    refine t_alloc (cs := [I 0, I 0]) H Al54 rfl ?_
    intro aV dZ H
    refine s_nil ⟨(H.pk [2, 3, 4, 5, 6, 7, 8, 9, 10, 11, 12, 13, 14, 15, 16, 17, 18]), ?_⟩
    refine t_l rfl ?_
    obtain ⟨d4, ci, hM⟩ := M.e_bind hM
    refine s_call cf20 [.agg #[aG, aQ, aB], a7, I r4] rfl (zaj aW (aL ++ ([(⟨((ao.getD (Int.toNat ((aa.getD (Int.toNat r4) default).up)) default).place : Int), (ab : Int), (ab : Int)⟩ : Mrk), (⟨((ao.getD (Int.toNat ((aa.getD (Int.toNat r4) default).down)) default).place : Int), (ac : Int), (ac : Int)⟩ : Mrk)])) (ax.set (Int.toNat r4) ({ (ax.getD (Int.toNat r4) default) with lo := ak, hi := ak })) r5 r4 (Reads.sup (rdo 4) (Reads.of (k := 5) rfl roLe)) (rowSl rfl (H.get (k := 4) rfl) (roLe _ (H.get (k := 5) rfl)) aU) (rdo 6) (H.os 6) (rdo 7) (H.os 7) (rdo 1) (H.os 1) ci _ (H.gt 19)) ?_
    rintro vq d5 ⟨al, am, ag, cj, hvq, ap⟩
    subst cj
    subst vq
    try dsimp only at hM
    replace H := H.bk ap
    clear ap
    refine s_nil ⟨(H.pk [2, 3, 4, 5, 6, 7, 8, 9, 10, 11, 12, 13, 14, 15, 16, 17, 18]), ?_⟩
    refine t_q rfl (fun w' H => x_mv (v := .tuple #[.agg #[I al, I am], I ag]) rfl) ?_
    refine t_q rfl (fun w' H => x_ext (vs := [.agg #[I al, I am], I ag]) (v := .agg #[I al, I am]) rfl rfl) ?_
    refine t_q rfl (fun w' H => x_ext (vs := [.agg #[I al, I am], I ag]) (v := I ag) rfl rfl) ?_
    refine t_l rfl ?_
    refine t_sw 0 0 [I al, I am] (.agg #[I al, I am]) H rfl rfl Sz54 rfl rfl rfl rfl ?_
    intro d6 H
    refine s_nil ⟨(H.pk [2, 3, 4, 5, 6, 7, 8, 9, 10, 11, 12, 13, 14, 15, 16, 17, 18]), ?_⟩
    refine t_q rfl (fun w' H => x_as (v := I ag) rfl) ?_
    refine t_nil ?_
    replace H := H.pk [0, 8, 9, 10, 11, 12, 13, 14, 15, 16, 17, 18]
    refine W.seq ?_
    refine W.region rfl ?_
    refine zM (I ag) rfl ?_
    refine zC ag 0 (ag != 0) rfl rfl rfl ?_
    refine zM (B (ag != 0)) rfl ?_
    refine g_val (!(ag != 0)) (gy_f rfl) (fun hg => x_ld (p := Pq aV) (v := .agg #[I al, I am]) rfl (ldb_ag (ds := [I al, I am]) Ag54 Sz54 (H.bl 0) rfl rfl)) ?_
    refine g_val (!(ag != 0)) (gy_f rfl) (fun hg => x_mv (v := I ae) rfl) ?_
    refine g_val (!(ag != 0)) (gy_f rfl) (fun hg => x_mv (v := I ae) rfl) ?_
    refine g_val (!(ag != 0)) (gy_f rfl) (fun hg => x_bld (ps := [(0, I ae), (1, I ae)]) (zs := [I 0, I 0]) (L' := [I ae, I ae]) (by exact prs2 (gd_of (c := !(ag != 0)) hg (I ae)) (gd_of (c := !(ag != 0)) hg (I ae))) Tryz.underlying54 Al54 rfl (Bd54 Tryz.underlying54) (.cons (cs := [I ae]) rfl rfl rfl rfl rfl <| .cons (cs := [I ae]) rfl rfl rfl rfl rfl <| .nil)) ?_
    refine g_val (!(ag != 0)) (gy_f rfl) (fun hg => x_neS (eqT54 (⟨(al : Int), (am : Int)⟩ : Span) (⟨(ae : Int), (ae : Int)⟩ : Span) _) gdT54 (gd_of (c := !(ag != 0)) hg (.agg #[I al, I am])) (gd_of (c := !(ag != 0)) hg (.agg #[I ae, I ae]))) ?_
    refine s_val (x_por (b := ag != 0) (r := !(decide ((⟨(al : Int), (am : Int)⟩ : Span) = (⟨(ae : Int), (ae : Int)⟩ : Span)))) rfl rfl (fun hb => gd_of (c := !(ag != 0)) (by first | exact hb | (rw [hb]; rfl) | simp_all) (B (!(decide ((⟨(al : Int), (am : Int)⟩ : Span) = (⟨(ae : Int), (ae : Int)⟩ : Span))))))) ?_
    refine s_nil ?_
    refine W.cond ((ag != 0) || (!(decide ((⟨(al : Int), (am : Int)⟩ : Span) = (⟨(ae : Int), (ae : Int)⟩ : Span))))) rfl (fun bw => ?_) (fun bw => ?_)
    ·replace hM := M.e_t hM bw
     refine W.seq ?_
     refine W.region rfl ?_
     refine zA (B false) rfl ?_
     refine s_nil ?_
     replace H := H.pk [2, 3, 4, 5, 6, 7, 8, 9, 10, 11]
     refine W.ret ?_
     have ck := M.e_inr hM aP
     subst ck
     replace hM := a8
     try dsimp only at hM
     have aM := M.e_pure hM
     exact ⟨_, resE_tmp rfl, ⟨false, aM, rfl, (H.pk [])⟩⟩
    replace hM := M.e_f hM bw
    refine W.skip ?_
    refine W.region rfl ?_
    refine zR (s : Int) 1 ((s : Int) + 1) rfl rfl rfl (by omega) ?_
    refine zM (I ((s : Int) + 1)) rfl ?_
    refine s_nil ?_
    exact ⟨bc, bf, s + 1, _, upds_of _ _ ⟨rfl, rfl, rfl, rfl, rfl, rfl, rfl, rfl, rfl, trivial⟩, M.e_inl hM aP, (H.pk [2, 3, 4, 5, 6, 7, 8, 9, 10, 11])⟩
   skip
   refine t_alloc (cs := [I 0, I 0]) H Al54 rfl ?_
   intro aV d7 H
   refine s_nil ⟨(H.pk [1, 2, 3, 4, 5, 6, 7, 8, 9, 10, 11, 12, 13, 14, 15, 16, 17]), ?_⟩
   refine t_l rfl ?_
   obtain ⟨d8, cn, hM⟩ := M.e_bind hM
   refine s_call cf18 [.agg #[aG, aQ, aB]] rfl (zaR aW (aL ++ ([(⟨((ao.getD (Int.toNat ((aa.getD (Int.toNat r4) default).up)) default).place : Int), (ab : Int), (ab : Int)⟩ : Mrk), (⟨((ao.getD (Int.toNat ((aa.getD (Int.toNat r4) default).down)) default).place : Int), (ac : Int), (ac : Int)⟩ : Mrk)])) (ax.set (Int.toNat r4) ({ (ax.getD (Int.toNat r4) default) with lo := ak, hi := ak })) (Reads.sup (rdo 3) (Reads.of (k := 4) rfl roLe)) (rowSl rfl (H.get (k := 3) rfl) (roLe _ (H.get (k := 4) rfl)) aU) (rdo 5) (H.os 5) (rdo 6) (H.os 6) cn _ (H.gt 18)) ?_
   rintro vq d9 ⟨r5, a7, co, hvq, ap⟩
   subst co
   subst vq
   try dsimp only at hM
   replace H := H.bk ap
   clear ap
   have ed := Sl.cells (H.os 0)
   have ee := Sl.oc (H.os 0)
   refine s_nil ⟨(H.pk [2, 3, 4, 5, 6, 7, 8, 9, 10, 11, 12, 13, 14, 15, 16, 17, 18]), ?_⟩
   refine t_l rfl ?_
   obtain ⟨ef, cp, hM⟩ := M.e_bind hM
   refine s_call cf20 [.agg #[aG, aQ, aB], a7, I r4] rfl (zaj aW (aL ++ ([(⟨((ao.getD (Int.toNat ((aa.getD (Int.toNat r4) default).up)) default).place : Int), (ab : Int), (ab : Int)⟩ : Mrk), (⟨((ao.getD (Int.toNat ((aa.getD (Int.toNat r4) default).down)) default).place : Int), (ac : Int), (ac : Int)⟩ : Mrk)])) (ax.set (Int.toNat r4) ({ (ax.getD (Int.toNat r4) default) with lo := ak, hi := ak })) r5 r4 (Reads.sup (rdo 4) (Reads.of (k := 5) rfl roLe)) (rowSl rfl (H.get (k := 4) rfl) (roLe _ (H.get (k := 5) rfl)) aU) (rdo 6) (H.os 6) (rdo 7) (H.os 7) (rdo 0) (H.os 0) cp _ (H.gt 19)) ?_
   rintro vq eg ⟨al, am, ag, cq, hvq, ap⟩
   subst cq
   subst vq
   try dsimp only at hM
   replace H := H.bk ap
   clear ap
   refine s_nil ⟨(H.pk [2, 3, 4, 5, 6, 7, 8, 9, 10, 11, 12, 13, 14, 15, 16, 17, 18]), ?_⟩
   refine t_q rfl (fun w' H => x_mv (v := .tuple #[.agg #[I al, I am], I ag]) rfl) ?_
   refine t_q rfl (fun w' H => x_ext (vs := [.agg #[I al, I am], I ag]) (v := .agg #[I al, I am]) rfl rfl) ?_
   refine t_q rfl (fun w' H => x_ext (vs := [.agg #[I al, I am], I ag]) (v := I ag) rfl rfl) ?_
   refine t_l rfl ?_
   refine t_sw 1 0 [I al, I am] (.agg #[I al, I am]) H rfl rfl Sz54 rfl rfl rfl rfl ?_
   intro ei H
   refine s_nil ⟨(H.pk [2, 3, 4, 5, 6, 7, 8, 9, 10, 11, 12, 13, 14, 15, 16, 17, 18]), ?_⟩
   refine t_q rfl (fun w' H => x_as (v := I ag) rfl) ?_
   refine t_nil ?_
   replace H := H.pk [1, 8, 9, 10, 11, 12, 13, 14, 15, 16, 17, 18]
   refine W.seq ?_
   refine W.region rfl ?_
   refine zM (I ag) rfl ?_
   refine zC ag 0 (ag != 0) rfl rfl rfl ?_
   refine zM (B (ag != 0)) rfl ?_
   refine g_val (!(ag != 0)) (gy_f rfl) (fun hg => x_ld (p := Pq aV) (v := .agg #[I al, I am]) rfl (ldb_ag (ds := [I al, I am]) Ag54 Sz54 (H.bl 0) rfl rfl)) ?_
   refine g_val (!(ag != 0)) (gy_f rfl) (fun hg => x_mv (v := I ae) rfl) ?_
   refine g_val (!(ag != 0)) (gy_f rfl) (fun hg => x_mv (v := I ae) rfl) ?_
   refine g_val (!(ag != 0)) (gy_f rfl) (fun hg => x_bld (ps := [(0, I ae), (1, I ae)]) (zs := [I 0, I 0]) (L' := [I ae, I ae]) (by exact prs2 (gd_of (c := !(ag != 0)) hg (I ae)) (gd_of (c := !(ag != 0)) hg (I ae))) Tryz.underlying54 Al54 rfl (Bd54 Tryz.underlying54) (.cons (cs := [I ae]) rfl rfl rfl rfl rfl <| .cons (cs := [I ae]) rfl rfl rfl rfl rfl <| .nil)) ?_
   refine g_val (!(ag != 0)) (gy_f rfl) (fun hg => x_neS (eqT54 (⟨(al : Int), (am : Int)⟩ : Span) (⟨(ae : Int), (ae : Int)⟩ : Span) _) gdT54 (gd_of (c := !(ag != 0)) hg (.agg #[I al, I am])) (gd_of (c := !(ag != 0)) hg (.agg #[I ae, I ae]))) ?_
   refine s_val (x_por (b := ag != 0) (r := !(decide ((⟨(al : Int), (am : Int)⟩ : Span) = (⟨(ae : Int), (ae : Int)⟩ : Span)))) rfl rfl (fun hb => gd_of (c := !(ag != 0)) (by first | exact hb | (rw [hb]; rfl) | simp_all) (B (!(decide ((⟨(al : Int), (am : Int)⟩ : Span) = (⟨(ae : Int), (ae : Int)⟩ : Span))))))) ?_
   refine s_nil ?_
   refine W.cond ((ag != 0) || (!(decide ((⟨(al : Int), (am : Int)⟩ : Span) = (⟨(ae : Int), (ae : Int)⟩ : Span))))) rfl (fun bx => ?_) (fun bx => ?_)
   ·replace hM := M.e_t hM bx
    refine W.seq ?_
    refine W.region rfl ?_
    refine zA (B false) rfl ?_
    refine s_nil ?_
    replace H := H.pk [2, 3, 4, 5, 6, 7, 8, 9, 10, 11]
    refine W.ret ?_
    have cr := M.e_inr hM aP
    subst cr
    replace hM := a8
    try dsimp only at hM
    have aM := M.e_pure hM
    exact ⟨_, resE_tmp rfl, ⟨false, aM, rfl, (H.pk [])⟩⟩
   replace hM := M.e_f hM bx
   refine W.skip ?_
   refine W.region rfl ?_
   refine zR (s : Int) 1 ((s : Int) + 1) rfl rfl rfl (by omega) ?_
   refine zM (I ((s : Int) + 1)) rfl ?_
   refine s_nil ?_
   exact ⟨bc, bf, s + 1, _, upds_of _ _ ⟨rfl, rfl, rfl, rfl, rfl, rfl, rfl, rfl, rfl, trivial⟩, M.e_inl hM aP, (H.pk [2, 3, 4, 5, 6, 7, 8, 9, 10, 11])⟩
  skip
  refine t_bs (α := Mrk) T24 [.agg #[I ((ao.getD (Int.toNat ((aa.getD (Int.toNat r4) default).up)) default).place), I ab, I ab], .agg #[I ((ao.getD (Int.toNat ((aa.getD (Int.toNat r4) default).down)) default).place), I ac, I ac]] [(⟨((ao.getD (Int.toNat ((aa.getD (Int.toNat r4) default).up)) default).place : Int), (ab : Int), (ab : Int)⟩ : Mrk), (⟨((ao.getD (Int.toNat ((aa.getD (Int.toNat r4) default).down)) default).place : Int), (ac : Int), (ac : Int)⟩ : Mrk)] H rfl (.cons rfl (Flat.rep_enc _ (⟨((ao.getD (Int.toNat ((aa.getD (Int.toNat r4) default).up)) default).place : Int), (ab : Int), (ab : Int)⟩ : Mrk)) <| .cons rfl (Flat.rep_enc _ (⟨((ao.getD (Int.toNat ((aa.getD (Int.toNat r4) default).down)) default).place : Int), (ac : Int), (ac : Int)⟩ : Mrk)) <| .nil) rfl rfl rfl ?_
  intro bz ej H
  have ek := Sl.cells (H.os 0)
  have em := Sl.oc (H.os 0)
  have eo := Sl.cells (H.os 4)
  have ep := Sl.oc (H.os 4)
  refine s_nil ⟨(H.pk [2, 3, 5, 6, 7, 8, 9, 10, 11, 12, 13, 14, 15, 16]), ?_⟩
  refine t_l rfl ?_
  refine s_val (x_ld (p := Oq aK 1) (v := bo) rfl (ldb_sc Sc24 (H.bl 1) rfl)) ?_
  refine s_nil ⟨(H.pk [2, 3, 5, 6, 7, 8, 9, 10, 11, 12, 13, 14, 15, 16]), ?_⟩
  refine t_l rfl ?_
  refine t_app (α := Mrk) (k := 4) (l := aL) (l2 := [(⟨((ao.getD (Int.toNat ((aa.getD (Int.toNat r4) default).up)) default).place : Int), (ab : Int), (ab : Int)⟩ : Mrk), (⟨((ao.getD (Int.toNat ((aa.getD (Int.toNat r4) default).down)) default).place : Int), (ac : Int), (ac : Int)⟩ : Mrk)]) (l' := aL ++ ([(⟨((ao.getD (Int.toNat ((aa.getD (Int.toNat r4) default).up)) default).place : Int), (ab : Int), (ab : Int)⟩ : Mrk), (⟨((ao.getD (Int.toNat ((aa.getD (Int.toNat r4) default).down)) default).place : Int), (ac : Int), (ac : Int)⟩ : Mrk)])) (vy := bz) T24 rfl H rfl rfl rfl (H.os 0) (H.ol 0) (rfl) (by first | omega | (simp only [List.length_nil] at *; omega)) ?_
  intro aR eq H
  replace H := H.nf
  have eu := Sl.cells (H.os 4)
  have ew := Sl.oc (H.os 4)
  refine s_nil ⟨(H.pk [2, 3, 5, 6, 7, 8, 9, 10, 11, 12, 13, 14, 15, 16]), ?_⟩
  refine t_q rfl (fun w' H => x_fa (a := Pq aK) (v := Oq aK 1) rfl (fa_blk (o := 0) Fd27_1 Sz24)) ?_
  refine t_l rfl ?_
  refine t_sw 1 1 [aR] aR H rfl rfl Sz24 (Sl.cells (H.os 4)) rfl rfl (by simp only [List.all_cons, List.all_nil, Bool.true_and, Bool.and_true, Sl.oc (H.os 4)]; try rfl) ?_
  intro ey H
  refine s_nil ⟨(H.pk [2, 3, 5, 6, 7, 8, 9, 10, 11, 12, 13, 14, 15, 16]), ?_⟩
  refine t_nil ?_
  refine W.seq ?_
  refine W.region rfl ?_
  refine s_val (x_fa (a := Pq aK) (v := Oq aK 2) rfl (fa_blk (o := 0) Fd27_2 Sz25)) ?_
  refine s_val (x_ld (p := Oq aK 2) (v := aB) rfl (ldb_sc Sc25 (H.bl 1) rfl)) ?_
  refine zM (I r4) rfl ?_
  refine s_val (x_fa (a := Pq au) (v := Oq au 2) rfl (fa_blk (o := 0) Fd61_2 Sz3)) ?_
  refine s_val (x_ld (p := Oq au 2) (v := I ak) rfl (ldb_sc Sc3 (H.bl 6) rfl)) ?_
  refine s_val (x_fa (a := Pq au) (v := Oq au 2) rfl (fa_blk (o := 0) Fd61_2 Sz3)) ?_
  refine s_val (x_ld (p := Oq au 2) (v := I ak) rfl (ldb_sc Sc3 (H.bl 6) rfl)) ?_
  refine s_val (x_bld (ps := [(0, I ak), (1, I ak)]) (zs := [I 0, I 0]) (L' := [I ak, I ak]) rfl Tryz.underlying54 Al54 rfl (Bd54 Tryz.underlying54) (.cons (cs := [I ak]) rfl rfl rfl rfl rfl <| .cons (cs := [I ak]) rfl rfl rfl rfl rfl <| .nil)) ?_
  obtain ⟨ct, hM⟩ := M.e_grd hM
  simp only [Bool.and_eq_true, decide_eq_true_eq] at ct
  refine s_val (x_ix (a := aB) (b := I r4) (v := vat aB 5 (Int.toNat r4)) rfl rfl (Sl.ix (α := Rch) T25.und T25.size (H.os 5) (by omega) (by omega))) ?_
  refine s_val (x_fa (a := vat aB 5 (Int.toNat r4)) (v := fat (vat aB 5 (Int.toNat r4)) 2) rfl (fa_pl Fd58_2 Sz54 (Sl.pl (i := r4) (H.os 5) (by omega) (by omega)))) ?_
  refine t_fst (α := Rch) (k := 5) (i := r4) (off := 2) (l := ax) (l' := ax.set (Int.toNat r4) ({ (ax.getD (Int.toNat r4) default) with lo := ak, hi := ak })) (val := .agg #[I ak, I ak]) (L' := [cOwn (α := Mrk) 70 bz ([(⟨((ao.getD (Int.toNat ((aa.getD (Int.toNat r4) default).up)) default).place : Int), (ab : Int), (ab : Int)⟩ : Mrk), (⟨((ao.getD (Int.toNat ((aa.getD (Int.toNat r4) default).down)) default).place : Int), (ac : Int), (ac : Int)⟩ : Mrk)]), cBlk aK [aG, aR, aB] 27, cOwn (α := Raw 1) 68 aG bj, cRo bm, cOwn (α := Mrk) 70 aR (aL ++ ([(⟨((ao.getD (Int.toNat ((aa.getD (Int.toNat r4) default).up)) default).place : Int), (ab : Int), (ab : Int)⟩ : Mrk), (⟨((ao.getD (Int.toNat ((aa.getD (Int.toNat r4) default).down)) default).place : Int), (ac : Int), (ac : Int)⟩ : Mrk)])), cOwn (α := Rch) 58 aB (ax.set (Int.toNat r4) ({ (ax.getD (Int.toNat r4) default) with lo := ak, hi := ak })), cBlk au [I ab, I ac, I ak, I aJ] 61, cOwn (α := Bool) 4 aT ([false, true]), cBlk aE [I ((aa.getD (Int.toNat r4) default).up), I ((aa.getD (Int.toNat r4) default).down), I ((aa.getD (Int.toNat r4) default).lo), I ((aa.getD (Int.toNat r4) default).hi), B ((aa.getD (Int.toNat r4) default).narrow)] 58, cOwn (α := Span) 54 aw r0, cBlk aN [I aI, I az] 54, cOwn (α := Int) 3 aO r3, cBlk aC [av, aA, ay] 27, cOwn (α := Raw 1) 68 av ba, cRo bb, cOwn (α := Mrk) 70 aA aD, cOwn (α := Rch) 58 ay aa]) H rfl Sz54 (by omega) (by omega) (ax.getD (Int.toNat r4) default) ({ (ax.getD (Int.toNat r4) default) with lo := ak, hi := ak }) (getD_some _ (by omega) _) rfl rfl [I ak, I ak] rfl rfl rfl rfl rfl rfl rfl ?_
  intro ez H
  have eA : (ax.set (Int.toNat r4) ({ (ax.getD (Int.toNat r4) default) with lo := ak, hi := ak })).length = (ax).length := List.length_set
  refine s_nil ?_
  refine W.seq ?_
  refine W.drawT (fun W => St w W [cOwn (α := Mrk) 70 bz ([(⟨((ao.getD (Int.toNat ((aa.getD (Int.toNat r4) default).up)) default).place : Int), (ab : Int), (ab : Int)⟩ : Mrk), (⟨((ao.getD (Int.toNat ((aa.getD (Int.toNat r4) default).down)) default).place : Int), (ac : Int), (ac : Int)⟩ : Mrk)]), cBlk aK [aG, aR, aB] 27, cOwn (α := Raw 1) 68 aG bj, cRo bm, cOwn (α := Mrk) 70 aR (aL ++ ([(⟨((ao.getD (Int.toNat ((aa.getD (Int.toNat r4) default).up)) default).place : Int), (ab : Int), (ab : Int)⟩ : Mrk), (⟨((ao.getD (Int.toNat ((aa.getD (Int.toNat r4) default).down)) default).place : Int), (ac : Int), (ac : Int)⟩ : Mrk)])), cOwn (α := Rch) 58 aB (ax.set (Int.toNat r4) ({ (ax.getD (Int.toNat r4) default) with lo := ak, hi := ak })), cBlk au [I ab, I ac, I ak, I aJ] 61, cOwn (α := Bool) 4 aT ([false, true]), cBlk aE [I ((aa.getD (Int.toNat r4) default).up), I ((aa.getD (Int.toNat r4) default).down), I ((aa.getD (Int.toNat r4) default).lo), I ((aa.getD (Int.toNat r4) default).hi), B ((aa.getD (Int.toNat r4) default).narrow)] 58, cOwn (α := Span) 54 aw r0, cBlk aN [I aI, I az] 54, cOwn (α := Int) 3 aO r3, cBlk aC [av, aA, ay] 27, cOwn (α := Raw 1) 68 av ba, cRo bb, cOwn (α := Mrk) 70 aA aD, cOwn (α := Rch) 58 ay aa] R) (.q 0 (.q 1 (.q 3 (.l2 2 (.l2 4 (.q 5 (.q 6 (.q 7 (.l 8 (.l 9 (.q 10 .nil)))))) 8 (.l 4 (.q 5 (.q 6 (.q 7 (.l 9 (.q 10 .nil))))))) 8 (.l 2 (.l 4 (.q 5 (.q 6 (.q 7 (.l 9 (.q 10 .nil))))))))))) mixed (by decide +kernel) rfl ?_
  intro eB aq
  replace H := H.ext aq
  clear aq
  refine ⟨(H.pk [0, 1, 2, 3, 4, 5, 6, 7, 8, 9, 10, 11, 12, 13, 14, 15, 16]), ?_⟩
  refine t_q rfl (fun w' H => x_ld (p := Pq aK) (v := .agg #[aG, aR, aB]) rfl (ldb_ag (ds := [aG, aR, aB]) Ag27 Sz27 (H.bl 1) rfl rfl)) ?_
  refine t_q rfl (fun w' H => x_ld (p := Pq aK) (v := .agg #[aG, aR, aB]) rfl (ldb_ag (ds := [aG, aR, aB]) Ag27 Sz27 (H.bl 1) rfl rfl)) ?_
  refine t_q rfl (fun w' H => x_mv (v := I r4) rfl) ?_
  refine t_l2 rfl rfl ?_ ?_
  ·skip
   obtain ⟨eC, cu, hM⟩ := M.e_bind hM
   refine s_call cf18 [.agg #[aG, aR, aB]] rfl (zaR aW (aL ++ ([(⟨((ao.getD (Int.toNat ((aa.getD (Int.toNat r4) default).up)) default).place : Int), (ab : Int), (ab : Int)⟩ : Mrk), (⟨((ao.getD (Int.toNat ((aa.getD (Int.toNat r4) default).down)) default).place : Int), (ac : Int), (ac : Int)⟩ : Mrk)])) (ax.set (Int.toNat r4) ({ (ax.getD (Int.toNat r4) default) with lo := ak, hi := ak })) (Reads.sup (rdo 2) (Reads.of (k := 3) rfl roLe)) (rowSl rfl (H.get (k := 2) rfl) (roLe _ (H.get (k := 3) rfl)) aU) (rdo 4) (H.os 4) (rdo 5) (H.os 5) cu _ (H.gt 17)) ?_
   rintro vq eD ⟨r5, a7, cv, hvq, ap⟩
   subst cv
   subst vq
   try dsimp only at hM
   replace H := H.bk ap
   clear ap
   have eE := Sl.cells (H.os 0)
   have eF := Sl.oc (H.os 0)
   refine s_nil ⟨(H.pk [1, 2, 3, 4, 5, 6, 7, 8, 9, 10, 11, 12, 13, 14, 15, 16, 17]), ?_⟩
   refine t_l2 rfl rfl ?_ ?_
   ·skip
    obtain ⟨eG, cw, hM⟩ := M.e_bind hM
    refine s_call cf20 [.agg #[aG, aR, aB], a7, I r4] rfl (zaj aW (aL ++ ([(⟨((ao.getD (Int.toNat ((aa.getD (Int.toNat r4) default).up)) default).place : Int), (ab : Int), (ab : Int)⟩ : Mrk), (⟨((ao.getD (Int.toNat ((aa.getD (Int.toNat r4) default).down)) default).place : Int), (ac : Int), (ac : Int)⟩ : Mrk)])) (ax.set (Int.toNat r4) ({ (ax.getD (Int.toNat r4) default) with lo := ak, hi := ak })) r5 r4 (Reads.sup (rdo 3) (Reads.of (k := 4) rfl roLe)) (rowSl rfl (H.get (k := 3) rfl) (roLe _ (H.get (k := 4) rfl)) aU) (rdo 5) (H.os 5) (rdo 6) (H.os 6) (rdo 0) (H.os 0) cw _ (H.gt 18)) ?_
    rintro vq eH ⟨al, am, ag, cx, hvq, ap⟩
    subst cx
    subst vq
    try dsimp only at hM
    replace H := H.bk ap
    clear ap
    refine s_nil ⟨(H.pk [1, 2, 3, 4, 5, 6, 7, 8, 9, 10, 11, 12, 13, 14, 15, 16, 17]), ?_⟩
    refine t_q rfl (fun w' H => x_mv (v := .tuple #[.agg #[I al, I am], I ag]) rfl) ?_
    refine t_q rfl (fun w' H => x_ext (vs := [.agg #[I al, I am], I ag]) (v := .agg #[I al, I am]) rfl rfl) ?_
    refine t_q rfl (fun w' H => x_ext (vs := [.agg #[I al, I am], I ag]) (v := I ag) rfl rfl) ?_
    refine t_l rfl ?_
    refine t_alloc (cs := [I 0, I 0]) H Al54 rfl ?_
    intro aV eI H
    refine s_nil ⟨(H.pk [2, 3, 4, 5, 6, 7, 8, 9, 10, 11, 12, 13, 14, 15, 16, 17, 18]), ?_⟩
    refine t_l rfl ?_
    refine t_sw 0 0 [I al, I am] (.agg #[I al, I am]) H rfl rfl Sz54 rfl rfl rfl rfl ?_
    intro eJ H
    refine s_nil ⟨(H.pk [2, 3, 4, 5, 6, 7, 8, 9, 10, 11, 12, 13, 14, 15, 16, 17, 18]), ?_⟩
    refine t_q rfl (fun w' H => x_as (v := I ag) rfl) ?_
    refine t_nil ?_
    replace H := H.pk [0, 8, 9, 10, 11, 12, 13, 14, 15, 16, 17, 18]
    refine W.seq ?_
    refine W.region rfl ?_
    refine zM (I ag) rfl ?_
    refine zC ag 0 (ag != 0) rfl rfl rfl ?_
    refine zM (B (ag != 0)) rfl ?_
    refine g_val (!(ag != 0)) (gy_f rfl) (fun hg => x_ld (p := Pq aV) (v := .agg #[I al, I am]) rfl (ldb_ag (ds := [I al, I am]) Ag54 Sz54 (H.bl 0) rfl rfl)) ?_
    refine g_val (!(ag != 0)) (gy_f rfl) (fun hg => x_mv (v := I ae) rfl) ?_
    refine g_val (!(ag != 0)) (gy_f rfl) (fun hg => x_mv (v := I ae) rfl) ?_
    refine g_val (!(ag != 0)) (gy_f rfl) (fun hg => x_bld (ps := [(0, I ae), (1, I ae)]) (zs := [I 0, I 0]) (L' := [I ae, I ae]) (by exact prs2 (gd_of (c := !(ag != 0)) hg (I ae)) (gd_of (c := !(ag != 0)) hg (I ae))) Tryz.underlying54 Al54 rfl (Bd54 Tryz.underlying54) (.cons (cs := [I ae]) rfl rfl rfl rfl rfl <| .cons (cs := [I ae]) rfl rfl rfl rfl rfl <| .nil)) ?_
    refine g_val (!(ag != 0)) (gy_f rfl) (fun hg => x_neS (eqT54 (⟨(al : Int), (am : Int)⟩ : Span) (⟨(ae : Int), (ae : Int)⟩ : Span) _) gdT54 (gd_of (c := !(ag != 0)) hg (.agg #[I al, I am])) (gd_of (c := !(ag != 0)) hg (.agg #[I ae, I ae]))) ?_
    refine s_val (x_por (b := ag != 0) (r := !(decide ((⟨(al : Int), (am : Int)⟩ : Span) = (⟨(ae : Int), (ae : Int)⟩ : Span)))) rfl rfl (fun hb => gd_of (c := !(ag != 0)) (by first | exact hb | (rw [hb]; rfl) | simp_all) (B (!(decide ((⟨(al : Int), (am : Int)⟩ : Span) = (⟨(ae : Int), (ae : Int)⟩ : Span))))))) ?_
    refine s_nil ?_
    refine W.cond ((ag != 0) || (!(decide ((⟨(al : Int), (am : Int)⟩ : Span) = (⟨(ae : Int), (ae : Int)⟩ : Span))))) rfl (fun bA => ?_) (fun bA => ?_)
    ·replace hM := M.e_t hM bA
     refine W.seq ?_
     refine W.region rfl ?_
     refine zA (B false) rfl ?_
     refine s_nil ?_
     replace H := H.pk [2, 3, 4, 5, 6, 7, 8, 9, 10, 11]
     refine W.ret ?_
     have cy := M.e_inr hM aP
     subst cy
     replace hM := a8
     try dsimp only at hM
     have aM := M.e_pure hM
     exact ⟨_, resE_tmp rfl, ⟨false, aM, rfl, (H.pk [])⟩⟩
    replace hM := M.e_f hM bA
    refine W.skip ?_
    refine W.region rfl ?_
    refine zR (s : Int) 1 ((s : Int) + 1) rfl rfl rfl (by omega) ?_
    refine zM (I ((s : Int) + 1)) rfl ?_
    refine s_nil ?_
    exact ⟨bc, bf, s + 1, _, upds_of _ _ ⟨rfl, rfl, rfl, rfl, rfl, rfl, rfl, rfl, rfl, trivial⟩, M.e_inl hM aP, (H.pk [2, 3, 4, 5, 6, 7, 8, 9, 10, 11])⟩
   skip
   refine t_alloc (cs := [I 0, I 0]) H Al54 rfl ?_
   intro aV eK H
   refine s_nil ⟨(H.pk [2, 3, 4, 5, 6, 7, 8, 9, 10, 11, 12, 13, 14, 15, 16, 17, 18]), ?_⟩
   refine t_l rfl ?_
   obtain ⟨eL, cz, hM⟩ := M.e_bind hM
   refine s_call cf20 [.agg #[aG, aR, aB], a7, I r4] rfl (zaj aW (aL ++ ([(⟨((ao.getD (Int.toNat ((aa.getD (Int.toNat r4) default).up)) default).place : Int), (ab : Int), (ab : Int)⟩ : Mrk), (⟨((ao.getD (Int.toNat ((aa.getD (Int.toNat r4) default).down)) default).place : Int), (ac : Int), (ac : Int)⟩ : Mrk)])) (ax.set (Int.toNat r4) ({ (ax.getD (Int.toNat r4) default) with lo := ak, hi := ak })) r5 r4 (Reads.sup (rdo 4) (Reads.of (k := 5) rfl roLe)) (rowSl rfl (H.get (k := 4) rfl) (roLe _ (H.get (k := 5) rfl)) aU) (rdo 6) (H.os 6) (rdo 7) (H.os 7) (rdo 1) (H.os 1) cz _ (H.gt 19)) ?_
   rintro vq eM ⟨al, am, ag, cA, hvq, ap⟩
   subst cA
   subst vq
   try dsimp only at hM
   replace H := H.bk ap
   clear ap
   refine s_nil ⟨(H.pk [2, 3, 4, 5, 6, 7, 8, 9, 10, 11, 12, 13, 14, 15, 16, 17, 18]), ?_⟩
   refine t_q rfl (fun w' H => x_mv (v := .tuple #[.agg #[I al, I am], I ag]) rfl) ?_
   refine t_q rfl (fun w' H => x_ext (vs := [.agg #[I al, I am], I ag]) (v := .agg #[I al, I am]) rfl rfl) ?_
   refine t_q rfl (fun w' H => x_ext (vs := [.agg #[I al, I am], I ag]) (v := I ag) rfl rfl) ?_
   refine t_l rfl ?_
   refine t_sw 0 0 [I al, I am] (.agg #[I al, I am]) H rfl rfl Sz54 rfl rfl rfl rfl ?_
   intro eN H
   refine s_nil ⟨(H.pk [2, 3, 4, 5, 6, 7, 8, 9, 10, 11, 12, 13, 14, 15, 16, 17, 18]), ?_⟩
   refine t_q rfl (fun w' H => x_as (v := I ag) rfl) ?_
   refine t_nil ?_
   replace H := H.pk [0, 8, 9, 10, 11, 12, 13, 14, 15, 16, 17, 18]
   refine W.seq ?_
   refine W.region rfl ?_
   refine zM (I ag) rfl ?_
   refine zC ag 0 (ag != 0) rfl rfl rfl ?_
   refine zM (B (ag != 0)) rfl ?_
   refine g_val (!(ag != 0)) (gy_f rfl) (fun hg => x_ld (p := Pq aV) (v := .agg #[I al, I am]) rfl (ldb_ag (ds := [I al, I am]) Ag54 Sz54 (H.bl 0) rfl rfl)) ?_
   refine g_val (!(ag != 0)) (gy_f rfl) (fun hg => x_mv (v := I ae) rfl) ?_
   refine g_val (!(ag != 0)) (gy_f rfl) (fun hg => x_mv (v := I ae) rfl) ?_
   refine g_val (!(ag != 0)) (gy_f rfl) (fun hg => x_bld (ps := [(0, I ae), (1, I ae)]) (zs := [I 0, I 0]) (L' := [I ae, I ae]) (by exact prs2 (gd_of (c := !(ag != 0)) hg (I ae)) (gd_of (c := !(ag != 0)) hg (I ae))) Tryz.underlying54 Al54 rfl (Bd54 Tryz.underlying54) (.cons (cs := [I ae]) rfl rfl rfl rfl rfl <| .cons (cs := [I ae]) rfl rfl rfl rfl rfl <| .nil)) ?_
   refine g_val (!(ag != 0)) (gy_f rfl) (fun hg => x_neS (eqT54 (⟨(al : Int), (am : Int)⟩ : Span) (⟨(ae : Int), (ae : Int)⟩ : Span) _) gdT54 (gd_of (c := !(ag != 0)) hg (.agg #[I al, I am])) (gd_of (c := !(ag != 0)) hg (.agg #[I ae, I ae]))) ?_
   refine s_val (x_por (b := ag != 0) (r := !(decide ((⟨(al : Int), (am : Int)⟩ : Span) = (⟨(ae : Int), (ae : Int)⟩ : Span)))) rfl rfl (fun hb => gd_of (c := !(ag != 0)) (by first | exact hb | (rw [hb]; rfl) | simp_all) (B (!(decide ((⟨(al : Int), (am : Int)⟩ : Span) = (⟨(ae : Int), (ae : Int)⟩ : Span))))))) ?_
   refine s_nil ?_
   refine W.cond ((ag != 0) || (!(decide ((⟨(al : Int), (am : Int)⟩ : Span) = (⟨(ae : Int), (ae : Int)⟩ : Span))))) rfl (fun bB => ?_) (fun bB => ?_)
   ·replace hM := M.e_t hM bB
    refine W.seq ?_
    refine W.region rfl ?_
    refine zA (B false) rfl ?_
    refine s_nil ?_
    replace H := H.pk [2, 3, 4, 5, 6, 7, 8, 9, 10, 11]
    refine W.ret ?_
    have cB := M.e_inr hM aP
    subst cB
    replace hM := a8
    try dsimp only at hM
    have aM := M.e_pure hM
    exact ⟨_, resE_tmp rfl, ⟨false, aM, rfl, (H.pk [])⟩⟩
   replace hM := M.e_f hM bB
   refine W.skip ?_
   refine W.region rfl ?_
   refine zR (s : Int) 1 ((s : Int) + 1) rfl rfl rfl (by omega) ?_
   refine zM (I ((s : Int) + 1)) rfl ?_
   refine s_nil ?_
   exact ⟨bc, bf, s + 1, _, upds_of _ _ ⟨rfl, rfl, rfl, rfl, rfl, rfl, rfl, rfl, rfl, trivial⟩, M.e_inl hM aP, (H.pk [2, 3, 4, 5, 6, 7, 8, 9, 10, 11])⟩
  skip
  refine t_alloc (cs := [I 0, I 0]) H Al54 rfl ?_
  intro aV eO H
  refine s_nil ⟨(H.pk [1, 2, 3, 4, 5, 6, 7, 8, 9, 10, 11, 12, 13, 14, 15, 16, 17]), ?_⟩
  refine t_l rfl ?_
  obtain ⟨eP, cC, hM⟩ := M.e_bind hM
  refine s_call cf18 [.agg #[aG, aR, aB]] rfl (zaR aW (aL ++ ([(⟨((ao.getD (Int.toNat ((aa.getD (Int.toNat r4) default).up)) default).place : Int), (ab : Int), (ab : Int)⟩ : Mrk), (⟨((ao.getD (Int.toNat ((aa.getD (Int.toNat r4) default).down)) default).place : Int), (ac : Int), (ac : Int)⟩ : Mrk)])) (ax.set (Int.toNat r4) ({ (ax.getD (Int.toNat r4) default) with lo := ak, hi := ak })) (Reads.sup (rdo 3) (Reads.of (k := 4) rfl roLe)) (rowSl rfl (H.get (k := 3) rfl) (roLe _ (H.get (k := 4) rfl)) aU) (rdo 5) (H.os 5) (rdo 6) (H.os 6) cC _ (H.gt 18)) ?_
  rintro vq eQ ⟨r5, a7, cD, hvq, ap⟩
  subst cD
  subst vq
  try dsimp only at hM
  replace H := H.bk ap
  clear ap
  have eR := Sl.cells (H.os 0)
  have eS := Sl.oc (H.os 0)
  refine s_nil ⟨(H.pk [2, 3, 4, 5, 6, 7, 8, 9, 10, 11, 12, 13, 14, 15, 16, 17, 18]), ?_⟩
  refine t_l rfl ?_
  obtain ⟨eT, cE, hM⟩ := M.e_bind hM
  refine s_call cf20 [.agg #[aG, aR, aB], a7, I r4] rfl (zaj aW (aL ++ ([(⟨((ao.getD (Int.toNat ((aa.getD (Int.toNat r4) default).up)) default).place : Int), (ab : Int), (ab : Int)⟩ : Mrk), (⟨((ao.getD (Int.toNat ((aa.getD (Int.toNat r4) default).down)) default).place : Int), (ac : Int), (ac : Int)⟩ : Mrk)])) (ax.set (Int.toNat r4) ({ (ax.getD (Int.toNat r4) default) with lo := ak, hi := ak })) r5 r4 (Reads.sup (rdo 4) (Reads.of (k := 5) rfl roLe)) (rowSl rfl (H.get (k := 4) rfl) (roLe _ (H.get (k := 5) rfl)) aU) (rdo 6) (H.os 6) (rdo 7) (H.os 7) (rdo 0) (H.os 0) cE _ (H.gt 19)) ?_
  rintro vq eU ⟨al, am, ag, cF, hvq, ap⟩
  subst cF
  subst vq
  try dsimp only at hM
  replace H := H.bk ap
  clear ap
  refine s_nil ⟨(H.pk [2, 3, 4, 5, 6, 7, 8, 9, 10, 11, 12, 13, 14, 15, 16, 17, 18]), ?_⟩
  refine t_q rfl (fun w' H => x_mv (v := .tuple #[.agg #[I al, I am], I ag]) rfl) ?_
  refine t_q rfl (fun w' H => x_ext (vs := [.agg #[I al, I am], I ag]) (v := .agg #[I al, I am]) rfl rfl) ?_
  refine t_q rfl (fun w' H => x_ext (vs := [.agg #[I al, I am], I ag]) (v := I ag) rfl rfl) ?_
  refine t_l rfl ?_
  refine t_sw 1 0 [I al, I am] (.agg #[I al, I am]) H rfl rfl Sz54 rfl rfl rfl rfl ?_
  intro eV H
  refine s_nil ⟨(H.pk [2, 3, 4, 5, 6, 7, 8, 9, 10, 11, 12, 13, 14, 15, 16, 17, 18]), ?_⟩
  refine t_q rfl (fun w' H => x_as (v := I ag) rfl) ?_
  refine t_nil ?_
  replace H := H.pk [1, 8, 9, 10, 11, 12, 13, 14, 15, 16, 17, 18]
  refine W.seq ?_
  refine W.region rfl ?_
  refine zM (I ag) rfl ?_
  refine zC ag 0 (ag != 0) rfl rfl rfl ?_
  refine zM (B (ag != 0)) rfl ?_
  refine g_val (!(ag != 0)) (gy_f rfl) (fun hg => x_ld (p := Pq aV) (v := .agg #[I al, I am]) rfl (ldb_ag (ds := [I al, I am]) Ag54 Sz54 (H.bl 0) rfl rfl)) ?_
  refine g_val (!(ag != 0)) (gy_f rfl) (fun hg => x_mv (v := I ae) rfl) ?_
  refine g_val (!(ag != 0)) (gy_f rfl) (fun hg => x_mv (v := I ae) rfl) ?_
  refine g_val (!(ag != 0)) (gy_f rfl) (fun hg => x_bld (ps := [(0, I ae), (1, I ae)]) (zs := [I 0, I 0]) (L' := [I ae, I ae]) (by exact prs2 (gd_of (c := !(ag != 0)) hg (I ae)) (gd_of (c := !(ag != 0)) hg (I ae))) Tryz.underlying54 Al54 rfl (Bd54 Tryz.underlying54) (.cons (cs := [I ae]) rfl rfl rfl rfl rfl <| .cons (cs := [I ae]) rfl rfl rfl rfl rfl <| .nil)) ?_
  refine g_val (!(ag != 0)) (gy_f rfl) (fun hg => x_neS (eqT54 (⟨(al : Int), (am : Int)⟩ : Span) (⟨(ae : Int), (ae : Int)⟩ : Span) _) gdT54 (gd_of (c := !(ag != 0)) hg (.agg #[I al, I am])) (gd_of (c := !(ag != 0)) hg (.agg #[I ae, I ae]))) ?_
  refine s_val (x_por (b := ag != 0) (r := !(decide ((⟨(al : Int), (am : Int)⟩ : Span) = (⟨(ae : Int), (ae : Int)⟩ : Span)))) rfl rfl (fun hb => gd_of (c := !(ag != 0)) (by first | exact hb | (rw [hb]; rfl) | simp_all) (B (!(decide ((⟨(al : Int), (am : Int)⟩ : Span) = (⟨(ae : Int), (ae : Int)⟩ : Span))))))) ?_
  refine s_nil ?_
  refine W.cond ((ag != 0) || (!(decide ((⟨(al : Int), (am : Int)⟩ : Span) = (⟨(ae : Int), (ae : Int)⟩ : Span))))) rfl (fun bC => ?_) (fun bC => ?_)
  ·replace hM := M.e_t hM bC
   refine W.seq ?_
   refine W.region rfl ?_
   refine zA (B false) rfl ?_
   refine s_nil ?_
   replace H := H.pk [2, 3, 4, 5, 6, 7, 8, 9, 10, 11]
   refine W.ret ?_
   have cG := M.e_inr hM aP
   subst cG
   replace hM := a8
   try dsimp only at hM
   have aM := M.e_pure hM
   exact ⟨_, resE_tmp rfl, ⟨false, aM, rfl, (H.pk [])⟩⟩
  replace hM := M.e_f hM bC
  refine W.skip ?_
  refine W.region rfl ?_
  refine zR (s : Int) 1 ((s : Int) + 1) rfl rfl rfl (by omega) ?_
  refine zM (I ((s : Int) + 1)) rfl ?_
  refine s_nil ?_
  exact ⟨bc, bf, s + 1, _, upds_of _ _ ⟨rfl, rfl, rfl, rfl, rfl, rfl, rfl, rfl, rfl, trivial⟩, M.e_inl hM aP, (H.pk [2, 3, 4, 5, 6, 7, 8, 9, 10, 11])⟩
 replace hM := M.e_f hM bi
 simp only [qy1, qy2, qy3, qy4, qy5, qy6, ne_eq, qy7] at bi
 refine W.exit ?_
 have cH := M.e_inr hM aP
 subst cH
 replace hM := a8
 try dsimp only at hM
 replace H := H.pk []
 refine W.seq ?_
 refine W.region rfl ?_
 obtain ⟨eW, cI, hM⟩ := M.e_bind hM
 refine s_call cf16 [] rfl (zc9 cI _ (H.gt 0)) ?_
 rintro vq eX ⟨r6, cJ, hvq, ap⟩
 subst cJ
 subst vq
 try dsimp only at hM
 replace H := H.bk ap
 clear ap
 refine zA (B r6) rfl ?_
 refine s_nil ?_
 refine W.ret ?_
 have aM := M.e_pure hM
 exact ⟨_, resE_tmp rfl, ⟨r6, aM, rfl, H⟩⟩

end Go.Proofs.YtlemgioaakecpaaGreat
end
namespace Go.Nm
namespace Fl
def ints (n : Nat) : List Int := (List.range n).map fun i : Nat => (i : Int)
theorem ints_len (n : Nat) : (ints n).length = n := by simp [ints]
theorem ints_succ (n : Nat) : ints (n + 1) = ints n ++ [(n : Int)] := by unfold ints; rw [List.range_succ, List.map_append]; rfl
theorem ints_mem {n : Nat} {k : Int} : k ∈ ints n ↔ 0 <= k /\ k < n := by
  unfold ints
  rw [List.mem_map]
  constructor
  · rintro ⟨i, hi, rfl⟩
    have := List.mem_range.1 hi
    omega
  · rintro ⟨h0, h1⟩
    exact ⟨Int.toNat k, List.mem_range.2 (by omega), by omega⟩
section
variable {S : List Sect} {M : List Mrk} {R : List Rch} {t ro ms : List Int} {r : Rch}
theorem pk (hS : Secs S) (hr : Rok S r) (hk : ∀ x ∈ M, Mok x) (hx : Ixs M ms) (ht : Tog M ms) {c c1 c2 : Cas} {a b : Int} (ha : IsLow S M ms r c1 a) (hb : IsHigh S M ms r c2 b) (hc : Cok c)
    (hd : Dn S M ms r c.down) (h0 : stLo M ms (pu S r) <= c.up) (h1 : c.up <= stHi M ms (pu S r)) (k1 : r.lo <= c.roughup) (k2 : c.roughup <= r.hi) (k3 : r.lo <= c.roughdown) (k4 : c.roughdown <= r.hi) :
    0 <= a /\ a <= fl S r c /\ fl S r c <= b := by
  obtain ⟨x, _, _, e1, m1⟩ := ha
  obtain ⟨y, _, _, e2, m2⟩ := hb
  have q1 := m1 _ hd
  have q2 := m2 _ hd
  have du := hc.du
  refine ⟨by rw [e1]; exact fl_nn _, Int.le_trans q1 (fl_mono hS hr (lc_ok hr hk hx ht hd) hc rfl ?_ k2 k4), Int.le_trans (fl_mono hS hr hc (hc_ok hr hd) rfl h1 k1 k3) q2⟩
  show max (stLo M ms (pu S r)) c.down <= c.up
  omega
theorem Truth.rok (h : Truth S M R t ro) {i : Nat} (hi : i < R.length) : Rok S (R.getD i default) := by
  rw [getD_el R hi]
  exact h.site.rks _ (List.getElem_mem hi)
theorem ints_ix (M : List Mrk) : Ixs M (ints M.length) := fun k hk => ints_mem.1 hk
theorem ints_inc (M : List Mrk) : Inc M (ints M.length) := by
  refine ⟨?_, ints_ix M⟩
  unfold ints
  rw [List.pairwise_map]
  exact List.Pairwise.imp (fun h => by omega) List.pairwise_lt_range
end
end Fl
end Go.Nm
namespace Go.Proofs.YtlemgioaakecpaaGreat
open Go Go.Nm
section
variable {S : List Sect} {M' : List Mrk} {R' : List Rch} {t ro : List Int}
theorem every_ends (hn : M'.length <= 16) : (za4 S M' R').Ends (Fl.ints M'.length) := by
  unfold za4
  refine M.i_bind (a := (Fl.ints M'.length, Fl.ints M'.length)) ?_ M.i_pure
  refine M.i_for (fun i => (i, Fl.ints i)) M'.length (fun i hi => ?_) ?_
  · simp only [za6]
    refine M.i_t (decide_eq_true (by omega)) (M.i_grd (decide_eq_true (by rw [Fl.ints_len]; simp; omega)) ?_)
    rw [Fl.ints_succ]
    exact M.i_pure
  · simp only [za6]
    exact M.i_f (decide_eq_false (by omega)) M.i_pure
end
end Go.Proofs.YtlemgioaakecpaaGreat
namespace Go.Nm
namespace Fl
section
variable {M : List Mrk} {p : Int}
theorem ints_mk {M : List Mrk} {k : Int} (h : k ∈ ints M.length) : M.getD (Int.toNat k) default ∈ M := by
  have := ints_mem.1 h
  have hl : Int.toNat k < M.length := by omega
  rw [getD_el M hl]
  exact List.getElem_mem hl
theorem mk_ints {M : List Mrk} {m : Mrk} (h : m ∈ M) : ∃ k, k ∈ ints M.length /\ M.getD (Int.toNat k) default = m := by
  obtain ⟨i, hi, rfl⟩ := mem_getD h default
  exact ⟨(i : Int), ints_mem.2 ⟨by omega, by omega⟩, by rw [Int.toNat_natCast]⟩
theorem aLo_ge {m : Mrk} (h : m ∈ M) (hp : p <= m.place) : m.lo <= stLo M (ints M.length) p := by
  obtain ⟨k, hk, rfl⟩ := mk_ints h
  exact stLo_ge hk hp
theorem aLo_ex : stLo M (ints M.length) p = 0 ∨ ∃ m ∈ M, p <= m.place /\ stLo M (ints M.length) p = m.lo := by
  rcases stLo_ex (M := M) (p := p) (ints M.length) with e | ⟨k, hk, h1, h2⟩
  · exact .inl e
  · exact .inr ⟨_, ints_mk hk, h1, h2⟩
theorem aHi_le {m : Mrk} (h : m ∈ M) (hp : m.place <= p) : stHi M (ints M.length) p <= m.hi := by
  obtain ⟨k, hk, rfl⟩ := mk_ints h
  exact stHi_ge hk hp
theorem aHi_ex : stHi M (ints M.length) p = 2000 ∨ ∃ m ∈ M, m.place <= p /\ stHi M (ints M.length) p = m.hi := by
  rcases stHi_ex (M := M) (p := p) (ints M.length) with e | ⟨k, hk, h1, h2⟩
  · exact .inl e
  · exact .inr ⟨_, ints_mk hk, h1, h2⟩
theorem aTog : Tog M (ints M.length) ↔ ∀ a ∈ M, ∀ b ∈ M, ¬(a.place <= b.place /\ a.hi < b.lo) := by
  constructor
  · intro h a ha b hb
    obtain ⟨k, hk, rfl⟩ := mk_ints ha
    obtain ⟨j, hj, rfl⟩ := mk_ints hb
    exact h k hk j hj
  · intro h a ha b hb
    exact h _ (ints_mk ha) _ (ints_mk hb)
end
section
variable {S : List Sect} {M : List Mrk} {R : List Rch} {r : Rch} {c : Cas}
/-- A case whose stages lie in the surfaces, with one roughness that is allowed. -/
structure Lies (S : List Sect) (M : List Mrk) (r : Rch) (c : Cas) : Prop where
  u1 : stLo M (ints M.length) (pu S r) <= c.up
  u2 : c.up <= stHi M (ints M.length) (pu S r)
  d1 : stLo M (ints M.length) (pd S r) <= c.down
  d2 : c.down <= stHi M (ints M.length) (pd S r)
  du : c.down <= c.up
  e : c.roughup = c.roughdown
  r1 : r.lo <= c.roughup
  r2 : c.roughup <= r.hi
theorem Lies.ok (h : Lies S M r c) (hr : Rok S r) : Cok c := by
  have h2 := stLo_nn (M := M) (p := pd S r) (ints M.length)
  have h3 := stHi_le (M := M) (p := pu S r) (ints M.length)
  obtain ⟨a, b, d, e, f, g, i, j⟩ := h
  have := hr.l1
  have := hr.h4
  constructor <;> omega
def told (S : List Sect) (M : List Mrk) (r : Rch) (c : Cas) : List Mrk := M ++ [⟨pu S r, c.up, c.up⟩, ⟨pd S r, c.down, c.down⟩]
theorem told_mem {m : Mrk} : m ∈ told S M r c ↔ m ∈ M ∨ m = ⟨pu S r, c.up, c.up⟩ ∨ m = ⟨pd S r, c.down, c.down⟩ := by
  unfold told
  rw [List.mem_append, List.mem_cons, List.mem_singleton]
theorem Lies.tog (h : Lies S M r c) (hp : pu S r < pd S r) (ht : Tog M (ints M.length)) : Tog (told S M r c) (ints (told S M r c).length) := by
  rw [aTog] at ht ⊢
  obtain ⟨u1, u2, d1, d2, du, _⟩ := h
  intro a ha b hb
  rcases told_mem.1 ha with ha | rfl | rfl <;> rcases told_mem.1 hb with hb | rfl | rfl <;> rintro ⟨k1, k2⟩ <;> (try dsimp only at k1 k2)
  · exact ht a ha b hb ⟨k1, k2⟩
  · have := aHi_le ha k1; omega
  · have := aHi_le ha k1; omega
  · have := aLo_ge hb k1; omega
  · omega
  · omega
  · have := aLo_ge hb k1; omega
  · omega
  · omega
theorem told_lo (h : Lies S M r c) (hp : pu S r < pd S r) : stLo (told S M r c) (ints (told S M r c).length) (pu S r) = c.up /\ stLo (told S M r c) (ints (told S M r c).length) (pd S r) = c.down := by
  have n1 := stLo_nn (M := M) (p := pd S r) (ints M.length)
  obtain ⟨u1, u2, d1, d2, du, _⟩ := h
  have g1 := aLo_ge (M := told S M r c) (p := pu S r) (told_mem.2 (.inr (.inl rfl))) (Int.le_refl _)
  have g2 := aLo_ge (M := told S M r c) (p := pd S r) (told_mem.2 (.inr (.inr rfl))) (Int.le_refl _)
  dsimp only at g1 g2
  constructor
  · rcases aLo_ex (M := told S M r c) (p := pu S r) with e | ⟨m, hm, k, e⟩
    · omega
    · rcases told_mem.1 hm with hm | rfl | rfl
      · have := aLo_ge hm k; omega
      · exact e
      · dsimp only at e; omega
  · rcases aLo_ex (M := told S M r c) (p := pd S r) with e | ⟨m, hm, k, e⟩
    · omega
    · rcases told_mem.1 hm with hm | rfl | rfl
      · have := aLo_ge hm k; omega
      · dsimp only at k; omega
      · exact e
theorem told_hi (h : Lies S M r c) (hp : pu S r < pd S r) : stHi (told S M r c) (ints (told S M r c).length) (pu S r) = c.up /\ stHi (told S M r c) (ints (told S M r c).length) (pd S r) = c.down := by
  have n1 := stHi_le (M := M) (p := pu S r) (ints M.length)
  obtain ⟨u1, u2, d1, d2, du, _⟩ := h
  have g1 := aHi_le (M := told S M r c) (p := pu S r) (told_mem.2 (.inr (.inl rfl))) (Int.le_refl _)
  have g2 := aHi_le (M := told S M r c) (p := pd S r) (told_mem.2 (.inr (.inr rfl))) (Int.le_refl _)
  dsimp only at g1 g2
  constructor
  · rcases aHi_ex (M := told S M r c) (p := pu S r) with e | ⟨m, hm, k, e⟩
    · omega
    · rcases told_mem.1 hm with hm | rfl | rfl
      · have := aHi_le hm k; omega
      · exact e
      · dsimp only at k; omega
  · rcases aHi_ex (M := told S M r c) (p := pd S r) with e | ⟨m, hm, k, e⟩
    · omega
    · rcases told_mem.1 hm with hm | rfl | rfl
      · have := aHi_le hm k; omega
      · dsimp only at e; omega
      · exact e
/-- With marks that say just the two stages of a case, and its roughness, the peak is its flow alone. -/
theorem told_one (h : Lies S M r c) (hS : Secs S) (hr : Rok S r) {r' : Rch} (e1 : r'.up = r.up) (e2 : r'.down = r.down) (e3 : r'.lo = c.roughup) (e4 : r'.hi = c.roughup) (e5 : r'.narrow = r.narrow) {c1 c2 : Cas} {a b : Int}
    (ha : IsLow S (told S M r c) (ints (told S M r c).length) r' c1 a) (hb : IsHigh S (told S M r c) (ints (told S M r c).length) r' c2 b) : a = fl S r c /\ b = fl S r c := by
  have hp := pu_pd hS hr
  have lo := told_lo h hp
  have hi := told_hi h hp
  have pu' : pu S r' = pu S r := by unfold pu; rw [e1]
  have pd' : pd S r' = pd S r := by unfold pd; rw [e2]
  have f' : ∀ c, fl S r' c = fl S r c := fun c => by unfold fl; rw [e1, e2, e5]
  obtain ⟨x, hx, e, rfl, _⟩ := ha
  obtain ⟨y, hy, e', rfl, _⟩ := hb
  have du := h.du
  have er := h.e
  unfold Dn at hx hy
  rw [pu', pd', lo.2, hi.1, hi.2] at hx hy
  obtain rfl : x = c.down := by omega
  obtain rfl : y = c.down := by omega
  rw [e, e', f', f']
  unfold lc hc
  rw [pu', lo.1, hi.1, e3, e4]
  rw [show max c.up c.down = c.up by omega]
  obtain ⟨p, q, s, t⟩ := c
  dsimp only at er ⊢
  rw [er]
  exact ⟨rfl, rfl⟩
theorem lc_lies (hr : Rok S r) (hk : ∀ x ∈ M, Mok x) (ht : Tog M (ints M.length)) {x : Int} (hx : Dn S M (ints M.length) r x) : Lies S M r (lc S M (ints M.length) r x) := by
  have h4 := st_le hk (ints_ix M) ht (Int.le_refl (pu S r))
  obtain ⟨a, b⟩ := hx
  have := hr.lh
  unfold lc
  constructor <;> dsimp only <;> omega
theorem hc_lies (hr : Rok S r) (hk : ∀ x ∈ M, Mok x) (ht : Tog M (ints M.length)) {x : Int} (hx : Dn S M (ints M.length) r x) : Lies S M r (hc S M (ints M.length) r x) := by
  have h4 := st_le hk (ints_ix M) ht (Int.le_refl (pu S r))
  obtain ⟨a, b⟩ := hx
  have := hr.lh
  unfold hc
  constructor <;> dsimp only <;> omega
theorem told_site (h : Lies S M r c) (hs : Site S M R) (hr : Rok S r) {R' : List Rch} (hR : 1 <= R'.length /\ R'.length <= 6) (hR' : ∀ x ∈ R', Rok S x) (h16 : M.length + 2 <= 16) : Site S (told S M r c) R' := by
  refine ⟨hs.s, by unfold told; simp; omega, hR, fun x hx => ?_, hR'⟩
  have ok := h.ok hr
  have k1 := hs.s.place _ hr.iu
  have k2 := hs.s.place _ hr.id
  have o1 := ok.d0
  have o2 := ok.du
  have o3 := ok.u2
  rcases told_mem.1 hx with hx | rfl | rfl
  · exact hs.mks x hx
  · constructor <;> dsimp only <;> unfold pu at * <;> omega
  · constructor <;> dsimp only <;> unfold pd at * <;> omega
end
end Fl
end Go.Nm
namespace Go.Nm
structure SOk (c u x : Int) : Prop where
  u0 : 0 <= u
  u1 : u <= c
  x0 : 0 <= x
  x1 : x < 251
theorem SOk.mono {c d u x : Int} (h : SOk c u x) (hd : c <= d) : SOk d u x := ⟨h.u0, Int.le_trans h.u1 hd, h.x0, h.x1⟩
/-- What a stream gives: a number below n. -/
structure Nx (c n : Int) (y : Int × Int × Int) : Prop where
  ok : SOk c y.2.1 y.2.2
  lt : 1 <= n -> 0 <= y.1 /\ y.1 < n
  no : n < 1 -> y.1 = 0
end Go.Nm
namespace Go.Proofs.YtlemgioaakecpaaGreat
open Go Go.Nm
theorem next_out {b : List UInt8} {c u x n : Int} (h : SOk c u x) (hc : c <= 1000000000000) (hn : n <= 1000000) : (zad b u x n).Out (Nx (c + 1) n) := by
  obtain ⟨u0, u1, x0, x1⟩ := h
  unfold zad
  refine M.o_if (fun hb => ?_) (fun hb => ?_)
  · simp only [Bool.or_eq_true, decide_eq_true_eq, beq_iff_eq] at hb
    refine M.o_pure ⟨⟨u0, by dsimp only; omega, x0, x1⟩, fun h1 => ⟨Int.le_refl _, ?_⟩, fun _ => rfl⟩
    dsimp only
    omega
  · simp only [Bool.or_eq_false_iff, decide_eq_false_iff_not, beq_eq_false_iff_ne, ne_eq] at hb
    have hl : (0 : Int) < (b.length : Int) := by omega
    have m0 := Int.emod_nonneg u (show (b.length : Int) ≠ 0 by omega)
    have m1 := Int.emod_lt_of_pos u hl
    have d0 := Int.ediv_nonneg u0 (show (0 : Int) <= (b.length : Int) by omega)
    have d1 : u / (b.length : Int) <= u := Int.ediv_le_self _ u0
    have y1 : ((b.getD (Int.toNat (u % (b.length : Int))) 0).toNat : Int) < 256 := by
      have := UInt8.toNat_lt (b.getD (Int.toNat (u % (b.length : Int))) 0)
      omega
    have y0 : (0 : Int) <= ((b.getD (Int.toNat (u % (b.length : Int))) 0).toNat : Int) := Int.natCast_nonneg _
    generalize ((b.getD (Int.toNat (u % (b.length : Int))) 0).toNat : Int) = y at *
    generalize u % (b.length : Int) = m at *
    generalize u / (b.length : Int) = d at *
    have hn0 : 0 < n := by omega
    have fin : ∀ z : Int, 0 <= z -> 0 <= z % n /\ z % n < n := fun z hz => ⟨Int.emod_nonneg _ (by omega), Int.emod_lt_of_pos _ hn0⟩
    have pr : ∀ z w : Int, 0 <= z -> Nx (c + 1) n (z % n, u + 1, w % 251) := fun z w hz => ⟨⟨by dsimp only; omega, by dsimp only; omega, by dsimp only; omega, by dsimp only; omega⟩, fun _ => fin z hz, fun h => by omega⟩
    refine M.o_grd (by simp only [Bool.and_eq_true, decide_eq_true_eq]; omega) (M.o_grd (by simp only [Bool.and_eq_true, decide_eq_true_eq]; omega) (M.o_grd (by simp only [Bool.and_eq_true, decide_eq_true_eq]; omega) ?_))
    refine M.o_if (fun h1 => ?_) (fun h1 => ?_)
    · refine M.o_grd (by simp only [Bool.and_eq_true, decide_eq_true_eq]; omega) (M.o_grd (by simp only [Bool.and_eq_true, decide_eq_true_eq]; omega) (M.o_grd (by simp only [Bool.and_eq_true, decide_eq_true_eq]; omega) (M.o_grd (by simp only [Bool.and_eq_true, decide_eq_true_eq]; omega) (M.o_grd (by simp only [Bool.and_eq_true, decide_eq_true_eq]; omega) ?_))))
      refine M.o_grd (by simp only [Bool.and_eq_true, decide_eq_true_eq]; omega) (M.o_grd (by simp only [Bool.and_eq_true, decide_eq_true_eq]; omega) (M.o_grd (by simp only [Bool.and_eq_true, decide_eq_true_eq]; omega) (M.o_grd (by simp only [Bool.and_eq_true, decide_eq_true_eq]; omega) ?_)))
      refine M.o_if (fun h2 => ?_) (fun h2 => ?_)
      · refine M.o_grd (by simp only [Bool.and_eq_true, decide_eq_true_eq]; omega) (M.o_grd (by simp only [Bool.and_eq_true, decide_eq_true_eq]; omega) (M.o_grd (by simp only [Bool.and_eq_true, decide_eq_true_eq]; omega) (M.o_pure (pr _ _ (by omega)))))
      · refine M.o_grd (by simp only [Bool.and_eq_true, decide_eq_true_eq]; omega) (M.o_pure (pr _ _ (by omega)))
    · refine M.o_grd (by simp only [Bool.and_eq_true, decide_eq_true_eq]; omega) (M.o_grd (by simp only [Bool.and_eq_true, decide_eq_true_eq]; omega) (M.o_grd (by simp only [Bool.and_eq_true, decide_eq_true_eq]; omega) (M.o_grd (by simp only [Bool.and_eq_true, decide_eq_true_eq]; omega) (M.o_grd (by simp only [Bool.and_eq_true, decide_eq_true_eq]; omega) ?_))))
      refine M.o_if (fun h2 => ?_) (fun h2 => ?_)
      · refine M.o_grd (by simp only [Bool.and_eq_true, decide_eq_true_eq]; omega) (M.o_grd (by simp only [Bool.and_eq_true, decide_eq_true_eq]; omega) (M.o_grd (by simp only [Bool.and_eq_true, decide_eq_true_eq]; omega) (M.o_pure (pr _ _ (by omega)))))
      · refine M.o_grd (by simp only [Bool.and_eq_true, decide_eq_true_eq]; omega) (M.o_pure (pr _ _ (by omega)))
theorem within_out {b : List UInt8} {c u x lo hi : Int} (h : SOk c u x) (hc : c <= 1000000000000) (h0 : -1000 <= lo) (h1 : lo <= hi) (h2 : hi <= 10000) : (zaf b u x lo hi).Out (fun y => SOk (c + 1) y.2.1 y.2.2 /\ lo <= y.1 /\ y.1 <= hi) := by
  unfold zaf
  refine M.o_grd (gA2 (by omega) (by omega)) (M.o_grd (gA2 (by omega) (by omega)) (M.o_bind (next_out h hc (by omega)) ?_))
  rintro ⟨r, u', x'⟩ ⟨k, hl, _⟩
  have := hl (by omega)
  dsimp only at this k ⊢
  exact M.o_grd (gA2 (by omega) (by omega)) (M.o_pure ⟨k, by dsimp only; omega, by dsimp only; omega⟩)
end Go.Proofs.YtlemgioaakecpaaGreat
namespace Go.Nm
theorem SOk.zero : SOk 0 0 0 := ⟨Int.le_refl _, Int.le_refl _, Int.le_refl _, by decide⟩
end Go.Nm
namespace Go.Proofs.YtlemgioaakecpaaGreat
open Go Go.Nm
theorem pick_num {v n : Int} (h : 1 <= n /\ n <= 1000000) : (zbv v n).Out (fun r => 0 <= r /\ r < n) := by
  unfold zbv
  have h1 : Int.tmod v n < n := Int.tmod_lt_of_pos v (by omega)
  have h2 : -n < Int.tmod v n := by
    have := Int.tmod_lt_of_pos (-v) (show 0 < n by omega)
    rw [Int.neg_tmod] at this
    omega
  refine M.o_f (decide_eq_false (by omega)) (M.o_grdD (by omega) (M.o_if (fun hb => ?_) (fun hb => ?_)))
  · have := of_decide_eq_true hb
    exact M.o_grd (gA2 (by omega) (by omega)) (M.o_pure (by omega))
  · have := of_decide_eq_false hb
    exact M.o_pure (by omega)
end Go.Proofs.YtlemgioaakecpaaGreat
namespace Go.Nm
namespace Fl
theorem getD_app {α : Type} {l : List α} {x d : α} {j : Nat} (h : j < l.length) : (l ++ [x]).getD j d = l.getD j d := by
  simp [List.getD, List.getElem?_append_left h]
theorem getD_appE {α : Type} {l : List α} {x d : α} {j : Nat} (h : l.length = j) : (l ++ [x]).getD j d = x := by
  subst h
  simp [List.getD]
/-- A mark about what was. -/
def Mt (S : List Sect) (t : List Int) (m : Mrk) : Prop := Mok m /\ ∃ j, j < S.length /\ (S.getD j default).place <= m.place /\ m.place <= (S.getD j default).place + 19 /\ m.lo <= t.getD j 0 /\ t.getD j 0 <= m.hi
/-- What is made so far. -/
structure Mi (S : List Sect) (M : List Mrk) (t ro : List Int) (place stage : Int) : Prop where
  tl : t.length = S.length
  rl : ro.length = S.length
  rows : ∀ j, j < S.length -> Rows (S.getD j default).rows /\ 2 <= (S.getD j default).rows.length /\ (S.getD j default).rows.length <= 8
  pl : ∀ j, j < S.length -> 0 <= (S.getD j default).place /\ (S.getD j default).place + 21 <= place
  gap : ∀ i j, i < j -> j < S.length -> (S.getD i default).place + 21 <= (S.getD j default).place
  tr : ∀ j, j < S.length -> stage <= t.getD j 0 /\ t.getD j 0 <= 400
  td : ∀ i j, i <= j -> j < S.length -> t.getD j 0 <= t.getD i 0
  mt : ∀ m ∈ M, Mt S t m
  m8 : M.length <= 8
  ro0 : ∀ j, j < S.length -> 30 <= ro.getD j 0 /\ ro.getD j 0 <= 90
  p0 : 0 <= place
  p1 : place <= 50 + 200 * S.length
  s0 : 100 <= stage + 19 * S.length
  s1 : stage <= 400
theorem Mt.app {S : List Sect} {t : List Int} {m : Mrk} {s : Sect} {v : Int} (hl : t.length = S.length) (h : Mt S t m) : Mt (S ++ [s]) (t ++ [v]) m := by
  obtain ⟨h0, j, h1, h2⟩ := h
  refine ⟨h0, j, by simp; omega, ?_⟩
  rw [getD_app h1, getD_app (by omega)]
  exact h2
theorem Mi.step {S : List Sect} {M M' : List Mrk} {t ro : List Int} {place stage p q r : Int} {rows : List FRow} (h : Mi S M t ro place stage) (hr : Rows rows) (h2 : 2 <= rows.length) (h8 : rows.length <= 8) (hm : ∀ m ∈ M', Mt (S ++ [⟨place, rows⟩]) (t ++ [stage]) m) (m8 : M'.length <= 8)
    (hp : 21 <= p /\ p <= 200) (hq : 0 <= q /\ q <= 19) (hro : 30 <= r /\ r <= 90) : Mi (S ++ [⟨place, rows⟩]) M' (t ++ [stage]) (ro ++ [r]) (place + p) (stage - q) := by
  have e1 := h.tl
  have e2 := h.rl
  have p0 := h.p0
  have p1 := h.p1
  have s0 := h.s0
  have s1 := h.s1
  have split : ∀ j, j < (S ++ [(⟨place, rows⟩ : Sect)]).length -> j < S.length ∨ j = S.length := fun j hj => by simp at hj; omega
  refine ⟨by simp [e1], by simp [e2], fun j hj => ?_, fun j hj => ?_, fun i j hij hj => ?_, fun j hj => ?_, fun i j hij hj => ?_, hm, m8, fun j hj => ?_, by omega, by simp; omega, by simp; omega, by omega⟩
  · rcases split j hj with e | rfl
    · rw [getD_app e]; exact h.rows j e
    · rw [getD_appE rfl]; exact ⟨hr, h2, h8⟩
  · rcases split j hj with e | rfl
    · rw [getD_app e]; have := h.pl j e; omega
    · rw [getD_appE rfl]; dsimp only; omega
  · rcases split j hj with e | rfl
    · rw [getD_app e, getD_app (by omega)]; exact h.gap i j hij e
    · rw [getD_appE rfl, getD_app hij]; exact (h.pl i hij).2
  · rcases split j hj with e | rfl
    · rw [getD_app (by omega)]; have := h.tr j e; omega
    · rw [getD_appE e1]; omega
  · rcases split j hj with e | rfl
    · rw [getD_app (by omega), getD_app (by omega)]; exact h.td i j hij e
    · rw [getD_appE e1]
      rcases Nat.lt_or_eq_of_le hij with e | rfl
      · rw [getD_app (by omega)]; exact (h.tr i e).1
      · rw [getD_appE e1]; exact Int.le_refl _
  · rcases split j hj with e | rfl
    · rw [getD_app (by omega)]; exact h.ro0 j e
    · rw [getD_appE e2]; exact hro
end Fl
end Go.Nm
namespace Go.Proofs.YtlemgioaakecpaaGreat
open Go Go.Nm
theorem b6_out {b : List UInt8} {c u x a0 c0 K : Int} (hS : SOk c u x) (hc : c <= 100000) (ha : 0 <= a0 /\ a0 <= 60) (hc0 : 0 <= c0 /\ c0 <= 50) (hK : 2 <= K /\ K <= 4) :
    (M.iter (zaT b) (u, x, a0, c0, K, [])).Out (fun z => SOk (c + 10) z.1 z.2.1 /\ Fl.Rows z.2.2.2 /\ 2 <= z.2.2.2.length /\ z.2.2.2.length <= 8) := by
  refine M.o_iter (fun m (s : Int × Int × Int × Int × Int × List FRow) => m = s.2.2.2.2.1.toNat /\ 0 <= s.2.2.2.2.1 /\ s.2.2.2.2.1 + s.2.2.2.2.2.length = K /\ SOk (c + 2 * s.2.2.2.2.2.length) s.1 s.2.1 /\ Fl.Rows s.2.2.2.2.2 /\ (∀ e ∈ s.2.2.2.2.2, e.stage < s.2.2.1 /\ e.carry <= s.2.2.2.1) /\ 0 <= s.2.2.1 /\ s.2.2.1 <= 60 + 200 * s.2.2.2.2.2.length /\ 0 <= s.2.2.2.1 /\ s.2.2.2.1 <= 50 + 2000 * s.2.2.2.2.2.length) ?_ _ (u, x, a0, c0, K, []) ⟨rfl, by dsimp only; omega, by simp, by simpa using hS, trivial, fun e he => (List.not_mem_nil he).elim, ha.1, by simp; omega, hc0.1, by simp; omega⟩
  rintro m ⟨u, x, a, ca, k, l⟩ ⟨rfl, k0, kl, hS, hr, he, a1, a2, c1, c2⟩
  dsimp only at k0 kl hS hr he a1 a2 c1 c2 ⊢
  simp only [zaT]
  refine M.o_if (fun hb => ?_) (fun hb => ?_)
  · have hb := of_decide_eq_true hb
    refine M.o_grd (decide_eq_true (by simp; omega)) (M.o_bind (within_out hS (by omega) (by omega) (by omega) (by omega)) ?_)
    rintro ⟨r8, u8, x8⟩ ⟨k8, g8, g8'⟩
    dsimp only at k8 g8 g8' ⊢
    refine M.o_grd (gA2 (by omega) (by omega)) (M.o_bind (next_out k8 (by omega) (by omega)) ?_)
    rintro ⟨r9, u9, x9⟩ ⟨k9, g9, _⟩
    have g9 := g9 (by omega)
    dsimp only at k9 g9 ⊢
    refine M.o_grd (gA2 (by omega) (by omega)) (M.o_grd (gA2 (by omega) (by omega)) (M.o_pure ⟨(k - 1).toNat, by omega, rfl, by dsimp only; omega, by simp; omega, k9.mono (by simp; omega), hr.snoc he a1 (by dsimp only; omega) c1 (by dsimp only; omega), fun e h => ?_, by dsimp only; omega, by simp; omega, by dsimp only; omega, by simp; omega⟩))
    rcases List.mem_append.1 h with h | h
    · have := he e h
      dsimp only
      omega
    · rw [List.mem_singleton] at h
      subst h
      dsimp only
      omega
  · have hb := of_decide_eq_false hb
    exact M.o_pure ⟨hS.mono (by omega), hr, by dsimp only; omega, by dsimp only; omega⟩
theorem b7_out {b : List UInt8} {c u x place stage k : Int} (P : Mrk -> Prop) (hP : ∀ d e f : Int, 0 <= d -> d <= 19 -> 0 <= e -> e <= 8 -> 0 <= f -> f <= 8 -> P ⟨place + d, max 0 (stage - e), stage + f⟩) (hS : SOk c u x) (hc : c <= 100000) (hk : 0 <= k /\ k <= 2) (hp : 0 <= place /\ place <= 10000) (hs : 0 <= stage /\ stage <= 1000) {l : List Mrk} (hl : l.length <= 8) (h0 : ∀ m ∈ l, P m) :
    (M.iter (zaF b 8 false place stage) (u, x, k, l)).Out (fun z => SOk (c + 8) z.1 z.2.1 /\ (∀ m ∈ z.2.2.2, P m) /\ z.2.2.2.length <= 8) := by
  refine M.o_iter (fun m (s : Int × Int × Int × List Mrk) => m = s.2.2.1.toNat /\ 0 <= s.2.2.1 /\ s.2.2.1 <= 2 /\ SOk (c + 4 * (2 - s.2.2.1)) s.1 s.2.1 /\ (∀ m ∈ s.2.2.2, P m) /\ s.2.2.2.length <= 8) ?_ _ (u, x, k, l) ⟨rfl, hk.1, hk.2, hS.mono (by dsimp only; omega), h0, hl⟩
  rintro m ⟨u, x, k, l⟩ ⟨rfl, k0, k2, hS, hm, h8⟩
  dsimp only at k0 k2 hS hm h8 ⊢
  simp only [zaF]
  refine M.o_if (fun hb => ?_) (fun hb => ?_)
  · rw [Bool.and_eq_true, decide_eq_true_eq, decide_eq_true_eq] at hb
    refine M.o_bind (next_out hS (by omega) (by omega)) ?_
    rintro ⟨r1, u1, x1⟩ ⟨k1, g1, _⟩
    have g1 := g1 (by omega)
    dsimp only at k1 g1 ⊢
    refine M.o_bind (next_out k1 (by omega) (by omega)) ?_
    rintro ⟨r2, u2, x2⟩ ⟨kk2, g2, _⟩
    have g2 := g2 (by omega)
    dsimp only at kk2 g2 ⊢
    have hd : 0 <= r1 * r2 /\ r1 * r2 <= 19 := by
      rcases (by omega : r1 = 0 ∨ r1 = 1) with rfl | rfl
      · simp
      · simp; omega
    generalize r1 * r2 = d at hd ⊢
    refine M.o_grd (gA2 (by omega) (by omega)) (M.o_grd (gA2 (by omega) (by omega)) (M.o_bind (next_out kk2 (by omega) (by omega)) ?_))
    rintro ⟨r3, u3, x3⟩ ⟨k3, g3, _⟩
    have g3 := g3 (by omega)
    dsimp only at k3 g3 ⊢
    refine M.o_grd (gA2 (by omega) (by omega)) (M.o_bind (next_out k3 (by omega) (by omega)) ?_)
    rintro ⟨r4, u4, x4⟩ ⟨k4, g4, _⟩
    have g4 := g4 (by omega)
    dsimp only at k4 g4 ⊢
    refine M.o_grd (gA2 (by omega) (by omega)) (M.o_f rfl (M.o_grd (decide_eq_true (by simp; omega)) (M.o_grd (gA2 (by omega) (by omega)) (M.o_pure ⟨(k - 1).toNat, by omega, rfl, by dsimp only; omega, by dsimp only; omega, k4.mono (by dsimp only; omega), fun m h => ?_, by simp; omega⟩))))
    rcases List.mem_append.1 h with h | h
    · exact hm m h
    · rw [List.mem_singleton] at h
      subst h
      exact hP _ _ _ hd.1 hd.2 (by omega) (by omega) (by omega) (by omega)
  · exact M.o_pure ⟨hS.mono (by omega), hm, h8⟩
end Go.Proofs.YtlemgioaakecpaaGreat
