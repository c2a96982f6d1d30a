/- Part 5 of the texts on which the proof rests. Conditions: none. -/
import Derived.KernelRfl
import Derived.Test.YtlemgioaakecpaaGreatZI4
set_option linter.unusedVariables false
set_option linter.unusedSimpArgs false
set_option linter.unusedSectionVars false
section
set_option maxRecDepth 100000
set_option maxHeartbeats 16000000
namespace Go.Proofs.YtlemgioaakecpaaGreat
open Go Go.Nm
def zbr (place : Int) (lo : Int) (hi : Int) : M (Int × Int × Int) :=
  M.pure (place, lo, hi)
theorem zbI {R : List Chunk}  (place : Int) (lo : Int) (hi : Int)  {r : (Int × Int × Int)} (hM : (zbr place lo hi).Ends r) (w : World) (H : St w w [] R) : Ret Tryz.prog 61 #[I place, I lo, I hi] w fun v w' => ∃ (y0 : Int) (y1 : Int) (y2 : Int), (y0, y1, y2) = r /\ v = .agg #[I y0, I y1, I y2] /\ St w w' [] R := by
 refine ret_of_W Tryz.func61 rfl rfl rfl ?_
 refine W.seq ?_
 refine W.region rfl ?_
 refine t_alloc (cs := [I 0, I 0, I 0]) H Al70 rfl ?_
 intro ac ae H
 refine s_nil ?_
 refine W.seq ?_
 refine W.region rfl ?_
 refine zM (I place) rfl ?_
 refine zM (I lo) rfl ?_
 refine zM (I hi) rfl ?_
 refine s_val (x_bld (ps := [(0, I lo), (1, I hi)]) (zs := [I 0, I 0]) (L' := [I lo, I hi]) rfl Tryz.underlying54 Al54 rfl (Bd54 Tryz.underlying54) (.cons (cs := [I lo]) rfl rfl rfl rfl rfl <| .cons (cs := [I hi]) rfl rfl rfl rfl rfl <| .nil)) ?_
 refine s_val (x_bld (ps := [(0, I place), (1, .agg #[I lo, I hi])]) (zs := [I 0, I 0, I 0]) (L' := [I place, I lo, I hi]) rfl Tryz.underlying70 Al70 rfl (Bd70 Tryz.underlying70) (.cons (cs := [I place]) rfl rfl rfl rfl rfl <| .cons (cs := [I lo, I hi]) rfl rfl rfl rfl rfl <| .nil)) ?_
 refine t_sw 0 0 [I place, I lo, I hi] (.agg #[I place, I lo, I hi]) H rfl rfl Sz70 rfl rfl rfl rfl ?_
 intro ag H
 refine s_nil ?_
 refine W.ret ?_
 have aa := (H.bl 0)
 have ab := M.e_pure hM
 exact ⟨_, (resE_of1 (v := .agg #[I place, I lo, I hi]) rfl (.cell (v := .agg #[I place, I lo, I hi]) rfl (run_loadVar_ag (ds := [I place, I lo, I hi]) Ag70 Sz70 aa rfl rfl) <| .nil)), ⟨place, lo, hi, ab, rfl, (H.pk [])⟩⟩

def zaS (marks : List Mrk) : M ((List Sect) × (List Mrk) × (List Rch)) :=
  M.bind (zbr 0 150 160) fun (r0, r1, r2) =>
  M.bind (zbr 100 100 110) fun (aa, ab, ac) =>
  M.grd (decide ((([(⟨(r0 : Int), (r1 : Int), (r2 : Int)⟩ : Mrk), (⟨(aa : Int), (ab : Int), (ac : Int)⟩ : Mrk)]).length + marks.length) * 24 <= 140737488355328)) <|
  M.pure (([(⟨(0 : Int), ([(⟨(0 : Int), (0 : Int)⟩ : FRow), (⟨(200 : Int), (2000 : Int)⟩ : FRow)])⟩ : Sect), (⟨(100 : Int), ([(⟨(0 : Int), (0 : Int)⟩ : FRow), (⟨(200 : Int), (2000 : Int)⟩ : FRow)])⟩ : Sect)]), (([(⟨(r0 : Int), (r1 : Int), (r2 : Int)⟩ : Mrk), (⟨(aa : Int), (ab : Int), (ac : Int)⟩ : Mrk)]) ++ marks), ([(⟨(0 : Int), (1 : Int), (50 : Int), (100 : Int), false⟩ : Rch)]))
theorem zbw {R : List Chunk} {aq : Cells} {ao : Value} (marks : List Mrk) (ay : Reads R aq) (az : Sl aq ao marks) {r : ((List Sect) × (List Mrk) × (List Rch))} (hM : (zaS marks).Ends r) (w : World) (H : St w w [] R) : Ret Tryz.prog 60 #[ao] w fun v w' => ∃ (y0 : List Sect) (y1 : List Mrk) (y2 : List Rch) (u0 : Value) (rr1 : List (Raw 1)) (au : Base) (u3 : Value) (u4 : Value), (y0, y1, y2) = r /\ v = .agg #[u0, u3, u4] /\ St w w' [cOwn (α := Raw 1) 68 u0 rr1, cRo au, cOwn (α := Mrk) 70 u3 y1, cOwn (α := Rch) 58 u4 y2] R /\ RepR (α := Sect) au.cells rr1 y0 := by
 refine ret_of_W Tryz.func60 rfl rfl rfl ?_
 refine W.seq ?_
 refine W.region rfl ?_
 refine t_alloc (cs := [.slice none 0 0, .slice none 0 0, .slice none 0 0]) H Al27 rfl ?_
 intro aJ aK H
 refine s_nil ?_
 refine W.seq ?_
 refine W.region rfl ?_
 refine s_val (x_bld (ps := []) (zs := [I 0, I 0]) (L' := [I 0, I 0]) rfl Tryz.underlying109 Al109 rfl (Bd109 Tryz.underlying109) (.nil)) ?_
 refine s_val (x_bld (ps := [(0, I 200), (1, I 2000)]) (zs := [I 0, I 0]) (L' := [I 200, I 2000]) rfl Tryz.underlying109 Al109 rfl (Bd109 Tryz.underlying109) (.cons (cs := [I 200]) rfl rfl rfl rfl rfl <| .cons (cs := [I 2000]) rfl rfl rfl rfl rfl <| .nil)) ?_
 refine t_bs (α := FRow) T66 [.agg #[I 0, I 0], .agg #[I 200, I 2000]] [(⟨(0 : Int), (0 : Int)⟩ : FRow), (⟨(200 : Int), (2000 : Int)⟩ : FRow)] H rfl (.cons rfl (Flat.rep_enc _ (⟨(0 : Int), (0 : Int)⟩ : FRow)) <| .cons rfl (Flat.rep_enc _ (⟨(200 : Int), (2000 : Int)⟩ : FRow)) <| .nil) rfl rfl rfl ?_
 intro aa aL H
 refine zA aa rfl ?_
 refine s_nil ?_
 refine W.seq ?_
 refine W.region rfl ?_
 refine zM aa rfl ?_
 refine s_val (x_bld (ps := [(1, aa)]) (zs := [I 0, .slice none 0 0]) (L' := [I 0, aa]) rfl Tryz.underlying68 Al68 rfl (Bd68 Tryz.underlying68) (.cons (cs := [aa]) (Sl.cells (H.os 0)) rfl rfl rfl rfl <| .nil)) ?_
 refine zM aa rfl ?_
 refine s_val (x_bld (ps := [(0, I 100), (1, aa)]) (zs := [I 0, .slice none 0 0]) (L' := [I 100, aa]) rfl Tryz.underlying68 Al68 rfl (Bd68 Tryz.underlying68) (.cons (cs := [I 100]) rfl rfl rfl rfl rfl <| .cons (cs := [aa]) (Sl.cells (H.os 0)) rfl rfl rfl rfl <| .nil)) ?_
 obtain ⟨aM, H⟩ := H.emptyE
 obtain ⟨aN, H, aA⟩ := H.freezeE (k := 1) rfl
 replace H := H.nf
 have ag := aA
 obtain ⟨av, H, aO, aB⟩ := H.joinE (i := 0) (j := 1) rfl rfl
 replace ag := ag.mono aB
 obtain ⟨ak, aw⟩ : ∃ r : Raw 1, r.cs = [I 0, aa] := ⟨Raw.of [I 0, aa] rfl (by simp only [List.all_cons, List.all_nil, Bool.true_and, Bool.and_true, Sl.oc ag]; try rfl), rfl⟩
 obtain ⟨al, ax⟩ : ∃ r : Raw 1, r.cs = [I 100, aa] := ⟨Raw.of [I 100, aa] rfl (by simp only [List.all_cons, List.all_nil, Bool.true_and, Bool.and_true, Sl.oc ag]; try rfl), rfl⟩
 have ap : RepR (α := Sect) av.cells [ak, al] [(⟨(0 : Int), ([(⟨(0 : Int), (0 : Int)⟩ : FRow), (⟨(200 : Int), (2000 : Int)⟩ : FRow)])⟩ : Sect), (⟨(100 : Int), ([(⟨(0 : Int), (0 : Int)⟩ : FRow), (⟨(200 : Int), (2000 : Int)⟩ : FRow)])⟩ : Sect)] := .cons (by rw [aw]; exact ⟨_, rfl, ag⟩) <| .cons (by rw [ax]; exact ⟨_, rfl, ag⟩) <| .nil
 refine t_bs (α := Raw 1) T23 [.agg #[I 0, aa], .agg #[I 100, aa]] [ak, al] H rfl (.cons (by rw [show (Flat.enc ak : List Value) = ak.cs from rfl, aw]; rfl) (Flat.rep_enc _ _) <| .cons (by rw [show (Flat.enc al : List Value) = al.cs from rfl, ax]; rfl) (Flat.rep_enc _ _) <| .nil) rfl rfl rfl ?_
 intro ab aP H
 replace H := H.nf
 obtain ⟨aQ, aC, hM⟩ := M.e_bind hM
 refine s_call cf61 [I 0, I 150, I 160] rfl (zbI 0 150 160 aC _ (H.gt 5)) ?_
 rintro vq aR ⟨r0, r1, r2, aD, hvq, am⟩
 subst aD
 subst vq
 try dsimp only at hM
 replace H := H.bk am
 clear am
 obtain ⟨aS, aE, hM⟩ := M.e_bind hM
 refine s_call cf61 [I 100, I 100, I 110] rfl (zbI 100 100 110 aE _ (H.gt 5)) ?_
 rintro vq aT ⟨ah, ai, aj, aF, hvq, am⟩
 subst aF
 subst vq
 try dsimp only at hM
 replace H := H.bk am
 clear am
 refine t_bs (α := Mrk) T24 [.agg #[I r0, I r1, I r2], .agg #[I ah, I ai, I aj]] [(⟨(r0 : Int), (r1 : Int), (r2 : Int)⟩ : Mrk), (⟨(ah : Int), (ai : Int), (aj : Int)⟩ : Mrk)] H rfl (.cons rfl (Flat.rep_enc _ (⟨(r0 : Int), (r1 : Int), (r2 : Int)⟩ : Mrk)) <| .cons rfl (Flat.rep_enc _ (⟨(ah : Int), (ai : Int), (aj : Int)⟩ : Mrk)) <| .nil) rfl rfl rfl ?_
 intro aU aV H
 refine zM ao rfl ?_
 obtain ⟨aG, hM⟩ := M.e_grd hM
 simp only [Bool.and_eq_true, decide_eq_true_eq] at aG
 refine t_app (α := Mrk) (k := 0) (l := [(⟨(r0 : Int), (r1 : Int), (r2 : Int)⟩ : Mrk), (⟨(ah : Int), (ai : Int), (aj : Int)⟩ : Mrk)]) (l2 := marks) (l' := ([(⟨(r0 : Int), (r1 : Int), (r2 : Int)⟩ : Mrk), (⟨(ah : Int), (ai : Int), (aj : Int)⟩ : Mrk)]) ++ marks) (vy := ao) T24 rfl H rfl rfl rfl az (ay.at H) (rfl) (by first | omega | (simp only [List.length_nil] at *; omega)) ?_
 intro ac aW H
 replace H := H.nf
 refine s_val (x_bld (ps := [(0, I 50), (1, I 100)]) (zs := [I 0, I 0]) (L' := [I 50, I 100]) rfl Tryz.underlying54 Al54 rfl (Bd54 Tryz.underlying54) (.cons (cs := [I 50]) rfl rfl rfl rfl rfl <| .cons (cs := [I 100]) rfl rfl rfl rfl rfl <| .nil)) ?_
 refine s_val (x_bld (ps := [(1, I 1), (2, .agg #[I 50, I 100])]) (zs := [I 0, I 0, I 0, I 0, B false]) (L' := [I 0, I 1, I 50, I 100, B false]) rfl Tryz.underlying58 Al58 rfl (Bd58 Tryz.underlying58) (.cons (cs := [I 1]) rfl rfl rfl rfl rfl <| .cons (cs := [I 50, I 100]) rfl rfl rfl rfl rfl <| .nil)) ?_
 refine t_bs (α := Rch) T25 [.agg #[I 0, I 1, I 50, I 100, B false]] [(⟨(0 : Int), (1 : Int), (50 : Int), (100 : Int), false⟩ : Rch)] H rfl (.cons rfl (Flat.rep_enc _ (⟨(0 : Int), (1 : Int), (50 : Int), (100 : Int), false⟩ : Rch)) <| .nil) rfl rfl rfl ?_
 intro ae aX H
 refine s_val (x_bld (ps := [(0, ab), (1, ac), (2, ae)]) (zs := [.slice none 0 0, .slice none 0 0, .slice none 0 0]) (L' := [ab, ac, ae]) rfl Tryz.underlying27 Al27 rfl (Bd27 Tryz.underlying27) (.cons (cs := [ab]) (Sl.cells (rowSl rfl (H.get (k := 2) rfl) (roLe _ (H.get (k := 3) rfl)) ap)) rfl rfl rfl rfl <| .cons (cs := [ac]) (Sl.cells (H.os 1)) rfl rfl rfl rfl <| .cons (cs := [ae]) (Sl.cells (H.os 0)) rfl rfl rfl rfl <| .nil)) ?_
 refine t_sw 6 0 [ab, ac, ae] (.agg #[ab, ac, ae]) H rfl rfl Sz27 rfl rfl rfl (by simp only [List.all_cons, List.all_nil, Bool.true_and, Bool.and_true, Sl.oc (rowSl rfl (H.get (k := 2) rfl) (roLe _ (H.get (k := 3) rfl)) ap), Sl.oc (H.os 1), Sl.oc (H.os 0)]; try rfl) ?_
 intro aY H
 refine s_nil ?_
 replace H := H.pk [0, 1, 2, 3, 6]
 refine W.ret ?_
 have aH := (H.bl 4)
 have aI := M.e_pure hM
 exact ⟨_, (resE_of1 (v := .agg #[ab, ac, ae]) rfl (.cell (v := .agg #[ab, ac, ae]) rfl (run_loadVar_ag (ds := [ab, ac, ae]) Ag27 Sz27 aH rfl rfl) <| .nil)), ⟨([(⟨(0 : Int), ([(⟨(0 : Int), (0 : Int)⟩ : FRow), (⟨(200 : Int), (2000 : Int)⟩ : FRow)])⟩ : Sect), (⟨(100 : Int), ([(⟨(0 : Int), (0 : Int)⟩ : FRow), (⟨(200 : Int), (2000 : Int)⟩ : FRow)])⟩ : Sect)]), (([(⟨(r0 : Int), (r1 : Int), (r2 : Int)⟩ : Mrk), (⟨(ah : Int), (ai : Int), (aj : Int)⟩ : Mrk)]) ++ marks), ([(⟨(0 : Int), (1 : Int), (50 : Int), (100 : Int), false⟩ : Rch)]), ab, [ak, al], av, ac, ae, aI, rfl, (H.pk [2, 3, 1, 0]), ap⟩⟩

def zb9 : M Bool :=
  M.bind (zaS ([] : List Mrk)) fun (r0, r1, r2) =>
  M.bind (zaj r0 r1 r2 ([(0 : Int), (1 : Int)]) 0) fun (ah, ai, aj) =>
  M.bind (zaS ([] : List Mrk)) fun (az, aA, aB) =>
  M.bind (zcs az aA aB 0 (⟨(160 : Int), (110 : Int), (50 : Int), (50 : Int)⟩ : Cas)) fun (ak, al) =>
  M.bind (zaS ([] : List Mrk)) fun (aC, aD, ag) =>
  M.grd (decide (0 < (ag.length : Int))) <|
  M.bind (zaj aC aD (ag.set 0 ({ (ag.getD 0 default) with narrow := true })) ([(0 : Int), (1 : Int)]) 0) fun (aH, am, ao) =>
  M.bind (zbr 50 170 180) fun (aE, aF, aG) =>
  M.bind (zaS ([(⟨(aE : Int), (aF : Int), (aG : Int)⟩ : Mrk)])) fun (aa, ab, ac) =>
  M.bind (zci aa ab ac 0 2) fun (ap, aq) =>
  M.bind (zck aa ab ac) fun (au, av) =>
  M.bind (zcn aa ab ac 2 ([[(0 : Int), (2 : Int)], [(1 : Int)]])) fun (aw, ax) =>
  M.bind (zcr aa ab ac ([(1 : Int), (2 : Int)])) fun (ae, ay) =>
  M.grd ((!((((((((((((((aj == 0) && (al == 0)) && (ao == 0)) && (aq == 0)) && (av == 0)) && (ax == 0)) && (ay == 0)) && (decide ((⟨(ah : Int), (ai : Int)⟩ : Span) = (⟨(812 : Int), (1959 : Int)⟩ : Span)))) && (ak == 1876)) && (am == 1557)) && ap) && ((au.length : Int) == 2)) && aw) && ((ae.length : Int) == 2)) || (decide (0 < (ae.length : Int))))) <|
  M.pure (((((((((((((((aj == 0) && (al == 0)) && (ao == 0)) && (aq == 0)) && (av == 0)) && (ax == 0)) && (ay == 0)) && (decide ((⟨(ah : Int), (ai : Int)⟩ : Span) = (⟨(812 : Int), (1959 : Int)⟩ : Span)))) && (ak == 1876)) && (am == 1557)) && ap) && ((au.length : Int) == 2)) && aw) && ((ae.length : Int) == 2)) && (decide ((ae.getD 0 default) = (⟨(170 : Int), (2000 : Int)⟩ : Span))))
theorem zc7 {R : List Chunk}    {r : Bool} (hM : (zb9).Ends r) (w : World) (H : St w w [] R) : Ret Tryz.prog 16 #[] w fun v w' => ∃ (y0 : Bool), y0 = r /\ v = B y0 /\ St w w' [] R := by
 refine ret_of_W Tryz.func16 rfl rfl rfl ?_
 refine W.seq ?_
 refine W.region rfl ?_
 refine zA (B false) rfl ?_
 refine s_nil ?_
 refine W.seq ?_
 refine W.region rfl ?_
 refine t_bs (α := Int) T28 [I 0, I 1] [(0 : Int), (1 : Int)] H rfl (.cons rfl (Flat.rep_enc _ (0 : Int)) <| .cons rfl (Flat.rep_enc _ (1 : Int)) <| .nil) rfl rfl rfl ?_
 intro aJ b9 H
 refine zA aJ rfl ?_
 refine s_nil ?_
 refine W.seq ?_
 refine W.region rfl ?_
 obtain ⟨cc, bc, hM⟩ := M.e_bind hM
 refine s_call cf60 [.slice none 0 0] rfl (zbw ([] : List Mrk) Reads.none (Sl.nil (fun _ => none)) bc _ (H.gt 1)) ?_
 rintro vq cd ⟨r0, r1, r2, bf, ce, cf, bg, bh, bi, hvq, ap, bj⟩
 subst bi
 subst vq
 try dsimp only at hM
 replace H := H.bk ap
 clear ap
 refine zM aJ rfl ?_
 obtain ⟨cg, bm, hM⟩ := M.e_bind hM
 refine s_call cf20 [.agg #[bf, bg, bh], aJ, I 0] rfl (zal r0 r1 r2 ([(0 : Int), (1 : Int)]) 0 (Reads.sup (rdo 0) (Reads.of (k := 1) rfl roLe)) (rowSl rfl (H.get (k := 0) rfl) (roLe _ (H.get (k := 1) rfl)) bj) (rdo 2) (H.os 2) (rdo 3) (H.os 3) (rdo 4) (H.os 4) bm _ (H.gt 5)) ?_
 rintro vq ch ⟨aj, ak, aa, bn, hvq, ap⟩
 subst bn
 subst vq
 try dsimp only at hM
 replace H := H.bk ap
 clear ap
 refine zM (.tuple #[.agg #[I aj, I ak], I aa]) rfl ?_
 refine zX [.agg #[I aj, I ak], I aa] (.agg #[I aj, I ak]) rfl rfl ?_
 refine zX [.agg #[I aj, I ak], I aa] (I aa) rfl rfl ?_
 refine t_alloc (cs := [I 0, I 0]) H Al54 rfl ?_
 intro a6 ci H
 refine t_sw 0 0 [I aj, I ak] (.agg #[I aj, I ak]) H rfl rfl Sz54 rfl rfl rfl rfl ?_
 intro cj H
 refine zA (I aa) rfl ?_
 refine s_nil ?_
 replace H := H.pk [0, 5]
 refine W.seq ?_
 refine W.region rfl ?_
 obtain ⟨ck, bo, hM⟩ := M.e_bind hM
 refine s_call cf60 [.slice none 0 0] rfl (zbw ([] : List Mrk) Reads.none (Sl.nil (fun _ => none)) bo _ (H.gt 2)) ?_
 rintro vq cn ⟨bp, bq, br, bt, co, cp, bu, bv, bw, hvq, ap, bx⟩
 subst bw
 subst vq
 try dsimp only at hM
 replace H := H.bk ap
 clear ap
 refine s_val (x_bld (ps := [(0, I 160), (1, I 110), (2, I 50), (3, I 50)]) (zs := [I 0, I 0, I 0, I 0]) (L' := [I 160, I 110, I 50, I 50]) rfl Tryz.underlying61 Al61 rfl (Bd61 Tryz.underlying61) (.cons (cs := [I 160]) rfl rfl rfl rfl rfl <| .cons (cs := [I 110]) rfl rfl rfl rfl rfl <| .cons (cs := [I 50]) rfl rfl rfl rfl rfl <| .cons (cs := [I 50]) rfl rfl rfl rfl rfl <| .nil)) ?_
 obtain ⟨cq, bz, hM⟩ := M.e_bind hM
 refine s_call cf22 [.agg #[bt, bu, bv], I 0, .agg #[I 160, I 110, I 50, I 50]] rfl (zda bp bq br 0 (⟨(160 : Int), (110 : Int), (50 : Int), (50 : Int)⟩ : Cas) (Reads.sup (rdo 0) (Reads.of (k := 1) rfl roLe)) (rowSl rfl (H.get (k := 0) rfl) (roLe _ (H.get (k := 1) rfl)) bx) (rdo 2) (H.os 2) (rdo 3) (H.os 3) bz _ (H.gt 6)) ?_
 rintro vq cr ⟨al, ab, bA, hvq, ap⟩
 subst bA
 subst vq
 try dsimp only at hM
 replace H := H.bk ap
 clear ap
 refine zM (.tuple #[I al, I ab]) rfl ?_
 refine zX [I al, I ab] (I al) rfl rfl ?_
 refine zX [I al, I ab] (I ab) rfl rfl ?_
 refine zA (I al) rfl ?_
 refine zA (I ab) rfl ?_
 refine s_nil ?_
 replace H := H.pk [4, 5]
 refine W.seq ?_
 refine W.region rfl ?_
 obtain ⟨ct, bB, hM⟩ := M.e_bind hM
 refine s_call cf60 [.slice none 0 0] rfl (zbw ([] : List Mrk) Reads.none (Sl.nil (fun _ => none)) bB _ (H.gt 2)) ?_
 rintro vq cu ⟨bC, a7, aB, aD, bD, bE, aE, aC, bF, hvq, ap, a8⟩
 subst bF
 subst vq
 try dsimp only at hM
 replace H := H.bk ap
 clear ap
 refine t_alloc (cs := [.slice none 0 0, .slice none 0 0, .slice none 0 0]) H Al27 rfl ?_
 intro aL cv H
 refine t_sw 0 0 [aD, aE, aC] (.agg #[aD, aE, aC]) H rfl rfl Sz27 rfl rfl rfl (by simp only [List.all_cons, List.all_nil, Bool.true_and, Bool.and_true, Sl.oc (rowSl rfl (H.get (k := 1) rfl) (roLe _ (H.get (k := 2) rfl)) a8), Sl.oc (H.os 3), Sl.oc (H.os 4)]; try rfl) ?_
 intro cw H
 refine s_nil ?_
 refine W.seq ?_
 refine W.region rfl ?_
 refine s_val (x_fa (a := Pq aL) (v := Oq aL 2) rfl (fa_blk (o := 0) Fd27_2 Sz25)) ?_
 refine s_val (x_ld (p := Oq aL 2) (v := aC) rfl (ldb_sc Sc25 (H.bl 0) rfl)) ?_
 obtain ⟨bG, hM⟩ := M.e_grd hM
 simp only [Bool.and_eq_true, decide_eq_true_eq] at bG
 refine s_val (x_ix (a := aC) (b := I 0) (v := vat aC 5 (Int.toNat 0)) rfl rfl (Sl.ix (α := Rch) T25.und T25.size (H.os 4) (by omega) (by omega))) ?_
 refine s_val (x_fa (a := vat aC 5 (Int.toNat 0)) (v := fat (vat aC 5 (Int.toNat 0)) 4) rfl (fa_pl Fd58_3 Sz4 (Sl.pl (i := 0) (H.os 4) (by omega) (by omega)))) ?_
 refine t_fst (α := Rch) (k := 4) (i := 0) (off := 4) (l := aB) (l' := aB.set 0 ({ (aB.getD 0 default) with narrow := true })) (val := B true) (L' := [cBlk aL [aD, aE, aC] 27, cOwn (α := Raw 1) 68 aD bD, cRo bE, cOwn (α := Mrk) 70 aE a7, cOwn (α := Rch) 58 aC (aB.set 0 ({ (aB.getD 0 default) with narrow := true })), cBlk a6 [I aj, I ak] 54, cOwn (α := Int) 3 aJ ([(0 : Int), (1 : Int)])]) H rfl Sz4 (by omega) (by omega) (aB.getD 0 default) ({ (aB.getD 0 default) with narrow := true }) (getD_some _ (by omega) _) rfl rfl [B true] rfl rfl rfl rfl rfl rfl rfl ?_
 intro cx H
 have cy : (aB.set 0 ({ (aB.getD 0 default) with narrow := true })).length = (aB).length := List.length_set
 refine s_nil ?_
 refine W.seq ?_
 refine W.region rfl ?_
 refine s_val (x_ld (p := Pq aL) (v := .agg #[aD, aE, aC]) rfl (ldb_ag (ds := [aD, aE, aC]) Ag27 Sz27 (H.bl 0) rfl rfl)) ?_
 refine zM aJ rfl ?_
 obtain ⟨cz, bH, hM⟩ := M.e_bind hM
 refine s_call cf20 [.agg #[aD, aE, aC], aJ, I 0] rfl (zal bC a7 (aB.set 0 ({ (aB.getD 0 default) with narrow := true })) ([(0 : Int), (1 : Int)]) 0 (Reads.sup (rdo 1) (Reads.of (k := 2) rfl roLe)) (rowSl rfl (H.get (k := 1) rfl) (roLe _ (H.get (k := 2) rfl)) a8) (rdo 3) (H.os 3) (rdo 4) (H.os 4) (rdo 6) (H.os 6) bH _ (H.gt 7)) ?_
 rintro vq cA ⟨aK, am, ac, bI, hvq, ap⟩
 subst bI
 subst vq
 try dsimp only at hM
 replace H := H.bk ap
 clear ap
 refine zM (.tuple #[.agg #[I aK, I am], I ac]) rfl ?_
 refine zX [.agg #[I aK, I am], I ac] (.agg #[I aK, I am]) rfl rfl ?_
 refine zX [.agg #[I aK, I am], I ac] (I ac) rfl rfl ?_
 refine t_alloc (cs := [I 0, I 0]) H Al54 rfl ?_
 intro aO cB H
 refine t_sw 0 0 [I aK, I am] (.agg #[I aK, I am]) H rfl rfl Sz54 rfl rfl rfl rfl ?_
 intro cC H
 refine zA (I ac) rfl ?_
 refine s_nil ?_
 replace H := H.pk [0, 6]
 refine W.seq ?_
 refine W.region rfl ?_
 obtain ⟨cD, bJ, hM⟩ := M.e_bind hM
 refine s_call cf61 [I 50, I 170, I 180] rfl (zbI 50 170 180 bJ _ (H.gt 2)) ?_
 rintro vq cE ⟨aP, aQ, aR, bK, hvq, ap⟩
 subst bK
 subst vq
 try dsimp only at hM
 replace H := H.bk ap
 clear ap
 refine t_bs (α := Mrk) T24 [.agg #[I aP, I aQ, I aR]] [(⟨(aP : Int), (aQ : Int), (aR : Int)⟩ : Mrk)] H rfl (.cons rfl (Flat.rep_enc _ (⟨(aP : Int), (aQ : Int), (aR : Int)⟩ : Mrk)) <| .nil) rfl rfl rfl ?_
 intro bL cF H
 obtain ⟨cG, bM, hM⟩ := M.e_bind hM
 refine s_call cf60 [bL] rfl (zbw ([(⟨(aP : Int), (aQ : Int), (aR : Int)⟩ : Mrk)]) (rdo 0) (H.os 0) bM _ (H.gt 3)) ?_
 rintro vq cH ⟨aS, aT, aU, ax, cI, cJ, ay, az, bN, hvq, ap, aM⟩
 subst bN
 subst vq
 try dsimp only at hM
 replace H := H.bk ap
 clear ap
 refine t_alloc (cs := [.slice none 0 0, .slice none 0 0, .slice none 0 0]) H Al27 rfl ?_
 intro aV cK H
 refine t_sw 0 0 [ax, ay, az] (.agg #[ax, ay, az]) H rfl rfl Sz27 rfl rfl rfl (by simp only [List.all_cons, List.all_nil, Bool.true_and, Bool.and_true, Sl.oc (rowSl rfl (H.get (k := 1) rfl) (roLe _ (H.get (k := 2) rfl)) aM), Sl.oc (H.os 3), Sl.oc (H.os 4)]; try rfl) ?_
 intro cL H
 refine s_nil ?_
 refine W.seq ?_
 refine W.region rfl ?_
 refine s_val (x_ld (p := Pq aV) (v := .agg #[ax, ay, az]) rfl (ldb_ag (ds := [ax, ay, az]) Ag27 Sz27 (H.bl 0) rfl rfl)) ?_
 obtain ⟨cM, bO, hM⟩ := M.e_bind hM
 refine s_call cf30 [.agg #[ax, ay, az], I 0, I 2] rfl (zcR aS aT aU 0 2 (Reads.sup (rdo 1) (Reads.of (k := 2) rfl roLe)) (rowSl rfl (H.get (k := 1) rfl) (roLe _ (H.get (k := 2) rfl)) aM) (rdo 3) (H.os 3) (rdo 4) (H.os 4) bO _ (H.gt 8)) ?_
 rintro vq cN ⟨ao, ae, bP, hvq, ap⟩
 subst bP
 subst vq
 try dsimp only at hM
 replace H := H.bk ap
 clear ap
 refine zM (.tuple #[B ao, I ae]) rfl ?_
 refine zX [B ao, I ae] (B ao) rfl rfl ?_
 refine zX [B ao, I ae] (I ae) rfl rfl ?_
 refine zA (B ao) rfl ?_
 refine zA (I ae) rfl ?_
 refine s_nil ?_
 refine W.seq ?_
 refine W.region rfl ?_
 refine s_val (x_ld (p := Pq aV) (v := .agg #[ax, ay, az]) rfl (ldb_ag (ds := [ax, ay, az]) Ag27 Sz27 (H.bl 0) rfl rfl)) ?_
 obtain ⟨cO, bQ, hM⟩ := M.e_bind hM
 refine s_call cf10 [.agg #[ax, ay, az]] rfl (zcH aS aT aU (Reads.sup (rdo 1) (Reads.of (k := 2) rfl roLe)) (rowSl rfl (H.get (k := 1) rfl) (roLe _ (H.get (k := 2) rfl)) aM) (rdo 3) (H.os 3) (rdo 4) (H.os 4) bQ _ (H.gt 8)) ?_
 rintro vq cP ⟨aq, ag, aF, bR, hvq, ap⟩
 subst bR
 subst vq
 try dsimp only at hM
 replace H := H.bk ap
 clear ap
 refine zM (.tuple #[aF, I ag]) rfl ?_
 refine zX [aF, I ag] aF rfl rfl ?_
 refine zX [aF, I ag] (I ag) rfl rfl ?_
 refine zA aF rfl ?_
 refine zA (I ag) rfl ?_
 refine s_nil ?_
 refine W.seq ?_
 refine W.region rfl ?_
 refine s_val (x_ld (p := Pq aV) (v := .agg #[ax, ay, az]) rfl (ldb_ag (ds := [ax, ay, az]) Ag27 Sz27 (H.bl 1) rfl rfl)) ?_
 refine t_bs (α := Int) T28 [I 0, I 2] [(0 : Int), (2 : Int)] H rfl (.cons rfl (Flat.rep_enc _ (0 : Int)) <| .cons rfl (Flat.rep_enc _ (2 : Int)) <| .nil) rfl rfl rfl ?_
 intro aY cQ H
 refine t_bs (α := Int) T28 [I 1] [(1 : Int)] H rfl (.cons rfl (Flat.rep_enc _ (1 : Int)) <| .nil) rfl rfl rfl ?_
 intro aZ cR H
 obtain ⟨cS, H⟩ := H.emptyE
 obtain ⟨cT, H, bS⟩ := H.freezeE (k := 2) rfl
 replace H := H.nf
 have aG := bS
 obtain ⟨cU, H, cV, bT⟩ := H.joinE (i := 0) (j := 2) rfl rfl
 replace aG := aG.mono bT
 obtain ⟨cW, H, bU⟩ := H.freezeE (k := 2) rfl
 replace H := H.nf
 have aN := bU
 obtain ⟨bV, H, bW, bX⟩ := H.joinE (i := 0) (j := 2) rfl rfl
 replace aG := aG.mono bW
 replace aN := aN.mono bX
 obtain ⟨aW, ba⟩ : ∃ r : Raw 0, r.cs = [aY] := ⟨Raw.of [aY] rfl (by simp only [List.all_cons, List.all_nil, Bool.true_and, Bool.and_true, Sl.oc aG]; try rfl), rfl⟩
 obtain ⟨aX, bb⟩ : ∃ r : Raw 0, r.cs = [aZ] := ⟨Raw.of [aZ] rfl (by simp only [List.all_cons, List.all_nil, Bool.true_and, Bool.and_true, Sl.oc aN]; try rfl), rfl⟩
 have bY : RepR (α := List Int) bV.cells [aW, aX] [[(0 : Int), (2 : Int)], [(1 : Int)]] := .cons (by rw [ba]; exact ⟨_, rfl, aG⟩) <| .cons (by rw [bb]; exact ⟨_, rfl, aN⟩) <| .nil
 refine t_bs (α := Raw 0) T38 [aY, aZ] [aW, aX] H rfl (.cons (by rw [show (Flat.enc aW : List Value) = aW.cs from rfl, ba]; exact Sl.cells aG) (Flat.rep_enc _ _) <| .cons (by rw [show (Flat.enc aX : List Value) = aX.cs from rfl, bb]; exact Sl.cells aN) (Flat.rep_enc _ _) <| .nil) rfl rfl rfl ?_
 intro bZ cX H
 replace H := H.nf
 obtain ⟨cY, b3, hM⟩ := M.e_bind hM
 refine s_call cf12 [.agg #[ax, ay, az], I 2, bZ] rfl (zcV aS aT aU 2 ([[(0 : Int), (2 : Int)], [(1 : Int)]]) (Reads.sup (rdo 8) (Reads.of (k := 9) rfl roLe)) (rowSl rfl (H.get (k := 8) rfl) (roLe _ (H.get (k := 9) rfl)) aM) (rdo 10) (H.os 10) (rdo 11) (H.os 11) (Reads.sup (rdo 0) (Reads.of (k := 1) rfl roLe)) (rowSl rfl (H.get (k := 0) rfl) (roLe _ (H.get (k := 1) rfl)) bY) b3 _ (H.gt 15)) ?_
 rintro vq cZ ⟨au, ah, b4, hvq, ap⟩
 subst b4
 subst vq
 try dsimp only at hM
 replace H := H.bk ap
 clear ap
 refine zM (.tuple #[B au, I ah]) rfl ?_
 refine zX [B au, I ah] (B au) rfl rfl ?_
 refine zX [B au, I ah] (I ah) rfl rfl ?_
 refine zA (B au) rfl ?_
 refine zA (I ah) rfl ?_
 refine s_nil ?_
 replace H := H.pk [6, 7, 8, 9, 10, 11, 13, 14]
 refine W.seq ?_
 refine W.region rfl ?_
 refine s_val (x_ld (p := Pq aV) (v := .agg #[ax, ay, az]) rfl (ldb_ag (ds := [ax, ay, az]) Ag27 Sz27 (H.bl 1) rfl rfl)) ?_
 refine t_bs (α := Int) T28 [I 1, I 2] [(1 : Int), (2 : Int)] H rfl (.cons rfl (Flat.rep_enc _ (1 : Int)) <| .cons rfl (Flat.rep_enc _ (2 : Int)) <| .nil) rfl rfl rfl ?_
 intro b5 c9 H
 obtain ⟨da, b6, hM⟩ := M.e_bind hM
 refine s_call cf13 [.agg #[ax, ay, az], b5] rfl (zcO aS aT aU ([(1 : Int), (2 : Int)]) (Reads.sup (rdo 3) (Reads.of (k := 4) rfl roLe)) (rowSl rfl (H.get (k := 3) rfl) (roLe _ (H.get (k := 4) rfl)) aM) (rdo 5) (H.os 5) (rdo 6) (H.os 6) (rdo 0) (H.os 0) b6 _ (H.gt 9)) ?_
 rintro vq db ⟨av, ai, aA, b7, hvq, ap⟩
 subst b7
 subst vq
 try dsimp only at hM
 replace H := H.bk ap
 clear ap
 refine zM (.tuple #[aA, I ai]) rfl ?_
 refine zX [aA, I ai] aA rfl rfl ?_
 refine zX [aA, I ai] (I ai) rfl rfl ?_
 refine zA aA rfl ?_
 refine zA (I ai) rfl ?_
 refine s_nil ?_
 replace H := H.pk [0, 2, 8, 9]
 refine W.seq ?_
 refine W.region rfl ?_
 refine zM (I aa) rfl ?_
 refine zC aa 0 (aa == 0) rfl rfl rfl ?_
 refine zM (B (aa == 0)) rfl ?_
 refine g_val (aa == 0) (gy_t rfl) (fun hg => x_mv (v := I ab) rfl) ?_
 refine g_val (aa == 0) (gy_t rfl) (fun hg => x_cmp (kd := .i64) (a := ab) (b := 0) (r := ab == 0) (gd_of (c := aa == 0) hg (I ab)) rfl rfl) ?_
 refine s_val (x_pand (b := aa == 0) (r := ab == 0) rfl (fun hb => gd_of (c := aa == 0) (by first | exact hb | (rw [hb]; rfl) | simp_all) (B (ab == 0))) rfl) ?_
 refine zM (B ((aa == 0) && (ab == 0))) rfl ?_
 refine g_val ((aa == 0) && (ab == 0)) (gy_t rfl) (fun hg => x_mv (v := I ac) rfl) ?_
 refine g_val ((aa == 0) && (ab == 0)) (gy_t rfl) (fun hg => x_cmp (kd := .i64) (a := ac) (b := 0) (r := ac == 0) (gd_of (c := ((aa == 0) && (ab == 0))) hg (I ac)) rfl rfl) ?_
 refine s_val (x_pand (b := ((aa == 0) && (ab == 0))) (r := ac == 0) rfl (fun hb => gd_of (c := ((aa == 0) && (ab == 0))) (by first | exact hb | (rw [hb]; rfl) | simp_all) (B (ac == 0))) rfl) ?_
 refine zM (B (((aa == 0) && (ab == 0)) && (ac == 0))) rfl ?_
 refine g_val (((aa == 0) && (ab == 0)) && (ac == 0)) (gy_t rfl) (fun hg => x_mv (v := I ae) rfl) ?_
 refine g_val (((aa == 0) && (ab == 0)) && (ac == 0)) (gy_t rfl) (fun hg => x_cmp (kd := .i64) (a := ae) (b := 0) (r := ae == 0) (gd_of (c := (((aa == 0) && (ab == 0)) && (ac == 0))) hg (I ae)) rfl rfl) ?_
 refine s_val (x_pand (b := (((aa == 0) && (ab == 0)) && (ac == 0))) (r := ae == 0) rfl (fun hb => gd_of (c := (((aa == 0) && (ab == 0)) && (ac == 0))) (by first | exact hb | (rw [hb]; rfl) | simp_all) (B (ae == 0))) rfl) ?_
 refine zM (B ((((aa == 0) && (ab == 0)) && (ac == 0)) && (ae == 0))) rfl ?_
 refine g_val ((((aa == 0) && (ab == 0)) && (ac == 0)) && (ae == 0)) (gy_t rfl) (fun hg => x_mv (v := I ag) rfl) ?_
 refine g_val ((((aa == 0) && (ab == 0)) && (ac == 0)) && (ae == 0)) (gy_t rfl) (fun hg => x_cmp (kd := .i64) (a := ag) (b := 0) (r := ag == 0) (gd_of (c := ((((aa == 0) && (ab == 0)) && (ac == 0)) && (ae == 0))) hg (I ag)) rfl rfl) ?_
 refine s_val (x_pand (b := ((((aa == 0) && (ab == 0)) && (ac == 0)) && (ae == 0))) (r := ag == 0) rfl (fun hb => gd_of (c := ((((aa == 0) && (ab == 0)) && (ac == 0)) && (ae == 0))) (by first | exact hb | (rw [hb]; rfl) | simp_all) (B (ag == 0))) rfl) ?_
 refine zM (B (((((aa == 0) && (ab == 0)) && (ac == 0)) && (ae == 0)) && (ag == 0))) rfl ?_
 refine g_val (((((aa == 0) && (ab == 0)) && (ac == 0)) && (ae == 0)) && (ag == 0)) (gy_t rfl) (fun hg => x_mv (v := I ah) rfl) ?_
 refine g_val (((((aa == 0) && (ab == 0)) && (ac == 0)) && (ae == 0)) && (ag == 0)) (gy_t rfl) (fun hg => x_cmp (kd := .i64) (a := ah) (b := 0) (r := ah == 0) (gd_of (c := (((((aa == 0) && (ab == 0)) && (ac == 0)) && (ae == 0)) && (ag == 0))) hg (I ah)) rfl rfl) ?_
 refine s_val (x_pand (b := (((((aa == 0) && (ab == 0)) && (ac == 0)) && (ae == 0)) && (ag == 0))) (r := ah == 0) rfl (fun hb => gd_of (c := (((((aa == 0) && (ab == 0)) && (ac == 0)) && (ae == 0)) && (ag == 0))) (by first | exact hb | (rw [hb]; rfl) | simp_all) (B (ah == 0))) rfl) ?_
 refine zM (B ((((((aa == 0) && (ab == 0)) && (ac == 0)) && (ae == 0)) && (ag == 0)) && (ah == 0))) rfl ?_
 refine g_val ((((((aa == 0) && (ab == 0)) && (ac == 0)) && (ae == 0)) && (ag == 0)) && (ah == 0)) (gy_t rfl) (fun hg => x_mv (v := I ai) rfl) ?_
 refine g_val ((((((aa == 0) && (ab == 0)) && (ac == 0)) && (ae == 0)) && (ag == 0)) && (ah == 0)) (gy_t rfl) (fun hg => x_cmp (kd := .i64) (a := ai) (b := 0) (r := ai == 0) (gd_of (c := ((((((aa == 0) && (ab == 0)) && (ac == 0)) && (ae == 0)) && (ag == 0)) && (ah == 0))) hg (I ai)) rfl rfl) ?_
 refine s_val (x_pand (b := ((((((aa == 0) && (ab == 0)) && (ac == 0)) && (ae == 0)) && (ag == 0)) && (ah == 0))) (r := ai == 0) rfl (fun hb => gd_of (c := ((((((aa == 0) && (ab == 0)) && (ac == 0)) && (ae == 0)) && (ag == 0)) && (ah == 0))) (by first | exact hb | (rw [hb]; rfl) | simp_all) (B (ai == 0))) rfl) ?_
 refine zM (B (((((((aa == 0) && (ab == 0)) && (ac == 0)) && (ae == 0)) && (ag == 0)) && (ah == 0)) && (ai == 0))) rfl ?_
 refine g_val (((((((aa == 0) && (ab == 0)) && (ac == 0)) && (ae == 0)) && (ag == 0)) && (ah == 0)) && (ai == 0)) (gy_t rfl) (fun hg => x_ld (p := Pq a6) (v := .agg #[I aj, I ak]) rfl (ldb_ag (ds := [I aj, I ak]) Ag54 Sz54 (H.bl 3) rfl rfl)) ?_
 refine g_val (((((((aa == 0) && (ab == 0)) && (ac == 0)) && (ae == 0)) && (ag == 0)) && (ah == 0)) && (ai == 0)) (gy_t rfl) (fun hg => x_bld (ps := [(0, I 812), (1, I 1959)]) (zs := [I 0, I 0]) (L' := [I 812, I 1959]) rfl Tryz.underlying54 Al54 rfl (Bd54 Tryz.underlying54) (.cons (cs := [I 812]) rfl rfl rfl rfl rfl <| .cons (cs := [I 1959]) rfl rfl rfl rfl rfl <| .nil)) ?_
 refine g_val (((((((aa == 0) && (ab == 0)) && (ac == 0)) && (ae == 0)) && (ag == 0)) && (ah == 0)) && (ai == 0)) (gy_t rfl) (fun hg => x_eqS (eqT54 (⟨(aj : Int), (ak : Int)⟩ : Span) (⟨(812 : Int), (1959 : Int)⟩ : Span) _) gdT54 (gd_of (c := (((((((aa == 0) && (ab == 0)) && (ac == 0)) && (ae == 0)) && (ag == 0)) && (ah == 0)) && (ai == 0))) hg (.agg #[I aj, I ak])) (gd_of (c := (((((((aa == 0) && (ab == 0)) && (ac == 0)) && (ae == 0)) && (ag == 0)) && (ah == 0)) && (ai == 0))) hg (.agg #[I 812, I 1959]))) ?_
 refine s_val (x_pand (b := (((((((aa == 0) && (ab == 0)) && (ac == 0)) && (ae == 0)) && (ag == 0)) && (ah == 0)) && (ai == 0))) (r := decide ((⟨(aj : Int), (ak : Int)⟩ : Span) = (⟨(812 : Int), (1959 : Int)⟩ : Span))) rfl (fun hb => gd_of (c := (((((((aa == 0) && (ab == 0)) && (ac == 0)) && (ae == 0)) && (ag == 0)) && (ah == 0)) && (ai == 0))) (by first | exact hb | (rw [hb]; rfl) | simp_all) (B (decide ((⟨(aj : Int), (ak : Int)⟩ : Span) = (⟨(812 : Int), (1959 : Int)⟩ : Span))))) rfl) ?_
 refine zM (B ((((((((aa == 0) && (ab == 0)) && (ac == 0)) && (ae == 0)) && (ag == 0)) && (ah == 0)) && (ai == 0)) && (decide ((⟨(aj : Int), (ak : Int)⟩ : Span) = (⟨(812 : Int), (1959 : Int)⟩ : Span))))) rfl ?_
 refine g_val ((((((((aa == 0) && (ab == 0)) && (ac == 0)) && (ae == 0)) && (ag == 0)) && (ah == 0)) && (ai == 0)) && (decide ((⟨(aj : Int), (ak : Int)⟩ : Span) = (⟨(812 : Int), (1959 : Int)⟩ : Span)))) (gy_t rfl) (fun hg => x_mv (v := I al) rfl) ?_
 refine g_val ((((((((aa == 0) && (ab == 0)) && (ac == 0)) && (ae == 0)) && (ag == 0)) && (ah == 0)) && (ai == 0)) && (decide ((⟨(aj : Int), (ak : Int)⟩ : Span) = (⟨(812 : Int), (1959 : Int)⟩ : Span)))) (gy_t rfl) (fun hg => x_cmp (kd := .i64) (a := al) (b := 1876) (r := al == 1876) (gd_of (c := ((((((((aa == 0) && (ab == 0)) && (ac == 0)) && (ae == 0)) && (ag == 0)) && (ah == 0)) && (ai == 0)) && (decide ((⟨(aj : Int), (ak : Int)⟩ : Span) = (⟨(812 : Int), (1959 : Int)⟩ : Span))))) hg (I al)) rfl rfl) ?_
 refine s_val (x_pand (b := ((((((((aa == 0) && (ab == 0)) && (ac == 0)) && (ae == 0)) && (ag == 0)) && (ah == 0)) && (ai == 0)) && (decide ((⟨(aj : Int), (ak : Int)⟩ : Span) = (⟨(812 : Int), (1959 : Int)⟩ : Span))))) (r := al == 1876) rfl (fun hb => gd_of (c := ((((((((aa == 0) && (ab == 0)) && (ac == 0)) && (ae == 0)) && (ag == 0)) && (ah == 0)) && (ai == 0)) && (decide ((⟨(aj : Int), (ak : Int)⟩ : Span) = (⟨(812 : Int), (1959 : Int)⟩ : Span))))) (by first | exact hb | (rw [hb]; rfl) | simp_all) (B (al == 1876))) rfl) ?_
 refine zM (B (((((((((aa == 0) && (ab == 0)) && (ac == 0)) && (ae == 0)) && (ag == 0)) && (ah == 0)) && (ai == 0)) && (decide ((⟨(aj : Int), (ak : Int)⟩ : Span) = (⟨(812 : Int), (1959 : Int)⟩ : Span)))) && (al == 1876))) rfl ?_
 refine g_val (((((((((aa == 0) && (ab == 0)) && (ac == 0)) && (ae == 0)) && (ag == 0)) && (ah == 0)) && (ai == 0)) && (decide ((⟨(aj : Int), (ak : Int)⟩ : Span) = (⟨(812 : Int), (1959 : Int)⟩ : Span)))) && (al == 1876)) (gy_t rfl) (fun hg => x_fa (a := Pq aO) (v := Oq aO 1) rfl (fa_blk (o := 0) Fd54_1 Sz3)) ?_
 refine g_val (((((((((aa == 0) && (ab == 0)) && (ac == 0)) && (ae == 0)) && (ag == 0)) && (ah == 0)) && (ai == 0)) && (decide ((⟨(aj : Int), (ak : Int)⟩ : Span) = (⟨(812 : Int), (1959 : Int)⟩ : Span)))) && (al == 1876)) (gy_t rfl) (fun hg => x_ld (p := Oq aO 1) (v := I am) (gd_of (c := (((((((((aa == 0) && (ab == 0)) && (ac == 0)) && (ae == 0)) && (ag == 0)) && (ah == 0)) && (ai == 0)) && (decide ((⟨(aj : Int), (ak : Int)⟩ : Span) = (⟨(812 : Int), (1959 : Int)⟩ : Span)))) && (al == 1876))) hg (Oq aO 1)) (ldb_sc Sc3 (H.bl 2) rfl)) ?_
 refine g_val (((((((((aa == 0) && (ab == 0)) && (ac == 0)) && (ae == 0)) && (ag == 0)) && (ah == 0)) && (ai == 0)) && (decide ((⟨(aj : Int), (ak : Int)⟩ : Span) = (⟨(812 : Int), (1959 : Int)⟩ : Span)))) && (al == 1876)) (gy_t rfl) (fun hg => x_cmp (kd := .i64) (a := am) (b := 1557) (r := am == 1557) (gd_of (c := (((((((((aa == 0) && (ab == 0)) && (ac == 0)) && (ae == 0)) && (ag == 0)) && (ah == 0)) && (ai == 0)) && (decide ((⟨(aj : Int), (ak : Int)⟩ : Span) = (⟨(812 : Int), (1959 : Int)⟩ : Span)))) && (al == 1876))) hg (I am)) rfl rfl) ?_
 refine s_val (x_pand (b := (((((((((aa == 0) && (ab == 0)) && (ac == 0)) && (ae == 0)) && (ag == 0)) && (ah == 0)) && (ai == 0)) && (decide ((⟨(aj : Int), (ak : Int)⟩ : Span) = (⟨(812 : Int), (1959 : Int)⟩ : Span)))) && (al == 1876))) (r := am == 1557) rfl (fun hb => gd_of (c := (((((((((aa == 0) && (ab == 0)) && (ac == 0)) && (ae == 0)) && (ag == 0)) && (ah == 0)) && (ai == 0)) && (decide ((⟨(aj : Int), (ak : Int)⟩ : Span) = (⟨(812 : Int), (1959 : Int)⟩ : Span)))) && (al == 1876))) (by first | exact hb | (rw [hb]; rfl) | simp_all) (B (am == 1557))) rfl) ?_
 refine zM (B ((((((((((aa == 0) && (ab == 0)) && (ac == 0)) && (ae == 0)) && (ag == 0)) && (ah == 0)) && (ai == 0)) && (decide ((⟨(aj : Int), (ak : Int)⟩ : Span) = (⟨(812 : Int), (1959 : Int)⟩ : Span)))) && (al == 1876)) && (am == 1557))) rfl ?_
 refine g_val ((((((((((aa == 0) && (ab == 0)) && (ac == 0)) && (ae == 0)) && (ag == 0)) && (ah == 0)) && (ai == 0)) && (decide ((⟨(aj : Int), (ak : Int)⟩ : Span) = (⟨(812 : Int), (1959 : Int)⟩ : Span)))) && (al == 1876)) && (am == 1557)) (gy_t rfl) (fun hg => x_mv (v := B ao) rfl) ?_
 refine s_val (x_pand (b := ((((((((((aa == 0) && (ab == 0)) && (ac == 0)) && (ae == 0)) && (ag == 0)) && (ah == 0)) && (ai == 0)) && (decide ((⟨(aj : Int), (ak : Int)⟩ : Span) = (⟨(812 : Int), (1959 : Int)⟩ : Span)))) && (al == 1876)) && (am == 1557))) (r := ao) rfl (fun hb => gd_of (c := ((((((((((aa == 0) && (ab == 0)) && (ac == 0)) && (ae == 0)) && (ag == 0)) && (ah == 0)) && (ai == 0)) && (decide ((⟨(aj : Int), (ak : Int)⟩ : Span) = (⟨(812 : Int), (1959 : Int)⟩ : Span)))) && (al == 1876)) && (am == 1557))) (by first | exact hb | (rw [hb]; rfl) | simp_all) (B ao)) rfl) ?_
 refine zM (B (((((((((((aa == 0) && (ab == 0)) && (ac == 0)) && (ae == 0)) && (ag == 0)) && (ah == 0)) && (ai == 0)) && (decide ((⟨(aj : Int), (ak : Int)⟩ : Span) = (⟨(812 : Int), (1959 : Int)⟩ : Span)))) && (al == 1876)) && (am == 1557)) && ao)) rfl ?_
 refine g_val (((((((((((aa == 0) && (ab == 0)) && (ac == 0)) && (ae == 0)) && (ag == 0)) && (ah == 0)) && (ai == 0)) && (decide ((⟨(aj : Int), (ak : Int)⟩ : Span) = (⟨(812 : Int), (1959 : Int)⟩ : Span)))) && (al == 1876)) && (am == 1557)) && ao) (gy_t rfl) (fun hg => x_mv (v := aF) rfl) ?_
 refine g_val (((((((((((aa == 0) && (ab == 0)) && (ac == 0)) && (ae == 0)) && (ag == 0)) && (ah == 0)) && (ai == 0)) && (decide ((⟨(aj : Int), (ak : Int)⟩ : Span) = (⟨(812 : Int), (1959 : Int)⟩ : Span)))) && (al == 1876)) && (am == 1557)) && ao) (gy_t rfl) (fun hg => x_lenS T28.und (gd_of (c := (((((((((((aa == 0) && (ab == 0)) && (ac == 0)) && (ae == 0)) && (ag == 0)) && (ah == 0)) && (ai == 0)) && (decide ((⟨(aj : Int), (ak : Int)⟩ : Span) = (⟨(812 : Int), (1959 : Int)⟩ : Span)))) && (al == 1876)) && (am == 1557)) && ao)) hg (aF)) (H.os 1)) ?_
 refine g_val (((((((((((aa == 0) && (ab == 0)) && (ac == 0)) && (ae == 0)) && (ag == 0)) && (ah == 0)) && (ai == 0)) && (decide ((⟨(aj : Int), (ak : Int)⟩ : Span) = (⟨(812 : Int), (1959 : Int)⟩ : Span)))) && (al == 1876)) && (am == 1557)) && ao) (gy_t rfl) (fun hg => x_cmp (kd := .i64) (a := (aq.length : Int)) (b := 2) (r := (aq.length : Int) == 2) (gd_of (c := (((((((((((aa == 0) && (ab == 0)) && (ac == 0)) && (ae == 0)) && (ag == 0)) && (ah == 0)) && (ai == 0)) && (decide ((⟨(aj : Int), (ak : Int)⟩ : Span) = (⟨(812 : Int), (1959 : Int)⟩ : Span)))) && (al == 1876)) && (am == 1557)) && ao)) hg (I (aq.length : Int))) rfl rfl) ?_
 refine s_val (x_pand (b := (((((((((((aa == 0) && (ab == 0)) && (ac == 0)) && (ae == 0)) && (ag == 0)) && (ah == 0)) && (ai == 0)) && (decide ((⟨(aj : Int), (ak : Int)⟩ : Span) = (⟨(812 : Int), (1959 : Int)⟩ : Span)))) && (al == 1876)) && (am == 1557)) && ao)) (r := (aq.length : Int) == 2) rfl (fun hb => gd_of (c := (((((((((((aa == 0) && (ab == 0)) && (ac == 0)) && (ae == 0)) && (ag == 0)) && (ah == 0)) && (ai == 0)) && (decide ((⟨(aj : Int), (ak : Int)⟩ : Span) = (⟨(812 : Int), (1959 : Int)⟩ : Span)))) && (al == 1876)) && (am == 1557)) && ao)) (by first | exact hb | (rw [hb]; rfl) | simp_all) (B ((aq.length : Int) == 2))) rfl) ?_
 refine zM (B ((((((((((((aa == 0) && (ab == 0)) && (ac == 0)) && (ae == 0)) && (ag == 0)) && (ah == 0)) && (ai == 0)) && (decide ((⟨(aj : Int), (ak : Int)⟩ : Span) = (⟨(812 : Int), (1959 : Int)⟩ : Span)))) && (al == 1876)) && (am == 1557)) && ao) && ((aq.length : Int) == 2))) rfl ?_
 refine g_val ((((((((((((aa == 0) && (ab == 0)) && (ac == 0)) && (ae == 0)) && (ag == 0)) && (ah == 0)) && (ai == 0)) && (decide ((⟨(aj : Int), (ak : Int)⟩ : Span) = (⟨(812 : Int), (1959 : Int)⟩ : Span)))) && (al == 1876)) && (am == 1557)) && ao) && ((aq.length : Int) == 2)) (gy_t rfl) (fun hg => x_mv (v := B au) rfl) ?_
 refine s_val (x_pand (b := ((((((((((((aa == 0) && (ab == 0)) && (ac == 0)) && (ae == 0)) && (ag == 0)) && (ah == 0)) && (ai == 0)) && (decide ((⟨(aj : Int), (ak : Int)⟩ : Span) = (⟨(812 : Int), (1959 : Int)⟩ : Span)))) && (al == 1876)) && (am == 1557)) && ao) && ((aq.length : Int) == 2))) (r := au) rfl (fun hb => gd_of (c := ((((((((((((aa == 0) && (ab == 0)) && (ac == 0)) && (ae == 0)) && (ag == 0)) && (ah == 0)) && (ai == 0)) && (decide ((⟨(aj : Int), (ak : Int)⟩ : Span) = (⟨(812 : Int), (1959 : Int)⟩ : Span)))) && (al == 1876)) && (am == 1557)) && ao) && ((aq.length : Int) == 2))) (by first | exact hb | (rw [hb]; rfl) | simp_all) (B au)) rfl) ?_
 refine zM (B (((((((((((((aa == 0) && (ab == 0)) && (ac == 0)) && (ae == 0)) && (ag == 0)) && (ah == 0)) && (ai == 0)) && (decide ((⟨(aj : Int), (ak : Int)⟩ : Span) = (⟨(812 : Int), (1959 : Int)⟩ : Span)))) && (al == 1876)) && (am == 1557)) && ao) && ((aq.length : Int) == 2)) && au)) rfl ?_
 refine g_val (((((((((((((aa == 0) && (ab == 0)) && (ac == 0)) && (ae == 0)) && (ag == 0)) && (ah == 0)) && (ai == 0)) && (decide ((⟨(aj : Int), (ak : Int)⟩ : Span) = (⟨(812 : Int), (1959 : Int)⟩ : Span)))) && (al == 1876)) && (am == 1557)) && ao) && ((aq.length : Int) == 2)) && au) (gy_t rfl) (fun hg => x_mv (v := aA) rfl) ?_
 refine g_val (((((((((((((aa == 0) && (ab == 0)) && (ac == 0)) && (ae == 0)) && (ag == 0)) && (ah == 0)) && (ai == 0)) && (decide ((⟨(aj : Int), (ak : Int)⟩ : Span) = (⟨(812 : Int), (1959 : Int)⟩ : Span)))) && (al == 1876)) && (am == 1557)) && ao) && ((aq.length : Int) == 2)) && au) (gy_t rfl) (fun hg => x_lenS T43.und (gd_of (c := (((((((((((((aa == 0) && (ab == 0)) && (ac == 0)) && (ae == 0)) && (ag == 0)) && (ah == 0)) && (ai == 0)) && (decide ((⟨(aj : Int), (ak : Int)⟩ : Span) = (⟨(812 : Int), (1959 : Int)⟩ : Span)))) && (al == 1876)) && (am == 1557)) && ao) && ((aq.length : Int) == 2)) && au)) hg (aA)) (H.os 0)) ?_
 refine g_val (((((((((((((aa == 0) && (ab == 0)) && (ac == 0)) && (ae == 0)) && (ag == 0)) && (ah == 0)) && (ai == 0)) && (decide ((⟨(aj : Int), (ak : Int)⟩ : Span) = (⟨(812 : Int), (1959 : Int)⟩ : Span)))) && (al == 1876)) && (am == 1557)) && ao) && ((aq.length : Int) == 2)) && au) (gy_t rfl) (fun hg => x_cmp (kd := .i64) (a := (av.length : Int)) (b := 2) (r := (av.length : Int) == 2) (gd_of (c := (((((((((((((aa == 0) && (ab == 0)) && (ac == 0)) && (ae == 0)) && (ag == 0)) && (ah == 0)) && (ai == 0)) && (decide ((⟨(aj : Int), (ak : Int)⟩ : Span) = (⟨(812 : Int), (1959 : Int)⟩ : Span)))) && (al == 1876)) && (am == 1557)) && ao) && ((aq.length : Int) == 2)) && au)) hg (I (av.length : Int))) rfl rfl) ?_
 refine s_val (x_pand (b := (((((((((((((aa == 0) && (ab == 0)) && (ac == 0)) && (ae == 0)) && (ag == 0)) && (ah == 0)) && (ai == 0)) && (decide ((⟨(aj : Int), (ak : Int)⟩ : Span) = (⟨(812 : Int), (1959 : Int)⟩ : Span)))) && (al == 1876)) && (am == 1557)) && ao) && ((aq.length : Int) == 2)) && au)) (r := (av.length : Int) == 2) rfl (fun hb => gd_of (c := (((((((((((((aa == 0) && (ab == 0)) && (ac == 0)) && (ae == 0)) && (ag == 0)) && (ah == 0)) && (ai == 0)) && (decide ((⟨(aj : Int), (ak : Int)⟩ : Span) = (⟨(812 : Int), (1959 : Int)⟩ : Span)))) && (al == 1876)) && (am == 1557)) && ao) && ((aq.length : Int) == 2)) && au)) (by first | exact hb | (rw [hb]; rfl) | simp_all) (B ((av.length : Int) == 2))) rfl) ?_
 refine zM (B ((((((((((((((aa == 0) && (ab == 0)) && (ac == 0)) && (ae == 0)) && (ag == 0)) && (ah == 0)) && (ai == 0)) && (decide ((⟨(aj : Int), (ak : Int)⟩ : Span) = (⟨(812 : Int), (1959 : Int)⟩ : Span)))) && (al == 1876)) && (am == 1557)) && ao) && ((aq.length : Int) == 2)) && au) && ((av.length : Int) == 2))) rfl ?_
 refine g_val ((((((((((((((aa == 0) && (ab == 0)) && (ac == 0)) && (ae == 0)) && (ag == 0)) && (ah == 0)) && (ai == 0)) && (decide ((⟨(aj : Int), (ak : Int)⟩ : Span) = (⟨(812 : Int), (1959 : Int)⟩ : Span)))) && (al == 1876)) && (am == 1557)) && ao) && ((aq.length : Int) == 2)) && au) && ((av.length : Int) == 2)) (gy_t rfl) (fun hg => x_mv (v := aA) rfl) ?_
 obtain ⟨aH, hM⟩ := M.e_grd hM
 replace aH := M.imp_of aH
 simp only [Bool.and_eq_true, decide_eq_true_eq] at aH
 refine g_val ((((((((((((((aa == 0) && (ab == 0)) && (ac == 0)) && (ae == 0)) && (ag == 0)) && (ah == 0)) && (ai == 0)) && (decide ((⟨(aj : Int), (ak : Int)⟩ : Span) = (⟨(812 : Int), (1959 : Int)⟩ : Span)))) && (al == 1876)) && (am == 1557)) && ao) && ((aq.length : Int) == 2)) && au) && ((av.length : Int) == 2)) (gy_t rfl) (fun hg => x_ix (a := aA) (b := I 0) (v := vat aA 2 (Int.toNat 0)) (gd_of (c := ((((((((((((((aa == 0) && (ab == 0)) && (ac == 0)) && (ae == 0)) && (ag == 0)) && (ah == 0)) && (ai == 0)) && (decide ((⟨(aj : Int), (ak : Int)⟩ : Span) = (⟨(812 : Int), (1959 : Int)⟩ : Span)))) && (al == 1876)) && (am == 1557)) && ao) && ((aq.length : Int) == 2)) && au) && ((av.length : Int) == 2))) hg (aA)) rfl (Sl.ix (α := Span) T43.und T43.size (H.os 0) (by have aw := aH.resolve_left (by rw [hg]; decide); first | exact aw | exact aw.1 | exact aw.2 | omega | (have aI := hg; simp at aI; omega)) (by have aw := aH.resolve_left (by rw [hg]; decide); first | exact aw | exact aw.1 | exact aw.2 | omega | (have aI := hg; simp at aI; omega)))) ?_
 refine g_val ((((((((((((((aa == 0) && (ab == 0)) && (ac == 0)) && (ae == 0)) && (ag == 0)) && (ah == 0)) && (ai == 0)) && (decide ((⟨(aj : Int), (ak : Int)⟩ : Span) = (⟨(812 : Int), (1959 : Int)⟩ : Span)))) && (al == 1876)) && (am == 1557)) && ao) && ((aq.length : Int) == 2)) && au) && ((av.length : Int) == 2)) (gy_t rfl) (fun hg => x_ld (p := vat aA 2 (Int.toNat 0)) (v := .agg #[I ((av.getD 0 default).lo), I ((av.getD 0 default).hi)]) (gd_of (c := ((((((((((((((aa == 0) && (ab == 0)) && (ac == 0)) && (ae == 0)) && (ag == 0)) && (ah == 0)) && (ai == 0)) && (decide ((⟨(aj : Int), (ak : Int)⟩ : Span) = (⟨(812 : Int), (1959 : Int)⟩ : Span)))) && (al == 1876)) && (am == 1557)) && ao) && ((aq.length : Int) == 2)) && au) && ((av.length : Int) == 2))) hg (vat aA 2 (Int.toNat 0))) (ld_ag Ag54 Sz54 (At.mono (Span_atA (H.os 0) (i := 0) (by have aw := aH.resolve_left (by rw [hg]; decide); first | exact aw | exact aw.1 | exact aw.2 | omega | (have aI := hg; simp at aI; omega)) (by have aw := aH.resolve_left (by rw [hg]; decide); first | exact aw | exact aw.1 | exact aw.2 | omega | (have aI := hg; simp at aI; omega))) (H.ol 0)))) ?_
 refine g_val ((((((((((((((aa == 0) && (ab == 0)) && (ac == 0)) && (ae == 0)) && (ag == 0)) && (ah == 0)) && (ai == 0)) && (decide ((⟨(aj : Int), (ak : Int)⟩ : Span) = (⟨(812 : Int), (1959 : Int)⟩ : Span)))) && (al == 1876)) && (am == 1557)) && ao) && ((aq.length : Int) == 2)) && au) && ((av.length : Int) == 2)) (gy_t rfl) (fun hg => x_bld (ps := [(0, I 170), (1, I 2000)]) (zs := [I 0, I 0]) (L' := [I 170, I 2000]) rfl Tryz.underlying54 Al54 rfl (Bd54 Tryz.underlying54) (.cons (cs := [I 170]) rfl rfl rfl rfl rfl <| .cons (cs := [I 2000]) rfl rfl rfl rfl rfl <| .nil)) ?_
 refine g_val ((((((((((((((aa == 0) && (ab == 0)) && (ac == 0)) && (ae == 0)) && (ag == 0)) && (ah == 0)) && (ai == 0)) && (decide ((⟨(aj : Int), (ak : Int)⟩ : Span) = (⟨(812 : Int), (1959 : Int)⟩ : Span)))) && (al == 1876)) && (am == 1557)) && ao) && ((aq.length : Int) == 2)) && au) && ((av.length : Int) == 2)) (gy_t rfl) (fun hg => x_eqS (eqT54 (av.getD 0 default) (⟨(170 : Int), (2000 : Int)⟩ : Span) _) gdT54 (gd_of (c := ((((((((((((((aa == 0) && (ab == 0)) && (ac == 0)) && (ae == 0)) && (ag == 0)) && (ah == 0)) && (ai == 0)) && (decide ((⟨(aj : Int), (ak : Int)⟩ : Span) = (⟨(812 : Int), (1959 : Int)⟩ : Span)))) && (al == 1876)) && (am == 1557)) && ao) && ((aq.length : Int) == 2)) && au) && ((av.length : Int) == 2))) hg (.agg #[I ((av.getD 0 default).lo), I ((av.getD 0 default).hi)])) (gd_of (c := ((((((((((((((aa == 0) && (ab == 0)) && (ac == 0)) && (ae == 0)) && (ag == 0)) && (ah == 0)) && (ai == 0)) && (decide ((⟨(aj : Int), (ak : Int)⟩ : Span) = (⟨(812 : Int), (1959 : Int)⟩ : Span)))) && (al == 1876)) && (am == 1557)) && ao) && ((aq.length : Int) == 2)) && au) && ((av.length : Int) == 2))) hg (.agg #[I 170, I 2000]))) ?_
 refine s_val (x_pand (b := ((((((((((((((aa == 0) && (ab == 0)) && (ac == 0)) && (ae == 0)) && (ag == 0)) && (ah == 0)) && (ai == 0)) && (decide ((⟨(aj : Int), (ak : Int)⟩ : Span) = (⟨(812 : Int), (1959 : Int)⟩ : Span)))) && (al == 1876)) && (am == 1557)) && ao) && ((aq.length : Int) == 2)) && au) && ((av.length : Int) == 2))) (r := decide ((av.getD 0 default) = (⟨(170 : Int), (2000 : Int)⟩ : Span))) rfl (fun hb => gd_of (c := ((((((((((((((aa == 0) && (ab == 0)) && (ac == 0)) && (ae == 0)) && (ag == 0)) && (ah == 0)) && (ai == 0)) && (decide ((⟨(aj : Int), (ak : Int)⟩ : Span) = (⟨(812 : Int), (1959 : Int)⟩ : Span)))) && (al == 1876)) && (am == 1557)) && ao) && ((aq.length : Int) == 2)) && au) && ((av.length : Int) == 2))) (by first | exact hb | (rw [hb]; rfl) | simp_all) (B (decide ((av.getD 0 default) = (⟨(170 : Int), (2000 : Int)⟩ : Span))))) rfl) ?_
 refine zA (B (((((((((((((((aa == 0) && (ab == 0)) && (ac == 0)) && (ae == 0)) && (ag == 0)) && (ah == 0)) && (ai == 0)) && (decide ((⟨(aj : Int), (ak : Int)⟩ : Span) = (⟨(812 : Int), (1959 : Int)⟩ : Span)))) && (al == 1876)) && (am == 1557)) && ao) && ((aq.length : Int) == 2)) && au) && ((av.length : Int) == 2)) && (decide ((av.getD 0 default) = (⟨(170 : Int), (2000 : Int)⟩ : Span))))) rfl ?_
 refine s_nil ?_
 replace H := H.pk []
 refine W.ret ?_
 have b8 := M.e_pure hM
 exact ⟨_, resE_tmp rfl, ⟨(((((((((((((((aa == 0) && (ab == 0)) && (ac == 0)) && (ae == 0)) && (ag == 0)) && (ah == 0)) && (ai == 0)) && (decide ((⟨(aj : Int), (ak : Int)⟩ : Span) = (⟨(812 : Int), (1959 : Int)⟩ : Span)))) && (al == 1876)) && (am == 1557)) && ao) && ((aq.length : Int) == 2)) && au) && ((av.length : Int) == 2)) && (decide ((av.getD 0 default) = (⟨(170 : Int), (2000 : Int)⟩ : Span)))), b8, rfl, H⟩⟩

end Go.Proofs.YtlemgioaakecpaaGreat
end
namespace Go.Proofs.YtlemgioaakecpaaGreat
open Go Go.Nm
set_option maxRecDepth 100000 in
theorem awake_ends : zb9.Ends true := ⟨400, by kernel_rfl⟩
end Go.Proofs.YtlemgioaakecpaaGreat
section
set_option maxRecDepth 100000
set_option maxHeartbeats 16000000
namespace Go.Proofs.YtlemgioaakecpaaGreat
open Go Go.Nm
def za1 (s_Marks : List Mrk) : (Nat × (List Int)) -> M ((Nat × (List Int)) ⊕ ((List Int) × (List Int))) := fun (i, l) =>
  bif decide ((i : Int) < (s_Marks.length : Int)) then (
  M.grd (decide ((l.length + ([(i : Int)]).length) * 8 <= 140737488355328)) <|
  M.pure (.inl (i + 1, l ++ ([(i : Int)]))))
  else (
  M.pure (.inr (l, l)))
def za3 (s_Sections : List Sect) (s_Marks : List Mrk) (s_Reaches : List Rch) : M (List Int) :=
  M.bind (M.iter (za1 s_Marks) (0, [])) fun (l2, l3) =>
  M.pure l3
theorem zbS {R : List Chunk} {aj : Cells} {ac : Value} {ak : Cells} {ab : Value} {al : Cells} {ae : Value} (s_Sections : List Sect) (s_Marks : List Mrk) (s_Reaches : List Rch) (aC : Reads R aj) (aD : Sl aj ac s_Sections) (aE : Reads R ak) (am : Sl ak ab s_Marks) (aF : Reads R al) (aG : Sl al ae s_Reaches) {r : (List Int)} (hM : (za3 s_Sections s_Marks s_Reaches).Ends r) (w : World) (H : St w w [] R) : Ret Tryz.prog 18 #[.agg #[ac, ab, ae]] w fun v w' => ∃ (y0 : List Int) (u0 : Value), y0 = r /\ v = u0 /\ St w w' [cOwn (α := Int) 3 u0 y0] R := by
 refine ret_of_W Tryz.func18 rfl rfl rfl ?_
 refine W.seq ?_
 refine W.region rfl ?_
 refine t_box (v := .agg #[ac, ab, ae]) (cs := [ac, ab, ae]) H rfl rfl ?_
 intro ag aH H
 refine zA (.slice none 0 0) rfl ?_
 refine s_nil ?_
 refine W.seq ?_
 refine W.region rfl ?_
 refine zA (.slice none 0 0) rfl ?_
 refine s_nil ?_
 refine W.seq ?_
 refine W.seq ?_
 refine W.region rfl ?_
 refine zA (I 0) rfl ?_
 refine s_nil ?_
 refine W.block ?_
 replace H := H.nilOwn (α := Int) 3
 obtain ⟨au, ai, av⟩ := M.e_bind hM
 obtain ⟨aI, ai⟩ := M.e_iter ai
 refine W.loop (fun m σ W => ∃ (i : Nat) (l : List Int) (aa : Value) (ρ : Env), σ = upds ρ [(1, Pq ag), (3, aa), (4, I (i : Int))] /\ M.iterN (za1 s_Marks) m (i, l) = some au /\ St w W [cOwn (α := Int) 3 aa l, cBlk ag [ac, ab, ae] 27] R) ?_ ?_
 ·exact ⟨_, 0, [], (.slice none 0 0), _, upds_of _ _ ⟨rfl, rfl, rfl, trivial⟩, ai, H⟩
 rintro aJ σ aK ⟨i, l, aa, ρ, rfl, ao, H⟩
 obtain ⟨aw, ax, aL, hM, ap⟩ := M.e_iterN ao
 simp only [za1] at hM
 clear ao
 refine W.seq ?_
 refine W.seq ?_
 refine W.region rfl ?_
 refine zM (I (i : Int)) rfl ?_
 refine s_val (x_fa (a := Pq ag) (v := Oq ag 1) rfl (fa_blk (o := 0) Fd27_1 Sz24)) ?_
 refine s_val (x_ld (p := Oq ag 1) (v := ab) rfl (ldb_sc Sc24 (H.bl 1) rfl)) ?_
 have aM := (am).len_le
 refine s_val (x_lenS T24.und rfl am) ?_
 refine zC (i : Int) (s_Marks.length : Int) (decide ((i : Int) < (s_Marks.length : Int))) rfl rfl rfl ?_
 refine s_nil ?_
 refine W.cond (decide ((i : Int) < (s_Marks.length : Int))) rfl (fun ah => ?_) (fun ah => ?_)
 ·replace hM := M.e_t hM ah
  simp only [qy1, qy2, qy3, qy4, qy5, qy6, ne_eq, qy7] at ah
  refine W.skip ?_
  refine W.seq ?_
  refine W.block ?_
  refine W.region rfl ?_
  refine zM aa rfl ?_
  refine zM (I (i : Int)) rfl ?_
  refine t_bs (α := Int) T28 [I (i : Int)] [(i : Int)] H rfl (.cons rfl (Flat.rep_enc _ (i : Int)) <| .nil) rfl rfl rfl ?_
  intro ay aN H
  obtain ⟨az, hM⟩ := M.e_grd hM
  simp only [Bool.and_eq_true, decide_eq_true_eq] at az
  refine t_app (α := Int) (k := 1) (l := l) (l2 := [(i : Int)]) (l' := l ++ ([(i : Int)])) (vy := ay) T28 rfl H rfl rfl rfl (H.os 0) (H.ol 0) (rfl) (by first | omega | (simp only [List.length_nil] at *; omega)) ?_
  intro aq aO H
  replace H := H.nf
  refine zA aq rfl ?_
  refine s_nil ?_
  refine W.region rfl ?_
  refine zM (I (i : Int)) rfl ?_
  refine zR (i : Int) 1 ((i : Int) + 1) rfl rfl rfl (by omega) ?_
  refine zA (I ((i : Int) + 1)) rfl ?_
  refine s_nil ?_
  exact ⟨aw, ax, i + 1, l ++ ([(i : Int)]), aq, _, upds_of _ _ ⟨rfl, rfl, rfl, trivial⟩, M.e_inl hM ap, (H.pk [1, 2])⟩
 replace hM := M.e_f hM ah
 simp only [qy1, qy2, qy3, qy4, qy5, qy6, ne_eq, qy7] at ah
 refine W.exit ?_
 have aA := M.e_inr hM ap
 subst aA
 replace hM := av
 try dsimp only at hM
 refine W.seq ?_
 refine W.region rfl ?_
 refine zM aa rfl ?_
 refine zA aa rfl ?_
 refine s_nil ?_
 refine W.ret ?_
 have aB := M.e_pure hM
 exact ⟨_, resE_tmp rfl, ⟨l, aa, aB, rfl, (H.pk [0])⟩⟩

def zb0 (l : List Mrk) : M (List Mrk) :=
  M.grd (decide ((([] : List Mrk).length + l.length) * 24 <= 140737488355328)) <|
  M.pure l
theorem zcB {R : List Chunk} {ab : Cells} {aa : Value} (l : List Mrk) (ae : Reads R ab) (ag : Sl ab aa l) {r : (List Mrk)} (hM : (zb0 l).Ends r) (w : World) (H : St w w [] R) : Ret Tryz.prog 62 #[aa] w fun v w' => ∃ (y0 : List Mrk) (u0 : Value), y0 = r /\ v = u0 /\ St w w' [cOwn (α := Mrk) 70 u0 y0] R := by
 refine ret_of_W Tryz.func62 rfl rfl rfl ?_
 refine W.seq ?_
 refine W.region rfl ?_
 refine zA (.slice none 0 0) rfl ?_
 refine s_nil ?_
 refine W.seq ?_
 refine W.region rfl ?_
 refine zA (.slice none 0 0) rfl ?_
 refine s_nil ?_
 refine W.seq ?_
 refine W.region rfl ?_
 refine zM (.slice none 0 0) rfl ?_
 refine zM aa rfl ?_
 replace H := H.nilOwn (α := Mrk) 70
 obtain ⟨ah, hM⟩ := M.e_grd hM
 simp only [Bool.and_eq_true, decide_eq_true_eq] at ah
 refine t_app (α := Mrk) (k := 0) (l := []) (l2 := l) (l' := l) (vy := aa) T24 rfl H rfl rfl rfl ag (ae.at H) (List.nil_append _) (by first | omega | (simp only [List.length_nil] at *; omega)) ?_
 intro ac aj H
 replace H := H.nf
 refine zA ac rfl ?_
 refine s_nil ?_
 refine W.ret ?_
 have ai := M.e_pure hM
 exact ⟨_, resE_tmp rfl, ⟨l, ac, ai, rfl, H⟩⟩

def zbO (l : List Rch) : M (List Rch) :=
  M.grd (decide ((([] : List Rch).length + l.length) * 40 <= 140737488355328)) <|
  M.pure l
theorem zbH {R : List Chunk} {ab : Cells} {aa : Value} (l : List Rch) (ae : Reads R ab) (ag : Sl ab aa l) {r : (List Rch)} (hM : (zbO l).Ends r) (w : World) (H : St w w [] R) : Ret Tryz.prog 63 #[aa] w fun v w' => ∃ (y0 : List Rch) (u0 : Value), y0 = r /\ v = u0 /\ St w w' [cOwn (α := Rch) 58 u0 y0] R := by
 refine ret_of_W Tryz.func63 rfl rfl rfl ?_
 refine W.seq ?_
 refine W.region rfl ?_
 refine zA (.slice none 0 0) rfl ?_
 refine s_nil ?_
 refine W.seq ?_
 refine W.region rfl ?_
 refine zA (.slice none 0 0) rfl ?_
 refine s_nil ?_
 refine W.seq ?_
 refine W.region rfl ?_
 refine zM (.slice none 0 0) rfl ?_
 refine zM aa rfl ?_
 replace H := H.nilOwn (α := Rch) 58
 obtain ⟨ah, hM⟩ := M.e_grd hM
 simp only [Bool.and_eq_true, decide_eq_true_eq] at ah
 refine t_app (α := Rch) (k := 0) (l := []) (l2 := l) (l' := l) (vy := aa) T25 rfl H rfl rfl rfl ag (ae.at H) (List.nil_append _) (by first | omega | (simp only [List.length_nil] at *; omega)) ?_
 intro ac aj H
 replace H := H.nf
 refine zA ac rfl ?_
 refine s_nil ?_
 refine W.ret ?_
 have ai := M.e_pure hM
 exact ⟨_, resE_tmp rfl, ⟨l, ac, ai, rfl, H⟩⟩

def zbd (l : List FRow) : M (List FRow) :=
  M.grd (decide ((([] : List FRow).length + l.length) * 16 <= 140737488355328)) <|
  M.pure l
theorem zaB {R : List Chunk} {ab : Cells} {aa : Value} (l : List FRow) (ae : Reads R ab) (ag : Sl ab aa l) {r : (List FRow)} (hM : (zbd l).Ends r) (w : World) (H : St w w [] R) : Ret Tryz.prog 64 #[aa] w fun v w' => ∃ (y0 : List FRow) (u0 : Value), y0 = r /\ v = u0 /\ St w w' [cOwn (α := FRow) 109 u0 y0] R := by
 refine ret_of_W Tryz.func64 rfl rfl rfl ?_
 refine W.seq ?_
 refine W.region rfl ?_
 refine zA (.slice none 0 0) rfl ?_
 refine s_nil ?_
 refine W.seq ?_
 refine W.region rfl ?_
 refine zA (.slice none 0 0) rfl ?_
 refine s_nil ?_
 refine W.seq ?_
 refine W.region rfl ?_
 refine zM (.slice none 0 0) rfl ?_
 refine zM aa rfl ?_
 replace H := H.nilOwn (α := FRow) 109
 obtain ⟨ah, hM⟩ := M.e_grd hM
 simp only [Bool.and_eq_true, decide_eq_true_eq] at ah
 refine t_app (α := FRow) (k := 0) (l := []) (l2 := l) (l' := l) (vy := aa) T66 rfl H rfl rfl rfl ag (ae.at H) (List.nil_append _) (by first | omega | (simp only [List.length_nil] at *; omega)) ?_
 intro ac aj H
 replace H := H.nf
 refine zA ac rfl ?_
 refine s_nil ?_
 refine W.ret ?_
 have ai := M.e_pure hM
 exact ⟨_, resE_tmp rfl, ⟨l, ac, ai, rfl, H⟩⟩

def zak (s_Sections : List Sect) : (Nat × (List Sect)) -> M ((Nat × (List Sect)) ⊕ ((List Sect) × (List Sect))) := fun (i, l) =>
  bif decide ((i : Int) < (s_Sections.length : Int)) then (
  M.grd (decide ((i : Int) < (s_Sections.length : Int))) <|
  M.bind (zbd ((s_Sections.getD i default).rows)) fun r4 =>
  M.grd (decide ((l.length + ([(⟨((s_Sections.getD i default).place : Int), r4⟩ : Sect)]).length) * 32 <= 140737488355328)) <|
  M.pure (.inl (i + 1, l ++ ([(⟨((s_Sections.getD i default).place : Int), r4⟩ : Sect)]))))
  else (
  M.pure (.inr (l, l)))
def zar (s_Sections : List Sect) (s_Marks : List Mrk) (s_Reaches : List Rch) : M ((List Sect) × (List Mrk) × (List Rch)) :=
  M.bind (zb0 s_Marks) fun r2 =>
  M.bind (zbO s_Reaches) fun r3 =>
  M.bind (M.iter (zak s_Sections) (0, [])) fun (l2, l3) =>
  M.pure (l3, r2, r3)
theorem zbu {R : List Chunk} {cf : Cells} {ae : Value} {cg : Cells} {au : Value} {ch : Cells} {aq : Value} (s_Sections : List Sect) (s_Marks : List Mrk) (s_Reaches : List Rch) (av : Reads R cf) (am : Sl cf ae s_Sections) (ci : Reads R cg) (cj : Sl cg au s_Marks) (bH : Reads R ch) (bI : Sl ch aq s_Reaches) {r : ((List Sect) × (List Mrk) × (List Rch))} (hM : (zar s_Sections s_Marks s_Reaches).Ends r) (w : World) (H : St w w [] R) : Ret Tryz.prog 17 #[.agg #[ae, au, aq]] w fun v w' => ∃ (y0 : List Sect) (y1 : List Mrk) (y2 : List Rch) (u0 : Value) (rr1 : List (Raw 1)) (ck : Base) (u3 : Value) (u4 : Value), (y0, y1, y2) = r /\ v = .agg #[u0, u3, u4] /\ St w w' [cOwn (α := Raw 1) 68 u0 rr1, cRo ck, cOwn (α := Mrk) 70 u3 y1, cOwn (α := Rch) 58 u4 y2] R /\ RepR (α := Sect) ck.cells rr1 y0 := by
 refine ret_of_W Tryz.func17 rfl rfl rfl ?_
 refine W.seq ?_
 refine W.region rfl ?_
 refine t_box (v := .agg #[ae, au, aq]) (cs := [ae, au, aq]) H rfl rfl ?_
 intro ak fh H
 refine t_alloc (cs := [.slice none 0 0, .slice none 0 0, .slice none 0 0]) H Al27 rfl ?_
 intro az fi H
 refine s_nil ?_
 refine W.seq ?_
 refine W.drawT (fun W => St w W [cBlk az [.slice none 0 0, .slice none 0 0, .slice none 0 0] 27, cBlk ak [ae, au, aq] 27] R) (.q 0 (.q 1 (.q 3 (.q 4 (.l2 2 (.l2 5 (.q 6 (.l 7 (.l 8 .nil))) 7 (.l 5 (.q 6 (.l 8 .nil)))) 7 (.l 2 (.l 5 (.q 6 (.l 8 .nil))))))))) mixed (by decide +kernel) rfl ?_
 intro fj aw
 replace H := H.ext aw
 clear aw
 refine ⟨(H.pk [0, 1]), ?_⟩
 refine t_q rfl (fun w' H => x_fa (a := Pq ak) (v := Oq ak 1) rfl (fa_blk (o := 0) Fd27_1 Sz24)) ?_
 refine t_q rfl (fun w' H => x_ld (p := Oq ak 1) (v := au) rfl (ldb_sc Sc24 (H.bl 1) rfl)) ?_
 refine t_q rfl (fun w' H => x_fa (a := Pq ak) (v := Oq ak 2) rfl (fa_blk (o := 0) Fd27_2 Sz25)) ?_
 refine t_q rfl (fun w' H => x_ld (p := Oq ak 2) (v := aq) rfl (ldb_sc Sc25 (H.bl 1) rfl)) ?_
 refine t_l2 rfl rfl ?_ ?_
 ·skip
  obtain ⟨fk, cF, hM⟩ := M.e_bind hM
  refine s_call cf62 [au] rfl (zcB s_Marks (ci.app _) cj cF _ (H.gt 2)) ?_
  rintro vq fm ⟨r2, ai, cG, hvq, al⟩
  subst cG
  subst vq
  try dsimp only at hM
  replace H := H.bk al
  clear al
  have cn := Sl.cells (H.os 0)
  have fo := Sl.oc (H.os 0)
  refine s_nil ⟨(H.pk [1, 2]), ?_⟩
  refine t_l2 rfl rfl ?_ ?_
  ·skip
   obtain ⟨fp, cH, hM⟩ := M.e_bind hM
   refine s_call cf63 [aq] rfl (zbH s_Reaches (bH.app _) bI cH _ (H.gt 3)) ?_
   rintro vq fq ⟨r3, ag, cI, hvq, al⟩
   subst cI
   subst vq
   try dsimp only at hM
   replace H := H.bk al
   clear al
   have cJ := Sl.cells (H.os 0)
   have fu := Sl.oc (H.os 0)
   refine s_nil ⟨(H.pk [2, 3]), ?_⟩
   refine t_q rfl (fun w' H => x_bld (ps := [(1, ai), (2, ag)]) (zs := [.slice none 0 0, .slice none 0 0, .slice none 0 0]) (L' := [.slice none 0 0, ai, ag]) rfl Tryz.underlying27 Al27 rfl (Bd27 Tryz.underlying27) (.cons (cs := [ai]) cn rfl rfl rfl rfl <| .cons (cs := [ag]) cJ rfl rfl rfl rfl <| .nil)) ?_
   refine t_l rfl ?_
   refine t_alloc (cs := [.slice none 0 0, .slice none 0 0, .slice none 0 0]) H Al27 rfl ?_
   intro ac fw H
   refine s_nil ⟨(H.pk [3, 4]), ?_⟩
   refine t_l rfl ?_
   refine t_sw 0 0 [.slice none 0 0, ai, ag] (.agg #[.slice none 0 0, ai, ag]) H rfl rfl Sz27 rfl rfl rfl (by simp only [List.all_cons, List.all_nil, Bool.true_and, Bool.and_true, Sl.oc (H.os 2), Sl.oc (H.os 1)]; try rfl) ?_
   intro fx H
   refine s_nil ⟨(H.pk [3, 4]), ?_⟩
   refine t_nil ?_
   refine W.seq ?_
   refine W.seq ?_
   refine W.region rfl ?_
   refine zA (I 0) rfl ?_
   refine s_nil ?_
   refine W.block ?_
   obtain ⟨aA, H⟩ := H.emptyE
   replace H := H.nilOwn (α := Raw 1) 68
   have cK : RepR (α := Sect) (n := 1) aA.cells [] [] := .nil
   obtain ⟨cL, bJ, cM⟩ := M.e_bind hM
   obtain ⟨co, bJ⟩ := M.e_iter bJ
   refine W.loop (fun m σ W => ∃ (i : Nat) (l : List Sect) (aj : Value) (ah : List (Raw 1)) (B_l : Base) (ρ : Env), σ = upds ρ [(1, Pq ak), (2, Pq az), (3, Pq ac), (4, I (i : Int))] /\ M.iterN (zak s_Sections) m (i, l) = some cL /\ St w W [cOwn (α := Raw 1) 68 aj ah, cRo B_l, cBlk ac [aj, ai, ag] 27, cOwn (α := Rch) 58 ag r3, cOwn (α := Mrk) 70 ai r2, cBlk az [.slice none 0 0, .slice none 0 0, .slice none 0 0] 27, cBlk ak [ae, au, aq] 27] R /\ RepR (α := Sect) B_l.cells ah l) ?_ ?_
   ·exact ⟨_, 0, [], (.slice none 0 0), [], aA, _, upds_of _ _ ⟨rfl, rfl, rfl, rfl, trivial⟩, bJ, H, cK⟩
   rintro fy σ fA ⟨i, l, aj, ah, B_l, ρ, rfl, cp, H, ab⟩
   obtain ⟨aX, aY, fB, hM, aN⟩ := M.e_iterN cp
   simp only [zak] at hM
   clear cp
   refine W.seq ?_
   refine W.seq ?_
   refine W.region rfl ?_
   refine zM (I (i : Int)) rfl ?_
   refine s_val (x_fa (a := Pq ak) (v := Pq ak) rfl (fa_blk (o := 0) Fd27_0 Sz23)) ?_
   refine s_val (x_ld (p := Pq ak) (v := ae) rfl (ldb_sc Sc23 (H.bl 6) rfl)) ?_
   have fC := (am).len_le
   refine s_val (x_lenS T23.und rfl am) ?_
   refine zC (i : Int) (s_Sections.length : Int) (decide ((i : Int) < (s_Sections.length : Int))) rfl rfl rfl ?_
   refine s_nil ?_
   refine W.cond (decide ((i : Int) < (s_Sections.length : Int))) rfl (fun aO => ?_) (fun aO => ?_)
   ·replace hM := M.e_t hM aO
    simp only [qy1, qy2, qy3, qy4, qy5, qy6, ne_eq, qy7] at aO
    refine W.skip ?_
    refine W.seq ?_
    refine W.block ?_
    refine W.drawT (fun W => St w W [cRo B_l, cOwn (α := Rch) 58 ag r3, cOwn (α := Mrk) 70 ai r2, cBlk az [.slice none 0 0, .slice none 0 0, .slice none 0 0] 27, cBlk ak [ae, au, aq] 27] R) (.q 0 (.q 2 (.q 3 (.q 4 (.q 5 (.q 6 (.q 7 (.q 8 (.q 9 (.q 10 (.q 11 (.q 12 (.q 13 (.l2 1 (.l 14 (.l 15 (.l 16 (.l 17 (.q 18 (.l 19 .nil)))))) 14 (.l2 1 (.l 15 (.l 16 (.l 17 (.q 18 (.l 19 .nil))))) 15 (.l2 1 (.l 16 (.l 17 (.q 18 (.l 19 .nil)))) 16 (.l 1 (.l 17 (.q 18 (.l 19 .nil)))))))))))))))))))) mixed (by decide +kernel) rfl ?_
    intro fD aw
    replace H := H.ext aw
    clear aw
    refine ⟨(H.pk [1, 3, 4, 5, 6]), ?_⟩
    refine t_q rfl (fun w' H => x_fa (a := Pq ac) (v := Pq ac) rfl (fa_blk (o := 0) Fd27_0 Sz23)) ?_
    refine t_q rfl (fun w' H => x_fa (a := Pq ak) (v := Pq ak) rfl (fa_blk (o := 0) Fd27_0 Sz23)) ?_
    refine t_q rfl (fun w' H => x_ld (p := Pq ak) (v := ae) rfl (ldb_sc Sc23 (H.bl 4) rfl)) ?_
    refine t_q rfl (fun w' H => x_mv (v := I (i : Int)) rfl) ?_
    obtain ⟨cN, hM⟩ := M.e_grd hM
    simp only [Bool.and_eq_true, decide_eq_true_eq] at cN
    refine t_q rfl (fun w' H => x_ix (a := ae) (b := I (i : Int)) (v := vat ae 2 (Int.toNat (i : Int))) rfl rfl (Sl.ix (α := Sect) T23.und T23.size am (by omega) (by omega))) ?_
    refine t_q rfl (fun w' H => x_fa (a := vat ae 2 (Int.toNat (i : Int))) (v := fat (vat ae 2 (Int.toNat (i : Int))) 0) rfl (fa_pl Fd68_0 Sz3 (Sl.pl (i := (i : Int)) am (by omega) (by omega)))) ?_
    refine t_q rfl (fun w' H => x_ld (p := fat (vat ae 2 (Int.toNat (i : Int))) 0) (v := I ((s_Sections.getD i default).place)) rfl (ld_sc Sc3 (At.mono (Sect_at0 am (i := (i : Int)) (by omega) (by omega)) (av.at H)))) ?_
    refine t_q rfl (fun w' H => x_fa (a := Pq ak) (v := Pq ak) rfl (fa_blk (o := 0) Fd27_0 Sz23)) ?_
    refine t_q rfl (fun w' H => x_ld (p := Pq ak) (v := ae) rfl (ldb_sc Sc23 (H.bl 4) rfl)) ?_
    refine t_q rfl (fun w' H => x_mv (v := I (i : Int)) rfl) ?_
    refine t_q rfl (fun w' H => x_ix (a := ae) (b := I (i : Int)) (v := vat ae 2 (Int.toNat (i : Int))) rfl rfl (Sl.ix (α := Sect) T23.und T23.size am (by omega) (by omega))) ?_
    refine t_q rfl (fun w' H => x_fa (a := vat ae 2 (Int.toNat (i : Int))) (v := fat (vat ae 2 (Int.toNat (i : Int))) 1) rfl (fa_pl Fd68_1 Sz66 (Sl.pl (i := (i : Int)) am (by omega) (by omega)))) ?_
    obtain ⟨aZ, cO, aP⟩ := Sect_at1 am (i := (i : Int)) (by omega) (by omega)
    replace aP : Sl _ aZ (s_Sections.getD i default).rows := aP
    have fE := aP.len_le
    refine t_q rfl (fun w' H => x_ld (p := fat (vat ae 2 (Int.toNat (i : Int))) 1) (v := aZ) rfl (ld_sc Sc66 (At.mono (cO) (av.at H)))) ?_
    refine t_l2 rfl rfl ?_ ?_
    ·skip
     refine s_val (x_ld (p := Pq ac) (v := aj) rfl (ldb_sc Sc23 (H.bl 2) rfl)) ?_
     have fF := Sl.cells (H.os 0)
     have fG := Sl.oc (H.os 0)
     refine s_nil ⟨(H.pk [1, 3, 4, 5, 6]), ?_⟩
     refine t_l rfl ?_
     obtain ⟨fH, cP, hM⟩ := M.e_bind hM
     refine s_call cf64 [aZ] rfl (zaB ((s_Sections.getD i default).rows) (av.app _) aP cP _ (H.gt 7)) ?_
     rintro vq fI ⟨r4, aa, cQ, hvq, al⟩
     subst cQ
     subst vq
     try dsimp only at hM
     replace H := H.bk al
     clear al
     have fJ := Sl.cells (H.os 0)
     have fK := Sl.oc (H.os 0)
     refine s_nil ⟨(H.pk [2, 4, 5, 6, 7]), ?_⟩
     refine t_l rfl ?_
     refine s_val (x_bld (ps := [(0, I ((s_Sections.getD i default).place)), (1, aa)]) (zs := [I 0, .slice none 0 0]) (L' := [I ((s_Sections.getD i default).place), aa]) rfl Tryz.underlying68 Al68 rfl (Bd68 Tryz.underlying68) (.cons (cs := [I ((s_Sections.getD i default).place)]) rfl rfl rfl rfl rfl <| .cons (cs := [aa]) (Sl.cells (H.os 0)) rfl rfl rfl rfl <| .nil)) ?_
     refine s_nil ⟨(H.pk [2, 4, 5, 6, 7]), ?_⟩
     refine t_l rfl ?_
     obtain ⟨ax, H⟩ := H.emptyE
     obtain ⟨ay, H, cR⟩ := H.freezeE (k := 1) rfl
     replace H := H.nf
     have a6 := cR
     obtain ⟨ao, H, fL, cS⟩ := H.joinE (i := 0) (j := 1) rfl rfl
     replace a6 := a6.mono cS
     obtain ⟨aB, cq⟩ : ∃ r : Raw 1, r.cs = [I ((s_Sections.getD i default).place), aa] := ⟨Raw.of [I ((s_Sections.getD i default).place), aa] rfl (by simp only [List.all_cons, List.all_nil, Bool.true_and, Bool.and_true, Sl.oc a6]; try rfl), rfl⟩
     have cT : RepR (α := Sect) ao.cells [aB] [(⟨((s_Sections.getD i default).place : Int), r4⟩ : Sect)] := .cons (by rw [cq]; exact ⟨_, rfl, a6⟩) <| .nil
     refine t_bs (α := Raw 1) T23 [.agg #[I ((s_Sections.getD i default).place), aa]] [aB] H rfl (.cons (by rw [show (Flat.enc aB : List Value) = aB.cs from rfl, cq]; rfl) (Flat.rep_enc _ _) <| .nil) rfl rfl rfl ?_
     intro cU fM H
     replace H := H.nf
     have fN := Sl.cells (H.os 0)
     have fO := Sl.oc (H.os 0)
     refine s_nil ⟨(H.pk [5, 7, 8, 9, 10]), ?_⟩
     refine t_l rfl ?_
     obtain ⟨cV, hM⟩ := M.e_grd hM
     simp only [Bool.and_eq_true, decide_eq_true_eq] at cV
     have a7 := cT
     obtain ⟨ap, H, cW, cX⟩ := H.joinE (i := 5) (j := 1) rfl rfl
     replace ab := ab.mono cW
     replace a7 := a7.mono cX
     have bK := ab.app a7
     refine t_app (α := Raw 1) (k := 5) (l := ah) (l2 := [aB]) (l' := ah ++ ([aB])) (vy := cU) T23 rfl H rfl rfl rfl (H.os 1) (H.ol 1) (rfl) (by have a_ := ab.len; have b_ := a7.len; (try simp only [List.length_nil] at *); first | omega | (rw [a_, b_]; omega)) ?_
     intro bL fP H
     replace H := H.nf
     have fQ := Sl.cells (H.os 5)
     have fR := Sl.oc (H.os 5)
     refine s_nil ⟨(H.pk [6, 8, 9, 10, 11]), ?_⟩
     refine t_q rfl (fun w' H => x_fa (a := Pq ac) (v := Pq ac) rfl (fa_blk (o := 0) Fd27_0 Sz23)) ?_
     refine t_l rfl ?_
     refine t_sw 7 0 [bL] bL H rfl rfl Sz23 (Sl.cells (rowSl rfl (H.get (k := 5) rfl) (roLe _ (H.get (k := 0) rfl)) bK)) rfl rfl (by simp only [List.all_cons, List.all_nil, Bool.true_and, Bool.and_true, Sl.oc (rowSl rfl (H.get (k := 5) rfl) (roLe _ (H.get (k := 0) rfl)) bK)]; try rfl) ?_
     intro fS H
     refine s_nil ⟨(H.pk [6, 8, 9, 10, 11]), ?_⟩
     refine t_nil ?_
     replace H := H.pk [0, 5, 6, 7, 8, 9, 10, 11]
     refine W.region rfl ?_
     refine zM (I (i : Int)) rfl ?_
     refine zR (i : Int) 1 ((i : Int) + 1) rfl rfl rfl (by omega) ?_
     refine zA (I ((i : Int) + 1)) rfl ?_
     refine s_nil ?_
     exact ⟨aX, aY, i + 1, l ++ ([(⟨((s_Sections.getD i default).place : Int), r4⟩ : Sect)]), bL, ah ++ ([aB]), ap, _, upds_of _ _ ⟨rfl, rfl, rfl, rfl, trivial⟩, M.e_inl hM aN, (H.pk [1, 0, 3, 4, 5, 6, 7]), bK⟩
    skip
    obtain ⟨fT, cY, hM⟩ := M.e_bind hM
    refine s_call cf64 [aZ] rfl (zaB ((s_Sections.getD i default).rows) (av.app _) aP cY _ (H.gt 7)) ?_
    rintro vq fU ⟨r4, aa, cZ, hvq, al⟩
    subst cZ
    subst vq
    try dsimp only at hM
    replace H := H.bk al
    clear al
    have fV := Sl.cells (H.os 0)
    have fW := Sl.oc (H.os 0)
    have fX := Sl.cells (H.os 1)
    have fY := Sl.oc (H.os 1)
    refine s_nil ⟨(H.pk [2, 4, 5, 6, 7]), ?_⟩
    obtain ⟨c9, hM⟩ := M.e_grd hM
    simp only [Bool.and_eq_true, decide_eq_true_eq] at c9
    refine t_l2 rfl rfl ?_ ?_
    ·skip
     refine s_val (x_ld (p := Pq ac) (v := aj) rfl (ldb_sc Sc23 (H.bl 3) rfl)) ?_
     refine s_nil ⟨(H.pk [2, 4, 5, 6, 7]), ?_⟩
     refine t_l rfl ?_
     refine s_val (x_bld (ps := [(0, I ((s_Sections.getD i default).place)), (1, aa)]) (zs := [I 0, .slice none 0 0]) (L' := [I ((s_Sections.getD i default).place), aa]) rfl Tryz.underlying68 Al68 rfl (Bd68 Tryz.underlying68) (.cons (cs := [I ((s_Sections.getD i default).place)]) rfl rfl rfl rfl rfl <| .cons (cs := [aa]) (Sl.cells (H.os 0)) rfl rfl rfl rfl <| .nil)) ?_
     refine s_nil ⟨(H.pk [2, 4, 5, 6, 7]), ?_⟩
     refine t_l rfl ?_
     obtain ⟨ax, H⟩ := H.emptyE
     obtain ⟨ay, H, da⟩ := H.freezeE (k := 1) rfl
     replace H := H.nf
     have a8 := da
     obtain ⟨ao, H, fZ, db⟩ := H.joinE (i := 0) (j := 1) rfl rfl
     replace a8 := a8.mono db
     obtain ⟨aC, cr⟩ : ∃ r : Raw 1, r.cs = [I ((s_Sections.getD i default).place), aa] := ⟨Raw.of [I ((s_Sections.getD i default).place), aa] rfl (by simp only [List.all_cons, List.all_nil, Bool.true_and, Bool.and_true, Sl.oc a8]; try rfl), rfl⟩
     have dc : RepR (α := Sect) ao.cells [aC] [(⟨((s_Sections.getD i default).place : Int), r4⟩ : Sect)] := .cons (by rw [cr]; exact ⟨_, rfl, a8⟩) <| .nil
     refine t_bs (α := Raw 1) T23 [.agg #[I ((s_Sections.getD i default).place), aa]] [aC] H rfl (.cons (by rw [show (Flat.enc aC : List Value) = aC.cs from rfl, cr]; rfl) (Flat.rep_enc _ _) <| .nil) rfl rfl rfl ?_
     intro dd f2 H
     replace H := H.nf
     have f3 := Sl.cells (H.os 0)
     have f4 := Sl.oc (H.os 0)
     refine s_nil ⟨(H.pk [5, 7, 8, 9, 10]), ?_⟩
     refine t_l rfl ?_
     have ba := dc
     obtain ⟨ap, H, de, dg⟩ := H.joinE (i := 5) (j := 1) rfl rfl
     replace ab := ab.mono de
     replace ba := ba.mono dg
     have bM := ab.app ba
     refine t_app (α := Raw 1) (k := 5) (l := ah) (l2 := [aC]) (l' := ah ++ ([aC])) (vy := dd) T23 rfl H rfl rfl rfl (H.os 1) (H.ol 1) (rfl) (by have a_ := ab.len; have b_ := ba.len; (try simp only [List.length_nil] at *); first | omega | (rw [a_, b_]; omega)) ?_
     intro bN f6 H
     replace H := H.nf
     have f9 := Sl.cells (H.os 5)
     have ga := Sl.oc (H.os 5)
     refine s_nil ⟨(H.pk [6, 8, 9, 10, 11]), ?_⟩
     refine t_q rfl (fun w' H => x_fa (a := Pq ac) (v := Pq ac) rfl (fa_blk (o := 0) Fd27_0 Sz23)) ?_
     refine t_l rfl ?_
     refine t_sw 7 0 [bN] bN H rfl rfl Sz23 (Sl.cells (rowSl rfl (H.get (k := 5) rfl) (roLe _ (H.get (k := 0) rfl)) bM)) rfl rfl (by simp only [List.all_cons, List.all_nil, Bool.true_and, Bool.and_true, Sl.oc (rowSl rfl (H.get (k := 5) rfl) (roLe _ (H.get (k := 0) rfl)) bM)]; try rfl) ?_
     intro gc H
     refine s_nil ⟨(H.pk [6, 8, 9, 10, 11]), ?_⟩
     refine t_nil ?_
     replace H := H.pk [0, 5, 6, 7, 8, 9, 10, 11]
     refine W.region rfl ?_
     refine zM (I (i : Int)) rfl ?_
     refine zR (i : Int) 1 ((i : Int) + 1) rfl rfl rfl (by omega) ?_
     refine zA (I ((i : Int) + 1)) rfl ?_
     refine s_nil ?_
     exact ⟨aX, aY, i + 1, l ++ ([(⟨((s_Sections.getD i default).place : Int), r4⟩ : Sect)]), bN, ah ++ ([aC]), ap, _, upds_of _ _ ⟨rfl, rfl, rfl, rfl, trivial⟩, M.e_inl hM aN, (H.pk [1, 0, 3, 4, 5, 6, 7]), bM⟩
    skip
    refine s_val (x_bld (ps := [(0, I ((s_Sections.getD i default).place)), (1, aa)]) (zs := [I 0, .slice none 0 0]) (L' := [I ((s_Sections.getD i default).place), aa]) rfl Tryz.underlying68 Al68 rfl (Bd68 Tryz.underlying68) (.cons (cs := [I ((s_Sections.getD i default).place)]) rfl rfl rfl rfl rfl <| .cons (cs := [aa]) (Sl.cells (H.os 0)) rfl rfl rfl rfl <| .nil)) ?_
    refine s_nil ⟨(H.pk [2, 4, 5, 6, 7]), ?_⟩
    refine t_l2 rfl rfl ?_ ?_
    ·skip
     refine s_val (x_ld (p := Pq ac) (v := aj) rfl (ldb_sc Sc23 (H.bl 3) rfl)) ?_
     refine s_nil ⟨(H.pk [2, 4, 5, 6, 7]), ?_⟩
     refine t_l rfl ?_
     obtain ⟨ax, H⟩ := H.emptyE
     obtain ⟨ay, H, dh⟩ := H.freezeE (k := 1) rfl
     replace H := H.nf
     have bb := dh
     obtain ⟨ao, H, gf, di⟩ := H.joinE (i := 0) (j := 1) rfl rfl
     replace bb := bb.mono di
     obtain ⟨aD, ct⟩ : ∃ r : Raw 1, r.cs = [I ((s_Sections.getD i default).place), aa] := ⟨Raw.of [I ((s_Sections.getD i default).place), aa] rfl (by simp only [List.all_cons, List.all_nil, Bool.true_and, Bool.and_true, Sl.oc bb]; try rfl), rfl⟩
     have dj : RepR (α := Sect) ao.cells [aD] [(⟨((s_Sections.getD i default).place : Int), r4⟩ : Sect)] := .cons (by rw [ct]; exact ⟨_, rfl, bb⟩) <| .nil
     refine t_bs (α := Raw 1) T23 [.agg #[I ((s_Sections.getD i default).place), aa]] [aD] H rfl (.cons (by rw [show (Flat.enc aD : List Value) = aD.cs from rfl, ct]; rfl) (Flat.rep_enc _ _) <| .nil) rfl rfl rfl ?_
     intro dk gg H
     replace H := H.nf
     have gh := Sl.cells (H.os 0)
     have gi := Sl.oc (H.os 0)
     refine s_nil ⟨(H.pk [5, 7, 8, 9, 10]), ?_⟩
     refine t_l rfl ?_
     have bc := dj
     obtain ⟨ap, H, dm, dp⟩ := H.joinE (i := 5) (j := 1) rfl rfl
     replace ab := ab.mono dm
     replace bc := bc.mono dp
     have bO := ab.app bc
     refine t_app (α := Raw 1) (k := 5) (l := ah) (l2 := [aD]) (l' := ah ++ ([aD])) (vy := dk) T23 rfl H rfl rfl rfl (H.os 1) (H.ol 1) (rfl) (by have a_ := ab.len; have b_ := bc.len; (try simp only [List.length_nil] at *); first | omega | (rw [a_, b_]; omega)) ?_
     intro bP gj H
     replace H := H.nf
     have gk := Sl.cells (H.os 5)
     have gl := Sl.oc (H.os 5)
     refine s_nil ⟨(H.pk [6, 8, 9, 10, 11]), ?_⟩
     refine t_q rfl (fun w' H => x_fa (a := Pq ac) (v := Pq ac) rfl (fa_blk (o := 0) Fd27_0 Sz23)) ?_
     refine t_l rfl ?_
     refine t_sw 7 0 [bP] bP H rfl rfl Sz23 (Sl.cells (rowSl rfl (H.get (k := 5) rfl) (roLe _ (H.get (k := 0) rfl)) bO)) rfl rfl (by simp only [List.all_cons, List.all_nil, Bool.true_and, Bool.and_true, Sl.oc (rowSl rfl (H.get (k := 5) rfl) (roLe _ (H.get (k := 0) rfl)) bO)]; try rfl) ?_
     intro gn H
     refine s_nil ⟨(H.pk [6, 8, 9, 10, 11]), ?_⟩
     refine t_nil ?_
     replace H := H.pk [0, 5, 6, 7, 8, 9, 10, 11]
     refine W.region rfl ?_
     refine zM (I (i : Int)) rfl ?_
     refine zR (i : Int) 1 ((i : Int) + 1) rfl rfl rfl (by omega) ?_
     refine zA (I ((i : Int) + 1)) rfl ?_
     refine s_nil ?_
     exact ⟨aX, aY, i + 1, l ++ ([(⟨((s_Sections.getD i default).place : Int), r4⟩ : Sect)]), bP, ah ++ ([aD]), ap, _, upds_of _ _ ⟨rfl, rfl, rfl, rfl, trivial⟩, M.e_inl hM aN, (H.pk [1, 0, 3, 4, 5, 6, 7]), bO⟩
    skip
    obtain ⟨ax, H⟩ := H.emptyE
    obtain ⟨ay, H, dq⟩ := H.freezeE (k := 1) rfl
    replace H := H.nf
    have bf := dq
    obtain ⟨ao, H, gp, dr⟩ := H.joinE (i := 0) (j := 1) rfl rfl
    replace bf := bf.mono dr
    obtain ⟨aE, cu⟩ : ∃ r : Raw 1, r.cs = [I ((s_Sections.getD i default).place), aa] := ⟨Raw.of [I ((s_Sections.getD i default).place), aa] rfl (by simp only [List.all_cons, List.all_nil, Bool.true_and, Bool.and_true, Sl.oc bf]; try rfl), rfl⟩
    have dt : RepR (α := Sect) ao.cells [aE] [(⟨((s_Sections.getD i default).place : Int), r4⟩ : Sect)] := .cons (by rw [cu]; exact ⟨_, rfl, bf⟩) <| .nil
    refine t_bs (α := Raw 1) T23 [.agg #[I ((s_Sections.getD i default).place), aa]] [aE] H rfl (.cons (by rw [show (Flat.enc aE : List Value) = aE.cs from rfl, cu]; rfl) (Flat.rep_enc _ _) <| .nil) rfl rfl rfl ?_
    intro dv gq H
    replace H := H.nf
    have gr := Sl.cells (H.os 0)
    have gu := Sl.oc (H.os 0)
    refine s_nil ⟨(H.pk [5, 7, 8, 9, 10]), ?_⟩
    refine t_l rfl ?_
    refine s_val (x_ld (p := Pq ac) (v := aj) rfl (ldb_sc Sc23 (H.bl 6) rfl)) ?_
    refine s_nil ⟨(H.pk [5, 7, 8, 9, 10]), ?_⟩
    refine t_l rfl ?_
    have bg := dt
    obtain ⟨ap, H, dw, dx⟩ := H.joinE (i := 5) (j := 1) rfl rfl
    replace ab := ab.mono dw
    replace bg := bg.mono dx
    have bQ := ab.app bg
    refine t_app (α := Raw 1) (k := 5) (l := ah) (l2 := [aE]) (l' := ah ++ ([aE])) (vy := dv) T23 rfl H rfl rfl rfl (H.os 1) (H.ol 1) (rfl) (by have a_ := ab.len; have b_ := bg.len; (try simp only [List.length_nil] at *); first | omega | (rw [a_, b_]; omega)) ?_
    intro bR gv H
    replace H := H.nf
    have gw := Sl.cells (H.os 5)
    have gx := Sl.oc (H.os 5)
    refine s_nil ⟨(H.pk [6, 8, 9, 10, 11]), ?_⟩
    refine t_q rfl (fun w' H => x_fa (a := Pq ac) (v := Pq ac) rfl (fa_blk (o := 0) Fd27_0 Sz23)) ?_
    refine t_l rfl ?_
    refine t_sw 7 0 [bR] bR H rfl rfl Sz23 (Sl.cells (rowSl rfl (H.get (k := 5) rfl) (roLe _ (H.get (k := 0) rfl)) bQ)) rfl rfl (by simp only [List.all_cons, List.all_nil, Bool.true_and, Bool.and_true, Sl.oc (rowSl rfl (H.get (k := 5) rfl) (roLe _ (H.get (k := 0) rfl)) bQ)]; try rfl) ?_
    intro gy H
    refine s_nil ⟨(H.pk [6, 8, 9, 10, 11]), ?_⟩
    refine t_nil ?_
    replace H := H.pk [0, 5, 6, 7, 8, 9, 10, 11]
    refine W.region rfl ?_
    refine zM (I (i : Int)) rfl ?_
    refine zR (i : Int) 1 ((i : Int) + 1) rfl rfl rfl (by omega) ?_
    refine zA (I ((i : Int) + 1)) rfl ?_
    refine s_nil ?_
    exact ⟨aX, aY, i + 1, l ++ ([(⟨((s_Sections.getD i default).place : Int), r4⟩ : Sect)]), bR, ah ++ ([aE]), ap, _, upds_of _ _ ⟨rfl, rfl, rfl, rfl, trivial⟩, M.e_inl hM aN, (H.pk [1, 0, 3, 4, 5, 6, 7]), bQ⟩
   replace hM := M.e_f hM aO
   simp only [qy1, qy2, qy3, qy4, qy5, qy6, ne_eq, qy7] at aO
   refine W.exit ?_
   have dy := M.e_inr hM aN
   subst dy
   replace hM := cM
   try dsimp only at hM
   refine W.seq ?_
   refine W.region rfl ?_
   refine s_val (x_ld (p := Pq ac) (v := .agg #[aj, ai, ag]) rfl (ldb_ag (ds := [aj, ai, ag]) Ag27 Sz27 (H.bl 2) rfl rfl)) ?_
   refine t_sw 5 0 [aj, ai, ag] (.agg #[aj, ai, ag]) H rfl rfl Sz27 rfl rfl rfl (by simp only [List.all_cons, List.all_nil, Bool.true_and, Bool.and_true, Sl.oc (rowSl rfl (H.get (k := 0) rfl) (roLe _ (H.get (k := 1) rfl)) ab), Sl.oc (H.os 4), Sl.oc (H.os 3)]; try rfl) ?_
   intro gz H
   refine s_nil ?_
   replace H := H.pk [0, 1, 3, 4, 5]
   refine W.ret ?_
   have dz := (H.bl 4)
   have aQ := M.e_pure hM
   exact ⟨_, (resE_of1 (v := .agg #[aj, ai, ag]) rfl (.cell (v := .agg #[aj, ai, ag]) rfl (run_loadVar_ag (ds := [aj, ai, ag]) Ag27 Sz27 dz rfl rfl) <| .nil)), ⟨l, r2, r3, aj, ah, B_l, ai, ag, aQ, rfl, (H.pk [0, 1, 3, 2]), ab⟩⟩
  skip
  refine t_alloc (cs := [.slice none 0 0, .slice none 0 0, .slice none 0 0]) H Al27 rfl ?_
  intro ac gA H
  refine s_nil ⟨(H.pk [2, 3]), ?_⟩
  refine t_l rfl ?_
  obtain ⟨gB, dA, hM⟩ := M.e_bind hM
  refine s_call cf63 [aq] rfl (zbH s_Reaches (bH.app _) bI dA _ (H.gt 4)) ?_
  rintro vq gC ⟨r3, ag, dB, hvq, al⟩
  subst dB
  subst vq
  try dsimp only at hM
  replace H := H.bk al
  clear al
  have dC := Sl.cells (H.os 0)
  have gD := Sl.oc (H.os 0)
  refine s_nil ⟨(H.pk [3, 4]), ?_⟩
  refine t_q rfl (fun w' H => x_bld (ps := [(1, ai), (2, ag)]) (zs := [.slice none 0 0, .slice none 0 0, .slice none 0 0]) (L' := [.slice none 0 0, ai, ag]) rfl Tryz.underlying27 Al27 rfl (Bd27 Tryz.underlying27) (.cons (cs := [ai]) cn rfl rfl rfl rfl <| .cons (cs := [ag]) dC rfl rfl rfl rfl <| .nil)) ?_
  refine t_l rfl ?_
  refine t_sw 1 0 [.slice none 0 0, ai, ag] (.agg #[.slice none 0 0, ai, ag]) H rfl rfl Sz27 rfl rfl rfl (by simp only [List.all_cons, List.all_nil, Bool.true_and, Bool.and_true, Sl.oc (H.os 2), Sl.oc (H.os 0)]; try rfl) ?_
  intro gE H
  refine s_nil ⟨(H.pk [3, 4]), ?_⟩
  refine t_nil ?_
  refine W.seq ?_
  refine W.seq ?_
  refine W.region rfl ?_
  refine zA (I 0) rfl ?_
  refine s_nil ?_
  refine W.block ?_
  obtain ⟨aA, H⟩ := H.emptyE
  replace H := H.nilOwn (α := Raw 1) 68
  have dD : RepR (α := Sect) (n := 1) aA.cells [] [] := .nil
  obtain ⟨dE, bS, dF⟩ := M.e_bind hM
  obtain ⟨co, bS⟩ := M.e_iter bS
  refine W.loop (fun m σ W => ∃ (i : Nat) (l : List Sect) (aj : Value) (ah : List (Raw 1)) (B_l : Base) (ρ : Env), σ = upds ρ [(1, Pq ak), (2, Pq az), (3, Pq ac), (4, I (i : Int))] /\ M.iterN (zak s_Sections) m (i, l) = some dE /\ St w W [cOwn (α := Raw 1) 68 aj ah, cRo B_l, cOwn (α := Rch) 58 ag r3, cBlk ac [aj, ai, ag] 27, cOwn (α := Mrk) 70 ai r2, cBlk az [.slice none 0 0, .slice none 0 0, .slice none 0 0] 27, cBlk ak [ae, au, aq] 27] R /\ RepR (α := Sect) B_l.cells ah l) ?_ ?_
  ·exact ⟨_, 0, [], (.slice none 0 0), [], aA, _, upds_of _ _ ⟨rfl, rfl, rfl, rfl, trivial⟩, bS, H, dD⟩
  rintro gF σ gG ⟨i, l, aj, ah, B_l, ρ, rfl, cv, H, ab⟩
  obtain ⟨bh, bi, gH, hM, aR⟩ := M.e_iterN cv
  simp only [zak] at hM
  clear cv
  refine W.seq ?_
  refine W.seq ?_
  refine W.region rfl ?_
  refine zM (I (i : Int)) rfl ?_
  refine s_val (x_fa (a := Pq ak) (v := Pq ak) rfl (fa_blk (o := 0) Fd27_0 Sz23)) ?_
  refine s_val (x_ld (p := Pq ak) (v := ae) rfl (ldb_sc Sc23 (H.bl 6) rfl)) ?_
  have gI := (am).len_le
  refine s_val (x_lenS T23.und rfl am) ?_
  refine zC (i : Int) (s_Sections.length : Int) (decide ((i : Int) < (s_Sections.length : Int))) rfl rfl rfl ?_
  refine s_nil ?_
  refine W.cond (decide ((i : Int) < (s_Sections.length : Int))) rfl (fun aS => ?_) (fun aS => ?_)
  ·replace hM := M.e_t hM aS
   simp only [qy1, qy2, qy3, qy4, qy5, qy6, ne_eq, qy7] at aS
   refine W.skip ?_
   refine W.seq ?_
   refine W.block ?_
   refine W.drawT (fun W => St w W [cRo B_l, cOwn (α := Rch) 58 ag r3, cOwn (α := Mrk) 70 ai r2, cBlk az [.slice none 0 0, .slice none 0 0, .slice none 0 0] 27, cBlk ak [ae, au, aq] 27] R) (.q 0 (.q 2 (.q 3 (.q 4 (.q 5 (.q 6 (.q 7 (.q 8 (.q 9 (.q 10 (.q 11 (.q 12 (.q 13 (.l2 1 (.l 14 (.l 15 (.l 16 (.l 17 (.q 18 (.l 19 .nil)))))) 14 (.l2 1 (.l 15 (.l 16 (.l 17 (.q 18 (.l 19 .nil))))) 15 (.l2 1 (.l 16 (.l 17 (.q 18 (.l 19 .nil)))) 16 (.l 1 (.l 17 (.q 18 (.l 19 .nil)))))))))))))))))))) mixed (by decide +kernel) rfl ?_
   intro gJ aw
   replace H := H.ext aw
   clear aw
   refine ⟨(H.pk [1, 2, 4, 5, 6]), ?_⟩
   refine t_q rfl (fun w' H => x_fa (a := Pq ac) (v := Pq ac) rfl (fa_blk (o := 0) Fd27_0 Sz23)) ?_
   refine t_q rfl (fun w' H => x_fa (a := Pq ak) (v := Pq ak) rfl (fa_blk (o := 0) Fd27_0 Sz23)) ?_
   refine t_q rfl (fun w' H => x_ld (p := Pq ak) (v := ae) rfl (ldb_sc Sc23 (H.bl 4) rfl)) ?_
   refine t_q rfl (fun w' H => x_mv (v := I (i : Int)) rfl) ?_
   obtain ⟨dG, hM⟩ := M.e_grd hM
   simp only [Bool.and_eq_true, decide_eq_true_eq] at dG
   refine t_q rfl (fun w' H => x_ix (a := ae) (b := I (i : Int)) (v := vat ae 2 (Int.toNat (i : Int))) rfl rfl (Sl.ix (α := Sect) T23.und T23.size am (by omega) (by omega))) ?_
   refine t_q rfl (fun w' H => x_fa (a := vat ae 2 (Int.toNat (i : Int))) (v := fat (vat ae 2 (Int.toNat (i : Int))) 0) rfl (fa_pl Fd68_0 Sz3 (Sl.pl (i := (i : Int)) am (by omega) (by omega)))) ?_
   refine t_q rfl (fun w' H => x_ld (p := fat (vat ae 2 (Int.toNat (i : Int))) 0) (v := I ((s_Sections.getD i default).place)) rfl (ld_sc Sc3 (At.mono (Sect_at0 am (i := (i : Int)) (by omega) (by omega)) (av.at H)))) ?_
   refine t_q rfl (fun w' H => x_fa (a := Pq ak) (v := Pq ak) rfl (fa_blk (o := 0) Fd27_0 Sz23)) ?_
   refine t_q rfl (fun w' H => x_ld (p := Pq ak) (v := ae) rfl (ldb_sc Sc23 (H.bl 4) rfl)) ?_
   refine t_q rfl (fun w' H => x_mv (v := I (i : Int)) rfl) ?_
   refine t_q rfl (fun w' H => x_ix (a := ae) (b := I (i : Int)) (v := vat ae 2 (Int.toNat (i : Int))) rfl rfl (Sl.ix (α := Sect) T23.und T23.size am (by omega) (by omega))) ?_
   refine t_q rfl (fun w' H => x_fa (a := vat ae 2 (Int.toNat (i : Int))) (v := fat (vat ae 2 (Int.toNat (i : Int))) 1) rfl (fa_pl Fd68_1 Sz66 (Sl.pl (i := (i : Int)) am (by omega) (by omega)))) ?_
   obtain ⟨bj, dH, aT⟩ := Sect_at1 am (i := (i : Int)) (by omega) (by omega)
   replace aT : Sl _ bj (s_Sections.getD i default).rows := aT
   have gK := aT.len_le
   refine t_q rfl (fun w' H => x_ld (p := fat (vat ae 2 (Int.toNat (i : Int))) 1) (v := bj) rfl (ld_sc Sc66 (At.mono (dH) (av.at H)))) ?_
   refine t_l2 rfl rfl ?_ ?_
   ·skip
    refine s_val (x_ld (p := Pq ac) (v := aj) rfl (ldb_sc Sc23 (H.bl 3) rfl)) ?_
    have gL := Sl.cells (H.os 0)
    have gM := Sl.oc (H.os 0)
    refine s_nil ⟨(H.pk [1, 2, 4, 5, 6]), ?_⟩
    refine t_l rfl ?_
    obtain ⟨gN, dI, hM⟩ := M.e_bind hM
    refine s_call cf64 [bj] rfl (zaB ((s_Sections.getD i default).rows) (av.app _) aT dI _ (H.gt 7)) ?_
    rintro vq gO ⟨r4, aa, dJ, hvq, al⟩
    subst dJ
    subst vq
    try dsimp only at hM
    replace H := H.bk al
    clear al
    have gP := Sl.cells (H.os 0)
    have gQ := Sl.oc (H.os 0)
    refine s_nil ⟨(H.pk [2, 3, 5, 6, 7]), ?_⟩
    refine t_l rfl ?_
    refine s_val (x_bld (ps := [(0, I ((s_Sections.getD i default).place)), (1, aa)]) (zs := [I 0, .slice none 0 0]) (L' := [I ((s_Sections.getD i default).place), aa]) rfl Tryz.underlying68 Al68 rfl (Bd68 Tryz.underlying68) (.cons (cs := [I ((s_Sections.getD i default).place)]) rfl rfl rfl rfl rfl <| .cons (cs := [aa]) (Sl.cells (H.os 0)) rfl rfl rfl rfl <| .nil)) ?_
    refine s_nil ⟨(H.pk [2, 3, 5, 6, 7]), ?_⟩
    refine t_l rfl ?_
    obtain ⟨ax, H⟩ := H.emptyE
    obtain ⟨ay, H, dK⟩ := H.freezeE (k := 1) rfl
    replace H := H.nf
    have bm := dK
    obtain ⟨ao, H, gR, dL⟩ := H.joinE (i := 0) (j := 1) rfl rfl
    replace bm := bm.mono dL
    obtain ⟨aF, cw⟩ : ∃ r : Raw 1, r.cs = [I ((s_Sections.getD i default).place), aa] := ⟨Raw.of [I ((s_Sections.getD i default).place), aa] rfl (by simp only [List.all_cons, List.all_nil, Bool.true_and, Bool.and_true, Sl.oc bm]; try rfl), rfl⟩
    have dM : RepR (α := Sect) ao.cells [aF] [(⟨((s_Sections.getD i default).place : Int), r4⟩ : Sect)] := .cons (by rw [cw]; exact ⟨_, rfl, bm⟩) <| .nil
    refine t_bs (α := Raw 1) T23 [.agg #[I ((s_Sections.getD i default).place), aa]] [aF] H rfl (.cons (by rw [show (Flat.enc aF : List Value) = aF.cs from rfl, cw]; rfl) (Flat.rep_enc _ _) <| .nil) rfl rfl rfl ?_
    intro dN gS H
    replace H := H.nf
    have gT := Sl.cells (H.os 0)
    have gU := Sl.oc (H.os 0)
    refine s_nil ⟨(H.pk [5, 6, 8, 9, 10]), ?_⟩
    refine t_l rfl ?_
    obtain ⟨dO, hM⟩ := M.e_grd hM
    simp only [Bool.and_eq_true, decide_eq_true_eq] at dO
    have bn := dM
    obtain ⟨ap, H, dP, dQ⟩ := H.joinE (i := 5) (j := 1) rfl rfl
    replace ab := ab.mono dP
    replace bn := bn.mono dQ
    have bT := ab.app bn
    refine t_app (α := Raw 1) (k := 5) (l := ah) (l2 := [aF]) (l' := ah ++ ([aF])) (vy := dN) T23 rfl H rfl rfl rfl (H.os 1) (H.ol 1) (rfl) (by have a_ := ab.len; have b_ := bn.len; (try simp only [List.length_nil] at *); first | omega | (rw [a_, b_]; omega)) ?_
    intro bU gV H
    replace H := H.nf
    have gW := Sl.cells (H.os 5)
    have gX := Sl.oc (H.os 5)
    refine s_nil ⟨(H.pk [6, 7, 9, 10, 11]), ?_⟩
    refine t_q rfl (fun w' H => x_fa (a := Pq ac) (v := Pq ac) rfl (fa_blk (o := 0) Fd27_0 Sz23)) ?_
    refine t_l rfl ?_
    refine t_sw 8 0 [bU] bU H rfl rfl Sz23 (Sl.cells (rowSl rfl (H.get (k := 5) rfl) (roLe _ (H.get (k := 0) rfl)) bT)) rfl rfl (by simp only [List.all_cons, List.all_nil, Bool.true_and, Bool.and_true, Sl.oc (rowSl rfl (H.get (k := 5) rfl) (roLe _ (H.get (k := 0) rfl)) bT)]; try rfl) ?_
    intro gY H
    refine s_nil ⟨(H.pk [6, 7, 9, 10, 11]), ?_⟩
    refine t_nil ?_
    replace H := H.pk [0, 5, 6, 7, 8, 9, 10, 11]
    refine W.region rfl ?_
    refine zM (I (i : Int)) rfl ?_
    refine zR (i : Int) 1 ((i : Int) + 1) rfl rfl rfl (by omega) ?_
    refine zA (I ((i : Int) + 1)) rfl ?_
    refine s_nil ?_
    exact ⟨bh, bi, i + 1, l ++ ([(⟨((s_Sections.getD i default).place : Int), r4⟩ : Sect)]), bU, ah ++ ([aF]), ap, _, upds_of _ _ ⟨rfl, rfl, rfl, rfl, trivial⟩, M.e_inl hM aR, (H.pk [1, 0, 3, 4, 5, 6, 7]), bT⟩
   skip
   obtain ⟨gZ, dR, hM⟩ := M.e_bind hM
   refine s_call cf64 [bj] rfl (zaB ((s_Sections.getD i default).rows) (av.app _) aT dR _ (H.gt 7)) ?_
   rintro vq g0 ⟨r4, aa, dS, hvq, al⟩
   subst dS
   subst vq
   try dsimp only at hM
   replace H := H.bk al
   clear al
   have hG := Sl.cells (H.os 0)
   have hO := Sl.oc (H.os 0)
   have hZ := Sl.cells (H.os 1)
   have h9 := Sl.oc (H.os 1)
   refine s_nil ⟨(H.pk [2, 3, 5, 6, 7]), ?_⟩
   obtain ⟨dT, hM⟩ := M.e_grd hM
   simp only [Bool.and_eq_true, decide_eq_true_eq] at dT
   refine t_l2 rfl rfl ?_ ?_
   ·skip
    refine s_val (x_ld (p := Pq ac) (v := aj) rfl (ldb_sc Sc23 (H.bl 4) rfl)) ?_
    refine s_nil ⟨(H.pk [2, 3, 5, 6, 7]), ?_⟩
    refine t_l rfl ?_
    refine s_val (x_bld (ps := [(0, I ((s_Sections.getD i default).place)), (1, aa)]) (zs := [I 0, .slice none 0 0]) (L' := [I ((s_Sections.getD i default).place), aa]) rfl Tryz.underlying68 Al68 rfl (Bd68 Tryz.underlying68) (.cons (cs := [I ((s_Sections.getD i default).place)]) rfl rfl rfl rfl rfl <| .cons (cs := [aa]) (Sl.cells (H.os 0)) rfl rfl rfl rfl <| .nil)) ?_
    refine s_nil ⟨(H.pk [2, 3, 5, 6, 7]), ?_⟩
    refine t_l rfl ?_
    obtain ⟨ax, H⟩ := H.emptyE
    obtain ⟨ay, H, dU⟩ := H.freezeE (k := 1) rfl
    replace H := H.nf
    have bo := dU
    obtain ⟨ao, H, ia, dV⟩ := H.joinE (i := 0) (j := 1) rfl rfl
    replace bo := bo.mono dV
    obtain ⟨aG, cx⟩ : ∃ r : Raw 1, r.cs = [I ((s_Sections.getD i default).place), aa] := ⟨Raw.of [I ((s_Sections.getD i default).place), aa] rfl (by simp only [List.all_cons, List.all_nil, Bool.true_and, Bool.and_true, Sl.oc bo]; try rfl), rfl⟩
    have dW : RepR (α := Sect) ao.cells [aG] [(⟨((s_Sections.getD i default).place : Int), r4⟩ : Sect)] := .cons (by rw [cx]; exact ⟨_, rfl, bo⟩) <| .nil
    refine t_bs (α := Raw 1) T23 [.agg #[I ((s_Sections.getD i default).place), aa]] [aG] H rfl (.cons (by rw [show (Flat.enc aG : List Value) = aG.cs from rfl, cx]; rfl) (Flat.rep_enc _ _) <| .nil) rfl rfl rfl ?_
    intro dX ib H
    replace H := H.nf
    have ic := Sl.cells (H.os 0)
    have ie := Sl.oc (H.os 0)
    refine s_nil ⟨(H.pk [5, 6, 8, 9, 10]), ?_⟩
    refine t_l rfl ?_
    have bp := dW
    obtain ⟨ap, H, dY, dZ⟩ := H.joinE (i := 5) (j := 1) rfl rfl
    replace ab := ab.mono dY
    replace bp := bp.mono dZ
    have bV := ab.app bp
    refine t_app (α := Raw 1) (k := 5) (l := ah) (l2 := [aG]) (l' := ah ++ ([aG])) (vy := dX) T23 rfl H rfl rfl rfl (H.os 1) (H.ol 1) (rfl) (by have a_ := ab.len; have b_ := bp.len; (try simp only [List.length_nil] at *); first | omega | (rw [a_, b_]; omega)) ?_
    intro bW ig H
    replace H := H.nf
    have ii := Sl.cells (H.os 5)
    have ij := Sl.oc (H.os 5)
    refine s_nil ⟨(H.pk [6, 7, 9, 10, 11]), ?_⟩
    refine t_q rfl (fun w' H => x_fa (a := Pq ac) (v := Pq ac) rfl (fa_blk (o := 0) Fd27_0 Sz23)) ?_
    refine t_l rfl ?_
    refine t_sw 8 0 [bW] bW H rfl rfl Sz23 (Sl.cells (rowSl rfl (H.get (k := 5) rfl) (roLe _ (H.get (k := 0) rfl)) bV)) rfl rfl (by simp only [List.all_cons, List.all_nil, Bool.true_and, Bool.and_true, Sl.oc (rowSl rfl (H.get (k := 5) rfl) (roLe _ (H.get (k := 0) rfl)) bV)]; try rfl) ?_
    intro ik H
    refine s_nil ⟨(H.pk [6, 7, 9, 10, 11]), ?_⟩
    refine t_nil ?_
    replace H := H.pk [0, 5, 6, 7, 8, 9, 10, 11]
    refine W.region rfl ?_
    refine zM (I (i : Int)) rfl ?_
    refine zR (i : Int) 1 ((i : Int) + 1) rfl rfl rfl (by omega) ?_
    refine zA (I ((i : Int) + 1)) rfl ?_
    refine s_nil ?_
    exact ⟨bh, bi, i + 1, l ++ ([(⟨((s_Sections.getD i default).place : Int), r4⟩ : Sect)]), bW, ah ++ ([aG]), ap, _, upds_of _ _ ⟨rfl, rfl, rfl, rfl, trivial⟩, M.e_inl hM aR, (H.pk [1, 0, 3, 4, 5, 6, 7]), bV⟩
   skip
   refine s_val (x_bld (ps := [(0, I ((s_Sections.getD i default).place)), (1, aa)]) (zs := [I 0, .slice none 0 0]) (L' := [I ((s_Sections.getD i default).place), aa]) rfl Tryz.underlying68 Al68 rfl (Bd68 Tryz.underlying68) (.cons (cs := [I ((s_Sections.getD i default).place)]) rfl rfl rfl rfl rfl <| .cons (cs := [aa]) (Sl.cells (H.os 0)) rfl rfl rfl rfl <| .nil)) ?_
   refine s_nil ⟨(H.pk [2, 3, 5, 6, 7]), ?_⟩
   refine t_l2 rfl rfl ?_ ?_
   ·skip
    refine s_val (x_ld (p := Pq ac) (v := aj) rfl (ldb_sc Sc23 (H.bl 4) rfl)) ?_
    refine s_nil ⟨(H.pk [2, 3, 5, 6, 7]), ?_⟩
    refine t_l rfl ?_
    obtain ⟨ax, H⟩ := H.emptyE
    obtain ⟨ay, H, d4⟩ := H.freezeE (k := 1) rfl
    replace H := H.nf
    have bq := d4
    obtain ⟨ao, H, il, d5⟩ := H.joinE (i := 0) (j := 1) rfl rfl
    replace bq := bq.mono d5
    obtain ⟨aH, cy⟩ : ∃ r : Raw 1, r.cs = [I ((s_Sections.getD i default).place), aa] := ⟨Raw.of [I ((s_Sections.getD i default).place), aa] rfl (by simp only [List.all_cons, List.all_nil, Bool.true_and, Bool.and_true, Sl.oc bq]; try rfl), rfl⟩
    have d6 : RepR (α := Sect) ao.cells [aH] [(⟨((s_Sections.getD i default).place : Int), r4⟩ : Sect)] := .cons (by rw [cy]; exact ⟨_, rfl, bq⟩) <| .nil
    refine t_bs (α := Raw 1) T23 [.agg #[I ((s_Sections.getD i default).place), aa]] [aH] H rfl (.cons (by rw [show (Flat.enc aH : List Value) = aH.cs from rfl, cy]; rfl) (Flat.rep_enc _ _) <| .nil) rfl rfl rfl ?_
    intro d7 im H
    replace H := H.nf
    have io := Sl.cells (H.os 0)
    have iq := Sl.oc (H.os 0)
    refine s_nil ⟨(H.pk [5, 6, 8, 9, 10]), ?_⟩
    refine t_l rfl ?_
    have br := d6
    obtain ⟨ap, H, d8, d9⟩ := H.joinE (i := 5) (j := 1) rfl rfl
    replace ab := ab.mono d8
    replace br := br.mono d9
    have bX := ab.app br
    refine t_app (α := Raw 1) (k := 5) (l := ah) (l2 := [aH]) (l' := ah ++ ([aH])) (vy := d7) T23 rfl H rfl rfl rfl (H.os 1) (H.ol 1) (rfl) (by have a_ := ab.len; have b_ := br.len; (try simp only [List.length_nil] at *); first | omega | (rw [a_, b_]; omega)) ?_
    intro bY ir H
    replace H := H.nf
    have iw := Sl.cells (H.os 5)
    have iy := Sl.oc (H.os 5)
    refine s_nil ⟨(H.pk [6, 7, 9, 10, 11]), ?_⟩
    refine t_q rfl (fun w' H => x_fa (a := Pq ac) (v := Pq ac) rfl (fa_blk (o := 0) Fd27_0 Sz23)) ?_
    refine t_l rfl ?_
    refine t_sw 8 0 [bY] bY H rfl rfl Sz23 (Sl.cells (rowSl rfl (H.get (k := 5) rfl) (roLe _ (H.get (k := 0) rfl)) bX)) rfl rfl (by simp only [List.all_cons, List.all_nil, Bool.true_and, Bool.and_true, Sl.oc (rowSl rfl (H.get (k := 5) rfl) (roLe _ (H.get (k := 0) rfl)) bX)]; try rfl) ?_
    intro iz H
    refine s_nil ⟨(H.pk [6, 7, 9, 10, 11]), ?_⟩
    refine t_nil ?_
    replace H := H.pk [0, 5, 6, 7, 8, 9, 10, 11]
    refine W.region rfl ?_
    refine zM (I (i : Int)) rfl ?_
    refine zR (i : Int) 1 ((i : Int) + 1) rfl rfl rfl (by omega) ?_
    refine zA (I ((i : Int) + 1)) rfl ?_
    refine s_nil ?_
    exact ⟨bh, bi, i + 1, l ++ ([(⟨((s_Sections.getD i default).place : Int), r4⟩ : Sect)]), bY, ah ++ ([aH]), ap, _, upds_of _ _ ⟨rfl, rfl, rfl, rfl, trivial⟩, M.e_inl hM aR, (H.pk [1, 0, 3, 4, 5, 6, 7]), bX⟩
   skip
   obtain ⟨ax, H⟩ := H.emptyE
   obtain ⟨ay, H, ed⟩ := H.freezeE (k := 1) rfl
   replace H := H.nf
   have bt := ed
   obtain ⟨ao, H, iA, ee⟩ := H.joinE (i := 0) (j := 1) rfl rfl
   replace bt := bt.mono ee
   obtain ⟨aI, cz⟩ : ∃ r : Raw 1, r.cs = [I ((s_Sections.getD i default).place), aa] := ⟨Raw.of [I ((s_Sections.getD i default).place), aa] rfl (by simp only [List.all_cons, List.all_nil, Bool.true_and, Bool.and_true, Sl.oc bt]; try rfl), rfl⟩
   have ef : RepR (α := Sect) ao.cells [aI] [(⟨((s_Sections.getD i default).place : Int), r4⟩ : Sect)] := .cons (by rw [cz]; exact ⟨_, rfl, bt⟩) <| .nil
   refine t_bs (α := Raw 1) T23 [.agg #[I ((s_Sections.getD i default).place), aa]] [aI] H rfl (.cons (by rw [show (Flat.enc aI : List Value) = aI.cs from rfl, cz]; rfl) (Flat.rep_enc _ _) <| .nil) rfl rfl rfl ?_
   intro eg iB H
   replace H := H.nf
   have iC := Sl.cells (H.os 0)
   have iD := Sl.oc (H.os 0)
   refine s_nil ⟨(H.pk [5, 6, 8, 9, 10]), ?_⟩
   refine t_l rfl ?_
   refine s_val (x_ld (p := Pq ac) (v := aj) rfl (ldb_sc Sc23 (H.bl 7) rfl)) ?_
   refine s_nil ⟨(H.pk [5, 6, 8, 9, 10]), ?_⟩
   refine t_l rfl ?_
   have bu := ef
   obtain ⟨ap, H, ei, ej⟩ := H.joinE (i := 5) (j := 1) rfl rfl
   replace ab := ab.mono ei
   replace bu := bu.mono ej
   have bZ := ab.app bu
   refine t_app (α := Raw 1) (k := 5) (l := ah) (l2 := [aI]) (l' := ah ++ ([aI])) (vy := eg) T23 rfl H rfl rfl rfl (H.os 1) (H.ol 1) (rfl) (by have a_ := ab.len; have b_ := bu.len; (try simp only [List.length_nil] at *); first | omega | (rw [a_, b_]; omega)) ?_
   intro b3 iE H
   replace H := H.nf
   have iF := Sl.cells (H.os 5)
   have iG := Sl.oc (H.os 5)
   refine s_nil ⟨(H.pk [6, 7, 9, 10, 11]), ?_⟩
   refine t_q rfl (fun w' H => x_fa (a := Pq ac) (v := Pq ac) rfl (fa_blk (o := 0) Fd27_0 Sz23)) ?_
   refine t_l rfl ?_
   refine t_sw 8 0 [b3] b3 H rfl rfl Sz23 (Sl.cells (rowSl rfl (H.get (k := 5) rfl) (roLe _ (H.get (k := 0) rfl)) bZ)) rfl rfl (by simp only [List.all_cons, List.all_nil, Bool.true_and, Bool.and_true, Sl.oc (rowSl rfl (H.get (k := 5) rfl) (roLe _ (H.get (k := 0) rfl)) bZ)]; try rfl) ?_
   intro iH H
   refine s_nil ⟨(H.pk [6, 7, 9, 10, 11]), ?_⟩
   refine t_nil ?_
   replace H := H.pk [0, 5, 6, 7, 8, 9, 10, 11]
   refine W.region rfl ?_
   refine zM (I (i : Int)) rfl ?_
   refine zR (i : Int) 1 ((i : Int) + 1) rfl rfl rfl (by omega) ?_
   refine zA (I ((i : Int) + 1)) rfl ?_
   refine s_nil ?_
   exact ⟨bh, bi, i + 1, l ++ ([(⟨((s_Sections.getD i default).place : Int), r4⟩ : Sect)]), b3, ah ++ ([aI]), ap, _, upds_of _ _ ⟨rfl, rfl, rfl, rfl, trivial⟩, M.e_inl hM aR, (H.pk [1, 0, 3, 4, 5, 6, 7]), bZ⟩
  replace hM := M.e_f hM aS
  simp only [qy1, qy2, qy3, qy4, qy5, qy6, ne_eq, qy7] at aS
  refine W.exit ?_
  have ek := M.e_inr hM aR
  subst ek
  replace hM := dF
  try dsimp only at hM
  refine W.seq ?_
  refine W.region rfl ?_
  refine s_val (x_ld (p := Pq ac) (v := .agg #[aj, ai, ag]) rfl (ldb_ag (ds := [aj, ai, ag]) Ag27 Sz27 (H.bl 3) rfl rfl)) ?_
  refine t_sw 5 0 [aj, ai, ag] (.agg #[aj, ai, ag]) H rfl rfl Sz27 rfl rfl rfl (by simp only [List.all_cons, List.all_nil, Bool.true_and, Bool.and_true, Sl.oc (rowSl rfl (H.get (k := 0) rfl) (roLe _ (H.get (k := 1) rfl)) ab), Sl.oc (H.os 4), Sl.oc (H.os 2)]; try rfl) ?_
  intro iI H
  refine s_nil ?_
  replace H := H.pk [0, 1, 2, 4, 5]
  refine W.ret ?_
  have en := (H.bl 4)
  have aQ := M.e_pure hM
  exact ⟨_, (resE_of1 (v := .agg #[aj, ai, ag]) rfl (.cell (v := .agg #[aj, ai, ag]) rfl (run_loadVar_ag (ds := [aj, ai, ag]) Ag27 Sz27 en rfl rfl) <| .nil)), ⟨l, r2, r3, aj, ah, B_l, ai, ag, aQ, rfl, (H.pk [0, 1, 3, 2]), ab⟩⟩
 skip
 refine t_alloc (cs := [.slice none 0 0, .slice none 0 0, .slice none 0 0]) H Al27 rfl ?_
 intro ac iJ H
 refine s_nil ⟨(H.pk [1, 2]), ?_⟩
 refine t_l rfl ?_
 obtain ⟨iK, eo, hM⟩ := M.e_bind hM
 refine s_call cf62 [au] rfl (zcB s_Marks (ci.app _) cj eo _ (H.gt 3)) ?_
 rintro vq iL ⟨r2, ai, ep, hvq, al⟩
 subst ep
 subst vq
 try dsimp only at hM
 replace H := H.bk al
 clear al
 have eq := Sl.cells (H.os 0)
 have iM := Sl.oc (H.os 0)
 refine s_nil ⟨(H.pk [2, 3]), ?_⟩
 refine t_l rfl ?_
 obtain ⟨iN, eu, hM⟩ := M.e_bind hM
 refine s_call cf63 [aq] rfl (zbH s_Reaches (bH.app _) bI eu _ (H.gt 4)) ?_
 rintro vq iO ⟨r3, ag, ew, hvq, al⟩
 subst ew
 subst vq
 try dsimp only at hM
 replace H := H.bk al
 clear al
 have ey := Sl.cells (H.os 0)
 have iP := Sl.oc (H.os 0)
 refine s_nil ⟨(H.pk [3, 4]), ?_⟩
 refine t_q rfl (fun w' H => x_bld (ps := [(1, ai), (2, ag)]) (zs := [.slice none 0 0, .slice none 0 0, .slice none 0 0]) (L' := [.slice none 0 0, ai, ag]) rfl Tryz.underlying27 Al27 rfl (Bd27 Tryz.underlying27) (.cons (cs := [ai]) eq rfl rfl rfl rfl <| .cons (cs := [ag]) ey rfl rfl rfl rfl <| .nil)) ?_
 refine t_l rfl ?_
 refine t_sw 2 0 [.slice none 0 0, ai, ag] (.agg #[.slice none 0 0, ai, ag]) H rfl rfl Sz27 rfl rfl rfl (by simp only [List.all_cons, List.all_nil, Bool.true_and, Bool.and_true, Sl.oc (H.os 1), Sl.oc (H.os 0)]; try rfl) ?_
 intro iQ H
 refine s_nil ⟨(H.pk [3, 4]), ?_⟩
 refine t_nil ?_
 refine W.seq ?_
 refine W.seq ?_
 refine W.region rfl ?_
 refine zA (I 0) rfl ?_
 refine s_nil ?_
 refine W.block ?_
 obtain ⟨aA, H⟩ := H.emptyE
 replace H := H.nilOwn (α := Raw 1) 68
 have ez : RepR (α := Sect) (n := 1) aA.cells [] [] := .nil
 obtain ⟨eA, b4, eB⟩ := M.e_bind hM
 obtain ⟨co, b4⟩ := M.e_iter b4
 refine W.loop (fun m σ W => ∃ (i : Nat) (l : List Sect) (aj : Value) (ah : List (Raw 1)) (B_l : Base) (ρ : Env), σ = upds ρ [(1, Pq ak), (2, Pq az), (3, Pq ac), (4, I (i : Int))] /\ M.iterN (zak s_Sections) m (i, l) = some eA /\ St w W [cOwn (α := Raw 1) 68 aj ah, cRo B_l, cOwn (α := Rch) 58 ag r3, cOwn (α := Mrk) 70 ai r2, cBlk ac [aj, ai, ag] 27, cBlk az [.slice none 0 0, .slice none 0 0, .slice none 0 0] 27, cBlk ak [ae, au, aq] 27] R /\ RepR (α := Sect) B_l.cells ah l) ?_ ?_
 ·exact ⟨_, 0, [], (.slice none 0 0), [], aA, _, upds_of _ _ ⟨rfl, rfl, rfl, rfl, trivial⟩, b4, H, ez⟩
 rintro iR σ iS ⟨i, l, aj, ah, B_l, ρ, rfl, cA, H, ab⟩
 obtain ⟨bv, bw, iT, hM, aU⟩ := M.e_iterN cA
 simp only [zak] at hM
 clear cA
 refine W.seq ?_
 refine W.seq ?_
 refine W.region rfl ?_
 refine zM (I (i : Int)) rfl ?_
 refine s_val (x_fa (a := Pq ak) (v := Pq ak) rfl (fa_blk (o := 0) Fd27_0 Sz23)) ?_
 refine s_val (x_ld (p := Pq ak) (v := ae) rfl (ldb_sc Sc23 (H.bl 6) rfl)) ?_
 have iU := (am).len_le
 refine s_val (x_lenS T23.und rfl am) ?_
 refine zC (i : Int) (s_Sections.length : Int) (decide ((i : Int) < (s_Sections.length : Int))) rfl rfl rfl ?_
 refine s_nil ?_
 refine W.cond (decide ((i : Int) < (s_Sections.length : Int))) rfl (fun aV => ?_) (fun aV => ?_)
 ·replace hM := M.e_t hM aV
  simp only [qy1, qy2, qy3, qy4, qy5, qy6, ne_eq, qy7] at aV
  refine W.skip ?_
  refine W.seq ?_
  refine W.block ?_
  refine W.drawT (fun W => St w W [cRo B_l, cOwn (α := Rch) 58 ag r3, cOwn (α := Mrk) 70 ai r2, cBlk az [.slice none 0 0, .slice none 0 0, .slice none 0 0] 27, cBlk ak [ae, au, aq] 27] R) (.q 0 (.q 2 (.q 3 (.q 4 (.q 5 (.q 6 (.q 7 (.q 8 (.q 9 (.q 10 (.q 11 (.q 12 (.q 13 (.l2 1 (.l 14 (.l 15 (.l 16 (.l 17 (.q 18 (.l 19 .nil)))))) 14 (.l2 1 (.l 15 (.l 16 (.l 17 (.q 18 (.l 19 .nil))))) 15 (.l2 1 (.l 16 (.l 17 (.q 18 (.l 19 .nil)))) 16 (.l 1 (.l 17 (.q 18 (.l 19 .nil)))))))))))))))))))) mixed (by decide +kernel) rfl ?_
  intro iV aw
  replace H := H.ext aw
  clear aw
  refine ⟨(H.pk [1, 2, 3, 5, 6]), ?_⟩
  refine t_q rfl (fun w' H => x_fa (a := Pq ac) (v := Pq ac) rfl (fa_blk (o := 0) Fd27_0 Sz23)) ?_
  refine t_q rfl (fun w' H => x_fa (a := Pq ak) (v := Pq ak) rfl (fa_blk (o := 0) Fd27_0 Sz23)) ?_
  refine t_q rfl (fun w' H => x_ld (p := Pq ak) (v := ae) rfl (ldb_sc Sc23 (H.bl 4) rfl)) ?_
  refine t_q rfl (fun w' H => x_mv (v := I (i : Int)) rfl) ?_
  obtain ⟨eC, hM⟩ := M.e_grd hM
  simp only [Bool.and_eq_true, decide_eq_true_eq] at eC
  refine t_q rfl (fun w' H => x_ix (a := ae) (b := I (i : Int)) (v := vat ae 2 (Int.toNat (i : Int))) rfl rfl (Sl.ix (α := Sect) T23.und T23.size am (by omega) (by omega))) ?_
  refine t_q rfl (fun w' H => x_fa (a := vat ae 2 (Int.toNat (i : Int))) (v := fat (vat ae 2 (Int.toNat (i : Int))) 0) rfl (fa_pl Fd68_0 Sz3 (Sl.pl (i := (i : Int)) am (by omega) (by omega)))) ?_
  refine t_q rfl (fun w' H => x_ld (p := fat (vat ae 2 (Int.toNat (i : Int))) 0) (v := I ((s_Sections.getD i default).place)) rfl (ld_sc Sc3 (At.mono (Sect_at0 am (i := (i : Int)) (by omega) (by omega)) (av.at H)))) ?_
  refine t_q rfl (fun w' H => x_fa (a := Pq ak) (v := Pq ak) rfl (fa_blk (o := 0) Fd27_0 Sz23)) ?_
  refine t_q rfl (fun w' H => x_ld (p := Pq ak) (v := ae) rfl (ldb_sc Sc23 (H.bl 4) rfl)) ?_
  refine t_q rfl (fun w' H => x_mv (v := I (i : Int)) rfl) ?_
  refine t_q rfl (fun w' H => x_ix (a := ae) (b := I (i : Int)) (v := vat ae 2 (Int.toNat (i : Int))) rfl rfl (Sl.ix (α := Sect) T23.und T23.size am (by omega) (by omega))) ?_
  refine t_q rfl (fun w' H => x_fa (a := vat ae 2 (Int.toNat (i : Int))) (v := fat (vat ae 2 (Int.toNat (i : Int))) 1) rfl (fa_pl Fd68_1 Sz66 (Sl.pl (i := (i : Int)) am (by omega) (by omega)))) ?_
  obtain ⟨bx, eD, aW⟩ := Sect_at1 am (i := (i : Int)) (by omega) (by omega)
  replace aW : Sl _ bx (s_Sections.getD i default).rows := aW
  have iW := aW.len_le
  refine t_q rfl (fun w' H => x_ld (p := fat (vat ae 2 (Int.toNat (i : Int))) 1) (v := bx) rfl (ld_sc Sc66 (At.mono (eD) (av.at H)))) ?_
  refine t_l2 rfl rfl ?_ ?_
  ·skip
   refine s_val (x_ld (p := Pq ac) (v := aj) rfl (ldb_sc Sc23 (H.bl 4) rfl)) ?_
   have iX := Sl.cells (H.os 0)
   have iY := Sl.oc (H.os 0)
   refine s_nil ⟨(H.pk [1, 2, 3, 5, 6]), ?_⟩
   refine t_l rfl ?_
   obtain ⟨iZ, eE, hM⟩ := M.e_bind hM
   refine s_call cf64 [bx] rfl (zaB ((s_Sections.getD i default).rows) (av.app _) aW eE _ (H.gt 7)) ?_
   rintro vq i6 ⟨r4, aa, eF, hvq, al⟩
   subst eF
   subst vq
   try dsimp only at hM
   replace H := H.bk al
   clear al
   have i7 := Sl.cells (H.os 0)
   have i8 := Sl.oc (H.os 0)
   refine s_nil ⟨(H.pk [2, 3, 4, 6, 7]), ?_⟩
   refine t_l rfl ?_
   refine s_val (x_bld (ps := [(0, I ((s_Sections.getD i default).place)), (1, aa)]) (zs := [I 0, .slice none 0 0]) (L' := [I ((s_Sections.getD i default).place), aa]) rfl Tryz.underlying68 Al68 rfl (Bd68 Tryz.underlying68) (.cons (cs := [I ((s_Sections.getD i default).place)]) rfl rfl rfl rfl rfl <| .cons (cs := [aa]) (Sl.cells (H.os 0)) rfl rfl rfl rfl <| .nil)) ?_
   refine s_nil ⟨(H.pk [2, 3, 4, 6, 7]), ?_⟩
   refine t_l rfl ?_
   obtain ⟨ax, H⟩ := H.emptyE
   obtain ⟨ay, H, eG⟩ := H.freezeE (k := 1) rfl
   replace H := H.nf
   have bz := eG
   obtain ⟨ao, H, i9, eH⟩ := H.joinE (i := 0) (j := 1) rfl rfl
   replace bz := bz.mono eH
   obtain ⟨aJ, cB⟩ : ∃ r : Raw 1, r.cs = [I ((s_Sections.getD i default).place), aa] := ⟨Raw.of [I ((s_Sections.getD i default).place), aa] rfl (by simp only [List.all_cons, List.all_nil, Bool.true_and, Bool.and_true, Sl.oc bz]; try rfl), rfl⟩
   have eI : RepR (α := Sect) ao.cells [aJ] [(⟨((s_Sections.getD i default).place : Int), r4⟩ : Sect)] := .cons (by rw [cB]; exact ⟨_, rfl, bz⟩) <| .nil
   refine t_bs (α := Raw 1) T23 [.agg #[I ((s_Sections.getD i default).place), aa]] [aJ] H rfl (.cons (by rw [show (Flat.enc aJ : List Value) = aJ.cs from rfl, cB]; rfl) (Flat.rep_enc _ _) <| .nil) rfl rfl rfl ?_
   intro eJ ja H
   replace H := H.nf
   have jb := Sl.cells (H.os 0)
   have jc := Sl.oc (H.os 0)
   refine s_nil ⟨(H.pk [5, 6, 7, 9, 10]), ?_⟩
   refine t_l rfl ?_
   obtain ⟨eK, hM⟩ := M.e_grd hM
   simp only [Bool.and_eq_true, decide_eq_true_eq] at eK
   have bA := eI
   obtain ⟨ap, H, eL, eM⟩ := H.joinE (i := 5) (j := 1) rfl rfl
   replace ab := ab.mono eL
   replace bA := bA.mono eM
   have b5 := ab.app bA
   refine t_app (α := Raw 1) (k := 5) (l := ah) (l2 := [aJ]) (l' := ah ++ ([aJ])) (vy := eJ) T23 rfl H rfl rfl rfl (H.os 1) (H.ol 1) (rfl) (by have a_ := ab.len; have b_ := bA.len; (try simp only [List.length_nil] at *); first | omega | (rw [a_, b_]; omega)) ?_
   intro b6 jd H
   replace H := H.nf
   have je := Sl.cells (H.os 5)
   have jf := Sl.oc (H.os 5)
   refine s_nil ⟨(H.pk [6, 7, 8, 10, 11]), ?_⟩
   refine t_q rfl (fun w' H => x_fa (a := Pq ac) (v := Pq ac) rfl (fa_blk (o := 0) Fd27_0 Sz23)) ?_
   refine t_l rfl ?_
   refine t_sw 9 0 [b6] b6 H rfl rfl Sz23 (Sl.cells (rowSl rfl (H.get (k := 5) rfl) (roLe _ (H.get (k := 0) rfl)) b5)) rfl rfl (by simp only [List.all_cons, List.all_nil, Bool.true_and, Bool.and_true, Sl.oc (rowSl rfl (H.get (k := 5) rfl) (roLe _ (H.get (k := 0) rfl)) b5)]; try rfl) ?_
   intro jg H
   refine s_nil ⟨(H.pk [6, 7, 8, 10, 11]), ?_⟩
   refine t_nil ?_
   replace H := H.pk [0, 5, 6, 7, 8, 9, 10, 11]
   refine W.region rfl ?_
   refine zM (I (i : Int)) rfl ?_
   refine zR (i : Int) 1 ((i : Int) + 1) rfl rfl rfl (by omega) ?_
   refine zA (I ((i : Int) + 1)) rfl ?_
   refine s_nil ?_
   exact ⟨bv, bw, i + 1, l ++ ([(⟨((s_Sections.getD i default).place : Int), r4⟩ : Sect)]), b6, ah ++ ([aJ]), ap, _, upds_of _ _ ⟨rfl, rfl, rfl, rfl, trivial⟩, M.e_inl hM aU, (H.pk [1, 0, 3, 4, 5, 6, 7]), b5⟩
  skip
  obtain ⟨jh, eN, hM⟩ := M.e_bind hM
  refine s_call cf64 [bx] rfl (zaB ((s_Sections.getD i default).rows) (av.app _) aW eN _ (H.gt 7)) ?_
  rintro vq ji ⟨r4, aa, eO, hvq, al⟩
  subst eO
  subst vq
  try dsimp only at hM
  replace H := H.bk al
  clear al
  have jj := Sl.cells (H.os 0)
  have jk := Sl.oc (H.os 0)
  have jl := Sl.cells (H.os 1)
  have jm := Sl.oc (H.os 1)
  refine s_nil ⟨(H.pk [2, 3, 4, 6, 7]), ?_⟩
  obtain ⟨eP, hM⟩ := M.e_grd hM
  simp only [Bool.and_eq_true, decide_eq_true_eq] at eP
  refine t_l2 rfl rfl ?_ ?_
  ·skip
   refine s_val (x_ld (p := Pq ac) (v := aj) rfl (ldb_sc Sc23 (H.bl 5) rfl)) ?_
   refine s_nil ⟨(H.pk [2, 3, 4, 6, 7]), ?_⟩
   refine t_l rfl ?_
   refine s_val (x_bld (ps := [(0, I ((s_Sections.getD i default).place)), (1, aa)]) (zs := [I 0, .slice none 0 0]) (L' := [I ((s_Sections.getD i default).place), aa]) rfl Tryz.underlying68 Al68 rfl (Bd68 Tryz.underlying68) (.cons (cs := [I ((s_Sections.getD i default).place)]) rfl rfl rfl rfl rfl <| .cons (cs := [aa]) (Sl.cells (H.os 0)) rfl rfl rfl rfl <| .nil)) ?_
   refine s_nil ⟨(H.pk [2, 3, 4, 6, 7]), ?_⟩
   refine t_l rfl ?_
   obtain ⟨ax, H⟩ := H.emptyE
   obtain ⟨ay, H, eQ⟩ := H.freezeE (k := 1) rfl
   replace H := H.nf
   have bB := eQ
   obtain ⟨ao, H, jn, eR⟩ := H.joinE (i := 0) (j := 1) rfl rfl
   replace bB := bB.mono eR
   obtain ⟨aK, cC⟩ : ∃ r : Raw 1, r.cs = [I ((s_Sections.getD i default).place), aa] := ⟨Raw.of [I ((s_Sections.getD i default).place), aa] rfl (by simp only [List.all_cons, List.all_nil, Bool.true_and, Bool.and_true, Sl.oc bB]; try rfl), rfl⟩
   have eS : RepR (α := Sect) ao.cells [aK] [(⟨((s_Sections.getD i default).place : Int), r4⟩ : Sect)] := .cons (by rw [cC]; exact ⟨_, rfl, bB⟩) <| .nil
   refine t_bs (α := Raw 1) T23 [.agg #[I ((s_Sections.getD i default).place), aa]] [aK] H rfl (.cons (by rw [show (Flat.enc aK : List Value) = aK.cs from rfl, cC]; rfl) (Flat.rep_enc _ _) <| .nil) rfl rfl rfl ?_
   intro eT jo H
   replace H := H.nf
   have jp := Sl.cells (H.os 0)
   have jq := Sl.oc (H.os 0)
   refine s_nil ⟨(H.pk [5, 6, 7, 9, 10]), ?_⟩
   refine t_l rfl ?_
   have bC := eS
   obtain ⟨ap, H, eU, eV⟩ := H.joinE (i := 5) (j := 1) rfl rfl
   replace ab := ab.mono eU
   replace bC := bC.mono eV
   have b7 := ab.app bC
   refine t_app (α := Raw 1) (k := 5) (l := ah) (l2 := [aK]) (l' := ah ++ ([aK])) (vy := eT) T23 rfl H rfl rfl rfl (H.os 1) (H.ol 1) (rfl) (by have a_ := ab.len; have b_ := bC.len; (try simp only [List.length_nil] at *); first | omega | (rw [a_, b_]; omega)) ?_
   intro b8 jr H
   replace H := H.nf
   have js := Sl.cells (H.os 5)
   have jt := Sl.oc (H.os 5)
   refine s_nil ⟨(H.pk [6, 7, 8, 10, 11]), ?_⟩
   refine t_q rfl (fun w' H => x_fa (a := Pq ac) (v := Pq ac) rfl (fa_blk (o := 0) Fd27_0 Sz23)) ?_
   refine t_l rfl ?_
   refine t_sw 9 0 [b8] b8 H rfl rfl Sz23 (Sl.cells (rowSl rfl (H.get (k := 5) rfl) (roLe _ (H.get (k := 0) rfl)) b7)) rfl rfl (by simp only [List.all_cons, List.all_nil, Bool.true_and, Bool.and_true, Sl.oc (rowSl rfl (H.get (k := 5) rfl) (roLe _ (H.get (k := 0) rfl)) b7)]; try rfl) ?_
   intro ju H
   refine s_nil ⟨(H.pk [6, 7, 8, 10, 11]), ?_⟩
   refine t_nil ?_
   replace H := H.pk [0, 5, 6, 7, 8, 9, 10, 11]
   refine W.region rfl ?_
   refine zM (I (i : Int)) rfl ?_
   refine zR (i : Int) 1 ((i : Int) + 1) rfl rfl rfl (by omega) ?_
   refine zA (I ((i : Int) + 1)) rfl ?_
   refine s_nil ?_
   exact ⟨bv, bw, i + 1, l ++ ([(⟨((s_Sections.getD i default).place : Int), r4⟩ : Sect)]), b8, ah ++ ([aK]), ap, _, upds_of _ _ ⟨rfl, rfl, rfl, rfl, trivial⟩, M.e_inl hM aU, (H.pk [1, 0, 3, 4, 5, 6, 7]), b7⟩
  skip
  refine s_val (x_bld (ps := [(0, I ((s_Sections.getD i default).place)), (1, aa)]) (zs := [I 0, .slice none 0 0]) (L' := [I ((s_Sections.getD i default).place), aa]) rfl Tryz.underlying68 Al68 rfl (Bd68 Tryz.underlying68) (.cons (cs := [I ((s_Sections.getD i default).place)]) rfl rfl rfl rfl rfl <| .cons (cs := [aa]) (Sl.cells (H.os 0)) rfl rfl rfl rfl <| .nil)) ?_
  refine s_nil ⟨(H.pk [2, 3, 4, 6, 7]), ?_⟩
  refine t_l2 rfl rfl ?_ ?_
  ·skip
   refine s_val (x_ld (p := Pq ac) (v := aj) rfl (ldb_sc Sc23 (H.bl 5) rfl)) ?_
   refine s_nil ⟨(H.pk [2, 3, 4, 6, 7]), ?_⟩
   refine t_l rfl ?_
   obtain ⟨ax, H⟩ := H.emptyE
   obtain ⟨ay, H, eW⟩ := H.freezeE (k := 1) rfl
   replace H := H.nf
   have bD := eW
   obtain ⟨ao, H, jv, eX⟩ := H.joinE (i := 0) (j := 1) rfl rfl
   replace bD := bD.mono eX
   obtain ⟨aL, cD⟩ : ∃ r : Raw 1, r.cs = [I ((s_Sections.getD i default).place), aa] := ⟨Raw.of [I ((s_Sections.getD i default).place), aa] rfl (by simp only [List.all_cons, List.all_nil, Bool.true_and, Bool.and_true, Sl.oc bD]; try rfl), rfl⟩
   have eY : RepR (α := Sect) ao.cells [aL] [(⟨((s_Sections.getD i default).place : Int), r4⟩ : Sect)] := .cons (by rw [cD]; exact ⟨_, rfl, bD⟩) <| .nil
   refine t_bs (α := Raw 1) T23 [.agg #[I ((s_Sections.getD i default).place), aa]] [aL] H rfl (.cons (by rw [show (Flat.enc aL : List Value) = aL.cs from rfl, cD]; rfl) (Flat.rep_enc _ _) <| .nil) rfl rfl rfl ?_
   intro eZ jw H
   replace H := H.nf
   have jx := Sl.cells (H.os 0)
   have jy := Sl.oc (H.os 0)
   refine s_nil ⟨(H.pk [5, 6, 7, 9, 10]), ?_⟩
   refine t_l rfl ?_
   have bE := eY
   obtain ⟨ap, H, e6, e7⟩ := H.joinE (i := 5) (j := 1) rfl rfl
   replace ab := ab.mono e6
   replace bE := bE.mono e7
   have b9 := ab.app bE
   refine t_app (α := Raw 1) (k := 5) (l := ah) (l2 := [aL]) (l' := ah ++ ([aL])) (vy := eZ) T23 rfl H rfl rfl rfl (H.os 1) (H.ol 1) (rfl) (by have a_ := ab.len; have b_ := bE.len; (try simp only [List.length_nil] at *); first | omega | (rw [a_, b_]; omega)) ?_
   intro cc jz H
   replace H := H.nf
   have jA := Sl.cells (H.os 5)
   have jB := Sl.oc (H.os 5)
   refine s_nil ⟨(H.pk [6, 7, 8, 10, 11]), ?_⟩
   refine t_q rfl (fun w' H => x_fa (a := Pq ac) (v := Pq ac) rfl (fa_blk (o := 0) Fd27_0 Sz23)) ?_
   refine t_l rfl ?_
   refine t_sw 9 0 [cc] cc H rfl rfl Sz23 (Sl.cells (rowSl rfl (H.get (k := 5) rfl) (roLe _ (H.get (k := 0) rfl)) b9)) rfl rfl (by simp only [List.all_cons, List.all_nil, Bool.true_and, Bool.and_true, Sl.oc (rowSl rfl (H.get (k := 5) rfl) (roLe _ (H.get (k := 0) rfl)) b9)]; try rfl) ?_
   intro jC H
   refine s_nil ⟨(H.pk [6, 7, 8, 10, 11]), ?_⟩
   refine t_nil ?_
   replace H := H.pk [0, 5, 6, 7, 8, 9, 10, 11]
   refine W.region rfl ?_
   refine zM (I (i : Int)) rfl ?_
   refine zR (i : Int) 1 ((i : Int) + 1) rfl rfl rfl (by omega) ?_
   refine zA (I ((i : Int) + 1)) rfl ?_
   refine s_nil ?_
   exact ⟨bv, bw, i + 1, l ++ ([(⟨((s_Sections.getD i default).place : Int), r4⟩ : Sect)]), cc, ah ++ ([aL]), ap, _, upds_of _ _ ⟨rfl, rfl, rfl, rfl, trivial⟩, M.e_inl hM aU, (H.pk [1, 0, 3, 4, 5, 6, 7]), b9⟩
  skip
  obtain ⟨ax, H⟩ := H.emptyE
  obtain ⟨ay, H, e8⟩ := H.freezeE (k := 1) rfl
  replace H := H.nf
  have bF := e8
  obtain ⟨ao, H, jD, e9⟩ := H.joinE (i := 0) (j := 1) rfl rfl
  replace bF := bF.mono e9
  obtain ⟨aM, cE⟩ : ∃ r : Raw 1, r.cs = [I ((s_Sections.getD i default).place), aa] := ⟨Raw.of [I ((s_Sections.getD i default).place), aa] rfl (by simp only [List.all_cons, List.all_nil, Bool.true_and, Bool.and_true, Sl.oc bF]; try rfl), rfl⟩
  have fa : RepR (α := Sect) ao.cells [aM] [(⟨((s_Sections.getD i default).place : Int), r4⟩ : Sect)] := .cons (by rw [cE]; exact ⟨_, rfl, bF⟩) <| .nil
  refine t_bs (α := Raw 1) T23 [.agg #[I ((s_Sections.getD i default).place), aa]] [aM] H rfl (.cons (by rw [show (Flat.enc aM : List Value) = aM.cs from rfl, cE]; rfl) (Flat.rep_enc _ _) <| .nil) rfl rfl rfl ?_
  intro fb jE H
  replace H := H.nf
  have jF := Sl.cells (H.os 0)
  have jG := Sl.oc (H.os 0)
  refine s_nil ⟨(H.pk [5, 6, 7, 9, 10]), ?_⟩
  refine t_l rfl ?_
  refine s_val (x_ld (p := Pq ac) (v := aj) rfl (ldb_sc Sc23 (H.bl 8) rfl)) ?_
  refine s_nil ⟨(H.pk [5, 6, 7, 9, 10]), ?_⟩
  refine t_l rfl ?_
  have bG := fa
  obtain ⟨ap, H, fd, fe⟩ := H.joinE (i := 5) (j := 1) rfl rfl
  replace ab := ab.mono fd
  replace bG := bG.mono fe
  have cd := ab.app bG
  refine t_app (α := Raw 1) (k := 5) (l := ah) (l2 := [aM]) (l' := ah ++ ([aM])) (vy := fb) T23 rfl H rfl rfl rfl (H.os 1) (H.ol 1) (rfl) (by have a_ := ab.len; have b_ := bG.len; (try simp only [List.length_nil] at *); first | omega | (rw [a_, b_]; omega)) ?_
  intro ce jH H
  replace H := H.nf
  have jI := Sl.cells (H.os 5)
  have jJ := Sl.oc (H.os 5)
  refine s_nil ⟨(H.pk [6, 7, 8, 10, 11]), ?_⟩
  refine t_q rfl (fun w' H => x_fa (a := Pq ac) (v := Pq ac) rfl (fa_blk (o := 0) Fd27_0 Sz23)) ?_
  refine t_l rfl ?_
  refine t_sw 9 0 [ce] ce H rfl rfl Sz23 (Sl.cells (rowSl rfl (H.get (k := 5) rfl) (roLe _ (H.get (k := 0) rfl)) cd)) rfl rfl (by simp only [List.all_cons, List.all_nil, Bool.true_and, Bool.and_true, Sl.oc (rowSl rfl (H.get (k := 5) rfl) (roLe _ (H.get (k := 0) rfl)) cd)]; try rfl) ?_
  intro jK H
  refine s_nil ⟨(H.pk [6, 7, 8, 10, 11]), ?_⟩
  refine t_nil ?_
  replace H := H.pk [0, 5, 6, 7, 8, 9, 10, 11]
  refine W.region rfl ?_
  refine zM (I (i : Int)) rfl ?_
  refine zR (i : Int) 1 ((i : Int) + 1) rfl rfl rfl (by omega) ?_
  refine zA (I ((i : Int) + 1)) rfl ?_
  refine s_nil ?_
  exact ⟨bv, bw, i + 1, l ++ ([(⟨((s_Sections.getD i default).place : Int), r4⟩ : Sect)]), ce, ah ++ ([aM]), ap, _, upds_of _ _ ⟨rfl, rfl, rfl, rfl, trivial⟩, M.e_inl hM aU, (H.pk [1, 0, 3, 4, 5, 6, 7]), cd⟩
 replace hM := M.e_f hM aV
 simp only [qy1, qy2, qy3, qy4, qy5, qy6, ne_eq, qy7] at aV
 refine W.exit ?_
 have ff := M.e_inr hM aU
 subst ff
 replace hM := eB
 try dsimp only at hM
 refine W.seq ?_
 refine W.region rfl ?_
 refine s_val (x_ld (p := Pq ac) (v := .agg #[aj, ai, ag]) rfl (ldb_ag (ds := [aj, ai, ag]) Ag27 Sz27 (H.bl 4) rfl rfl)) ?_
 refine t_sw 5 0 [aj, ai, ag] (.agg #[aj, ai, ag]) H rfl rfl Sz27 rfl rfl rfl (by simp only [List.all_cons, List.all_nil, Bool.true_and, Bool.and_true, Sl.oc (rowSl rfl (H.get (k := 0) rfl) (roLe _ (H.get (k := 1) rfl)) ab), Sl.oc (H.os 3), Sl.oc (H.os 2)]; try rfl) ?_
 intro jL H
 refine s_nil ?_
 replace H := H.pk [0, 1, 2, 3, 5]
 refine W.ret ?_
 have fg := (H.bl 4)
 have aQ := M.e_pure hM
 exact ⟨_, (resE_of1 (v := .agg #[aj, ai, ag]) rfl (.cell (v := .agg #[aj, ai, ag]) rfl (run_loadVar_ag (ds := [aj, ai, ag]) Ag27 Sz27 fg rfl rfl) <| .nil)), ⟨l, r2, r3, aj, ah, B_l, ai, ag, aQ, rfl, (H.pk [0, 1, 3, 2]), ab⟩⟩

def zaF (s_Sections : List Sect) (s_Marks : List Mrk) (s_Reaches : List Rch) (marks : List Int) : (Int × Int × Nat) -> M ((Int × Int × Nat) ⊕ (Int × Int)) := fun (s2, s3, s4) =>
  bif decide ((s4 : Int) < (s_Reaches.length : Int)) then (
  M.grd (decide ((s4 : Int) < (s_Reaches.length : Int))) <|
  M.bind (zaA s_Sections s_Marks s_Reaches marks (s_Reaches.getD s4 default)) fun (aa, ab) =>
  M.bind (zau s3 ([(ab : Int)])) fun r3 =>
  M.pure (.inl (max s2 aa, r3, s4 + 1)))
  else (
  M.pure (.inr (s2, s3)))
def zbC (s_Sections : List Sect) (s_Marks : List Mrk) (s_Reaches : List Rch) (marks : List Int) : M (Int × Int × Int) :=
  M.bind (zaw s_Sections s_Marks s_Reaches marks) fun x_ => match x_ with
  | (.inl r1) => (
  bif r1 != 0 then (
  M.pure (0, 0, r1))
  else (
  M.fail))
  | (.inr aa) => (
  bif aa != 0 then (
  M.fail)
  else (
  M.bind (zaC s_Sections s_Marks s_Reaches marks) fun r2 =>
  bif !r2 then (
  M.pure (0, 0, 7))
  else (
  M.grd (decide (0 < (s_Reaches.length : Int))) <|
  M.bind (zaA s_Sections s_Marks s_Reaches marks (s_Reaches.getD 0 default)) fun (r0, ab) =>
  M.bind (M.iter (zaF s_Sections s_Marks s_Reaches marks) (r0, ab, 0)) fun (s5, s6) =>
  bif decide (s6 < s5) then (
  M.pure (0, 0, 5))
  else (
  M.pure (s5, s6, 0)))))
theorem zdd {R : List Chunk} {aO : Cells} {ai : Value} {aP : Cells} {aj : Value} {aQ : Cells} {ag : Value} {aR : Cells} {ak : Value} (s_Sections : List Sect) (s_Marks : List Mrk) (s_Reaches : List Rch) (marks : List Int) (aA : Reads R aO) (aB : Sl aO ai s_Sections) (aC : Reads R aP) (aD : Sl aP aj s_Marks) (ax : Reads R aQ) (al : Sl aQ ag s_Reaches) (aE : Reads R aR) (aF : Sl aR ak marks) {r : (Int × Int × Int)} (hM : (zbC s_Sections s_Marks s_Reaches marks).Ends r) (w : World) (H : St w w [] R) : Ret Tryz.prog 23 #[.agg #[ai, aj, ag], ak] w fun v w' => ∃ (y0 : Int) (y1 : Int) (y2 : Int), (y0, y1, y2) = r /\ v = .tuple #[.agg #[I y0, I y1], I y2] /\ St w w' [] R := by
 refine ret_of_W Tryz.func23 rfl rfl rfl ?_
 refine W.seq ?_
 refine W.region rfl ?_
 refine t_box (v := .agg #[ai, aj, ag]) (cs := [ai, aj, ag]) H rfl rfl ?_
 intro ao bK H
 refine t_alloc (cs := [I 0, I 0]) H Al54 rfl ?_
 intro aJ bL H
 refine zA (I 0) rfl ?_
 refine s_nil ?_
 refine W.seq ?_
 refine W.region rfl ?_
 refine s_val (x_ld (p := Pq ao) (v := .agg #[ai, aj, ag]) rfl (ldb_ag (ds := [ai, aj, ag]) Ag27 Sz27 (H.bl 1) rfl rfl)) ?_
 refine zM ak rfl ?_
 obtain ⟨bM, aW, hM⟩ := M.e_bind hM
 refine s_call cf57 [.agg #[ai, aj, ag], ak] rfl (zbF s_Sections s_Marks s_Reaches marks (aA.app _) aB (aC.app _) aD (ax.app _) al (aE.app _) aF aW _ (H.gt 2)) ?_
 rintro vq bN (⟨r1, aX, hvq, ab⟩ | ⟨am, ah, aG, aY, hvq, ab⟩)
 ·subst aX
  subst vq
  try dsimp only at hM
  replace H := H.bk ab
  clear ab
  refine zM (.tuple #[.pointer none, I r1]) rfl ?_
  refine zX [.pointer none, I r1] (.pointer none) rfl rfl ?_
  refine zX [.pointer none, I r1] (I r1) rfl rfl ?_
  refine zA (.pointer none) rfl ?_
  refine zA (I r1) rfl ?_
  refine s_nil ?_
  refine W.seq ?_
  refine W.block ?_
  refine W.seq ?_
  refine W.region rfl ?_
  refine zM (I r1) rfl ?_
  refine zC r1 0 (r1 != 0) rfl rfl rfl ?_
  refine zA (B (r1 != 0)) rfl ?_
  refine s_nil ?_
  refine W.cond (r1 != 0) rfl (fun aH => ?_) (fun aH => ?_)
  ·replace hM := M.e_t hM aH
   simp only [qy1, qy2, qy3, qy4, qy5, qy6, ne_eq, qy7] at aH
   refine W.seq ?_
   refine W.region rfl ?_
   refine s_val (x_bld (ps := []) (zs := [I 0, I 0]) (L' := [I 0, I 0]) rfl Tryz.underlying54 Al54 rfl (Bd54 Tryz.underlying54) (.nil)) ?_
   refine zM (I r1) rfl ?_
   refine t_sw 0 0 [I 0, I 0] (.agg #[I 0, I 0]) H rfl rfl Sz54 rfl rfl rfl rfl ?_
   intro bO H
   refine zA (I r1) rfl ?_
   refine s_nil ?_
   refine W.ret ?_
   have aZ := (H.bl 0)
   have av := M.e_pure hM
   exact ⟨_, (resE_ofn (vs := [.agg #[I 0, I 0], I r1]) rfl rfl (.cell (v := .agg #[I 0, I 0]) rfl (run_loadVar_ag (ds := [I 0, I 0]) Ag54 Sz54 aZ rfl rfl) <| .tmp (v := I r1) rfl <| .nil)), ⟨0, 0, r1, av, rfl, (H.pk [])⟩⟩
  replace hM := M.e_f hM aH
  exact (M.e_fail hM).elim
 subst aY
 subst vq
 try dsimp only at hM
 replace H := H.bk ab
 clear ab
 refine zM (.tuple #[Pq ah, I am]) rfl ?_
 refine zX [Pq ah, I am] (Pq ah) rfl rfl ?_
 refine zX [Pq ah, I am] (I am) rfl rfl ?_
 refine zA (Pq ah) rfl ?_
 refine zA (I am) rfl ?_
 refine s_nil ?_
 refine W.seq ?_
 refine W.block ?_
 refine W.seq ?_
 refine W.region rfl ?_
 refine zM (I am) rfl ?_
 refine zC am 0 (am != 0) rfl rfl rfl ?_
 refine zA (B (am != 0)) rfl ?_
 refine s_nil ?_
 refine W.cond (am != 0) rfl (fun aI => ?_) (fun aI => ?_)
 ·replace hM := M.e_t hM aI
  exact (M.e_fail hM).elim
 replace hM := M.e_f hM aI
 simp only [qy1, qy2, qy3, qy4, qy5, qy6, ne_eq, qy7] at aI
 refine W.seq ?_
 refine W.region rfl ?_
 refine zM (Pq ah) rfl ?_
 refine zM ak rfl ?_
 obtain ⟨bP, a6, hM⟩ := M.e_bind hM
 refine s_call cf58 [Pq ah, ak] rfl (zbR s_Sections s_Marks s_Reaches marks (aA.app _) aB (aC.app _) aD (ax.app _) al (Has.here (k := 0) rfl) (aE.app _) aF a6 _ (H.gt 4)) ?_
 rintro vq bQ ⟨r2, a7, hvq, ab⟩
 subst a7
 subst vq
 try dsimp only at hM
 replace H := H.bk ab
 clear ab
 refine s_val (x_not (b := r2) rfl) ?_
 refine zA (B (!r2)) rfl ?_
 refine s_nil ?_
 refine W.cond (!r2) rfl (fun aK => ?_) (fun aK => ?_)
 ·replace hM := M.e_t hM aK
  refine W.seq ?_
  refine W.region rfl ?_
  refine s_val (x_bld (ps := []) (zs := [I 0, I 0]) (L' := [I 0, I 0]) rfl Tryz.underlying54 Al54 rfl (Bd54 Tryz.underlying54) (.nil)) ?_
  refine t_sw 2 0 [I 0, I 0] (.agg #[I 0, I 0]) H rfl rfl Sz54 rfl rfl rfl rfl ?_
  intro bR H
  refine zA (I 7) rfl ?_
  refine s_nil ?_
  replace H := H.pk [2]
  refine W.ret ?_
  have a8 := (H.bl 0)
  have av := M.e_pure hM
  exact ⟨_, (resE_ofn (vs := [.agg #[I 0, I 0], I 7]) rfl rfl (.cell (v := .agg #[I 0, I 0]) rfl (run_loadVar_ag (ds := [I 0, I 0]) Ag54 Sz54 a8 rfl rfl) <| .tmp (v := I 7) rfl <| .nil)), ⟨0, 0, 7, av, rfl, (H.pk [])⟩⟩
 replace hM := M.e_f hM aK
 refine W.skip ?_
 refine W.seq ?_
 refine W.region rfl ?_
 refine zM (Pq ah) rfl ?_
 refine zM ak rfl ?_
 refine s_val (x_fa (a := Pq ao) (v := Oq ao 2) rfl (fa_blk (o := 0) Fd27_2 Sz25)) ?_
 refine s_val (x_ld (p := Oq ao 2) (v := ag) rfl (ldb_sc Sc25 (H.bl 3) rfl)) ?_
 obtain ⟨ba, hM⟩ := M.e_grd hM
 simp only [Bool.and_eq_true, decide_eq_true_eq] at ba
 refine s_val (x_ix (a := ag) (b := I 0) (v := vat ag 5 (Int.toNat 0)) rfl rfl (Sl.ix (α := Rch) T25.und T25.size al (by omega) (by omega))) ?_
 refine s_val (x_ld (p := vat ag 5 (Int.toNat 0)) (v := .agg #[I ((s_Reaches.getD 0 default).up), I ((s_Reaches.getD 0 default).down), I ((s_Reaches.getD 0 default).lo), I ((s_Reaches.getD 0 default).hi), B ((s_Reaches.getD 0 default).narrow)]) rfl (ld_ag Ag58 Sz58 (At.mono (Rch_atA al (i := 0) (by omega) (by omega)) (ax.at H)))) ?_
 obtain ⟨bS, bb, hM⟩ := M.e_bind hM
 refine s_call cf66 [Pq ah, ak, .agg #[I ((s_Reaches.getD 0 default).up), I ((s_Reaches.getD 0 default).down), I ((s_Reaches.getD 0 default).lo), I ((s_Reaches.getD 0 default).hi), B ((s_Reaches.getD 0 default).narrow)]] rfl (zbQ s_Sections s_Marks s_Reaches marks (s_Reaches.getD 0 default) (aA.app _) aB (aC.app _) aD (ax.app _) al (Has.here (k := 0) rfl) (aE.app _) aF bb _ ((H.pk [1, 0, 2, 3]).gt 3)) ?_
 rintro vq bT ⟨r0, aL, bc, hvq, ab⟩
 subst bc
 subst vq
 try dsimp only at hM
 replace H := H.pk [1, 0, 2, 3] |>.bk ab
 clear ab
 refine t_alloc (cs := [I 0, I 0]) H Al54 rfl ?_
 intro ae bU H
 refine t_sw 0 0 [I r0, I aL] (.agg #[I r0, I aL]) H rfl rfl Sz54 rfl rfl rfl rfl ?_
 intro bV H
 refine s_nil ?_
 refine W.seq ?_
 refine W.seq ?_
 refine W.region rfl ?_
 refine s_val (x_fa (a := Pq ao) (v := Oq ao 2) rfl (fa_blk (o := 0) Fd27_2 Sz25)) ?_
 refine s_val (x_ld (p := Oq ao 2) (v := ag) rfl (ldb_sc Sc25 (H.bl 4) rfl)) ?_
 have bW := (al).len_le
 refine s_val (x_lenS T25.und rfl al) ?_
 refine zM (I 0) rfl ?_
 refine s_nil ?_
 refine W.block ?_
 obtain ⟨bf, aM, bg⟩ := M.e_bind hM
 obtain ⟨bX, aM⟩ := M.e_iter aM
 refine W.loop (fun m σ W => ∃ (s2 : Int) (s3 : Int) (s4 : Nat) (ρ : Env), σ = upds ρ [(1, ak), (4, Pq aJ), (6, Pq ah), (8, Pq ae), (37, ag), (38, I (s_Reaches.length : Int)), (39, I (s4 : Int))] /\ M.iterN (zaF s_Sections s_Marks s_Reaches marks) m (s2, s3, s4) = some bf /\ St w W [cBlk ae [I s2, I s3] 54, cMemI encSpt aG (zaa s_Sections s_Marks s_Reaches), cBlk ah [ai, aj, ag, .map (some aG)] 177, cBlk aJ [I 0, I 0] 54, cBlk ao [ai, aj, ag] 27] R) ?_ ?_
 ·exact ⟨_, r0, aL, 0, _, upds_of _ _ ⟨rfl, rfl, rfl, rfl, rfl, rfl, rfl, trivial⟩, aM, H⟩
 rintro bY σ bZ ⟨s2, s3, s4, ρ, rfl, aS, H⟩
 obtain ⟨aq, au, b3, hM, ap⟩ := M.e_iterN aS
 simp only [zaF] at hM
 clear aS
 refine W.seq ?_
 refine W.region rfl ?_
 refine zC (s4 : Int) (s_Reaches.length : Int) (decide ((s4 : Int) < (s_Reaches.length : Int))) rfl rfl rfl ?_
 refine s_nil ?_
 refine W.seq ?_
 refine W.cond (decide ((s4 : Int) < (s_Reaches.length : Int))) rfl (fun ay => ?_) (fun ay => ?_)
 ·replace hM := M.e_t hM ay
  simp only [qy1, qy2, qy3, qy4, qy5, qy6, ne_eq, qy7] at ay
  refine W.skip ?_
  refine W.seq ?_
  refine W.block ?_
  refine W.seq ?_
  refine W.region rfl ?_
  obtain ⟨bh, hM⟩ := M.e_grd hM
  simp only [Bool.and_eq_true, decide_eq_true_eq] at bh
  refine s_val (x_ix (a := ag) (b := I (s4 : Int)) (v := vat ag 5 (Int.toNat (s4 : Int))) rfl rfl (Sl.ix (α := Rch) T25.und T25.size al (by omega) (by omega))) ?_
  refine s_val (x_ld (p := vat ag 5 (Int.toNat (s4 : Int))) (v := .agg #[I ((s_Reaches.getD s4 default).up), I ((s_Reaches.getD s4 default).down), I ((s_Reaches.getD s4 default).lo), I ((s_Reaches.getD s4 default).hi), B ((s_Reaches.getD s4 default).narrow)]) rfl (ld_ag Ag58 Sz58 (At.mono (Rch_atA al (i := (s4 : Int)) (by omega) (by omega)) (ax.at H)))) ?_
  refine t_alloc (cs := [I 0, I 0, I 0, I 0, B false]) H Al58 rfl ?_
  intro aT b4 H
  refine t_sw 0 0 [I ((s_Reaches.getD s4 default).up), I ((s_Reaches.getD s4 default).down), I ((s_Reaches.getD s4 default).lo), I ((s_Reaches.getD s4 default).hi), B ((s_Reaches.getD s4 default).narrow)] (.agg #[I ((s_Reaches.getD s4 default).up), I ((s_Reaches.getD s4 default).down), I ((s_Reaches.getD s4 default).lo), I ((s_Reaches.getD s4 default).hi), B ((s_Reaches.getD s4 default).narrow)]) H rfl rfl Sz58 rfl rfl rfl rfl ?_
  intro b5 H
  refine s_nil ?_
  refine W.seq ?_
  refine W.region rfl ?_
  refine zM (Pq ah) rfl ?_
  refine zM ak rfl ?_
  refine s_val (x_ld (p := Pq aT) (v := .agg #[I ((s_Reaches.getD s4 default).up), I ((s_Reaches.getD s4 default).down), I ((s_Reaches.getD s4 default).lo), I ((s_Reaches.getD s4 default).hi), B ((s_Reaches.getD s4 default).narrow)]) rfl (ldb_ag (ds := [I ((s_Reaches.getD s4 default).up), I ((s_Reaches.getD s4 default).down), I ((s_Reaches.getD s4 default).lo), I ((s_Reaches.getD s4 default).hi), B ((s_Reaches.getD s4 default).narrow)]) Ag58 Sz58 (H.bl 0) rfl rfl)) ?_
  obtain ⟨b6, bi, hM⟩ := M.e_bind hM
  refine s_call cf66 [Pq ah, ak, .agg #[I ((s_Reaches.getD s4 default).up), I ((s_Reaches.getD s4 default).down), I ((s_Reaches.getD s4 default).lo), I ((s_Reaches.getD s4 default).hi), B ((s_Reaches.getD s4 default).narrow)]] rfl (zbQ s_Sections s_Marks s_Reaches marks (s_Reaches.getD s4 default) (aA.app _) aB (aC.app _) aD (ax.app _) al (Has.here (k := 2) rfl) (aE.app _) aF bi _ ((H.pk [2, 0, 1, 3, 4, 5]).gt 5)) ?_
  rintro vq b7 ⟨aa, ac, bj, hvq, ab⟩
  subst bj
  subst vq
  try dsimp only at hM
  replace H := H.pk [2, 0, 1, 3, 4, 5] |>.bk ab
  clear ab
  refine t_alloc (cs := [I 0, I 0]) H Al54 rfl ?_
  intro aw b8 H
  refine t_sw 0 0 [I aa, I ac] (.agg #[I aa, I ac]) H rfl rfl Sz54 rfl rfl rfl rfl ?_
  intro b9 H
  refine s_nil ?_
  refine W.drawT (fun W => St w W [cBlk aw [I aa, I ac] 54, cMemI encSpt aG (zaa s_Sections s_Marks s_Reaches), cBlk aT [I ((s_Reaches.getD s4 default).up), I ((s_Reaches.getD s4 default).down), I ((s_Reaches.getD s4 default).lo), I ((s_Reaches.getD s4 default).hi), B ((s_Reaches.getD s4 default).narrow)] 58, cBlk ah [ai, aj, ag, .map (some aG)] 177, cBlk aJ [I 0, I 0] 54, cBlk ao [ai, aj, ag] 27] R) (.q 0 (.q 2 (.q 3 (.q 5 (.q 7 (.q 8 (.l3 1 (.q 4 (.l2 6 (.l 9 (.l 10 (.q 11 (.l 12 .nil)))) 9 (.l 6 (.l 10 (.q 11 (.l 12 .nil)))))) 6 (.l2 1 (.q 4 (.l 9 (.l 10 (.q 11 (.l 12 .nil))))) 9 (.l2 1 (.q 4 (.l 10 (.q 11 (.l 12 .nil)))) 10 (.l 1 (.q 4 (.q 11 (.l 12 .nil)))))) 9 (.l2 1 (.q 4 (.l 6 (.l 10 (.q 11 (.l 12 .nil))))) 6 (.l2 1 (.q 4 (.l 10 (.q 11 (.l 12 .nil)))) 10 (.l 1 (.q 4 (.q 11 (.l 12 .nil))))))))))))) mixed (by decide +kernel) rfl ?_
  intro cc aU
  replace H := H.ext aU
  clear aU
  refine ⟨(H.pk [0, 1, 2, 4, 5, 6]), ?_⟩
  refine t_q rfl (fun w' H => x_fa (a := Pq ae) (v := Pq ae) rfl (fa_blk (o := 0) Fd54_0 Sz3)) ?_
  refine t_q rfl (fun w' H => x_fa (a := Pq aw) (v := Pq aw) rfl (fa_blk (o := 0) Fd54_0 Sz3)) ?_
  refine t_q rfl (fun w' H => x_ld (p := Pq aw) (v := I aa) rfl (ldb_sc Sc3 (H.bl 0) rfl)) ?_
  refine t_q rfl (fun w' H => x_fa (a := Pq ae) (v := Oq ae 1) rfl (fa_blk (o := 0) Fd54_1 Sz3)) ?_
  refine t_q rfl (fun w' H => x_fa (a := Pq aw) (v := Oq aw 1) rfl (fa_blk (o := 0) Fd54_1 Sz3)) ?_
  refine t_q rfl (fun w' H => x_ld (p := Oq aw 1) (v := I ac) rfl (ldb_sc Sc3 (H.bl 0) rfl)) ?_
  refine t_l3 rfl rfl rfl ?_ ?_ ?_
  ·skip
   refine s_val (x_ld (p := Pq ae) (v := I s2) rfl (ldb_sc Sc3 (H.bl 3) rfl)) ?_
   refine s_nil ⟨(H.pk [0, 1, 2, 4, 5, 6]), ?_⟩
   refine t_q rfl (fun w' H => x_max (kd := .i64) (a := s2) (b := aa) rfl rfl) ?_
   refine t_l2 rfl rfl ?_ ?_
   ·skip
    refine s_val (x_ld (p := Oq ae 1) (v := I s3) rfl (ldb_sc Sc3 (H.bl 3) rfl)) ?_
    refine s_nil ⟨(H.pk [0, 1, 2, 4, 5, 6]), ?_⟩
    refine t_l rfl ?_
    refine t_bs (α := Int) T28 [I ac] [(ac : Int)] H rfl (.cons rfl (Flat.rep_enc _ (ac : Int)) <| .nil) rfl rfl rfl ?_
    intro bm cd H
    have ce := Sl.cells (H.os 0)
    have cf := Sl.oc (H.os 0)
    refine s_nil ⟨(H.pk [1, 2, 3, 5, 6, 7]), ?_⟩
    refine t_l rfl ?_
    obtain ⟨cg, bn, hM⟩ := M.e_bind hM
    refine s_call cf73 [I s3, bm] rfl (zag s3 ([(ac : Int)]) (rdo 0) (H.os 0) bn _ (H.gt 8)) ?_
    rintro vq ch ⟨r3, bo, hvq, ab⟩
    subst bo
    subst vq
    try dsimp only at hM
    replace H := H.bk ab
    clear ab
    refine s_nil ⟨(H.pk [1, 2, 3, 5, 6, 7]), ?_⟩
    refine t_q rfl (fun w' H => x_bld (ps := [(0, I (max s2 aa)), (1, I r3)]) (zs := [I 0, I 0]) (L' := [I (max s2 aa), I r3]) rfl Tryz.underlying54 Al54 rfl (Bd54 Tryz.underlying54) (.cons (cs := [I (max s2 aa)]) rfl rfl rfl rfl rfl <| .cons (cs := [I r3]) rfl rfl rfl rfl rfl <| .nil)) ?_
    refine t_l rfl ?_
    refine t_sw 4 0 [I (max s2 aa), I r3] (.agg #[I (max s2 aa), I r3]) H rfl rfl Sz54 rfl rfl rfl rfl ?_
    intro ci H
    refine s_nil ⟨(H.pk [1, 2, 3, 5, 6, 7]), ?_⟩
    refine t_nil ?_
    replace H := H.pk [2, 4, 5, 6, 7]
    refine W.region rfl ?_
    refine zR (s4 : Int) 1 ((s4 : Int) + 1) rfl rfl rfl (by omega) ?_
    refine zM (I ((s4 : Int) + 1)) rfl ?_
    refine s_nil ?_
    exact ⟨aq, au, max s2 aa, r3, s4 + 1, _, upds_of _ _ ⟨rfl, rfl, rfl, rfl, rfl, rfl, rfl, trivial⟩, M.e_inl hM ap, (H.pk [1, 0, 2, 3, 4])⟩
   skip
   refine t_bs (α := Int) T28 [I ac] [(ac : Int)] H rfl (.cons rfl (Flat.rep_enc _ (ac : Int)) <| .nil) rfl rfl rfl ?_
   intro bp cj H
   have ck := Sl.cells (H.os 0)
   have cn := Sl.oc (H.os 0)
   refine s_nil ⟨(H.pk [1, 2, 3, 5, 6, 7]), ?_⟩
   refine t_l rfl ?_
   refine s_val (x_ld (p := Oq ae 1) (v := I s3) rfl (ldb_sc Sc3 (H.bl 4) rfl)) ?_
   refine s_nil ⟨(H.pk [1, 2, 3, 5, 6, 7]), ?_⟩
   refine t_l rfl ?_
   obtain ⟨co, bq, hM⟩ := M.e_bind hM
   refine s_call cf73 [I s3, bp] rfl (zag s3 ([(ac : Int)]) (rdo 0) (H.os 0) bq _ (H.gt 8)) ?_
   rintro vq cp ⟨r3, br, hvq, ab⟩
   subst br
   subst vq
   try dsimp only at hM
   replace H := H.bk ab
   clear ab
   refine s_nil ⟨(H.pk [1, 2, 3, 5, 6, 7]), ?_⟩
   refine t_q rfl (fun w' H => x_bld (ps := [(0, I (max s2 aa)), (1, I r3)]) (zs := [I 0, I 0]) (L' := [I (max s2 aa), I r3]) rfl Tryz.underlying54 Al54 rfl (Bd54 Tryz.underlying54) (.cons (cs := [I (max s2 aa)]) rfl rfl rfl rfl rfl <| .cons (cs := [I r3]) rfl rfl rfl rfl rfl <| .nil)) ?_
   refine t_l rfl ?_
   refine t_sw 4 0 [I (max s2 aa), I r3] (.agg #[I (max s2 aa), I r3]) H rfl rfl Sz54 rfl rfl rfl rfl ?_
   intro cq H
   refine s_nil ⟨(H.pk [1, 2, 3, 5, 6, 7]), ?_⟩
   refine t_nil ?_
   replace H := H.pk [2, 4, 5, 6, 7]
   refine W.region rfl ?_
   refine zR (s4 : Int) 1 ((s4 : Int) + 1) rfl rfl rfl (by omega) ?_
   refine zM (I ((s4 : Int) + 1)) rfl ?_
   refine s_nil ?_
   exact ⟨aq, au, max s2 aa, r3, s4 + 1, _, upds_of _ _ ⟨rfl, rfl, rfl, rfl, rfl, rfl, rfl, trivial⟩, M.e_inl hM ap, (H.pk [1, 0, 2, 3, 4])⟩
  ·skip
   refine s_val (x_ld (p := Oq ae 1) (v := I s3) rfl (ldb_sc Sc3 (H.bl 3) rfl)) ?_
   refine s_nil ⟨(H.pk [0, 1, 2, 4, 5, 6]), ?_⟩
   refine t_l2 rfl rfl ?_ ?_
   ·skip
    refine s_val (x_ld (p := Pq ae) (v := I s2) rfl (ldb_sc Sc3 (H.bl 3) rfl)) ?_
    refine s_nil ⟨(H.pk [0, 1, 2, 4, 5, 6]), ?_⟩
    refine t_q rfl (fun w' H => x_max (kd := .i64) (a := s2) (b := aa) rfl rfl) ?_
    refine t_l rfl ?_
    refine t_bs (α := Int) T28 [I ac] [(ac : Int)] H rfl (.cons rfl (Flat.rep_enc _ (ac : Int)) <| .nil) rfl rfl rfl ?_
    intro bt cr H
    have ct := Sl.cells (H.os 0)
    have cu := Sl.oc (H.os 0)
    refine s_nil ⟨(H.pk [1, 2, 3, 5, 6, 7]), ?_⟩
    refine t_l rfl ?_
    obtain ⟨cv, bu, hM⟩ := M.e_bind hM
    refine s_call cf73 [I s3, bt] rfl (zag s3 ([(ac : Int)]) (rdo 0) (H.os 0) bu _ (H.gt 8)) ?_
    rintro vq cw ⟨r3, bv, hvq, ab⟩
    subst bv
    subst vq
    try dsimp only at hM
    replace H := H.bk ab
    clear ab
    refine s_nil ⟨(H.pk [1, 2, 3, 5, 6, 7]), ?_⟩
    refine t_q rfl (fun w' H => x_bld (ps := [(0, I (max s2 aa)), (1, I r3)]) (zs := [I 0, I 0]) (L' := [I (max s2 aa), I r3]) rfl Tryz.underlying54 Al54 rfl (Bd54 Tryz.underlying54) (.cons (cs := [I (max s2 aa)]) rfl rfl rfl rfl rfl <| .cons (cs := [I r3]) rfl rfl rfl rfl rfl <| .nil)) ?_
    refine t_l rfl ?_
    refine t_sw 4 0 [I (max s2 aa), I r3] (.agg #[I (max s2 aa), I r3]) H rfl rfl Sz54 rfl rfl rfl rfl ?_
    intro cx H
    refine s_nil ⟨(H.pk [1, 2, 3, 5, 6, 7]), ?_⟩
    refine t_nil ?_
    replace H := H.pk [2, 4, 5, 6, 7]
    refine W.region rfl ?_
    refine zR (s4 : Int) 1 ((s4 : Int) + 1) rfl rfl rfl (by omega) ?_
    refine zM (I ((s4 : Int) + 1)) rfl ?_
    refine s_nil ?_
    exact ⟨aq, au, max s2 aa, r3, s4 + 1, _, upds_of _ _ ⟨rfl, rfl, rfl, rfl, rfl, rfl, rfl, trivial⟩, M.e_inl hM ap, (H.pk [1, 0, 2, 3, 4])⟩
   skip
   refine t_bs (α := Int) T28 [I ac] [(ac : Int)] H rfl (.cons rfl (Flat.rep_enc _ (ac : Int)) <| .nil) rfl rfl rfl ?_
   intro aV cy H
   have cz := Sl.cells (H.os 0)
   have cA := Sl.oc (H.os 0)
   refine s_nil ⟨(H.pk [1, 2, 3, 5, 6, 7]), ?_⟩
   refine t_l2 rfl rfl ?_ ?_
   ·skip
    refine s_val (x_ld (p := Pq ae) (v := I s2) rfl (ldb_sc Sc3 (H.bl 4) rfl)) ?_
    refine s_nil ⟨(H.pk [1, 2, 3, 5, 6, 7]), ?_⟩
    refine t_q rfl (fun w' H => x_max (kd := .i64) (a := s2) (b := aa) rfl rfl) ?_
    refine t_l rfl ?_
    obtain ⟨cB, bw, hM⟩ := M.e_bind hM
    refine s_call cf73 [I s3, aV] rfl (zag s3 ([(ac : Int)]) (rdo 0) (H.os 0) bw _ (H.gt 8)) ?_
    rintro vq cC ⟨r3, bx, hvq, ab⟩
    subst bx
    subst vq
    try dsimp only at hM
    replace H := H.bk ab
    clear ab
    refine s_nil ⟨(H.pk [1, 2, 3, 5, 6, 7]), ?_⟩
    refine t_q rfl (fun w' H => x_bld (ps := [(0, I (max s2 aa)), (1, I r3)]) (zs := [I 0, I 0]) (L' := [I (max s2 aa), I r3]) rfl Tryz.underlying54 Al54 rfl (Bd54 Tryz.underlying54) (.cons (cs := [I (max s2 aa)]) rfl rfl rfl rfl rfl <| .cons (cs := [I r3]) rfl rfl rfl rfl rfl <| .nil)) ?_
    refine t_l rfl ?_
    refine t_sw 4 0 [I (max s2 aa), I r3] (.agg #[I (max s2 aa), I r3]) H rfl rfl Sz54 rfl rfl rfl rfl ?_
    intro cD H
    refine s_nil ⟨(H.pk [1, 2, 3, 5, 6, 7]), ?_⟩
    refine t_nil ?_
    replace H := H.pk [2, 4, 5, 6, 7]
    refine W.region rfl ?_
    refine zR (s4 : Int) 1 ((s4 : Int) + 1) rfl rfl rfl (by omega) ?_
    refine zM (I ((s4 : Int) + 1)) rfl ?_
    refine s_nil ?_
    exact ⟨aq, au, max s2 aa, r3, s4 + 1, _, upds_of _ _ ⟨rfl, rfl, rfl, rfl, rfl, rfl, rfl, trivial⟩, M.e_inl hM ap, (H.pk [1, 0, 2, 3, 4])⟩
   skip
   obtain ⟨cE, bz, hM⟩ := M.e_bind hM
   refine s_call cf73 [I s3, aV] rfl (zag s3 ([(ac : Int)]) (rdo 0) (H.os 0) bz _ (H.gt 8)) ?_
   rintro vq cF ⟨r3, bA, hvq, ab⟩
   subst bA
   subst vq
   try dsimp only at hM
   replace H := H.bk ab
   clear ab
   refine s_nil ⟨(H.pk [1, 2, 3, 5, 6, 7]), ?_⟩
   refine t_l rfl ?_
   refine s_val (x_ld (p := Pq ae) (v := I s2) rfl (ldb_sc Sc3 (H.bl 4) rfl)) ?_
   refine s_nil ⟨(H.pk [1, 2, 3, 5, 6, 7]), ?_⟩
   refine t_q rfl (fun w' H => x_max (kd := .i64) (a := s2) (b := aa) rfl rfl) ?_
   refine t_q rfl (fun w' H => x_bld (ps := [(0, I (max s2 aa)), (1, I r3)]) (zs := [I 0, I 0]) (L' := [I (max s2 aa), I r3]) rfl Tryz.underlying54 Al54 rfl (Bd54 Tryz.underlying54) (.cons (cs := [I (max s2 aa)]) rfl rfl rfl rfl rfl <| .cons (cs := [I r3]) rfl rfl rfl rfl rfl <| .nil)) ?_
   refine t_l rfl ?_
   refine t_sw 4 0 [I (max s2 aa), I r3] (.agg #[I (max s2 aa), I r3]) H rfl rfl Sz54 rfl rfl rfl rfl ?_
   intro cG H
   refine s_nil ⟨(H.pk [1, 2, 3, 5, 6, 7]), ?_⟩
   refine t_nil ?_
   replace H := H.pk [2, 4, 5, 6, 7]
   refine W.region rfl ?_
   refine zR (s4 : Int) 1 ((s4 : Int) + 1) rfl rfl rfl (by omega) ?_
   refine zM (I ((s4 : Int) + 1)) rfl ?_
   refine s_nil ?_
   exact ⟨aq, au, max s2 aa, r3, s4 + 1, _, upds_of _ _ ⟨rfl, rfl, rfl, rfl, rfl, rfl, rfl, trivial⟩, M.e_inl hM ap, (H.pk [1, 0, 2, 3, 4])⟩
  skip
  refine t_bs (α := Int) T28 [I ac] [(ac : Int)] H rfl (.cons rfl (Flat.rep_enc _ (ac : Int)) <| .nil) rfl rfl rfl ?_
  intro aN cH H
  have cI := Sl.cells (H.os 0)
  have cJ := Sl.oc (H.os 0)
  refine s_nil ⟨(H.pk [1, 2, 3, 5, 6, 7]), ?_⟩
  refine t_l2 rfl rfl ?_ ?_
  ·skip
   refine s_val (x_ld (p := Pq ae) (v := I s2) rfl (ldb_sc Sc3 (H.bl 4) rfl)) ?_
   refine s_nil ⟨(H.pk [1, 2, 3, 5, 6, 7]), ?_⟩
   refine t_q rfl (fun w' H => x_max (kd := .i64) (a := s2) (b := aa) rfl rfl) ?_
   refine t_l rfl ?_
   refine s_val (x_ld (p := Oq ae 1) (v := I s3) rfl (ldb_sc Sc3 (H.bl 4) rfl)) ?_
   refine s_nil ⟨(H.pk [1, 2, 3, 5, 6, 7]), ?_⟩
   refine t_l rfl ?_
   obtain ⟨cK, bB, hM⟩ := M.e_bind hM
   refine s_call cf73 [I s3, aN] rfl (zag s3 ([(ac : Int)]) (rdo 0) (H.os 0) bB _ (H.gt 8)) ?_
   rintro vq cL ⟨r3, bC, hvq, ab⟩
   subst bC
   subst vq
   try dsimp only at hM
   replace H := H.bk ab
   clear ab
   refine s_nil ⟨(H.pk [1, 2, 3, 5, 6, 7]), ?_⟩
   refine t_q rfl (fun w' H => x_bld (ps := [(0, I (max s2 aa)), (1, I r3)]) (zs := [I 0, I 0]) (L' := [I (max s2 aa), I r3]) rfl Tryz.underlying54 Al54 rfl (Bd54 Tryz.underlying54) (.cons (cs := [I (max s2 aa)]) rfl rfl rfl rfl rfl <| .cons (cs := [I r3]) rfl rfl rfl rfl rfl <| .nil)) ?_
   refine t_l rfl ?_
   refine t_sw 4 0 [I (max s2 aa), I r3] (.agg #[I (max s2 aa), I r3]) H rfl rfl Sz54 rfl rfl rfl rfl ?_
   intro cM H
   refine s_nil ⟨(H.pk [1, 2, 3, 5, 6, 7]), ?_⟩
   refine t_nil ?_
   replace H := H.pk [2, 4, 5, 6, 7]
   refine W.region rfl ?_
   refine zR (s4 : Int) 1 ((s4 : Int) + 1) rfl rfl rfl (by omega) ?_
   refine zM (I ((s4 : Int) + 1)) rfl ?_
   refine s_nil ?_
   exact ⟨aq, au, max s2 aa, r3, s4 + 1, _, upds_of _ _ ⟨rfl, rfl, rfl, rfl, rfl, rfl, rfl, trivial⟩, M.e_inl hM ap, (H.pk [1, 0, 2, 3, 4])⟩
  skip
  refine s_val (x_ld (p := Oq ae 1) (v := I s3) rfl (ldb_sc Sc3 (H.bl 4) rfl)) ?_
  refine s_nil ⟨(H.pk [1, 2, 3, 5, 6, 7]), ?_⟩
  refine t_l2 rfl rfl ?_ ?_
  ·skip
   refine s_val (x_ld (p := Pq ae) (v := I s2) rfl (ldb_sc Sc3 (H.bl 4) rfl)) ?_
   refine s_nil ⟨(H.pk [1, 2, 3, 5, 6, 7]), ?_⟩
   refine t_q rfl (fun w' H => x_max (kd := .i64) (a := s2) (b := aa) rfl rfl) ?_
   refine t_l rfl ?_
   obtain ⟨cN, bD, hM⟩ := M.e_bind hM
   refine s_call cf73 [I s3, aN] rfl (zag s3 ([(ac : Int)]) (rdo 0) (H.os 0) bD _ (H.gt 8)) ?_
   rintro vq cO ⟨r3, bE, hvq, ab⟩
   subst bE
   subst vq
   try dsimp only at hM
   replace H := H.bk ab
   clear ab
   refine s_nil ⟨(H.pk [1, 2, 3, 5, 6, 7]), ?_⟩
   refine t_q rfl (fun w' H => x_bld (ps := [(0, I (max s2 aa)), (1, I r3)]) (zs := [I 0, I 0]) (L' := [I (max s2 aa), I r3]) rfl Tryz.underlying54 Al54 rfl (Bd54 Tryz.underlying54) (.cons (cs := [I (max s2 aa)]) rfl rfl rfl rfl rfl <| .cons (cs := [I r3]) rfl rfl rfl rfl rfl <| .nil)) ?_
   refine t_l rfl ?_
   refine t_sw 4 0 [I (max s2 aa), I r3] (.agg #[I (max s2 aa), I r3]) H rfl rfl Sz54 rfl rfl rfl rfl ?_
   intro cP H
   refine s_nil ⟨(H.pk [1, 2, 3, 5, 6, 7]), ?_⟩
   refine t_nil ?_
   replace H := H.pk [2, 4, 5, 6, 7]
   refine W.region rfl ?_
   refine zR (s4 : Int) 1 ((s4 : Int) + 1) rfl rfl rfl (by omega) ?_
   refine zM (I ((s4 : Int) + 1)) rfl ?_
   refine s_nil ?_
   exact ⟨aq, au, max s2 aa, r3, s4 + 1, _, upds_of _ _ ⟨rfl, rfl, rfl, rfl, rfl, rfl, rfl, trivial⟩, M.e_inl hM ap, (H.pk [1, 0, 2, 3, 4])⟩
  skip
  obtain ⟨cQ, bF, hM⟩ := M.e_bind hM
  refine s_call cf73 [I s3, aN] rfl (zag s3 ([(ac : Int)]) (rdo 0) (H.os 0) bF _ (H.gt 8)) ?_
  rintro vq cR ⟨r3, bG, hvq, ab⟩
  subst bG
  subst vq
  try dsimp only at hM
  replace H := H.bk ab
  clear ab
  refine s_nil ⟨(H.pk [1, 2, 3, 5, 6, 7]), ?_⟩
  refine t_l rfl ?_
  refine s_val (x_ld (p := Pq ae) (v := I s2) rfl (ldb_sc Sc3 (H.bl 4) rfl)) ?_
  refine s_nil ⟨(H.pk [1, 2, 3, 5, 6, 7]), ?_⟩
  refine t_q rfl (fun w' H => x_max (kd := .i64) (a := s2) (b := aa) rfl rfl) ?_
  refine t_q rfl (fun w' H => x_bld (ps := [(0, I (max s2 aa)), (1, I r3)]) (zs := [I 0, I 0]) (L' := [I (max s2 aa), I r3]) rfl Tryz.underlying54 Al54 rfl (Bd54 Tryz.underlying54) (.cons (cs := [I (max s2 aa)]) rfl rfl rfl rfl rfl <| .cons (cs := [I r3]) rfl rfl rfl rfl rfl <| .nil)) ?_
  refine t_l rfl ?_
  refine t_sw 4 0 [I (max s2 aa), I r3] (.agg #[I (max s2 aa), I r3]) H rfl rfl Sz54 rfl rfl rfl rfl ?_
  intro cS H
  refine s_nil ⟨(H.pk [1, 2, 3, 5, 6, 7]), ?_⟩
  refine t_nil ?_
  replace H := H.pk [2, 4, 5, 6, 7]
  refine W.region rfl ?_
  refine zR (s4 : Int) 1 ((s4 : Int) + 1) rfl rfl rfl (by omega) ?_
  refine zM (I ((s4 : Int) + 1)) rfl ?_
  refine s_nil ?_
  exact ⟨aq, au, max s2 aa, r3, s4 + 1, _, upds_of _ _ ⟨rfl, rfl, rfl, rfl, rfl, rfl, rfl, trivial⟩, M.e_inl hM ap, (H.pk [1, 0, 2, 3, 4])⟩
 replace hM := M.e_f hM ay
 simp only [qy1, qy2, qy3, qy4, qy5, qy6, ne_eq, qy7] at ay
 refine W.exit ?_
 have bH := M.e_inr hM ap
 subst bH
 replace hM := bg
 try dsimp only at hM
 replace H := H.pk [0, 3]
 refine W.seq ?_
 refine W.seq ?_
 refine W.region rfl ?_
 refine s_val (x_fa (a := Pq ae) (v := Pq ae) rfl (fa_blk (o := 0) Fd54_0 Sz3)) ?_
 refine s_val (x_ld (p := Pq ae) (v := I s2) rfl (ldb_sc Sc3 (H.bl 0) rfl)) ?_
 refine s_val (x_fa (a := Pq ae) (v := Oq ae 1) rfl (fa_blk (o := 0) Fd54_1 Sz3)) ?_
 refine s_val (x_ld (p := Oq ae 1) (v := I s3) rfl (ldb_sc Sc3 (H.bl 0) rfl)) ?_
 refine zC s2 s3 (decide (s3 < s2)) rfl rfl rfl ?_
 refine s_nil ?_
 refine W.cond (decide (s3 < s2)) rfl (fun az => ?_) (fun az => ?_)
 ·replace hM := M.e_t hM az
  simp only [qy1, qy2, qy3, qy4, qy5, qy6, ne_eq, qy7] at az
  refine W.seq ?_
  refine W.region rfl ?_
  refine s_val (x_bld (ps := []) (zs := [I 0, I 0]) (L' := [I 0, I 0]) rfl Tryz.underlying54 Al54 rfl (Bd54 Tryz.underlying54) (.nil)) ?_
  refine t_sw 1 0 [I 0, I 0] (.agg #[I 0, I 0]) H rfl rfl Sz54 rfl rfl rfl rfl ?_
  intro cT H
  refine zA (I 5) rfl ?_
  refine s_nil ?_
  refine W.ret ?_
  have bI := (H.bl 1)
  have av := M.e_pure hM
  exact ⟨_, (resE_ofn (vs := [.agg #[I 0, I 0], I 5]) rfl rfl (.cell (v := .agg #[I 0, I 0]) rfl (run_loadVar_ag (ds := [I 0, I 0]) Ag54 Sz54 bI rfl rfl) <| .tmp (v := I 5) rfl <| .nil)), ⟨0, 0, 5, av, rfl, (H.pk [])⟩⟩
 replace hM := M.e_f hM az
 simp only [qy1, qy2, qy3, qy4, qy5, qy6, ne_eq, qy7] at az
 refine W.skip ?_
 refine W.seq ?_
 refine W.region rfl ?_
 refine s_val (x_ld (p := Pq ae) (v := .agg #[I s2, I s3]) rfl (ldb_ag (ds := [I s2, I s3]) Ag54 Sz54 (H.bl 0) rfl rfl)) ?_
 refine t_sw 1 0 [I s2, I s3] (.agg #[I s2, I s3]) H rfl rfl Sz54 rfl rfl rfl rfl ?_
 intro cU H
 refine zA (I 0) rfl ?_
 refine s_nil ?_
 refine W.ret ?_
 have bJ := (H.bl 1)
 have av := M.e_pure hM
 exact ⟨_, (resE_ofn (vs := [.agg #[I s2, I s3], I 0]) rfl rfl (.cell (v := .agg #[I s2, I s3]) rfl (run_loadVar_ag (ds := [I s2, I s3]) Ag54 Sz54 bJ rfl rfl) <| .tmp (v := I 0) rfl <| .nil)), ⟨s2, s3, 0, av, rfl, (H.pk [])⟩⟩

end Go.Proofs.YtlemgioaakecpaaGreat
end
section
set_option maxRecDepth 100000
set_option maxHeartbeats 16000000
namespace Go.Proofs.YtlemgioaakecpaaGreat
open Go Go.Nm
def zbg (ao : List Sect) (ap : List Mrk) (ak : List Rch) (r3 : List Int) (r4 : Int) (aq : List Sect) (au : List Mrk) (ac : List Rch) (av : List Sect) (ae : List Mrk) (aw : List Rch) (ax : List Sect) (ay : List Mrk) (al : List Rch) (r8 : Int) (r9 : Int) (ag : Int) (az : Int) (aA : Int) (am : Int) (aa : Int) (ab : Int) (aB : Int) (aC : Int) (aD : Int) (aE : Int) : M Bool :=
  M.bind (zaj aq au (ac.set (Int.toNat r4) ({ (ac.getD (Int.toNat r4) default) with lo := max 1 (((ac.getD (Int.toNat r4) default).lo) - r8), hi := min 400 (((ac.getD (Int.toNat r4) default).hi) + r9) })) r3 r4) fun (aF, aG, aH) =>
  M.bind (zaj av (ae.set (Int.toNat ag) ({ (ae.getD (Int.toNat ag) default) with lo := max 0 (((ae.getD (Int.toNat ag) default).lo) - az), hi := min 2000 (((ae.getD (Int.toNat ag) default).hi) + aA) })) aw r3 r4) fun (aI, aJ, aK) =>
  M.bind (zaj ax ay (al.set (Int.toNat r4) ({ (al.getD (Int.toNat r4) default) with lo := ((ak.getD (Int.toNat r4) default).lo) + am, hi := ((ak.getD (Int.toNat r4) default).hi) + am })) r3 r4) fun (aL, aM, aN) =>
  bif (((((aB != 0) || (aE != 0)) || (aH != 0)) || (aK != 0)) || (aN != 0)) then (
  M.pure false)
  else (
  bif ((((((((decide (aC < aa)) || (decide (ab < aD))) || (decide (aa < aF))) || (decide (aG < ab))) || (decide (aa < aI))) || (decide (aJ < ab))) || (decide (aa < aL))) || (decide (ab < aM))) then (
  M.pure false)
  else (
  M.bind (zbC ao ap ak r3) fun (ah, ai, aj) =>
  bif ((aj != 0) && (aj != 5)) then (
  M.pure false)
  else (
  M.bind (M.opt ((aj != 0) || (((decide (aa <= ah)) && (decide (ai <= ab))) && (decide (ah <= ai)))) (zb9) false) fun aO =>
  M.pure (((aj != 0) || (((decide (aa <= ah)) && (decide (ai <= ab))) && (decide (ah <= ai)))) && aO))))
def zcd (numbers : List UInt8) (more : List UInt8) (reach : Int) : M Bool :=
  M.bind (zaO numbers) fun (r1, r2) =>
  M.bind (zba numbers r1 r2 8 false) fun (ab, ae, aa, ac, aY, q1, q2) =>
  M.bind (zaO more) fun (aq, au) =>
  M.bind (za3 ab ae aa) fun r3 =>
  M.bind (zbo reach (aa.length : Int)) fun r4 =>
  M.bind (zar ab ae aa) fun (r0, ak, ao) =>
  M.bind (zar ab ae aa) fun (av, aw, ai) =>
  M.bind (zar ab ae aa) fun (ax, ag, ay) =>
  M.bind (zar ab ae aa) fun (az, aA, ap) =>
  M.bind (zab more aq au (ab.length : Int)) fun (r5, aB, aC) =>
  M.grd (decide ((0 : Int) <= r5) && decide (r5 < (ab.length : Int))) <|
  M.grd (decide ((0 : Int) <= r5) && decide (r5 < (ac.length : Int))) <|
  M.bind (zab more aB aC 5) fun (r6, aD, aE) =>
  M.grd (decide ((-9223372036854775808 : Int) <= ((ac.getD (Int.toNat r5) 0) - r6)) && decide (((ac.getD (Int.toNat r5) 0) - r6) <= (9223372036854775807 : Int))) <|
  M.bind (zab more aD aE 5) fun (r7, aF, aG) =>
  M.grd (decide ((-9223372036854775808 : Int) <= ((ac.getD (Int.toNat r5) 0) + r7)) && decide (((ac.getD (Int.toNat r5) 0) + r7) <= (9223372036854775807 : Int))) <|
  M.grd (decide ((ak.length + ([(⟨((ab.getD (Int.toNat r5) default).place : Int), (max 0 ((ac.getD (Int.toNat r5) 0) - r6) : Int), ((ac.getD (Int.toNat r5) 0) + r7 : Int)⟩ : Mrk)]).length) * 24 <= 140737488355328)) <|
  M.grd (decide ((0 : Int) <= r4) && decide (r4 < (ai.length : Int))) <|
  M.bind (zab more aF aG 9) fun (r8, aH, aI) =>
  M.grd (decide ((-9223372036854775808 : Int) <= (((ai.getD (Int.toNat r4) default).lo) - r8)) && decide ((((ai.getD (Int.toNat r4) default).lo) - r8) <= (9223372036854775807 : Int))) <|
  M.bind (zab more aH aI 9) fun (r9, aJ, aK) =>
  M.grd (decide ((-9223372036854775808 : Int) <= (((ai.getD (Int.toNat r4) default).hi) + r9)) && decide ((((ai.getD (Int.toNat r4) default).hi) + r9) <= (9223372036854775807 : Int))) <|
  M.bind (zab more aJ aK (ag.length : Int)) fun (ah, aL, aM) =>
  M.grd (decide ((0 : Int) <= ah) && decide (ah < (ag.length : Int))) <|
  M.bind (zab more aL aM 9) fun (al, aN, aO) =>
  M.grd (decide ((-9223372036854775808 : Int) <= (((ag.getD (Int.toNat ah) default).lo) - al)) && decide ((((ag.getD (Int.toNat ah) default).lo) - al) <= (9223372036854775807 : Int))) <|
  M.bind (zab more aN aO 9) fun (am, aP, aQ) =>
  M.grd (decide ((-9223372036854775808 : Int) <= (((ag.getD (Int.toNat ah) default).hi) + am)) && decide ((((ag.getD (Int.toNat ah) default).hi) + am) <= (9223372036854775807 : Int))) <|
  M.bind (zab more aP aQ 30) fun (aj, aZ, a6) =>
  M.grd (decide ((0 : Int) <= r4) && decide (r4 < (aa.length : Int))) <|
  M.grd (decide ((-9223372036854775808 : Int) <= (((aa.getD (Int.toNat r4) default).lo) + aj)) && decide ((((aa.getD (Int.toNat r4) default).lo) + aj) <= (9223372036854775807 : Int))) <|
  M.grd (decide ((-9223372036854775808 : Int) <= (((aa.getD (Int.toNat r4) default).hi) + aj)) && decide ((((aa.getD (Int.toNat r4) default).hi) + aj) <= (9223372036854775807 : Int))) <|
  M.grd (decide ((0 : Int) <= r4) && decide (r4 < (ap.length : Int))) <|
  M.bind (zaj ab ae aa r3 r4) fun (aR, aS, aT) =>
  M.bind (za3 r0 (ak ++ ([(⟨((ab.getD (Int.toNat r5) default).place : Int), (max 0 ((ac.getD (Int.toNat r5) 0) - r6) : Int), ((ac.getD (Int.toNat r5) 0) + r7 : Int)⟩ : Mrk)])) ao) fun aU =>
  M.bind (zaj r0 (ak ++ ([(⟨((ab.getD (Int.toNat r5) default).place : Int), (max 0 ((ac.getD (Int.toNat r5) 0) - r6) : Int), ((ac.getD (Int.toNat r5) 0) + r7 : Int)⟩ : Mrk)])) ao aU r4) fun (aV, aW, aX) =>
  zbg ab ae aa r3 r4 av aw ai ax ag ay az aA ap r8 r9 ah al am aj aR aS aT aV aW aX
theorem zcN {R : List Chunk} {b6 : Cells} {bg : Value} {b7 : Cells} {aX : Value} (numbers : List UInt8) (more : List UInt8) (reach : Int) (b8 : Reads R b6) (b9 : Sl b6 bg numbers) (bO : Reads R b7) (bP : Sl b7 aX more) {r : Bool} (hM : (zcd numbers more reach).Ends r) (w : World) (H : St w w [] R) : Ret Tryz.prog 5 #[bg, aX, I reach] w fun v w' => ∃ (y0 : Bool), y0 = r /\ v = B y0 /\ St w w' [] R := by
 refine ret_of_W Tryz.func5 rfl rfl rfl ?_
 refine W.seq ?_
 refine W.region rfl ?_
 refine zA (B false) rfl ?_
 refine s_nil ?_
 refine W.seq ?_
 refine W.region rfl ?_
 refine zM bg rfl ?_
 obtain ⟨en, ct, hM⟩ := M.e_bind hM
 refine s_call cf9 [bg] rfl (zcy numbers (b8.app _) b9 ct _ (H.gt 0)) ?_
 rintro vq eo ⟨r1, r2, bp, cu, hvq, al⟩
 subst cu
 subst vq
 try dsimp only at hM
 replace H := H.bk al
 clear al
 obtain ⟨ep, cv, hM⟩ := M.e_bind hM
 refine s_call cf8 [Pq bp, I 8, B false] rfl (zc4 numbers r1 r2 8 false (b8.app _) b9 cv _ (H.gt 0)) ?_
 rintro vq eq ⟨aV, aM, aq, am, bt, q1, q2, ah, aY, aZ, ai, ae, az, aD, cw, hvq, al, bL⟩
 subst cw
 subst vq
 try dsimp only at hM
 replace H := H.bk al
 clear al
 refine zM (.tuple #[.agg #[ah, ai, ae], .agg #[az, aD]]) rfl ?_
 refine zX [.agg #[ah, ai, ae], .agg #[az, aD]] (.agg #[ah, ai, ae]) rfl rfl ?_
 refine zX [.agg #[ah, ai, ae], .agg #[az, aD]] (.agg #[az, aD]) rfl rfl ?_
 refine t_alloc (cs := [.slice none 0 0, .slice none 0 0, .slice none 0 0]) H Al27 rfl ?_
 intro aA eu H
 refine t_alloc (cs := [.slice none 0 0, .slice none 0 0]) H Al30 rfl ?_
 intro bc ew H
 refine t_sw 1 0 [ah, ai, ae] (.agg #[ah, ai, ae]) H rfl rfl Sz27 rfl rfl rfl (by simp only [List.all_cons, List.all_nil, Bool.true_and, Bool.and_true, Sl.oc (rowSl rfl (H.get (k := 2) rfl) (roLe _ (H.get (k := 3) rfl)) bL), Sl.oc (H.os 4), Sl.oc (H.os 5)]; try rfl) ?_
 intro ey H
 refine t_sw 0 0 [az, aD] (.agg #[az, aD]) H rfl rfl Sz30 rfl rfl rfl (by simp only [List.all_cons, List.all_nil, Bool.true_and, Bool.and_true, Sl.oc (H.os 6), Sl.oc (H.os 7)]; try rfl) ?_
 intro ez H
 refine s_nil ?_
 refine W.seq ?_
 refine W.region rfl ?_
 refine zM aX rfl ?_
 obtain ⟨eA, cx, hM⟩ := M.e_bind hM
 refine s_call cf9 [aX] rfl (zcy more (bO.app _) bP cx _ (H.gt 9)) ?_
 rintro vq eB ⟨bv, bw, aH, cy, hvq, al⟩
 subst cy
 subst vq
 try dsimp only at hM
 replace H := H.bk al
 clear al
 refine zA (Pq aH) rfl ?_
 refine s_nil ?_
 refine W.seq ?_
 refine W.region rfl ?_
 refine s_val (x_ld (p := Pq aA) (v := .agg #[ah, ai, ae]) rfl (ldb_ag (ds := [ah, ai, ae]) Ag27 Sz27 (H.bl 2) rfl rfl)) ?_
 obtain ⟨eC, cz, hM⟩ := M.e_bind hM
 refine s_call cf18 [.agg #[ah, ai, ae]] rfl (zbS aV aM aq (Reads.sup (rdo 3) (Reads.of (k := 4) rfl roLe)) (rowSl rfl (H.get (k := 3) rfl) (roLe _ (H.get (k := 4) rfl)) bL) (rdo 5) (H.os 5) (rdo 6) (H.os 6) cz _ (H.gt 10)) ?_
 rintro vq eD ⟨r3, aI, cA, hvq, al⟩
 subst cA
 subst vq
 try dsimp only at hM
 replace H := H.bk al
 clear al
 refine zA aI rfl ?_
 refine s_nil ?_
 refine W.seq ?_
 refine W.region rfl ?_
 refine zM (I reach) rfl ?_
 refine s_val (x_fa (a := Pq aA) (v := Oq aA 2) rfl (fa_blk (o := 0) Fd27_2 Sz25)) ?_
 refine s_val (x_ld (p := Oq aA 2) (v := ae) rfl (ldb_sc Sc25 (H.bl 3) rfl)) ?_
 have eE := ((H.os 7)).len_le
 refine s_val (x_lenS T25.und rfl (H.os 7)) ?_
 obtain ⟨eF, cB, hM⟩ := M.e_bind hM
 refine s_call cf19 [I reach, I (aq.length : Int)] rfl (zdc reach (aq.length : Int) cB _ (H.gt 11)) ?_
 rintro vq eG ⟨r4, cC, hvq, al⟩
 subst cC
 subst vq
 try dsimp only at hM
 replace H := H.bk al
 clear al
 refine zA (I r4) rfl ?_
 refine s_nil ?_
 refine W.seq ?_
 refine W.drawB (fun W => St w W [cOwn (α := Int) 3 aI r3, cBlk aH [aX, I bv, I bw] 111, cBlk bc [az, aD] 30, cBlk aA [ah, ai, ae] 27, cOwn (α := Raw 1) 68 ah aY, cRo aZ, cOwn (α := Mrk) 70 ai aM, cOwn (α := Rch) 58 ae aq, cOwn (α := Int) 3 az am, cOwn (α := Int) 3 aD bt, cBlk bp [bg, I q1, I q2] 111] R) [(0, true), (2, true), (4, true), (6, true), (1, false), (3, false), (5, false), (7, false)] [(8, 12, 27, [.slice none 0 0, .slice none 0 0, .slice none 0 0]), (9, 13, 27, [.slice none 0 0, .slice none 0 0, .slice none 0 0]), (10, 14, 27, [.slice none 0 0, .slice none 0 0, .slice none 0 0]), (11, 15, 27, [.slice none 0 0, .slice none 0 0, .slice none 0 0])] (.l 12 (.l 13 (.l 14 (.l 15 .nil)))) 4 mixed (by decide +kernel) rfl (by intro x hx; simp only [List.mem_cons, List.not_mem_nil, or_false] at hx; rcases hx with rfl | rfl | rfl | rfl <;> first | exact ⟨_, _, _, rfl, _, Al27, rfl⟩) (by decide) (by decide) H ?_
 refine sa_q (fun bn w_ H => (St.pick H [0, 1, 2, 3, 4, 5, 6, 7, 8, 9, 10] (by decide) rfl)) rfl rfl (fun g_ w' H => x_ld (p := Pq aA) (v := .agg #[ah, ai, ae]) rfl (ldb_ag (ds := [ah, ai, ae]) Ag27 Sz27 (H.bl 3) rfl rfl)) ?_
 refine sa_q (fun bn w_ H => (St.pick H [0, 1, 2, 3, 4, 5, 6, 7, 8, 9, 10] (by decide) rfl)) rfl rfl (fun g_ w' H => x_ld (p := Pq aA) (v := .agg #[ah, ai, ae]) rfl (ldb_ag (ds := [ah, ai, ae]) Ag27 Sz27 (H.bl 3) rfl rfl)) ?_
 refine sa_q (fun bn w_ H => (St.pick H [0, 1, 2, 3, 4, 5, 6, 7, 8, 9, 10] (by decide) rfl)) rfl rfl (fun g_ w' H => x_ld (p := Pq aA) (v := .agg #[ah, ai, ae]) rfl (ldb_ag (ds := [ah, ai, ae]) Ag27 Sz27 (H.bl 3) rfl rfl)) ?_
 refine sa_q (fun bn w_ H => (St.pick H [0, 1, 2, 3, 4, 5, 6, 7, 8, 9, 10] (by decide) rfl)) rfl rfl (fun g_ w' H => x_ld (p := Pq aA) (v := .agg #[ah, ai, ae]) rfl (ldb_ag (ds := [ah, ai, ae]) Ag27 Sz27 (H.bl 3) rfl rfl)) ?_
 refine sa_l (fun bn w_ H => (St.pick H [0, 1, 2, 3, 4, 5, 6, 7, 8, 9, 10] (by decide) rfl)) rfl ?_
 intro g_ bn cD H
 replace H : St w cD (cOwn (α := Int) 3 aI r3 :: cBlk aH [aX, I bv, I bw] 111 :: cBlk bc [az, aD] 30 :: cBlk aA [ah, ai, ae] 27 :: cOwn (α := Raw 1) 68 ah aY :: cRo aZ :: cOwn (α := Mrk) 70 ai aM :: cOwn (α := Rch) 58 ae aq :: cOwn (α := Int) 3 az am :: cOwn (α := Int) 3 aD bt :: cBlk bp [bg, I q1, I q2] 111 :: bn) R := H
 obtain ⟨eH, cE, hM⟩ := M.e_bind hM
 refine s_call cf17 [.agg #[ah, ai, ae]] rfl (zbu aV aM aq (Reads.sup (rdo 4) (Reads.of (k := 5) rfl roLe)) (rowSl rfl (H.get (k := 4) rfl) (roLe _ (H.get (k := 5) rfl)) bL) (rdo 6) (H.os 6) (rdo 7) (H.os 7) cE _ (St.give (T := (cOwn (α := Int) 3 aI r3 :: cBlk aH [aX, I bv, I bw] 111 :: cBlk bc [az, aD] 30 :: cBlk aA [ah, ai, ae] 27 :: cOwn (α := Raw 1) 68 ah aY :: cRo aZ :: cOwn (α := Mrk) 70 ai aM :: cOwn (α := Rch) 58 ae aq :: cOwn (α := Int) 3 az am :: cOwn (α := Int) 3 aD bt :: cBlk bp [bg, I q1, I q2] 111 :: bn)) H rfl)) ?_
 rintro vq cF ⟨r0, aT, aW, aB, ba, bb, bh, aC, cG, hvq, al, bW⟩
 subst cG
 subst vq
 try dsimp only at hM
 replace H : St w cF (cOwn (α := Raw 1) 68 aB ba :: cRo bb :: cOwn (α := Mrk) 70 bh aT :: cOwn (α := Rch) 58 aC aW :: cOwn (α := Int) 3 aI r3 :: cBlk aH [aX, I bv, I bw] 111 :: cBlk bc [az, aD] 30 :: cBlk aA [ah, ai, ae] 27 :: cOwn (α := Raw 1) 68 ah aY :: cRo aZ :: cOwn (α := Mrk) 70 ai aM :: cOwn (α := Rch) 58 ae aq :: cOwn (α := Int) 3 az am :: cOwn (α := Int) 3 aD bt :: cBlk bp [bg, I q1, I q2] 111 :: bn) R := H.back al rfl
 clear al
 have eI := Sl.cells (H.os 0)
 have eJ := Sl.oc (H.os 0)
 have eK := Sl.cells (H.os 2)
 have eL := Sl.oc (H.os 2)
 have eM := Sl.cells (H.os 3)
 have eN := Sl.oc (H.os 3)
 refine s_nil ⟨(St.pick H [4, 5, 6, 7, 8, 9, 10, 11, 12, 13, 14] (by decide) rfl), _, [cOwn (α := Raw 1) 68 aB ba, cRo bb, cOwn (α := Mrk) 70 bh aT, cOwn (α := Rch) 58 aC aW, cOwn (α := Int) 3 aI r3, cBlk aH [aX, I bv, I bw] 111, cBlk bc [az, aD] 30, cBlk aA [ah, ai, ae] 27, cOwn (α := Raw 1) 68 ah aY, cRo aZ, cOwn (α := Mrk) 70 ai aM, cOwn (α := Rch) 58 ae aq, cOwn (α := Int) 3 az am, cOwn (α := Int) 3 aD bt, cBlk bp [bg, I q1, I q2] 111], mix_upd rfl, H, ?_⟩
 refine sa_l (fun bn w_ H => (St.pick H [4, 5, 6, 7, 8, 9, 10, 11, 12, 13, 14] (by decide) rfl)) rfl ?_
 intro g_ bn cH H
 replace H : St w cH (cOwn (α := Raw 1) 68 aB ba :: cRo bb :: cOwn (α := Mrk) 70 bh aT :: cOwn (α := Rch) 58 aC aW :: cOwn (α := Int) 3 aI r3 :: cBlk aH [aX, I bv, I bw] 111 :: cBlk bc [az, aD] 30 :: cBlk aA [ah, ai, ae] 27 :: cOwn (α := Raw 1) 68 ah aY :: cRo aZ :: cOwn (α := Mrk) 70 ai aM :: cOwn (α := Rch) 58 ae aq :: cOwn (α := Int) 3 az am :: cOwn (α := Int) 3 aD bt :: cBlk bp [bg, I q1, I q2] 111 :: bn) R := H
 obtain ⟨eO, cI, hM⟩ := M.e_bind hM
 refine s_call cf17 [.agg #[ah, ai, ae]] rfl (zbu aV aM aq (Reads.sup (rdo 8) (Reads.of (k := 9) rfl roLe)) (rowSl rfl (H.get (k := 8) rfl) (roLe _ (H.get (k := 9) rfl)) bL) (rdo 10) (H.os 10) (rdo 11) (H.os 11) cI _ (St.give (T := (cOwn (α := Raw 1) 68 aB ba :: cRo bb :: cOwn (α := Mrk) 70 bh aT :: cOwn (α := Rch) 58 aC aW :: cOwn (α := Int) 3 aI r3 :: cBlk aH [aX, I bv, I bw] 111 :: cBlk bc [az, aD] 30 :: cBlk aA [ah, ai, ae] 27 :: cOwn (α := Raw 1) 68 ah aY :: cRo aZ :: cOwn (α := Mrk) 70 ai aM :: cOwn (α := Rch) 58 ae aq :: cOwn (α := Int) 3 az am :: cOwn (α := Int) 3 aD bt :: cBlk bp [bg, I q1, I q2] 111 :: bn)) H rfl)) ?_
 rintro vq cJ ⟨cc, bf, ak, aJ, bi, bj, aK, av, cK, hvq, al, cd⟩
 subst cK
 subst vq
 try dsimp only at hM
 replace H : St w cJ (cOwn (α := Raw 1) 68 aJ bi :: cRo bj :: cOwn (α := Mrk) 70 aK bf :: cOwn (α := Rch) 58 av ak :: cOwn (α := Raw 1) 68 aB ba :: cRo bb :: cOwn (α := Mrk) 70 bh aT :: cOwn (α := Rch) 58 aC aW :: cOwn (α := Int) 3 aI r3 :: cBlk aH [aX, I bv, I bw] 111 :: cBlk bc [az, aD] 30 :: cBlk aA [ah, ai, ae] 27 :: cOwn (α := Raw 1) 68 ah aY :: cRo aZ :: cOwn (α := Mrk) 70 ai aM :: cOwn (α := Rch) 58 ae aq :: cOwn (α := Int) 3 az am :: cOwn (α := Int) 3 aD bt :: cBlk bp [bg, I q1, I q2] 111 :: bn) R := H.back al rfl
 clear al
 have eP := Sl.cells (H.os 0)
 have eQ := Sl.oc (H.os 0)
 have eR := Sl.cells (H.os 2)
 have eS := Sl.oc (H.os 2)
 have eT := Sl.cells (H.os 3)
 have eU := Sl.oc (H.os 3)
 refine s_nil ⟨(St.pick H [8, 9, 10, 11, 12, 13, 14, 15, 16, 17, 18] (by decide) rfl), _, [cOwn (α := Raw 1) 68 aJ bi, cRo bj, cOwn (α := Mrk) 70 aK bf, cOwn (α := Rch) 58 av ak, cOwn (α := Raw 1) 68 aB ba, cRo bb, cOwn (α := Mrk) 70 bh aT, cOwn (α := Rch) 58 aC aW, cOwn (α := Int) 3 aI r3, cBlk aH [aX, I bv, I bw] 111, cBlk bc [az, aD] 30, cBlk aA [ah, ai, ae] 27, cOwn (α := Raw 1) 68 ah aY, cRo aZ, cOwn (α := Mrk) 70 ai aM, cOwn (α := Rch) 58 ae aq, cOwn (α := Int) 3 az am, cOwn (α := Int) 3 aD bt, cBlk bp [bg, I q1, I q2] 111], mix_upd rfl, H, ?_⟩
 refine sa_l (fun bn w_ H => (St.pick H [8, 9, 10, 11, 12, 13, 14, 15, 16, 17, 18] (by decide) rfl)) rfl ?_
 intro g_ bn cL H
 replace H : St w cL (cOwn (α := Raw 1) 68 aJ bi :: cRo bj :: cOwn (α := Mrk) 70 aK bf :: cOwn (α := Rch) 58 av ak :: cOwn (α := Raw 1) 68 aB ba :: cRo bb :: cOwn (α := Mrk) 70 bh aT :: cOwn (α := Rch) 58 aC aW :: cOwn (α := Int) 3 aI r3 :: cBlk aH [aX, I bv, I bw] 111 :: cBlk bc [az, aD] 30 :: cBlk aA [ah, ai, ae] 27 :: cOwn (α := Raw 1) 68 ah aY :: cRo aZ :: cOwn (α := Mrk) 70 ai aM :: cOwn (α := Rch) 58 ae aq :: cOwn (α := Int) 3 az am :: cOwn (α := Int) 3 aD bt :: cBlk bp [bg, I q1, I q2] 111 :: bn) R := H
 obtain ⟨eV, cM, hM⟩ := M.e_bind hM
 refine s_call cf17 [.agg #[ah, ai, ae]] rfl (zbu aV aM aq (Reads.sup (rdo 12) (Reads.of (k := 13) rfl roLe)) (rowSl rfl (H.get (k := 12) rfl) (roLe _ (H.get (k := 13) rfl)) bL) (rdo 14) (H.os 14) (rdo 15) (H.os 15) cM _ (St.give (T := (cOwn (α := Raw 1) 68 aJ bi :: cRo bj :: cOwn (α := Mrk) 70 aK bf :: cOwn (α := Rch) 58 av ak :: cOwn (α := Raw 1) 68 aB ba :: cRo bb :: cOwn (α := Mrk) 70 bh aT :: cOwn (α := Rch) 58 aC aW :: cOwn (α := Int) 3 aI r3 :: cBlk aH [aX, I bv, I bw] 111 :: cBlk bc [az, aD] 30 :: cBlk aA [ah, ai, ae] 27 :: cOwn (α := Raw 1) 68 ah aY :: cRo aZ :: cOwn (α := Mrk) 70 ai aM :: cOwn (α := Rch) 58 ae aq :: cOwn (α := Int) 3 az am :: cOwn (α := Int) 3 aD bt :: cBlk bp [bg, I q1, I q2] 111 :: bn)) H rfl)) ?_
 rintro vq cN ⟨ce, ao, bq, aN, bx, bz, aw, aO, cO, hvq, al, cf⟩
 subst cO
 subst vq
 try dsimp only at hM
 replace H : St w cN (cOwn (α := Raw 1) 68 aN bx :: cRo bz :: cOwn (α := Mrk) 70 aw ao :: cOwn (α := Rch) 58 aO bq :: cOwn (α := Raw 1) 68 aJ bi :: cRo bj :: cOwn (α := Mrk) 70 aK bf :: cOwn (α := Rch) 58 av ak :: cOwn (α := Raw 1) 68 aB ba :: cRo bb :: cOwn (α := Mrk) 70 bh aT :: cOwn (α := Rch) 58 aC aW :: cOwn (α := Int) 3 aI r3 :: cBlk aH [aX, I bv, I bw] 111 :: cBlk bc [az, aD] 30 :: cBlk aA [ah, ai, ae] 27 :: cOwn (α := Raw 1) 68 ah aY :: cRo aZ :: cOwn (α := Mrk) 70 ai aM :: cOwn (α := Rch) 58 ae aq :: cOwn (α := Int) 3 az am :: cOwn (α := Int) 3 aD bt :: cBlk bp [bg, I q1, I q2] 111 :: bn) R := H.back al rfl
 clear al
 have eW := Sl.cells (H.os 0)
 have eX := Sl.oc (H.os 0)
 have eY := Sl.cells (H.os 2)
 have eZ := Sl.oc (H.os 2)
 have e6 := Sl.cells (H.os 3)
 have e7 := Sl.oc (H.os 3)
 refine s_nil ⟨(St.pick H [12, 13, 14, 15, 16, 17, 18, 19, 20, 21, 22] (by decide) rfl), _, [cOwn (α := Raw 1) 68 aN bx, cRo bz, cOwn (α := Mrk) 70 aw ao, cOwn (α := Rch) 58 aO bq, cOwn (α := Raw 1) 68 aJ bi, cRo bj, cOwn (α := Mrk) 70 aK bf, cOwn (α := Rch) 58 av ak, cOwn (α := Raw 1) 68 aB ba, cRo bb, cOwn (α := Mrk) 70 bh aT, cOwn (α := Rch) 58 aC aW, cOwn (α := Int) 3 aI r3, cBlk aH [aX, I bv, I bw] 111, cBlk bc [az, aD] 30, cBlk aA [ah, ai, ae] 27, cOwn (α := Raw 1) 68 ah aY, cRo aZ, cOwn (α := Mrk) 70 ai aM, cOwn (α := Rch) 58 ae aq, cOwn (α := Int) 3 az am, cOwn (α := Int) 3 aD bt, cBlk bp [bg, I q1, I q2] 111], mix_upd rfl, H, ?_⟩
 refine sa_l (fun bn w_ H => (St.pick H [12, 13, 14, 15, 16, 17, 18, 19, 20, 21, 22] (by decide) rfl)) rfl ?_
 intro g_ bn cP H
 replace H : St w cP (cOwn (α := Raw 1) 68 aN bx :: cRo bz :: cOwn (α := Mrk) 70 aw ao :: cOwn (α := Rch) 58 aO bq :: cOwn (α := Raw 1) 68 aJ bi :: cRo bj :: cOwn (α := Mrk) 70 aK bf :: cOwn (α := Rch) 58 av ak :: cOwn (α := Raw 1) 68 aB ba :: cRo bb :: cOwn (α := Mrk) 70 bh aT :: cOwn (α := Rch) 58 aC aW :: cOwn (α := Int) 3 aI r3 :: cBlk aH [aX, I bv, I bw] 111 :: cBlk bc [az, aD] 30 :: cBlk aA [ah, ai, ae] 27 :: cOwn (α := Raw 1) 68 ah aY :: cRo aZ :: cOwn (α := Mrk) 70 ai aM :: cOwn (α := Rch) 58 ae aq :: cOwn (α := Int) 3 az am :: cOwn (α := Int) 3 aD bt :: cBlk bp [bg, I q1, I q2] 111 :: bn) R := H
 obtain ⟨e8, cQ, hM⟩ := M.e_bind hM
 refine s_call cf17 [.agg #[ah, ai, ae]] rfl (zbu aV aM aq (Reads.sup (rdo 16) (Reads.of (k := 17) rfl roLe)) (rowSl rfl (H.get (k := 16) rfl) (roLe _ (H.get (k := 17) rfl)) bL) (rdo 18) (H.os 18) (rdo 19) (H.os 19) cQ _ (St.give (T := (cOwn (α := Raw 1) 68 aN bx :: cRo bz :: cOwn (α := Mrk) 70 aw ao :: cOwn (α := Rch) 58 aO bq :: cOwn (α := Raw 1) 68 aJ bi :: cRo bj :: cOwn (α := Mrk) 70 aK bf :: cOwn (α := Rch) 58 av ak :: cOwn (α := Raw 1) 68 aB ba :: cRo bb :: cOwn (α := Mrk) 70 bh aT :: cOwn (α := Rch) 58 aC aW :: cOwn (α := Int) 3 aI r3 :: cBlk aH [aX, I bv, I bw] 111 :: cBlk bc [az, aD] 30 :: cBlk aA [ah, ai, ae] 27 :: cOwn (α := Raw 1) 68 ah aY :: cRo aZ :: cOwn (α := Mrk) 70 ai aM :: cOwn (α := Rch) 58 ae aq :: cOwn (α := Int) 3 az am :: cOwn (α := Int) 3 aD bt :: cBlk bp [bg, I q1, I q2] 111 :: bn)) H rfl)) ?_
 rintro vq cR ⟨cg, bC, a8, aR, bG, bH, aS, aP, cS, hvq, al, ch⟩
 subst cS
 subst vq
 try dsimp only at hM
 replace H : St w cR (cOwn (α := Raw 1) 68 aR bG :: cRo bH :: cOwn (α := Mrk) 70 aS bC :: cOwn (α := Rch) 58 aP a8 :: cOwn (α := Raw 1) 68 aN bx :: cRo bz :: cOwn (α := Mrk) 70 aw ao :: cOwn (α := Rch) 58 aO bq :: cOwn (α := Raw 1) 68 aJ bi :: cRo bj :: cOwn (α := Mrk) 70 aK bf :: cOwn (α := Rch) 58 av ak :: cOwn (α := Raw 1) 68 aB ba :: cRo bb :: cOwn (α := Mrk) 70 bh aT :: cOwn (α := Rch) 58 aC aW :: cOwn (α := Int) 3 aI r3 :: cBlk aH [aX, I bv, I bw] 111 :: cBlk bc [az, aD] 30 :: cBlk aA [ah, ai, ae] 27 :: cOwn (α := Raw 1) 68 ah aY :: cRo aZ :: cOwn (α := Mrk) 70 ai aM :: cOwn (α := Rch) 58 ae aq :: cOwn (α := Int) 3 az am :: cOwn (α := Int) 3 aD bt :: cBlk bp [bg, I q1, I q2] 111 :: bn) R := H.back al rfl
 clear al
 have e9 := Sl.cells (H.os 0)
 have fa := Sl.oc (H.os 0)
 have fb := Sl.cells (H.os 2)
 have fd := Sl.oc (H.os 2)
 have fe := Sl.cells (H.os 3)
 have ff := Sl.oc (H.os 3)
 refine s_nil ⟨(St.pick H [16, 17, 18, 19, 20, 21, 22, 23, 24, 25, 26] (by decide) rfl), _, [cOwn (α := Raw 1) 68 aR bG, cRo bH, cOwn (α := Mrk) 70 aS bC, cOwn (α := Rch) 58 aP a8, cOwn (α := Raw 1) 68 aN bx, cRo bz, cOwn (α := Mrk) 70 aw ao, cOwn (α := Rch) 58 aO bq, cOwn (α := Raw 1) 68 aJ bi, cRo bj, cOwn (α := Mrk) 70 aK bf, cOwn (α := Rch) 58 av ak, cOwn (α := Raw 1) 68 aB ba, cRo bb, cOwn (α := Mrk) 70 bh aT, cOwn (α := Rch) 58 aC aW, cOwn (α := Int) 3 aI r3, cBlk aH [aX, I bv, I bw] 111, cBlk bc [az, aD] 30, cBlk aA [ah, ai, ae] 27, cOwn (α := Raw 1) 68 ah aY, cRo aZ, cOwn (α := Mrk) 70 ai aM, cOwn (α := Rch) 58 ae aq, cOwn (α := Int) 3 az am, cOwn (α := Int) 3 aD bt, cBlk bp [bg, I q1, I q2] 111], mix_upd rfl, H, ?_⟩
 refine sa_nil (fun bn w_ H => (St.pick H [16, 17, 18, 19, 20, 21, 22, 23, 24, 25, 26] (by decide) rfl)) ?_
 intro bu bA br bB cT H
 replace H : St w cT [cOwn (α := Raw 1) 68 aR bG, cRo bH, cOwn (α := Mrk) 70 aS bC, cOwn (α := Rch) 58 aP a8, cOwn (α := Raw 1) 68 aN bx, cRo bz, cOwn (α := Mrk) 70 aw ao, cOwn (α := Rch) 58 aO bq, cOwn (α := Raw 1) 68 aJ bi, cRo bj, cOwn (α := Mrk) 70 aK bf, cOwn (α := Rch) 58 av ak, cOwn (α := Raw 1) 68 aB ba, cRo bb, cOwn (α := Mrk) 70 bh aT, cOwn (α := Rch) 58 aC aW, cOwn (α := Int) 3 aI r3, cBlk aH [aX, I bv, I bw] 111, cBlk bc [az, aD] 30, cBlk aA [ah, ai, ae] 27, cOwn (α := Raw 1) 68 ah aY, cRo aZ, cOwn (α := Mrk) 70 ai aM, cOwn (α := Rch) 58 ae aq, cOwn (α := Int) 3 az am, cOwn (α := Int) 3 aD bt, cBlk bp [bg, I q1, I q2] 111, cBlk bu [.slice none 0 0, .slice none 0 0, .slice none 0 0] 27, cBlk bA [.slice none 0 0, .slice none 0 0, .slice none 0 0] 27, cBlk br [.slice none 0 0, .slice none 0 0, .slice none 0 0] 27, cBlk bB [.slice none 0 0, .slice none 0 0, .slice none 0 0] 27] R := (H)
 refine t_l rfl ?_
 refine t_sw 27 0 [aB, bh, aC] (.agg #[aB, bh, aC]) H rfl rfl Sz27 rfl rfl rfl (by simp only [List.all_cons, List.all_nil, Bool.true_and, Bool.and_true, Sl.oc (rowSl rfl (H.get (k := 12) rfl) (roLe _ (H.get (k := 13) rfl)) bW), Sl.oc (H.os 14), Sl.oc (H.os 15)]; try rfl) ?_
 intro fg H
 refine s_nil ⟨(St.pick H [16, 17, 18, 19, 20, 21, 22, 23, 24, 25, 26] (by decide) rfl), ?_⟩
 refine t_l rfl ?_
 refine t_sw 28 0 [aJ, aK, av] (.agg #[aJ, aK, av]) H rfl rfl Sz27 rfl rfl rfl (by simp only [List.all_cons, List.all_nil, Bool.true_and, Bool.and_true, Sl.oc (rowSl rfl (H.get (k := 8) rfl) (roLe _ (H.get (k := 9) rfl)) cd), Sl.oc (H.os 10), Sl.oc (H.os 11)]; try rfl) ?_
 intro fh H
 refine s_nil ⟨(St.pick H [16, 17, 18, 19, 20, 21, 22, 23, 24, 25, 26] (by decide) rfl), ?_⟩
 refine t_l rfl ?_
 refine t_sw 29 0 [aN, aw, aO] (.agg #[aN, aw, aO]) H rfl rfl Sz27 rfl rfl rfl (by simp only [List.all_cons, List.all_nil, Bool.true_and, Bool.and_true, Sl.oc (rowSl rfl (H.get (k := 4) rfl) (roLe _ (H.get (k := 5) rfl)) cf), Sl.oc (H.os 6), Sl.oc (H.os 7)]; try rfl) ?_
 intro fi H
 refine s_nil ⟨(St.pick H [16, 17, 18, 19, 20, 21, 22, 23, 24, 25, 26] (by decide) rfl), ?_⟩
 refine t_l rfl ?_
 refine t_sw 30 0 [aR, aS, aP] (.agg #[aR, aS, aP]) H rfl rfl Sz27 rfl rfl rfl (by simp only [List.all_cons, List.all_nil, Bool.true_and, Bool.and_true, Sl.oc (rowSl rfl (H.get (k := 0) rfl) (roLe _ (H.get (k := 1) rfl)) ch), Sl.oc (H.os 2), Sl.oc (H.os 3)]; try rfl) ?_
 intro fj H
 refine s_nil ⟨(St.pick H [16, 17, 18, 19, 20, 21, 22, 23, 24, 25, 26] (by decide) rfl), ?_⟩
 refine t_nil ?_
 refine W.seq ?_
 refine W.region rfl ?_
 refine zM (Pq aH) rfl ?_
 refine s_val (x_fa (a := Pq aA) (v := Pq aA) rfl (fa_blk (o := 0) Fd27_0 Sz23)) ?_
 refine s_val (x_ld (p := Pq aA) (v := ah) rfl (ldb_sc Sc23 (H.bl 19) rfl)) ?_
 have fk := ((rowSl rfl (H.get (k := 20) rfl) (roLe _ (H.get (k := 21) rfl)) bL)).len_le
 refine s_val (x_lenS T23.und rfl (rowSl rfl (H.get (k := 20) rfl) (roLe _ (H.get (k := 21) rfl)) bL)) ?_
 obtain ⟨fm, cU, hM⟩ := M.e_bind hM
 refine s_call cf14 [Pq aH, I (aV.length : Int)] rfl (zad more bv bw (aV.length : Int) (bO.app _) bP cU _ (St.give (L := [cBlk aH [aX, I bv, I bw] 111, cOwn (α := Raw 1) 68 aR bG, cRo bH, cOwn (α := Mrk) 70 aS bC, cOwn (α := Rch) 58 aP a8, cOwn (α := Raw 1) 68 aN bx, cRo bz, cOwn (α := Mrk) 70 aw ao, cOwn (α := Rch) 58 aO bq, cOwn (α := Raw 1) 68 aJ bi, cRo bj, cOwn (α := Mrk) 70 aK bf, cOwn (α := Rch) 58 av ak, cOwn (α := Raw 1) 68 aB ba, cRo bb, cOwn (α := Mrk) 70 bh aT, cOwn (α := Rch) 58 aC aW, cOwn (α := Int) 3 aI r3, cBlk bc [az, aD] 30, cBlk aA [ah, ai, ae] 27, cOwn (α := Raw 1) 68 ah aY, cRo aZ, cOwn (α := Mrk) 70 ai aM, cOwn (α := Rch) 58 ae aq, cOwn (α := Int) 3 az am, cOwn (α := Int) 3 aD bt, cBlk bp [bg, I q1, I q2] 111, cBlk bu [aB, bh, aC] 27, cBlk bA [aJ, aK, av] 27, cBlk br [aN, aw, aO] 27, cBlk bB [aR, aS, aP] 27]) (A := [cBlk aH [aX, I bv, I bw] 111]) (T := [cOwn (α := Raw 1) 68 aR bG, cRo bH, cOwn (α := Mrk) 70 aS bC, cOwn (α := Rch) 58 aP a8, cOwn (α := Raw 1) 68 aN bx, cRo bz, cOwn (α := Mrk) 70 aw ao, cOwn (α := Rch) 58 aO bq, cOwn (α := Raw 1) 68 aJ bi, cRo bj, cOwn (α := Mrk) 70 aK bf, cOwn (α := Rch) 58 av ak, cOwn (α := Raw 1) 68 aB ba, cRo bb, cOwn (α := Mrk) 70 bh aT, cOwn (α := Rch) 58 aC aW, cOwn (α := Int) 3 aI r3, cBlk bc [az, aD] 30, cBlk aA [ah, ai, ae] 27, cOwn (α := Raw 1) 68 ah aY, cRo aZ, cOwn (α := Mrk) 70 ai aM, cOwn (α := Rch) 58 ae aq, cOwn (α := Int) 3 az am, cOwn (α := Int) 3 aD bt, cBlk bp [bg, I q1, I q2] 111, cBlk bu [aB, bh, aC] 27, cBlk bA [aJ, aK, av] 27, cBlk br [aN, aw, aO] 27, cBlk bB [aR, aS, aP] 27]) (H.pick [17, 0, 1, 2, 3, 4, 5, 6, 7, 8, 9, 10, 11, 12, 13, 14, 15, 16, 18, 19, 20, 21, 22, 23, 24, 25, 26, 27, 28, 29, 30] (by decide) rfl) rfl)) ?_
 rintro vq cV ⟨r5, ci, cj, cW, hvq, al⟩
 subst cW
 subst vq
 try dsimp only at hM
 replace H : St w cV [cBlk aH [aX, I ci, I cj] 111, cOwn (α := Raw 1) 68 aR bG, cRo bH, cOwn (α := Mrk) 70 aS bC, cOwn (α := Rch) 58 aP a8, cOwn (α := Raw 1) 68 aN bx, cRo bz, cOwn (α := Mrk) 70 aw ao, cOwn (α := Rch) 58 aO bq, cOwn (α := Raw 1) 68 aJ bi, cRo bj, cOwn (α := Mrk) 70 aK bf, cOwn (α := Rch) 58 av ak, cOwn (α := Raw 1) 68 aB ba, cRo bb, cOwn (α := Mrk) 70 bh aT, cOwn (α := Rch) 58 aC aW, cOwn (α := Int) 3 aI r3, cBlk bc [az, aD] 30, cBlk aA [ah, ai, ae] 27, cOwn (α := Raw 1) 68 ah aY, cRo aZ, cOwn (α := Mrk) 70 ai aM, cOwn (α := Rch) 58 ae aq, cOwn (α := Int) 3 az am, cOwn (α := Int) 3 aD bt, cBlk bp [bg, I q1, I q2] 111, cBlk bu [aB, bh, aC] 27, cBlk bA [aJ, aK, av] 27, cBlk br [aN, aw, aO] 27, cBlk bB [aR, aS, aP] 27] R := H.pick [17, 0, 1, 2, 3, 4, 5, 6, 7, 8, 9, 10, 11, 12, 13, 14, 15, 16, 18, 19, 20, 21, 22, 23, 24, 25, 26, 27, 28, 29, 30] (by decide) rfl |>.back al rfl
 clear al
 refine zA (I r5) rfl ?_
 refine s_nil ?_
 refine W.seq ?_
 refine W.drawTS (fun W => St w W [cOwn (α := Raw 1) 68 aR bG, cRo bH, cOwn (α := Mrk) 70 aS bC, cOwn (α := Rch) 58 aP a8, cOwn (α := Raw 1) 68 aN bx, cRo bz, cOwn (α := Mrk) 70 aw ao, cOwn (α := Rch) 58 aO bq, cOwn (α := Raw 1) 68 aJ bi, cRo bj, cOwn (α := Mrk) 70 aK bf, cOwn (α := Rch) 58 av ak, cOwn (α := Raw 1) 68 aB ba, cRo bb, cOwn (α := Rch) 58 aC aW, cOwn (α := Int) 3 aI r3, cBlk bc [az, aD] 30, cBlk aA [ah, ai, ae] 27, cOwn (α := Raw 1) 68 ah aY, cRo aZ, cOwn (α := Mrk) 70 ai aM, cOwn (α := Rch) 58 ae aq, cOwn (α := Int) 3 az am, cOwn (α := Int) 3 aD bt, cBlk bp [bg, I q1, I q2] 111, cBlk bu [aB, bh, aC] 27, cBlk bA [aJ, aK, av] 27, cBlk br [aN, aw, aO] 27, cBlk bB [aR, aS, aP] 27] R) (.q 0 (.q 1 (.q 2 (.q 3 (.q 4 (.q 5 (.q 6 (.q 7 (.q 8 (.q 9 (.q 10 (.q 11 (.q 12 (.q 13 (.q 17 (.q 18 (.q 19 (.q 20 (.q 21 (.q 22 (.l 14 (.q 15 (.q 16 (.l 23 (.q 24 (.q 25 (.q 26 (.l 27 (.l 28 (.q 29 .nil)))))))))))))))))))))))))))))) 30 [30] mixed (by decide +kernel) rfl ?_
 intro fo bI
 replace H := H.ext bI
 clear bI
 refine ⟨(H.pick [1, 2, 3, 4, 5, 6, 7, 8, 9, 10, 11, 12, 13, 14, 16, 17, 18, 19, 20, 21, 22, 23, 24, 25, 26, 27, 28, 29, 30] (by decide) rfl), ?_⟩
 refine ts_q rfl (fun w' H => x_fa (a := Pq bu) (v := Oq bu 1) rfl (fa_blk (o := 0) Fd27_1 Sz24)) ?_
 refine ts_q rfl (fun w' H => x_ld (p := Oq bu 1) (v := bh) rfl (ldb_sc Sc24 (H.bl 25) rfl)) ?_
 refine ts_q rfl (fun w' H => x_fa (a := Pq aA) (v := Pq aA) rfl (fa_blk (o := 0) Fd27_0 Sz23)) ?_
 refine ts_q rfl (fun w' H => x_ld (p := Pq aA) (v := ah) rfl (ldb_sc Sc23 (H.bl 17) rfl)) ?_
 refine ts_q rfl (fun w' H => x_mv (v := I r5) rfl) ?_
 obtain ⟨cX, hM⟩ := M.e_grd hM
 simp only [Bool.and_eq_true, decide_eq_true_eq] at cX
 refine ts_q rfl (fun w' H => x_ix (a := ah) (b := I r5) (v := vat ah 2 (Int.toNat r5)) rfl rfl (Sl.ix (α := Sect) T23.und T23.size (rowSl rfl (H.get (k := 18) rfl) (roLe _ (H.get (k := 19) rfl)) bL) (by omega) (by omega))) ?_
 refine ts_q rfl (fun w' H => x_fa (a := vat ah 2 (Int.toNat r5)) (v := fat (vat ah 2 (Int.toNat r5)) 0) rfl (fa_pl Fd68_0 Sz3 (Sl.pl (i := r5) (rowSl rfl (H.get (k := 18) rfl) (roLe _ (H.get (k := 19) rfl)) bL) (by omega) (by omega)))) ?_
 refine ts_q rfl (fun w' H => x_ld (p := fat (vat ah 2 (Int.toNat r5)) 0) (v := I ((aV.getD (Int.toNat r5) default).place)) rfl (ld_sc Sc3 (At.mono (Sect_at0 (rowSl rfl (H.get (k := 18) rfl) (roLe _ (H.get (k := 19) rfl)) bL) (i := r5) (by omega) (by omega)) (Cells.sup_le (H.ol 18) (roLe _ (H.get (k := 19) rfl)))))) ?_
 refine ts_q rfl (fun w' H => x_fa (a := Pq bc) (v := Pq bc) rfl (fa_blk (o := 0) Fd30_0 Sz28)) ?_
 refine ts_q rfl (fun w' H => x_ld (p := Pq bc) (v := az) rfl (ldb_sc Sc28 (H.bl 16) rfl)) ?_
 refine ts_q rfl (fun w' H => x_mv (v := I r5) rfl) ?_
 obtain ⟨cY, hM⟩ := M.e_grd hM
 simp only [Bool.and_eq_true, decide_eq_true_eq] at cY
 refine ts_q rfl (fun w' H => x_ix (a := az) (b := I r5) (v := vat az 1 (Int.toNat r5)) rfl rfl (Sl.ix (α := Int) T28.und T28.size (H.os 22) (by omega) (by omega))) ?_
 refine ts_q rfl (fun w' H => x_ld (p := vat az 1 (Int.toNat r5)) (v := I (am.getD (Int.toNat r5) 0)) rfl (ld_sc Sc3 (At.mono (Int_at (H.os 22) (i := r5) (by omega) (by omega)) (H.ol 22)))) ?_
 refine ts_q rfl (fun w' H => x_mv (v := Pq aH) rfl) ?_
 refine ts_q rfl (fun w' H => x_fa (a := Pq bc) (v := Pq bc) rfl (fa_blk (o := 0) Fd30_0 Sz28)) ?_
 refine ts_q rfl (fun w' H => x_ld (p := Pq bc) (v := az) rfl (ldb_sc Sc28 (H.bl 16) rfl)) ?_
 refine ts_q rfl (fun w' H => x_mv (v := I r5) rfl) ?_
 refine ts_q rfl (fun w' H => x_ix (a := az) (b := I r5) (v := vat az 1 (Int.toNat r5)) rfl rfl (Sl.ix (α := Int) T28.und T28.size (H.os 22) (by omega) (by omega))) ?_
 refine ts_q rfl (fun w' H => x_ld (p := vat az 1 (Int.toNat r5)) (v := I (am.getD (Int.toNat r5) 0)) rfl (ld_sc Sc3 (At.mono (Int_at (H.os 22) (i := r5) (by omega) (by omega)) (H.ol 22)))) ?_
 refine ts_q rfl (fun w' H => x_mv (v := Pq aH) rfl) ?_
 refine ts_l rfl ?_
 obtain ⟨fp, cZ, hM⟩ := M.e_bind hM
 refine s_call cf14 [Pq aH, I 5] rfl (zad more ci cj 5 (bO.app _) bP cZ _ (H.gt 30)) ?_
 rintro vq fq ⟨r6, c9, da, db, hvq, al⟩
 subst db
 subst vq
 try dsimp only at hM
 replace H := H.bk al
 clear al
 refine s_nil ⟨(H.pick [1, 2, 3, 4, 5, 6, 7, 8, 9, 10, 11, 12, 13, 14, 16, 17, 18, 19, 20, 21, 22, 23, 24, 25, 26, 27, 28, 29, 30] (by decide) rfl), ?_⟩
 obtain ⟨dc, hM⟩ := M.e_grd hM
 simp only [Bool.and_eq_true, decide_eq_true_eq] at dc
 refine ts_q rfl (fun w' H => x_ari (a := am.getD (Int.toNat r5) 0) (b := r6) (r := (am.getD (Int.toNat r5) 0) - r6) rfl rfl rfl (by omega)) ?_
 refine ts_q rfl (fun w' H => x_max (kd := .i64) (a := 0) (b := (am.getD (Int.toNat r5) 0) - r6) rfl rfl) ?_
 refine ts_l rfl ?_
 obtain ⟨fu, dd, hM⟩ := M.e_bind hM
 refine s_call cf14 [Pq aH, I 5] rfl (zad more c9 da 5 (bO.app _) bP dd _ (H.gt 30)) ?_
 rintro vq fw ⟨r7, ck, cn, de, hvq, al⟩
 subst de
 subst vq
 try dsimp only at hM
 replace H := H.bk al
 clear al
 refine s_nil ⟨(H.pick [1, 2, 3, 4, 5, 6, 7, 8, 9, 10, 11, 12, 13, 14, 16, 17, 18, 19, 20, 21, 22, 23, 24, 25, 26, 27, 28, 29, 30] (by decide) rfl), ?_⟩
 obtain ⟨dg, hM⟩ := M.e_grd hM
 simp only [Bool.and_eq_true, decide_eq_true_eq] at dg
 refine ts_q rfl (fun w' H => x_ari (a := am.getD (Int.toNat r5) 0) (b := r7) (r := (am.getD (Int.toNat r5) 0) + r7) rfl rfl rfl (by omega)) ?_
 refine ts_q rfl (fun w' H => x_bld (ps := [(0, I (max 0 ((am.getD (Int.toNat r5) 0) - r6))), (1, I ((am.getD (Int.toNat r5) 0) + r7))]) (zs := [I 0, I 0]) (L' := [I (max 0 ((am.getD (Int.toNat r5) 0) - r6)), I ((am.getD (Int.toNat r5) 0) + r7)]) rfl Tryz.underlying54 Al54 rfl (Bd54 Tryz.underlying54) (.cons (cs := [I (max 0 ((am.getD (Int.toNat r5) 0) - r6))]) rfl rfl rfl rfl rfl <| .cons (cs := [I ((am.getD (Int.toNat r5) 0) + r7)]) rfl rfl rfl rfl rfl <| .nil)) ?_
 refine ts_q rfl (fun w' H => x_bld (ps := [(0, I ((aV.getD (Int.toNat r5) default).place)), (1, .agg #[I (max 0 ((am.getD (Int.toNat r5) 0) - r6)), I ((am.getD (Int.toNat r5) 0) + r7)])]) (zs := [I 0, I 0, I 0]) (L' := [I ((aV.getD (Int.toNat r5) default).place), I (max 0 ((am.getD (Int.toNat r5) 0) - r6)), I ((am.getD (Int.toNat r5) 0) + r7)]) rfl Tryz.underlying70 Al70 rfl (Bd70 Tryz.underlying70) (.cons (cs := [I ((aV.getD (Int.toNat r5) default).place)]) rfl rfl rfl rfl rfl <| .cons (cs := [I (max 0 ((am.getD (Int.toNat r5) 0) - r6)), I ((am.getD (Int.toNat r5) 0) + r7)]) rfl rfl rfl rfl rfl <| .nil)) ?_
 refine ts_l rfl ?_
 refine t_bs (α := Mrk) T24 [.agg #[I ((aV.getD (Int.toNat r5) default).place), I (max 0 ((am.getD (Int.toNat r5) 0) - r6)), I ((am.getD (Int.toNat r5) 0) + r7)]] [(⟨((aV.getD (Int.toNat r5) default).place : Int), (max 0 ((am.getD (Int.toNat r5) 0) - r6) : Int), ((am.getD (Int.toNat r5) 0) + r7 : Int)⟩ : Mrk)] H rfl (.cons rfl (Flat.rep_enc _ (⟨((aV.getD (Int.toNat r5) default).place : Int), (max 0 ((am.getD (Int.toNat r5) 0) - r6) : Int), ((am.getD (Int.toNat r5) 0) + r7 : Int)⟩ : Mrk)) <| .nil) rfl rfl rfl ?_
 intro dh fx H
 have fy := Sl.cells (H.os 0)
 have fA := Sl.oc (H.os 0)
 refine s_nil ⟨(H.pick [2, 3, 4, 5, 6, 7, 8, 9, 10, 11, 12, 13, 14, 15, 17, 18, 19, 20, 21, 22, 23, 24, 25, 26, 27, 28, 29, 30, 31] (by decide) rfl), ?_⟩
 refine ts_l rfl ?_
 obtain ⟨di, hM⟩ := M.e_grd hM
 simp only [Bool.and_eq_true, decide_eq_true_eq] at di
 refine t_app (α := Mrk) (k := 16) (l := aT) (l2 := [(⟨((aV.getD (Int.toNat r5) default).place : Int), (max 0 ((am.getD (Int.toNat r5) 0) - r6) : Int), ((am.getD (Int.toNat r5) 0) + r7 : Int)⟩ : Mrk)]) (l' := aT ++ ([(⟨((aV.getD (Int.toNat r5) default).place : Int), (max 0 ((am.getD (Int.toNat r5) 0) - r6) : Int), ((am.getD (Int.toNat r5) 0) + r7 : Int)⟩ : Mrk)])) (vy := dh) T24 rfl H rfl rfl rfl (H.os 0) (H.ol 0) (rfl) (by first | omega | (simp only [List.length_nil] at *; omega)) ?_
 intro a7 fB H
 replace H := H.nf
 have fC := Sl.cells (H.os 16)
 have fD := Sl.oc (H.os 16)
 refine s_nil ⟨(H.pick [2, 3, 4, 5, 6, 7, 8, 9, 10, 11, 12, 13, 14, 15, 17, 18, 19, 20, 21, 22, 23, 24, 25, 26, 27, 28, 29, 30, 31] (by decide) rfl), ?_⟩
 refine ts_q rfl (fun w' H => x_fa (a := Pq bu) (v := Oq bu 1) rfl (fa_blk (o := 0) Fd27_1 Sz24)) ?_
 refine ts_nil ?_
 refine sr_l rfl ?_
 refine t_sw 28 1 [a7] a7 H rfl rfl Sz24 (Sl.cells (H.os 16)) rfl rfl (by simp only [List.all_cons, List.all_nil, Bool.true_and, Bool.and_true, Sl.oc (H.os 16)]; try rfl) ?_
 intro dj H
 refine s_nil ⟨trivial, ?_⟩
 refine sr_nil ?_
 replace H : St w dj [cBlk aH [aX, I ck, I cn] 111, cOwn (α := Raw 1) 68 aR bG, cRo bH, cOwn (α := Mrk) 70 aS bC, cOwn (α := Rch) 58 aP a8, cOwn (α := Raw 1) 68 aN bx, cRo bz, cOwn (α := Mrk) 70 aw ao, cOwn (α := Rch) 58 aO bq, cOwn (α := Raw 1) 68 aJ bi, cRo bj, cOwn (α := Mrk) 70 aK bf, cOwn (α := Rch) 58 av ak, cOwn (α := Raw 1) 68 aB ba, cRo bb, cOwn (α := Mrk) 70 a7 (aT ++ ([(⟨((aV.getD (Int.toNat r5) default).place : Int), (max 0 ((am.getD (Int.toNat r5) 0) - r6) : Int), ((am.getD (Int.toNat r5) 0) + r7 : Int)⟩ : Mrk)])), cOwn (α := Rch) 58 aC aW, cOwn (α := Int) 3 aI r3, cBlk aA [ah, ai, ae] 27, cOwn (α := Raw 1) 68 ah aY, cRo aZ, cOwn (α := Mrk) 70 ai aM, cOwn (α := Rch) 58 ae aq, cBlk bu [aB, a7, aC] 27, cBlk bA [aJ, aK, av] 27, cBlk br [aN, aw, aO] 27, cBlk bB [aR, aS, aP] 27] R := H.pick [1, 2, 3, 4, 5, 6, 7, 8, 9, 10, 11, 12, 13, 14, 15, 16, 17, 18, 20, 21, 22, 23, 24, 28, 29, 30, 31] (by decide) rfl
 refine W.seq ?_
 refine W.region rfl ?_
 refine s_val (x_fa (a := Pq bA) (v := Oq bA 2) rfl (fa_blk (o := 0) Fd27_2 Sz25)) ?_
 refine s_val (x_ld (p := Oq bA 2) (v := av) rfl (ldb_sc Sc25 (H.bl 24) rfl)) ?_
 refine zM (I r4) rfl ?_
 obtain ⟨dk, hM⟩ := M.e_grd hM
 simp only [Bool.and_eq_true, decide_eq_true_eq] at dk
 refine s_val (x_ix (a := av) (b := I r4) (v := vat av 5 (Int.toNat r4)) rfl rfl (Sl.ix (α := Rch) T25.und T25.size (H.os 12) (by omega) (by omega))) ?_
 refine zA (vat av 5 (Int.toNat r4)) rfl ?_
 refine s_nil ?_
 refine W.seq ?_
 refine W.drawTS (fun W => St w W [cOwn (α := Raw 1) 68 aR bG, cRo bH, cOwn (α := Mrk) 70 aS bC, cOwn (α := Rch) 58 aP a8, cOwn (α := Raw 1) 68 aN bx, cRo bz, cOwn (α := Mrk) 70 aw ao, cOwn (α := Rch) 58 aO bq, cOwn (α := Raw 1) 68 aJ bi, cRo bj, cOwn (α := Mrk) 70 aK bf, cOwn (α := Rch) 58 av ak, cOwn (α := Raw 1) 68 aB ba, cRo bb, cOwn (α := Mrk) 70 a7 (aT ++ ([(⟨((aV.getD (Int.toNat r5) default).place : Int), (max 0 ((am.getD (Int.toNat r5) 0) - r6) : Int), ((am.getD (Int.toNat r5) 0) + r7 : Int)⟩ : Mrk)])), cOwn (α := Rch) 58 aC aW, cOwn (α := Int) 3 aI r3, cBlk aA [ah, ai, ae] 27, cOwn (α := Raw 1) 68 ah aY, cRo aZ, cOwn (α := Mrk) 70 ai aM, cOwn (α := Rch) 58 ae aq, cBlk bu [aB, a7, aC] 27, cBlk bA [aJ, aK, av] 27, cBlk br [aN, aw, aO] 27, cBlk bB [aR, aS, aP] 27] R) (.q 0 (.q 1 (.q 2 (.q 3 (.q 4 (.q 5 (.q 6 (.q 10 (.q 11 (.q 12 (.q 13 (.q 14 (.q 15 (.l 7 (.q 8 (.q 9 (.l 16 (.q 17 (.q 18 (.q 19 (.q 20 (.q 21 .nil)))))))))))))))))))))) 22 [22] mixed (by decide +kernel) rfl ?_
 intro fE bI
 replace H := H.ext bI
 clear bI
 refine ⟨(H.pick [1, 2, 3, 4, 5, 6, 7, 8, 9, 10, 11, 12, 13, 14, 15, 16, 17, 18, 19, 20, 21, 22, 23, 24, 25, 26] (by decide) rfl), ?_⟩
 refine ts_q rfl (fun w' H => x_mv (v := vat av 5 (Int.toNat r4)) rfl) ?_
 refine ts_q rfl (fun w' H => x_mv (v := vat av 5 (Int.toNat r4)) rfl) ?_
 refine ts_q rfl (fun w' H => x_ncE (p := vat av 5 (Int.toNat r4)) rfl (Sl.pl (i := r4) (H.os 11) (by omega) (by omega))) ?_
 refine ts_q rfl (fun w' H => x_fa (a := vat av 5 (Int.toNat r4)) (v := fat (vat av 5 (Int.toNat r4)) 2) rfl (fa_pl Fd58_2 Sz54 (Sl.pl (i := r4) (H.os 11) (by omega) (by omega)))) ?_
 refine ts_q rfl (fun w' H => x_fa (a := fat (vat av 5 (Int.toNat r4)) 2) (v := fat (vat av 5 (Int.toNat r4)) 2) rfl (fa_pl2 (a := 2) (c := 2) Fd54_0 Sz3 (Sl.pl (i := r4) (H.os 11) (by omega) (by omega)) rfl)) ?_
 refine ts_q rfl (fun w' H => x_ld (p := fat (vat av 5 (Int.toNat r4)) 2) (v := I ((ak.getD (Int.toNat r4) default).lo)) rfl (ld_sc Sc3 (At.mono (Rch_at2 (H.os 11) (i := r4) (by omega) (by omega)) (H.ol 11)))) ?_
 refine ts_q rfl (fun w' H => x_mv (v := Pq aH) rfl) ?_
 refine ts_q rfl (fun w' H => x_mv (v := vat av 5 (Int.toNat r4)) rfl) ?_
 refine ts_q rfl (fun w' H => x_ncE (p := vat av 5 (Int.toNat r4)) rfl (Sl.pl (i := r4) (H.os 11) (by omega) (by omega))) ?_
 refine ts_q rfl (fun w' H => x_fa (a := vat av 5 (Int.toNat r4)) (v := fat (vat av 5 (Int.toNat r4)) 2) rfl (fa_pl Fd58_2 Sz54 (Sl.pl (i := r4) (H.os 11) (by omega) (by omega)))) ?_
 refine ts_q rfl (fun w' H => x_fa (a := fat (vat av 5 (Int.toNat r4)) 2) (v := fat (vat av 5 (Int.toNat r4)) 3) rfl (fa_pl2 (a := 2) (c := 3) Fd54_1 Sz3 (Sl.pl (i := r4) (H.os 11) (by omega) (by omega)) rfl)) ?_
 refine ts_q rfl (fun w' H => x_ld (p := fat (vat av 5 (Int.toNat r4)) 3) (v := I ((ak.getD (Int.toNat r4) default).hi)) rfl (ld_sc Sc3 (At.mono (Rch_at3 (H.os 11) (i := r4) (by omega) (by omega)) (H.ol 11)))) ?_
 refine ts_q rfl (fun w' H => x_mv (v := Pq aH) rfl) ?_
 refine ts_l rfl ?_
 obtain ⟨fF, dm, hM⟩ := M.e_bind hM
 refine s_call cf14 [Pq aH, I 9] rfl (zad more ck cn 9 (bO.app _) bP dm _ (H.gt 26)) ?_
 rintro vq fG ⟨r8, dp, dq, dr, hvq, al⟩
 subst dr
 subst vq
 try dsimp only at hM
 replace H := H.bk al
 clear al
 refine s_nil ⟨(H.pick [1, 2, 3, 4, 5, 6, 7, 8, 9, 10, 11, 12, 13, 14, 15, 16, 17, 18, 19, 20, 21, 22, 23, 24, 25, 26] (by decide) rfl), ?_⟩
 obtain ⟨dt, hM⟩ := M.e_grd hM
 simp only [Bool.and_eq_true, decide_eq_true_eq] at dt
 refine ts_q rfl (fun w' H => x_ari (a := (ak.getD (Int.toNat r4) default).lo) (b := r8) (r := ((ak.getD (Int.toNat r4) default).lo) - r8) rfl rfl rfl (by omega)) ?_
 refine ts_q rfl (fun w' H => x_max (kd := .i64) (a := 1) (b := ((ak.getD (Int.toNat r4) default).lo) - r8) rfl rfl) ?_
 refine ts_l rfl ?_
 obtain ⟨fH, dv, hM⟩ := M.e_bind hM
 refine s_call cf14 [Pq aH, I 9] rfl (zad more dp dq 9 (bO.app _) bP dv _ (H.gt 26)) ?_
 rintro vq fI ⟨r9, co, cp, dw, hvq, al⟩
 subst dw
 subst vq
 try dsimp only at hM
 replace H := H.bk al
 clear al
 refine s_nil ⟨(H.pick [1, 2, 3, 4, 5, 6, 7, 8, 9, 10, 11, 12, 13, 14, 15, 16, 17, 18, 19, 20, 21, 22, 23, 24, 25, 26] (by decide) rfl), ?_⟩
 obtain ⟨dx, hM⟩ := M.e_grd hM
 simp only [Bool.and_eq_true, decide_eq_true_eq] at dx
 refine ts_q rfl (fun w' H => x_ari (a := (ak.getD (Int.toNat r4) default).hi) (b := r9) (r := ((ak.getD (Int.toNat r4) default).hi) + r9) rfl rfl rfl (by omega)) ?_
 refine ts_q rfl (fun w' H => x_min (kd := .i64) (a := 400) (b := ((ak.getD (Int.toNat r4) default).hi) + r9) rfl rfl) ?_
 refine ts_q rfl (fun w' H => x_bld (ps := [(0, I (max 1 (((ak.getD (Int.toNat r4) default).lo) - r8))), (1, I (min 400 (((ak.getD (Int.toNat r4) default).hi) + r9)))]) (zs := [I 0, I 0]) (L' := [I (max 1 (((ak.getD (Int.toNat r4) default).lo) - r8)), I (min 400 (((ak.getD (Int.toNat r4) default).hi) + r9))]) rfl Tryz.underlying54 Al54 rfl (Bd54 Tryz.underlying54) (.cons (cs := [I (max 1 (((ak.getD (Int.toNat r4) default).lo) - r8))]) rfl rfl rfl rfl rfl <| .cons (cs := [I (min 400 (((ak.getD (Int.toNat r4) default).hi) + r9))]) rfl rfl rfl rfl rfl <| .nil)) ?_
 refine ts_q rfl (fun w' H => x_ncE (p := vat av 5 (Int.toNat r4)) rfl (Sl.pl (i := r4) (H.os 11) (by omega) (by omega))) ?_
 refine ts_q rfl (fun w' H => x_fa (a := vat av 5 (Int.toNat r4)) (v := fat (vat av 5 (Int.toNat r4)) 2) rfl (fa_pl Fd58_2 Sz54 (Sl.pl (i := r4) (H.os 11) (by omega) (by omega)))) ?_
 refine ts_nil ?_
 refine sr_l rfl ?_
 refine t_fst (α := Rch) (k := 12) (i := r4) (off := 2) (l := ak) (l' := ak.set (Int.toNat r4) ({ (ak.getD (Int.toNat r4) default) with lo := max 1 (((ak.getD (Int.toNat r4) default).lo) - r8), hi := min 400 (((ak.getD (Int.toNat r4) default).hi) + r9) })) (val := .agg #[I (max 1 (((ak.getD (Int.toNat r4) default).lo) - r8)), I (min 400 (((ak.getD (Int.toNat r4) default).hi) + r9))]) (L' := [cBlk aH [aX, I co, I cp] 111, cOwn (α := Raw 1) 68 aR bG, cRo bH, cOwn (α := Mrk) 70 aS bC, cOwn (α := Rch) 58 aP a8, cOwn (α := Raw 1) 68 aN bx, cRo bz, cOwn (α := Mrk) 70 aw ao, cOwn (α := Rch) 58 aO bq, cOwn (α := Raw 1) 68 aJ bi, cRo bj, cOwn (α := Mrk) 70 aK bf, cOwn (α := Rch) 58 av (ak.set (Int.toNat r4) ({ (ak.getD (Int.toNat r4) default) with lo := max 1 (((ak.getD (Int.toNat r4) default).lo) - r8), hi := min 400 (((ak.getD (Int.toNat r4) default).hi) + r9) })), cOwn (α := Raw 1) 68 aB ba, cRo bb, cOwn (α := Mrk) 70 a7 (aT ++ ([(⟨((aV.getD (Int.toNat r5) default).place : Int), (max 0 ((am.getD (Int.toNat r5) 0) - r6) : Int), ((am.getD (Int.toNat r5) 0) + r7 : Int)⟩ : Mrk)])), cOwn (α := Rch) 58 aC aW, cOwn (α := Int) 3 aI r3, cBlk aA [ah, ai, ae] 27, cOwn (α := Raw 1) 68 ah aY, cRo aZ, cOwn (α := Mrk) 70 ai aM, cOwn (α := Rch) 58 ae aq, cBlk bu [aB, a7, aC] 27, cBlk bA [aJ, aK, av] 27, cBlk br [aN, aw, aO] 27, cBlk bB [aR, aS, aP] 27]) H rfl Sz54 (by omega) (by omega) (ak.getD (Int.toNat r4) default) ({ (ak.getD (Int.toNat r4) default) with lo := max 1 (((ak.getD (Int.toNat r4) default).lo) - r8), hi := min 400 (((ak.getD (Int.toNat r4) default).hi) + r9) }) (getD_some _ (by omega) _) rfl rfl [I (max 1 (((ak.getD (Int.toNat r4) default).lo) - r8)), I (min 400 (((ak.getD (Int.toNat r4) default).hi) + r9))] rfl rfl rfl rfl rfl rfl rfl ?_
 intro fJ H
 have fK : (ak.set (Int.toNat r4) ({ (ak.getD (Int.toNat r4) default) with lo := max 1 (((ak.getD (Int.toNat r4) default).lo) - r8), hi := min 400 (((ak.getD (Int.toNat r4) default).hi) + r9) })).length = (ak).length := List.length_set
 refine s_nil ⟨trivial, ?_⟩
 refine sr_nil ?_
 refine W.seq ?_
 refine W.draw (fun W => St w W [cOwn (α := Raw 1) 68 aR bG, cRo bH, cOwn (α := Mrk) 70 aS bC, cOwn (α := Rch) 58 aP a8, cOwn (α := Raw 1) 68 aN bx, cRo bz, cOwn (α := Mrk) 70 aw ao, cOwn (α := Rch) 58 aO bq, cOwn (α := Raw 1) 68 aJ bi, cRo bj, cOwn (α := Mrk) 70 aK bf, cOwn (α := Rch) 58 av (ak.set (Int.toNat r4) ({ (ak.getD (Int.toNat r4) default) with lo := max 1 (((ak.getD (Int.toNat r4) default).lo) - r8), hi := min 400 (((ak.getD (Int.toNat r4) default).hi) + r9) })), cOwn (α := Raw 1) 68 aB ba, cRo bb, cOwn (α := Mrk) 70 a7 (aT ++ ([(⟨((aV.getD (Int.toNat r5) default).place : Int), (max 0 ((am.getD (Int.toNat r5) 0) - r6) : Int), ((am.getD (Int.toNat r5) 0) + r7 : Int)⟩ : Mrk)])), cOwn (α := Rch) 58 aC aW, cOwn (α := Int) 3 aI r3, cBlk aA [ah, ai, ae] 27, cOwn (α := Raw 1) 68 ah aY, cRo aZ, cOwn (α := Mrk) 70 ai aM, cOwn (α := Rch) 58 ae aq, cBlk bu [aB, a7, aC] 27, cBlk bA [aJ, aK, av] 27, cBlk br [aN, aw, aO] 27, cBlk bB [aR, aS, aP] 27] R) [(0, true), (1, true), (2, true), (3, true), (4, true), (5, true), (6, false), (7, true), (8, true)] mixed (by decide +kernel) rfl ?_
 intro fL bI
 replace H := H.ext bI
 clear bI
 refine ⟨(H.pick [1, 2, 3, 4, 5, 6, 7, 8, 9, 10, 11, 12, 13, 14, 15, 16, 17, 18, 19, 20, 21, 22, 23, 24, 25, 26] (by decide) rfl), ?_⟩
 refine d_q rfl (fun w' H => x_fa (a := Pq br) (v := Oq br 1) rfl (fa_blk (o := 0) Fd27_1 Sz24)) ?_
 refine d_q rfl (fun w' H => x_ld (p := Oq br 1) (v := aw) rfl (ldb_sc Sc24 (H.bl 24) rfl)) ?_
 refine d_q rfl (fun w' H => x_mv (v := Pq aH) rfl) ?_
 refine d_q rfl (fun w' H => x_fa (a := Pq br) (v := Oq br 1) rfl (fa_blk (o := 0) Fd27_1 Sz24)) ?_
 refine d_q rfl (fun w' H => x_ld (p := Oq br 1) (v := aw) rfl (ldb_sc Sc24 (H.bl 24) rfl)) ?_
 have fM := ((H.os 7)).len_le
 refine d_q rfl (fun w' H => x_lenS T24.und rfl (H.os 6)) ?_
 refine d_l rfl ?_
 obtain ⟨fN, dy, hM⟩ := M.e_bind hM
 refine s_call cf14 [Pq aH, I (ao.length : Int)] rfl (zad more co cp (ao.length : Int) (bO.app _) bP dy _ (H.gt 26)) ?_
 rintro vq fO ⟨aj, dz, dA, dB, hvq, al⟩
 subst dB
 subst vq
 try dsimp only at hM
 replace H := H.bk al
 clear al
 refine s_nil ⟨(H.pick [1, 2, 3, 4, 5, 6, 7, 8, 9, 10, 11, 12, 13, 14, 15, 16, 17, 18, 19, 20, 21, 22, 23, 24, 25, 26] (by decide) rfl), ?_⟩
 obtain ⟨dC, hM⟩ := M.e_grd hM
 simp only [Bool.and_eq_true, decide_eq_true_eq] at dC
 refine d_q rfl (fun w' H => x_ix (a := aw) (b := I aj) (v := vat aw 3 (Int.toNat aj)) rfl rfl (Sl.ix (α := Mrk) T24.und T24.size (H.os 6) (by omega) (by omega))) ?_
 refine d_q rfl (fun w' H => x_as (v := vat aw 3 (Int.toNat aj)) rfl) ?_
 refine d_nil ?_
 refine W.seq ?_
 refine W.drawTS (fun W => St w W [cOwn (α := Raw 1) 68 aR bG, cRo bH, cOwn (α := Mrk) 70 aS bC, cOwn (α := Rch) 58 aP a8, cOwn (α := Raw 1) 68 aN bx, cRo bz, cOwn (α := Mrk) 70 aw ao, cOwn (α := Rch) 58 aO bq, cOwn (α := Raw 1) 68 aJ bi, cRo bj, cOwn (α := Mrk) 70 aK bf, cOwn (α := Rch) 58 av (ak.set (Int.toNat r4) ({ (ak.getD (Int.toNat r4) default) with lo := max 1 (((ak.getD (Int.toNat r4) default).lo) - r8), hi := min 400 (((ak.getD (Int.toNat r4) default).hi) + r9) })), cOwn (α := Raw 1) 68 aB ba, cRo bb, cOwn (α := Mrk) 70 a7 (aT ++ ([(⟨((aV.getD (Int.toNat r5) default).place : Int), (max 0 ((am.getD (Int.toNat r5) 0) - r6) : Int), ((am.getD (Int.toNat r5) 0) + r7 : Int)⟩ : Mrk)])), cOwn (α := Rch) 58 aC aW, cOwn (α := Int) 3 aI r3, cBlk aA [ah, ai, ae] 27, cOwn (α := Raw 1) 68 ah aY, cRo aZ, cOwn (α := Mrk) 70 ai aM, cOwn (α := Rch) 58 ae aq, cBlk bu [aB, a7, aC] 27, cBlk bA [aJ, aK, av] 27, cBlk br [aN, aw, aO] 27, cBlk bB [aR, aS, aP] 27] R) (.q 0 (.q 1 (.q 2 (.q 3 (.q 4 (.q 5 (.q 6 (.q 10 (.q 11 (.q 12 (.q 13 (.q 14 (.q 15 (.l 7 (.q 8 (.q 9 (.l 16 (.q 17 (.q 18 (.q 19 (.q 20 (.q 21 .nil)))))))))))))))))))))) 22 [22] mixed (by decide +kernel) rfl ?_
 intro fP bI
 replace H := H.ext bI
 clear bI
 refine ⟨(H.pick [1, 2, 3, 4, 5, 6, 7, 8, 9, 10, 11, 12, 13, 14, 15, 16, 17, 18, 19, 20, 21, 22, 23, 24, 25, 26] (by decide) rfl), ?_⟩
 refine ts_q rfl (fun w' H => x_mv (v := vat aw 3 (Int.toNat aj)) rfl) ?_
 refine ts_q rfl (fun w' H => x_mv (v := vat aw 3 (Int.toNat aj)) rfl) ?_
 refine ts_q rfl (fun w' H => x_ncE (p := vat aw 3 (Int.toNat aj)) rfl (Sl.pl (i := aj) (H.os 6) (by omega) (by omega))) ?_
 refine ts_q rfl (fun w' H => x_fa (a := vat aw 3 (Int.toNat aj)) (v := fat (vat aw 3 (Int.toNat aj)) 1) rfl (fa_pl Fd70_1 Sz54 (Sl.pl (i := aj) (H.os 6) (by omega) (by omega)))) ?_
 refine ts_q rfl (fun w' H => x_fa (a := fat (vat aw 3 (Int.toNat aj)) 1) (v := fat (vat aw 3 (Int.toNat aj)) 1) rfl (fa_pl2 (a := 1) (c := 1) Fd54_0 Sz3 (Sl.pl (i := aj) (H.os 6) (by omega) (by omega)) rfl)) ?_
 refine ts_q rfl (fun w' H => x_ld (p := fat (vat aw 3 (Int.toNat aj)) 1) (v := I ((ao.getD (Int.toNat aj) default).lo)) rfl (ld_sc Sc3 (At.mono (Mrk_at1 (H.os 6) (i := aj) (by omega) (by omega)) (H.ol 6)))) ?_
 refine ts_q rfl (fun w' H => x_mv (v := Pq aH) rfl) ?_
 refine ts_q rfl (fun w' H => x_mv (v := vat aw 3 (Int.toNat aj)) rfl) ?_
 refine ts_q rfl (fun w' H => x_ncE (p := vat aw 3 (Int.toNat aj)) rfl (Sl.pl (i := aj) (H.os 6) (by omega) (by omega))) ?_
 refine ts_q rfl (fun w' H => x_fa (a := vat aw 3 (Int.toNat aj)) (v := fat (vat aw 3 (Int.toNat aj)) 1) rfl (fa_pl Fd70_1 Sz54 (Sl.pl (i := aj) (H.os 6) (by omega) (by omega)))) ?_
 refine ts_q rfl (fun w' H => x_fa (a := fat (vat aw 3 (Int.toNat aj)) 1) (v := fat (vat aw 3 (Int.toNat aj)) 2) rfl (fa_pl2 (a := 1) (c := 2) Fd54_1 Sz3 (Sl.pl (i := aj) (H.os 6) (by omega) (by omega)) rfl)) ?_
 refine ts_q rfl (fun w' H => x_ld (p := fat (vat aw 3 (Int.toNat aj)) 2) (v := I ((ao.getD (Int.toNat aj) default).hi)) rfl (ld_sc Sc3 (At.mono (Mrk_at2 (H.os 6) (i := aj) (by omega) (by omega)) (H.ol 6)))) ?_
 refine ts_q rfl (fun w' H => x_mv (v := Pq aH) rfl) ?_
 refine ts_l rfl ?_
 obtain ⟨fQ, dD, hM⟩ := M.e_bind hM
 refine s_call cf14 [Pq aH, I 9] rfl (zad more dz dA 9 (bO.app _) bP dD _ (H.gt 26)) ?_
 rintro vq fR ⟨bD, dE, dF, dG, hvq, al⟩
 subst dG
 subst vq
 try dsimp only at hM
 replace H := H.bk al
 clear al
 refine s_nil ⟨(H.pick [1, 2, 3, 4, 5, 6, 7, 8, 9, 10, 11, 12, 13, 14, 15, 16, 17, 18, 19, 20, 21, 22, 23, 24, 25, 26] (by decide) rfl), ?_⟩
 obtain ⟨dH, hM⟩ := M.e_grd hM
 simp only [Bool.and_eq_true, decide_eq_true_eq] at dH
 refine ts_q rfl (fun w' H => x_ari (a := (ao.getD (Int.toNat aj) default).lo) (b := bD) (r := ((ao.getD (Int.toNat aj) default).lo) - bD) rfl rfl rfl (by omega)) ?_
 refine ts_q rfl (fun w' H => x_max (kd := .i64) (a := 0) (b := ((ao.getD (Int.toNat aj) default).lo) - bD) rfl rfl) ?_
 refine ts_l rfl ?_
 obtain ⟨fS, dI, hM⟩ := M.e_bind hM
 refine s_call cf14 [Pq aH, I 9] rfl (zad more dE dF 9 (bO.app _) bP dI _ (H.gt 26)) ?_
 rintro vq fT ⟨bE, cq, cr, dJ, hvq, al⟩
 subst dJ
 subst vq
 try dsimp only at hM
 replace H := H.bk al
 clear al
 refine s_nil ⟨(H.pick [1, 2, 3, 4, 5, 6, 7, 8, 9, 10, 11, 12, 13, 14, 15, 16, 17, 18, 19, 20, 21, 22, 23, 24, 25, 26] (by decide) rfl), ?_⟩
 obtain ⟨dK, hM⟩ := M.e_grd hM
 simp only [Bool.and_eq_true, decide_eq_true_eq] at dK
 refine ts_q rfl (fun w' H => x_ari (a := (ao.getD (Int.toNat aj) default).hi) (b := bE) (r := ((ao.getD (Int.toNat aj) default).hi) + bE) rfl rfl rfl (by omega)) ?_
 refine ts_q rfl (fun w' H => x_min (kd := .i64) (a := 2000) (b := ((ao.getD (Int.toNat aj) default).hi) + bE) rfl rfl) ?_
 refine ts_q rfl (fun w' H => x_bld (ps := [(0, I (max 0 (((ao.getD (Int.toNat aj) default).lo) - bD))), (1, I (min 2000 (((ao.getD (Int.toNat aj) default).hi) + bE)))]) (zs := [I 0, I 0]) (L' := [I (max 0 (((ao.getD (Int.toNat aj) default).lo) - bD)), I (min 2000 (((ao.getD (Int.toNat aj) default).hi) + bE))]) rfl Tryz.underlying54 Al54 rfl (Bd54 Tryz.underlying54) (.cons (cs := [I (max 0 (((ao.getD (Int.toNat aj) default).lo) - bD))]) rfl rfl rfl rfl rfl <| .cons (cs := [I (min 2000 (((ao.getD (Int.toNat aj) default).hi) + bE))]) rfl rfl rfl rfl rfl <| .nil)) ?_
 refine ts_q rfl (fun w' H => x_ncE (p := vat aw 3 (Int.toNat aj)) rfl (Sl.pl (i := aj) (H.os 6) (by omega) (by omega))) ?_
 refine ts_q rfl (fun w' H => x_fa (a := vat aw 3 (Int.toNat aj)) (v := fat (vat aw 3 (Int.toNat aj)) 1) rfl (fa_pl Fd70_1 Sz54 (Sl.pl (i := aj) (H.os 6) (by omega) (by omega)))) ?_
 refine ts_nil ?_
 refine sr_l rfl ?_
 refine t_fst (α := Mrk) (k := 7) (i := aj) (off := 1) (l := ao) (l' := ao.set (Int.toNat aj) ({ (ao.getD (Int.toNat aj) default) with lo := max 0 (((ao.getD (Int.toNat aj) default).lo) - bD), hi := min 2000 (((ao.getD (Int.toNat aj) default).hi) + bE) })) (val := .agg #[I (max 0 (((ao.getD (Int.toNat aj) default).lo) - bD)), I (min 2000 (((ao.getD (Int.toNat aj) default).hi) + bE))]) (L' := [cBlk aH [aX, I cq, I cr] 111, cOwn (α := Raw 1) 68 aR bG, cRo bH, cOwn (α := Mrk) 70 aS bC, cOwn (α := Rch) 58 aP a8, cOwn (α := Raw 1) 68 aN bx, cRo bz, cOwn (α := Mrk) 70 aw (ao.set (Int.toNat aj) ({ (ao.getD (Int.toNat aj) default) with lo := max 0 (((ao.getD (Int.toNat aj) default).lo) - bD), hi := min 2000 (((ao.getD (Int.toNat aj) default).hi) + bE) })), cOwn (α := Rch) 58 aO bq, cOwn (α := Raw 1) 68 aJ bi, cRo bj, cOwn (α := Mrk) 70 aK bf, cOwn (α := Rch) 58 av (ak.set (Int.toNat r4) ({ (ak.getD (Int.toNat r4) default) with lo := max 1 (((ak.getD (Int.toNat r4) default).lo) - r8), hi := min 400 (((ak.getD (Int.toNat r4) default).hi) + r9) })), cOwn (α := Raw 1) 68 aB ba, cRo bb, cOwn (α := Mrk) 70 a7 (aT ++ ([(⟨((aV.getD (Int.toNat r5) default).place : Int), (max 0 ((am.getD (Int.toNat r5) 0) - r6) : Int), ((am.getD (Int.toNat r5) 0) + r7 : Int)⟩ : Mrk)])), cOwn (α := Rch) 58 aC aW, cOwn (α := Int) 3 aI r3, cBlk aA [ah, ai, ae] 27, cOwn (α := Raw 1) 68 ah aY, cRo aZ, cOwn (α := Mrk) 70 ai aM, cOwn (α := Rch) 58 ae aq, cBlk bu [aB, a7, aC] 27, cBlk bA [aJ, aK, av] 27, cBlk br [aN, aw, aO] 27, cBlk bB [aR, aS, aP] 27]) H rfl Sz54 (by omega) (by omega) (ao.getD (Int.toNat aj) default) ({ (ao.getD (Int.toNat aj) default) with lo := max 0 (((ao.getD (Int.toNat aj) default).lo) - bD), hi := min 2000 (((ao.getD (Int.toNat aj) default).hi) + bE) }) (getD_some _ (by omega) _) rfl rfl [I (max 0 (((ao.getD (Int.toNat aj) default).lo) - bD)), I (min 2000 (((ao.getD (Int.toNat aj) default).hi) + bE))] rfl rfl rfl rfl rfl rfl rfl ?_
 intro fU H
 have fV : (ao.set (Int.toNat aj) ({ (ao.getD (Int.toNat aj) default) with lo := max 0 (((ao.getD (Int.toNat aj) default).lo) - bD), hi := min 2000 (((ao.getD (Int.toNat aj) default).hi) + bE) })).length = (ao).length := List.length_set
 refine s_nil ⟨trivial, ?_⟩
 refine sr_nil ?_
 refine W.seq ?_
 refine W.region rfl ?_
 refine zM (Pq aH) rfl ?_
 obtain ⟨fW, dL, hM⟩ := M.e_bind hM
 refine s_call cf14 [Pq aH, I 30] rfl (zad more cq cr 30 (bO.app _) bP dL _ (H.gt 26)) ?_
 rintro vq fX ⟨a6, bY, bZ, dM, hvq, al⟩
 subst dM
 subst vq
 try dsimp only at hM
 replace H := H.bk al
 clear al
 refine zA (I a6) rfl ?_
 refine s_nil ?_
 refine W.seq ?_
 refine W.draw (fun W => St w W [cBlk aH [aX, I bY, I bZ] 111, cOwn (α := Raw 1) 68 aR bG, cRo bH, cOwn (α := Mrk) 70 aS bC, cOwn (α := Raw 1) 68 aN bx, cRo bz, cOwn (α := Mrk) 70 aw (ao.set (Int.toNat aj) ({ (ao.getD (Int.toNat aj) default) with lo := max 0 (((ao.getD (Int.toNat aj) default).lo) - bD), hi := min 2000 (((ao.getD (Int.toNat aj) default).hi) + bE) })), cOwn (α := Rch) 58 aO bq, cOwn (α := Raw 1) 68 aJ bi, cRo bj, cOwn (α := Mrk) 70 aK bf, cOwn (α := Rch) 58 av (ak.set (Int.toNat r4) ({ (ak.getD (Int.toNat r4) default) with lo := max 1 (((ak.getD (Int.toNat r4) default).lo) - r8), hi := min 400 (((ak.getD (Int.toNat r4) default).hi) + r9) })), cOwn (α := Raw 1) 68 aB ba, cRo bb, cOwn (α := Mrk) 70 a7 (aT ++ ([(⟨((aV.getD (Int.toNat r5) default).place : Int), (max 0 ((am.getD (Int.toNat r5) 0) - r6) : Int), ((am.getD (Int.toNat r5) 0) + r7 : Int)⟩ : Mrk)])), cOwn (α := Rch) 58 aC aW, cOwn (α := Int) 3 aI r3, cBlk aA [ah, ai, ae] 27, cOwn (α := Raw 1) 68 ah aY, cRo aZ, cOwn (α := Mrk) 70 ai aM, cOwn (α := Rch) 58 ae aq, cBlk bu [aB, a7, aC] 27, cBlk bA [aJ, aK, av] 27, cBlk br [aN, aw, aO] 27, cBlk bB [aR, aS, aP] 27] R) [(0, true), (1, true), (2, true), (3, true), (4, true), (5, true), (6, true), (7, true), (8, true), (9, true), (10, true), (11, true), (12, true), (13, true), (14, true), (15, true), (16, true), (17, true), (18, true), (19, true), (20, true), (21, true), (22, false), (23, false), (24, false)] mixed (by decide +kernel) rfl ?_
 intro fY bI
 replace H := H.ext bI
 clear bI
 refine ⟨(H.pick [0, 1, 2, 3, 5, 6, 7, 8, 9, 10, 11, 12, 13, 14, 15, 16, 17, 18, 19, 20, 21, 22, 23, 24, 25, 26] (by decide) rfl), ?_⟩
 refine d_q rfl (fun w' H => x_fa (a := Pq bB) (v := Oq bB 2) rfl (fa_blk (o := 0) Fd27_2 Sz25)) ?_
 refine d_q rfl (fun w' H => x_ld (p := Oq bB 2) (v := aP) rfl (ldb_sc Sc25 (H.bl 25) rfl)) ?_
 refine d_q rfl (fun w' H => x_mv (v := I r4) rfl) ?_
 refine d_q rfl (fun w' H => x_fa (a := Pq aA) (v := Oq aA 2) rfl (fa_blk (o := 0) Fd27_2 Sz25)) ?_
 refine d_q rfl (fun w' H => x_ld (p := Oq aA 2) (v := ae) rfl (ldb_sc Sc25 (H.bl 17) rfl)) ?_
 refine d_q rfl (fun w' H => x_mv (v := I r4) rfl) ?_
 obtain ⟨dN, hM⟩ := M.e_grd hM
 simp only [Bool.and_eq_true, decide_eq_true_eq] at dN
 refine d_q rfl (fun w' H => x_ix (a := ae) (b := I r4) (v := vat ae 5 (Int.toNat r4)) rfl rfl (Sl.ix (α := Rch) T25.und T25.size (H.os 21) (by omega) (by omega))) ?_
 refine d_q rfl (fun w' H => x_fa (a := vat ae 5 (Int.toNat r4)) (v := fat (vat ae 5 (Int.toNat r4)) 2) rfl (fa_pl Fd58_2 Sz54 (Sl.pl (i := r4) (H.os 21) (by omega) (by omega)))) ?_
 refine d_q rfl (fun w' H => x_fa (a := fat (vat ae 5 (Int.toNat r4)) 2) (v := fat (vat ae 5 (Int.toNat r4)) 2) rfl (fa_pl2 (a := 2) (c := 2) Fd54_0 Sz3 (Sl.pl (i := r4) (H.os 21) (by omega) (by omega)) rfl)) ?_
 refine d_q rfl (fun w' H => x_ld (p := fat (vat ae 5 (Int.toNat r4)) 2) (v := I ((aq.getD (Int.toNat r4) default).lo)) rfl (ld_sc Sc3 (At.mono (Rch_at2 (H.os 21) (i := r4) (by omega) (by omega)) (H.ol 21)))) ?_
 refine d_q rfl (fun w' H => x_mv (v := I a6) rfl) ?_
 obtain ⟨dO, hM⟩ := M.e_grd hM
 simp only [Bool.and_eq_true, decide_eq_true_eq] at dO
 refine d_q rfl (fun w' H => x_ari (a := (aq.getD (Int.toNat r4) default).lo) (b := a6) (r := ((aq.getD (Int.toNat r4) default).lo) + a6) rfl rfl rfl (by omega)) ?_
 refine d_q rfl (fun w' H => x_fa (a := Pq aA) (v := Oq aA 2) rfl (fa_blk (o := 0) Fd27_2 Sz25)) ?_
 refine d_q rfl (fun w' H => x_ld (p := Oq aA 2) (v := ae) rfl (ldb_sc Sc25 (H.bl 17) rfl)) ?_
 refine d_q rfl (fun w' H => x_mv (v := I r4) rfl) ?_
 refine d_q rfl (fun w' H => x_ix (a := ae) (b := I r4) (v := vat ae 5 (Int.toNat r4)) rfl rfl (Sl.ix (α := Rch) T25.und T25.size (H.os 21) (by omega) (by omega))) ?_
 refine d_q rfl (fun w' H => x_fa (a := vat ae 5 (Int.toNat r4)) (v := fat (vat ae 5 (Int.toNat r4)) 2) rfl (fa_pl Fd58_2 Sz54 (Sl.pl (i := r4) (H.os 21) (by omega) (by omega)))) ?_
 refine d_q rfl (fun w' H => x_fa (a := fat (vat ae 5 (Int.toNat r4)) 2) (v := fat (vat ae 5 (Int.toNat r4)) 3) rfl (fa_pl2 (a := 2) (c := 3) Fd54_1 Sz3 (Sl.pl (i := r4) (H.os 21) (by omega) (by omega)) rfl)) ?_
 refine d_q rfl (fun w' H => x_ld (p := fat (vat ae 5 (Int.toNat r4)) 3) (v := I ((aq.getD (Int.toNat r4) default).hi)) rfl (ld_sc Sc3 (At.mono (Rch_at3 (H.os 21) (i := r4) (by omega) (by omega)) (H.ol 21)))) ?_
 refine d_q rfl (fun w' H => x_mv (v := I a6) rfl) ?_
 obtain ⟨dP, hM⟩ := M.e_grd hM
 simp only [Bool.and_eq_true, decide_eq_true_eq] at dP
 refine d_q rfl (fun w' H => x_ari (a := (aq.getD (Int.toNat r4) default).hi) (b := a6) (r := ((aq.getD (Int.toNat r4) default).hi) + a6) rfl rfl rfl (by omega)) ?_
 refine d_q rfl (fun w' H => x_bld (ps := [(0, I (((aq.getD (Int.toNat r4) default).lo) + a6)), (1, I (((aq.getD (Int.toNat r4) default).hi) + a6))]) (zs := [I 0, I 0]) (L' := [I (((aq.getD (Int.toNat r4) default).lo) + a6), I (((aq.getD (Int.toNat r4) default).hi) + a6)]) rfl Tryz.underlying54 Al54 rfl (Bd54 Tryz.underlying54) (.cons (cs := [I (((aq.getD (Int.toNat r4) default).lo) + a6)]) rfl rfl rfl rfl rfl <| .cons (cs := [I (((aq.getD (Int.toNat r4) default).hi) + a6)]) rfl rfl rfl rfl rfl <| .nil)) ?_
 refine d_l rfl ?_
 obtain ⟨dQ, hM⟩ := M.e_grd hM
 simp only [Bool.and_eq_true, decide_eq_true_eq] at dQ
 refine s_val (x_ix (a := aP) (b := I r4) (v := vat aP 5 (Int.toNat r4)) rfl rfl (Sl.ix (α := Rch) T25.und T25.size (H.os 4) (by omega) (by omega))) ?_
 refine s_nil ⟨(H.pick [0, 1, 2, 3, 5, 6, 7, 8, 9, 10, 11, 12, 13, 14, 15, 16, 17, 18, 19, 20, 21, 22, 23, 24, 25, 26] (by decide) rfl), ?_⟩
 refine d_l rfl ?_
 refine s_val (x_fa (a := vat aP 5 (Int.toNat r4)) (v := fat (vat aP 5 (Int.toNat r4)) 2) rfl (fa_pl Fd58_2 Sz54 (Sl.pl (i := r4) (H.os 4) (by omega) (by omega)))) ?_
 refine s_nil ⟨(H.pick [0, 1, 2, 3, 5, 6, 7, 8, 9, 10, 11, 12, 13, 14, 15, 16, 17, 18, 19, 20, 21, 22, 23, 24, 25, 26] (by decide) rfl), ?_⟩
 refine d_l rfl ?_
 refine t_fst (α := Rch) (k := 4) (i := r4) (off := 2) (l := a8) (l' := a8.set (Int.toNat r4) ({ (a8.getD (Int.toNat r4) default) with lo := ((aq.getD (Int.toNat r4) default).lo) + a6, hi := ((aq.getD (Int.toNat r4) default).hi) + a6 })) (val := .agg #[I (((aq.getD (Int.toNat r4) default).lo) + a6), I (((aq.getD (Int.toNat r4) default).hi) + a6)]) (L' := [cBlk aH [aX, I bY, I bZ] 111, cOwn (α := Raw 1) 68 aR bG, cRo bH, cOwn (α := Mrk) 70 aS bC, cOwn (α := Rch) 58 aP (a8.set (Int.toNat r4) ({ (a8.getD (Int.toNat r4) default) with lo := ((aq.getD (Int.toNat r4) default).lo) + a6, hi := ((aq.getD (Int.toNat r4) default).hi) + a6 })), cOwn (α := Raw 1) 68 aN bx, cRo bz, cOwn (α := Mrk) 70 aw (ao.set (Int.toNat aj) ({ (ao.getD (Int.toNat aj) default) with lo := max 0 (((ao.getD (Int.toNat aj) default).lo) - bD), hi := min 2000 (((ao.getD (Int.toNat aj) default).hi) + bE) })), cOwn (α := Rch) 58 aO bq, cOwn (α := Raw 1) 68 aJ bi, cRo bj, cOwn (α := Mrk) 70 aK bf, cOwn (α := Rch) 58 av (ak.set (Int.toNat r4) ({ (ak.getD (Int.toNat r4) default) with lo := max 1 (((ak.getD (Int.toNat r4) default).lo) - r8), hi := min 400 (((ak.getD (Int.toNat r4) default).hi) + r9) })), cOwn (α := Raw 1) 68 aB ba, cRo bb, cOwn (α := Mrk) 70 a7 (aT ++ ([(⟨((aV.getD (Int.toNat r5) default).place : Int), (max 0 ((am.getD (Int.toNat r5) 0) - r6) : Int), ((am.getD (Int.toNat r5) 0) + r7 : Int)⟩ : Mrk)])), cOwn (α := Rch) 58 aC aW, cOwn (α := Int) 3 aI r3, cBlk aA [ah, ai, ae] 27, cOwn (α := Raw 1) 68 ah aY, cRo aZ, cOwn (α := Mrk) 70 ai aM, cOwn (α := Rch) 58 ae aq, cBlk bu [aB, a7, aC] 27, cBlk bA [aJ, aK, av] 27, cBlk br [aN, aw, aO] 27, cBlk bB [aR, aS, aP] 27]) H rfl Sz54 (by omega) (by omega) (a8.getD (Int.toNat r4) default) ({ (a8.getD (Int.toNat r4) default) with lo := ((aq.getD (Int.toNat r4) default).lo) + a6, hi := ((aq.getD (Int.toNat r4) default).hi) + a6 }) (getD_some _ (by omega) _) rfl rfl [I (((aq.getD (Int.toNat r4) default).lo) + a6), I (((aq.getD (Int.toNat r4) default).hi) + a6)] rfl rfl rfl rfl rfl rfl rfl ?_
 intro fZ H
 have f2 : (a8.set (Int.toNat r4) ({ (a8.getD (Int.toNat r4) default) with lo := ((aq.getD (Int.toNat r4) default).lo) + a6, hi := ((aq.getD (Int.toNat r4) default).hi) + a6 })).length = (a8).length := List.length_set
 refine s_nil ⟨(H.pick [0, 1, 2, 3, 5, 6, 7, 8, 9, 10, 11, 12, 13, 14, 15, 16, 17, 18, 19, 20, 21, 22, 23, 24, 25, 26] (by decide) rfl), ?_⟩
 refine d_nil ?_
 refine W.seq ?_
 refine W.region rfl ?_
 refine s_val (x_ld (p := Pq aA) (v := .agg #[ah, ai, ae]) rfl (ldb_ag (ds := [ah, ai, ae]) Ag27 Sz27 (H.bl 18) rfl rfl)) ?_
 refine zM aI rfl ?_
 refine zM (I r4) rfl ?_
 obtain ⟨f3, dR, hM⟩ := M.e_bind hM
 refine s_call cf20 [.agg #[ah, ai, ae], aI, I r4] rfl (zal aV aM aq r3 r4 (Reads.sup (rdo 19) (Reads.of (k := 20) rfl roLe)) (rowSl rfl (H.get (k := 19) rfl) (roLe _ (H.get (k := 20) rfl)) bL) (rdo 21) (H.os 21) (rdo 22) (H.os 22) (rdo 17) (H.os 17) dR _ (H.gt 27)) ?_
 rintro vq f4 ⟨aa, ab, aU, dS, hvq, al⟩
 subst dS
 subst vq
 try dsimp only at hM
 replace H := H.bk al
 clear al
 refine zM (.tuple #[.agg #[I aa, I ab], I aU]) rfl ?_
 refine zX [.agg #[I aa, I ab], I aU] (.agg #[I aa, I ab]) rfl rfl ?_
 refine zX [.agg #[I aa, I ab], I aU] (I aU) rfl rfl ?_
 refine t_alloc (cs := [I 0, I 0]) H Al54 rfl ?_
 intro aL f6 H
 refine t_sw 0 0 [I aa, I ab] (.agg #[I aa, I ab]) H rfl rfl Sz54 rfl rfl rfl rfl ?_
 intro f9 H
 refine zA (I aU) rfl ?_
 refine s_nil ?_
 refine W.seqJ (fun σ W => ∃ (bJ : Nat) (aE : Int) (ac : Int) (ag : Int) (bQ : Value) (bR : List Int) (ρ : Env), σ = upds ρ [(7, Pq aA), (10, aI), (11, I r4), (13, Pq bA), (14, Pq br), (15, Pq bB), (20, Pq aL), (21, I aU), (22, Pq bJ), (23, I aE)] /\ (zbg aV aM aq r3 r4 cc bf ak ce ao bq cg bC a8 r8 r9 aj bD bE a6 aa ab aU ac ag aE).Ends r /\ St w W [cBlk bJ [I ac, I ag] 54, cOwn (α := Int) 3 bQ bR, cBlk aL [I aa, I ab] 54, cBlk aH [aX, I bY, I bZ] 111, cOwn (α := Raw 1) 68 aR bG, cRo bH, cOwn (α := Mrk) 70 aS bC, cOwn (α := Rch) 58 aP (a8.set (Int.toNat r4) ({ (a8.getD (Int.toNat r4) default) with lo := ((aq.getD (Int.toNat r4) default).lo) + a6, hi := ((aq.getD (Int.toNat r4) default).hi) + a6 })), cOwn (α := Raw 1) 68 aN bx, cRo bz, cOwn (α := Mrk) 70 aw (ao.set (Int.toNat aj) ({ (ao.getD (Int.toNat aj) default) with lo := max 0 (((ao.getD (Int.toNat aj) default).lo) - bD), hi := min 2000 (((ao.getD (Int.toNat aj) default).hi) + bE) })), cOwn (α := Rch) 58 aO bq, cOwn (α := Raw 1) 68 aJ bi, cRo bj, cOwn (α := Mrk) 70 aK bf, cOwn (α := Rch) 58 av (ak.set (Int.toNat r4) ({ (ak.getD (Int.toNat r4) default) with lo := max 1 (((ak.getD (Int.toNat r4) default).lo) - r8), hi := min 400 (((ak.getD (Int.toNat r4) default).hi) + r9) })), cOwn (α := Raw 1) 68 aB ba, cRo bb, cOwn (α := Mrk) 70 a7 (aT ++ ([(⟨((aV.getD (Int.toNat r5) default).place : Int), (max 0 ((am.getD (Int.toNat r5) 0) - r6) : Int), ((am.getD (Int.toNat r5) 0) + r7 : Int)⟩ : Mrk)])), cOwn (α := Rch) 58 aC aW, cOwn (α := Int) 3 aI r3, cBlk aA [ah, ai, ae] 27, cOwn (α := Raw 1) 68 ah aY, cRo aZ, cOwn (α := Mrk) 70 ai aM, cOwn (α := Rch) 58 ae aq, cBlk bu [aB, a7, aC] 27, cBlk bA [aJ, aK, av] 27, cBlk br [aN, aw, aO] 27, cBlk bB [aR, aS, aP] 27] R) ?_ ?_
 ·skip
  refine W.drawT (fun W => St w W [cBlk aL [I aa, I ab] 54, cBlk aH [aX, I bY, I bZ] 111, cOwn (α := Raw 1) 68 aR bG, cRo bH, cOwn (α := Mrk) 70 aS bC, cOwn (α := Rch) 58 aP (a8.set (Int.toNat r4) ({ (a8.getD (Int.toNat r4) default) with lo := ((aq.getD (Int.toNat r4) default).lo) + a6, hi := ((aq.getD (Int.toNat r4) default).hi) + a6 })), cOwn (α := Raw 1) 68 aN bx, cRo bz, cOwn (α := Mrk) 70 aw (ao.set (Int.toNat aj) ({ (ao.getD (Int.toNat aj) default) with lo := max 0 (((ao.getD (Int.toNat aj) default).lo) - bD), hi := min 2000 (((ao.getD (Int.toNat aj) default).hi) + bE) })), cOwn (α := Rch) 58 aO bq, cOwn (α := Raw 1) 68 aJ bi, cRo bj, cOwn (α := Mrk) 70 aK bf, cOwn (α := Rch) 58 av (ak.set (Int.toNat r4) ({ (ak.getD (Int.toNat r4) default) with lo := max 1 (((ak.getD (Int.toNat r4) default).lo) - r8), hi := min 400 (((ak.getD (Int.toNat r4) default).hi) + r9) })), cOwn (α := Raw 1) 68 aB ba, cRo bb, cOwn (α := Mrk) 70 a7 (aT ++ ([(⟨((aV.getD (Int.toNat r5) default).place : Int), (max 0 ((am.getD (Int.toNat r5) 0) - r6) : Int), ((am.getD (Int.toNat r5) 0) + r7 : Int)⟩ : Mrk)])), cOwn (α := Rch) 58 aC aW, cOwn (α := Int) 3 aI r3, cBlk aA [ah, ai, ae] 27, cOwn (α := Raw 1) 68 ah aY, cRo aZ, cOwn (α := Mrk) 70 ai aM, cOwn (α := Rch) 58 ae aq, cBlk bu [aB, a7, aC] 27, cBlk bA [aJ, aK, av] 27, cBlk br [aN, aw, aO] 27, cBlk bB [aR, aS, aP] 27] R) (.q 0 (.q 1 (.q 3 (.l2 2 (.l2 4 (.q 5 (.q 6 (.q 7 (.l 8 (.l 9 (.q 10 .nil)))))) 8 (.l 4 (.q 5 (.q 6 (.q 7 (.l 9 (.q 10 .nil))))))) 8 (.l 2 (.l 4 (.q 5 (.q 6 (.q 7 (.l 9 (.q 10 .nil))))))))))) mixed (by decide +kernel) rfl ?_
  intro ga bI
  replace H := H.ext bI
  clear bI
  refine ⟨(H.pick [0, 1, 2, 3, 4, 5, 6, 7, 8, 9, 10, 11, 12, 13, 14, 15, 16, 17, 18, 19, 20, 21, 22, 23, 24, 25, 26, 27] (by decide) rfl), ?_⟩
  refine t_q rfl (fun w' H => x_ld (p := Pq bu) (v := .agg #[aB, a7, aC]) rfl (ldb_ag (ds := [aB, a7, aC]) Ag27 Sz27 (H.bl 24) rfl rfl)) ?_
  refine t_q rfl (fun w' H => x_ld (p := Pq bu) (v := .agg #[aB, a7, aC]) rfl (ldb_ag (ds := [aB, a7, aC]) Ag27 Sz27 (H.bl 24) rfl rfl)) ?_
  refine t_q rfl (fun w' H => x_mv (v := I r4) rfl) ?_
  refine t_l2 rfl rfl ?_ ?_
  ·skip
   obtain ⟨gc, dT, hM⟩ := M.e_bind hM
   refine s_call cf18 [.agg #[aB, a7, aC]] rfl (zbS r0 (aT ++ ([(⟨((aV.getD (Int.toNat r5) default).place : Int), (max 0 ((am.getD (Int.toNat r5) 0) - r6) : Int), ((am.getD (Int.toNat r5) 0) + r7 : Int)⟩ : Mrk)])) aW (Reads.sup (rdo 14) (Reads.of (k := 15) rfl roLe)) (rowSl rfl (H.get (k := 14) rfl) (roLe _ (H.get (k := 15) rfl)) bW) (rdo 16) (H.os 16) (rdo 17) (H.os 17) dT _ (H.gt 28)) ?_
   rintro vq gf ⟨bR, bQ, dU, hvq, al⟩
   subst dU
   subst vq
   try dsimp only at hM
   replace H := H.bk al
   clear al
   have gg := Sl.cells (H.os 0)
   have gh := Sl.oc (H.os 0)
   refine s_nil ⟨(H.pick [1, 2, 3, 4, 5, 6, 7, 8, 9, 10, 11, 12, 13, 14, 15, 16, 17, 18, 19, 20, 21, 22, 23, 24, 25, 26, 27, 28] (by decide) rfl), ?_⟩
   refine t_l2 rfl rfl ?_ ?_
   ·skip
    obtain ⟨gi, dV, hM⟩ := M.e_bind hM
    refine s_call cf20 [.agg #[aB, a7, aC], bQ, I r4] rfl (zal r0 (aT ++ ([(⟨((aV.getD (Int.toNat r5) default).place : Int), (max 0 ((am.getD (Int.toNat r5) 0) - r6) : Int), ((am.getD (Int.toNat r5) 0) + r7 : Int)⟩ : Mrk)])) aW bR r4 (Reads.sup (rdo 15) (Reads.of (k := 16) rfl roLe)) (rowSl rfl (H.get (k := 15) rfl) (roLe _ (H.get (k := 16) rfl)) bW) (rdo 17) (H.os 17) (rdo 18) (H.os 18) (rdo 0) (H.os 0) dV _ (H.gt 29)) ?_
    rintro vq gj ⟨ac, ag, aE, dW, hvq, al⟩
    subst dW
    subst vq
    try dsimp only at hM
    replace H := H.bk al
    clear al
    refine s_nil ⟨(H.pick [1, 2, 3, 4, 5, 6, 7, 8, 9, 10, 11, 12, 13, 14, 15, 16, 17, 18, 19, 20, 21, 22, 23, 24, 25, 26, 27, 28] (by decide) rfl), ?_⟩
    refine t_q rfl (fun w' H => x_mv (v := .tuple #[.agg #[I ac, I ag], I aE]) rfl) ?_
    refine t_q rfl (fun w' H => x_ext (vs := [.agg #[I ac, I ag], I aE]) (v := .agg #[I ac, I ag]) rfl rfl) ?_
    refine t_q rfl (fun w' H => x_ext (vs := [.agg #[I ac, I ag], I aE]) (v := I aE) rfl rfl) ?_
    refine t_l rfl ?_
    refine t_alloc (cs := [I 0, I 0]) H Al54 rfl ?_
    intro bJ gk H
    refine s_nil ⟨(H.pick [2, 3, 4, 5, 6, 7, 8, 9, 10, 11, 12, 13, 14, 15, 16, 17, 18, 19, 20, 21, 22, 23, 24, 25, 26, 27, 28, 29] (by decide) rfl), ?_⟩
    refine t_l rfl ?_
    refine t_sw 0 0 [I ac, I ag] (.agg #[I ac, I ag]) H rfl rfl Sz54 rfl rfl rfl rfl ?_
    intro gl H
    refine s_nil ⟨(H.pick [2, 3, 4, 5, 6, 7, 8, 9, 10, 11, 12, 13, 14, 15, 16, 17, 18, 19, 20, 21, 22, 23, 24, 25, 26, 27, 28, 29] (by decide) rfl), ?_⟩
    refine t_q rfl (fun w' H => x_as (v := I aE) rfl) ?_
    refine t_nil ?_
    exact ⟨bJ, aE, ac, ag, bQ, bR, _, upds_of _ _ ⟨rfl, rfl, rfl, rfl, rfl, rfl, rfl, rfl, rfl, rfl, trivial⟩, hM, H⟩
   skip
   refine t_alloc (cs := [I 0, I 0]) H Al54 rfl ?_
   intro bJ gn H
   refine s_nil ⟨(H.pick [2, 3, 4, 5, 6, 7, 8, 9, 10, 11, 12, 13, 14, 15, 16, 17, 18, 19, 20, 21, 22, 23, 24, 25, 26, 27, 28, 29] (by decide) rfl), ?_⟩
   refine t_l rfl ?_
   obtain ⟨gp, dX, hM⟩ := M.e_bind hM
   refine s_call cf20 [.agg #[aB, a7, aC], bQ, I r4] rfl (zal r0 (aT ++ ([(⟨((aV.getD (Int.toNat r5) default).place : Int), (max 0 ((am.getD (Int.toNat r5) 0) - r6) : Int), ((am.getD (Int.toNat r5) 0) + r7 : Int)⟩ : Mrk)])) aW bR r4 (Reads.sup (rdo 16) (Reads.of (k := 17) rfl roLe)) (rowSl rfl (H.get (k := 16) rfl) (roLe _ (H.get (k := 17) rfl)) bW) (rdo 18) (H.os 18) (rdo 19) (H.os 19) (rdo 1) (H.os 1) dX _ (H.gt 30)) ?_
   rintro vq gq ⟨ac, ag, aE, dY, hvq, al⟩
   subst dY
   subst vq
   try dsimp only at hM
   replace H := H.bk al
   clear al
   refine s_nil ⟨(H.pick [2, 3, 4, 5, 6, 7, 8, 9, 10, 11, 12, 13, 14, 15, 16, 17, 18, 19, 20, 21, 22, 23, 24, 25, 26, 27, 28, 29] (by decide) rfl), ?_⟩
   refine t_q rfl (fun w' H => x_mv (v := .tuple #[.agg #[I ac, I ag], I aE]) rfl) ?_
   refine t_q rfl (fun w' H => x_ext (vs := [.agg #[I ac, I ag], I aE]) (v := .agg #[I ac, I ag]) rfl rfl) ?_
   refine t_q rfl (fun w' H => x_ext (vs := [.agg #[I ac, I ag], I aE]) (v := I aE) rfl rfl) ?_
   refine t_l rfl ?_
   refine t_sw 0 0 [I ac, I ag] (.agg #[I ac, I ag]) H rfl rfl Sz54 rfl rfl rfl rfl ?_
   intro gr H
   refine s_nil ⟨(H.pick [2, 3, 4, 5, 6, 7, 8, 9, 10, 11, 12, 13, 14, 15, 16, 17, 18, 19, 20, 21, 22, 23, 24, 25, 26, 27, 28, 29] (by decide) rfl), ?_⟩
   refine t_q rfl (fun w' H => x_as (v := I aE) rfl) ?_
   refine t_nil ?_
   exact ⟨bJ, aE, ac, ag, bQ, bR, _, upds_of _ _ ⟨rfl, rfl, rfl, rfl, rfl, rfl, rfl, rfl, rfl, rfl, trivial⟩, hM, H⟩
  skip
  refine t_alloc (cs := [I 0, I 0]) H Al54 rfl ?_
  intro bJ gu H
  refine s_nil ⟨(H.pick [1, 2, 3, 4, 5, 6, 7, 8, 9, 10, 11, 12, 13, 14, 15, 16, 17, 18, 19, 20, 21, 22, 23, 24, 25, 26, 27, 28] (by decide) rfl), ?_⟩
  refine t_l rfl ?_
  obtain ⟨gv, dZ, hM⟩ := M.e_bind hM
  refine s_call cf18 [.agg #[aB, a7, aC]] rfl (zbS r0 (aT ++ ([(⟨((aV.getD (Int.toNat r5) default).place : Int), (max 0 ((am.getD (Int.toNat r5) 0) - r6) : Int), ((am.getD (Int.toNat r5) 0) + r7 : Int)⟩ : Mrk)])) aW (Reads.sup (rdo 15) (Reads.of (k := 16) rfl roLe)) (rowSl rfl (H.get (k := 15) rfl) (roLe _ (H.get (k := 16) rfl)) bW) (rdo 17) (H.os 17) (rdo 18) (H.os 18) dZ _ (H.gt 29)) ?_
  rintro vq gw ⟨bR, bQ, d4, hvq, al⟩
  subst d4
  subst vq
  try dsimp only at hM
  replace H := H.bk al
  clear al
  have gx := Sl.cells (H.os 0)
  have gy := Sl.oc (H.os 0)
  refine s_nil ⟨(H.pick [2, 3, 4, 5, 6, 7, 8, 9, 10, 11, 12, 13, 14, 15, 16, 17, 18, 19, 20, 21, 22, 23, 24, 25, 26, 27, 28, 29] (by decide) rfl), ?_⟩
  refine t_l rfl ?_
  obtain ⟨gz, d5, hM⟩ := M.e_bind hM
  refine s_call cf20 [.agg #[aB, a7, aC], bQ, I r4] rfl (zal r0 (aT ++ ([(⟨((aV.getD (Int.toNat r5) default).place : Int), (max 0 ((am.getD (Int.toNat r5) 0) - r6) : Int), ((am.getD (Int.toNat r5) 0) + r7 : Int)⟩ : Mrk)])) aW bR r4 (Reads.sup (rdo 16) (Reads.of (k := 17) rfl roLe)) (rowSl rfl (H.get (k := 16) rfl) (roLe _ (H.get (k := 17) rfl)) bW) (rdo 18) (H.os 18) (rdo 19) (H.os 19) (rdo 0) (H.os 0) d5 _ (H.gt 30)) ?_
  rintro vq gA ⟨ac, ag, aE, d6, hvq, al⟩
  subst d6
  subst vq
  try dsimp only at hM
  replace H := H.bk al
  clear al
  refine s_nil ⟨(H.pick [2, 3, 4, 5, 6, 7, 8, 9, 10, 11, 12, 13, 14, 15, 16, 17, 18, 19, 20, 21, 22, 23, 24, 25, 26, 27, 28, 29] (by decide) rfl), ?_⟩
  refine t_q rfl (fun w' H => x_mv (v := .tuple #[.agg #[I ac, I ag], I aE]) rfl) ?_
  refine t_q rfl (fun w' H => x_ext (vs := [.agg #[I ac, I ag], I aE]) (v := .agg #[I ac, I ag]) rfl rfl) ?_
  refine t_q rfl (fun w' H => x_ext (vs := [.agg #[I ac, I ag], I aE]) (v := I aE) rfl rfl) ?_
  refine t_l rfl ?_
  refine t_sw 1 0 [I ac, I ag] (.agg #[I ac, I ag]) H rfl rfl Sz54 rfl rfl rfl rfl ?_
  intro gB H
  refine s_nil ⟨(H.pick [2, 3, 4, 5, 6, 7, 8, 9, 10, 11, 12, 13, 14, 15, 16, 17, 18, 19, 20, 21, 22, 23, 24, 25, 26, 27, 28, 29] (by decide) rfl), ?_⟩
  refine t_q rfl (fun w' H => x_as (v := I aE) rfl) ?_
  refine t_nil ?_
  exact ⟨bJ, aE, ac, ag, bQ, bR, _, upds_of _ _ ⟨rfl, rfl, rfl, rfl, rfl, rfl, rfl, rfl, rfl, rfl, trivial⟩, hM, (H.pick [1, 0, 2, 3, 4, 5, 6, 7, 8, 9, 10, 11, 12, 13, 14, 15, 16, 17, 18, 19, 20, 21, 22, 23, 24, 25, 26, 27, 28, 29] (by decide) rfl)⟩
 rintro _ gC ⟨bJ, aE, ac, ag, bQ, bR, ρ, rfl, hM, H⟩
 unfold zbg at hM
 refine W.seq ?_
 refine W.region rfl ?_
 refine s_val (x_ld (p := Pq bA) (v := .agg #[aJ, aK, av]) rfl (ldb_ag (ds := [aJ, aK, av]) Ag27 Sz27 (H.bl 27) rfl rfl)) ?_
 refine zM aI rfl ?_
 refine zM (I r4) rfl ?_
 obtain ⟨gD, d7, hM⟩ := M.e_bind hM
 refine s_call cf20 [.agg #[aJ, aK, av], aI, I r4] rfl (zal cc bf (ak.set (Int.toNat r4) ({ (ak.getD (Int.toNat r4) default) with lo := max 1 (((ak.getD (Int.toNat r4) default).lo) - r8), hi := min 400 (((ak.getD (Int.toNat r4) default).hi) + r9) })) r3 r4 (Reads.sup (rdo 12) (Reads.of (k := 13) rfl roLe)) (rowSl rfl (H.get (k := 12) rfl) (roLe _ (H.get (k := 13) rfl)) cd) (rdo 14) (H.os 14) (rdo 15) (H.os 15) (rdo 20) (H.os 20) d7 _ (H.gt 30)) ?_
 rintro vq gE ⟨ap, ax, bo, d8, hvq, al⟩
 subst d8
 subst vq
 try dsimp only at hM
 replace H := H.bk al
 clear al
 refine zM (.tuple #[.agg #[I ap, I ax], I bo]) rfl ?_
 refine zX [.agg #[I ap, I ax], I bo] (.agg #[I ap, I ax]) rfl rfl ?_
 refine zX [.agg #[I ap, I ax], I bo] (I bo) rfl rfl ?_
 refine t_alloc (cs := [I 0, I 0]) H Al54 rfl ?_
 intro bT gF H
 refine t_sw 0 0 [I ap, I ax] (.agg #[I ap, I ax]) H rfl rfl Sz54 rfl rfl rfl rfl ?_
 intro gG H
 refine zA (I bo) rfl ?_
 refine s_nil ?_
 replace H := H.pk [0, 1, 3, 5, 6, 7, 8, 9, 10, 11, 12, 21, 22, 23, 24, 25, 26, 29, 30]
 refine W.seq ?_
 refine W.region rfl ?_
 refine s_val (x_ld (p := Pq br) (v := .agg #[aN, aw, aO]) rfl (ldb_ag (ds := [aN, aw, aO]) Ag27 Sz27 (H.bl 17) rfl rfl)) ?_
 refine zM aI rfl ?_
 refine zM (I r4) rfl ?_
 obtain ⟨gH, d9, hM⟩ := M.e_bind hM
 refine s_call cf20 [.agg #[aN, aw, aO], aI, I r4] rfl (zal ce (ao.set (Int.toNat aj) ({ (ao.getD (Int.toNat aj) default) with lo := max 0 (((ao.getD (Int.toNat aj) default).lo) - bD), hi := min 2000 (((ao.getD (Int.toNat aj) default).hi) + bE) })) bq r3 r4 (Reads.sup (rdo 7) (Reads.of (k := 8) rfl roLe)) (rowSl rfl (H.get (k := 7) rfl) (roLe _ (H.get (k := 8) rfl)) cf) (rdo 9) (H.os 9) (rdo 10) (H.os 10) (rdo 11) (H.os 11) d9 _ (H.gt 19)) ?_
 rintro vq gI ⟨aF, aQ, bF, ed, hvq, al⟩
 subst ed
 subst vq
 try dsimp only at hM
 replace H := H.bk al
 clear al
 refine zM (.tuple #[.agg #[I aF, I aQ], I bF]) rfl ?_
 refine zX [.agg #[I aF, I aQ], I bF] (.agg #[I aF, I aQ]) rfl rfl ?_
 refine zX [.agg #[I aF, I aQ], I bF] (I bF) rfl rfl ?_
 refine t_alloc (cs := [I 0, I 0]) H Al54 rfl ?_
 intro bU gJ H
 refine t_sw 0 0 [I aF, I aQ] (.agg #[I aF, I aQ]) H rfl rfl Sz54 rfl rfl rfl rfl ?_
 intro gK H
 refine zA (I bF) rfl ?_
 refine s_nil ?_
 replace H := H.pk [0, 1, 2, 3, 4, 5, 6, 7, 12, 13, 14, 15, 16, 17, 19]
 refine W.seq ?_
 refine W.region rfl ?_
 refine s_val (x_ld (p := Pq bB) (v := .agg #[aR, aS, aP]) rfl (ldb_ag (ds := [aR, aS, aP]) Ag27 Sz27 (H.bl 14) rfl rfl)) ?_
 refine zM aI rfl ?_
 refine zM (I r4) rfl ?_
 obtain ⟨gL, ee, hM⟩ := M.e_bind hM
 refine s_call cf20 [.agg #[aR, aS, aP], aI, I r4] rfl (zal cg bC (a8.set (Int.toNat r4) ({ (a8.getD (Int.toNat r4) default) with lo := ((aq.getD (Int.toNat r4) default).lo) + a6, hi := ((aq.getD (Int.toNat r4) default).hi) + a6 })) r3 r4 (Reads.sup (rdo 4) (Reads.of (k := 5) rfl roLe)) (rowSl rfl (H.get (k := 4) rfl) (roLe _ (H.get (k := 5) rfl)) ch) (rdo 6) (H.os 6) (rdo 7) (H.os 7) (rdo 8) (H.os 8) ee _ (H.gt 15)) ?_
 rintro vq gM ⟨bm, bM, bN, ef, hvq, al⟩
 subst ef
 subst vq
 try dsimp only at hM
 replace H := H.bk al
 clear al
 refine zM (.tuple #[.agg #[I bm, I bM], I bN]) rfl ?_
 refine zX [.agg #[I bm, I bM], I bN] (.agg #[I bm, I bM]) rfl rfl ?_
 refine zX [.agg #[I bm, I bM], I bN] (I bN) rfl rfl ?_
 refine t_alloc (cs := [I 0, I 0]) H Al54 rfl ?_
 intro bV gN H
 refine t_sw 0 0 [I bm, I bM] (.agg #[I bm, I bM]) H rfl rfl Sz54 rfl rfl rfl rfl ?_
 intro gO H
 refine zA (I bN) rfl ?_
 refine s_nil ?_
 replace H := H.pk [0, 1, 2, 3, 4, 9, 10, 11, 12, 13, 14]
 refine W.seq ?_
 refine W.seq ?_
 refine W.region rfl ?_
 refine zM (I aU) rfl ?_
 refine zC aU 0 (aU != 0) rfl rfl rfl ?_
 refine zM (B (aU != 0)) rfl ?_
 refine g_val (!(aU != 0)) (gy_f rfl) (fun hg => x_mv (v := I aE) rfl) ?_
 refine g_val (!(aU != 0)) (gy_f rfl) (fun hg => x_cmp (kd := .i64) (a := aE) (b := 0) (r := aE != 0) (gd_of (c := !(aU != 0)) hg (I aE)) rfl rfl) ?_
 refine s_val (x_por (b := aU != 0) (r := aE != 0) rfl rfl (fun hb => gd_of (c := !(aU != 0)) (by first | exact hb | (rw [hb]; rfl) | simp_all) (B (aE != 0)))) ?_
 refine zM (B ((aU != 0) || (aE != 0))) rfl ?_
 refine g_val (!((aU != 0) || (aE != 0))) (gy_f rfl) (fun hg => x_mv (v := I bo) rfl) ?_
 refine g_val (!((aU != 0) || (aE != 0))) (gy_f rfl) (fun hg => x_cmp (kd := .i64) (a := bo) (b := 0) (r := bo != 0) (gd_of (c := !((aU != 0) || (aE != 0))) hg (I bo)) rfl rfl) ?_
 refine s_val (x_por (b := ((aU != 0) || (aE != 0))) (r := bo != 0) rfl rfl (fun hb => gd_of (c := !((aU != 0) || (aE != 0))) (by first | exact hb | (rw [hb]; rfl) | simp_all) (B (bo != 0)))) ?_
 refine zM (B (((aU != 0) || (aE != 0)) || (bo != 0))) rfl ?_
 refine g_val (!(((aU != 0) || (aE != 0)) || (bo != 0))) (gy_f rfl) (fun hg => x_mv (v := I bF) rfl) ?_
 refine g_val (!(((aU != 0) || (aE != 0)) || (bo != 0))) (gy_f rfl) (fun hg => x_cmp (kd := .i64) (a := bF) (b := 0) (r := bF != 0) (gd_of (c := !(((aU != 0) || (aE != 0)) || (bo != 0))) hg (I bF)) rfl rfl) ?_
 refine s_val (x_por (b := (((aU != 0) || (aE != 0)) || (bo != 0))) (r := bF != 0) rfl rfl (fun hb => gd_of (c := !(((aU != 0) || (aE != 0)) || (bo != 0))) (by first | exact hb | (rw [hb]; rfl) | simp_all) (B (bF != 0)))) ?_
 refine zM (B ((((aU != 0) || (aE != 0)) || (bo != 0)) || (bF != 0))) rfl ?_
 refine g_val (!((((aU != 0) || (aE != 0)) || (bo != 0)) || (bF != 0))) (gy_f rfl) (fun hg => x_mv (v := I bN) rfl) ?_
 refine g_val (!((((aU != 0) || (aE != 0)) || (bo != 0)) || (bF != 0))) (gy_f rfl) (fun hg => x_cmp (kd := .i64) (a := bN) (b := 0) (r := bN != 0) (gd_of (c := !((((aU != 0) || (aE != 0)) || (bo != 0)) || (bF != 0))) hg (I bN)) rfl rfl) ?_
 refine s_val (x_por (b := ((((aU != 0) || (aE != 0)) || (bo != 0)) || (bF != 0))) (r := bN != 0) rfl rfl (fun hb => gd_of (c := !((((aU != 0) || (aE != 0)) || (bo != 0)) || (bF != 0))) (by first | exact hb | (rw [hb]; rfl) | simp_all) (B (bN != 0)))) ?_
 refine s_nil ?_
 refine W.cond (((((aU != 0) || (aE != 0)) || (bo != 0)) || (bF != 0)) || (bN != 0)) rfl (fun b3 => ?_) (fun b3 => ?_)
 ·replace hM := M.e_t hM b3
  refine W.seq ?_
  refine W.region rfl ?_
  refine zA (B false) rfl ?_
  refine s_nil ?_
  replace H := H.pk []
  refine W.ret ?_
  have bS := M.e_pure hM
  exact ⟨_, resE_tmp rfl, ⟨false, bS, rfl, H⟩⟩
 replace hM := M.e_f hM b3
 refine W.skip ?_
 refine W.seq ?_
 refine W.seq ?_
 refine W.region rfl ?_
 refine s_val (x_fa (a := Pq bJ) (v := Pq bJ) rfl (fa_blk (o := 0) Fd54_0 Sz3)) ?_
 refine s_val (x_ld (p := Pq bJ) (v := I ac) rfl (ldb_sc Sc3 (H.bl 3) rfl)) ?_
 refine s_val (x_fa (a := Pq aL) (v := Pq aL) rfl (fa_blk (o := 0) Fd54_0 Sz3)) ?_
 refine s_val (x_ld (p := Pq aL) (v := I aa) rfl (ldb_sc Sc3 (H.bl 4) rfl)) ?_
 refine zC ac aa (decide (ac < aa)) rfl rfl rfl ?_
 refine zM (B (decide (ac < aa))) rfl ?_
 refine g_val (!(decide (ac < aa))) (gy_f rfl) (fun hg => x_fa (a := Pq bJ) (v := Oq bJ 1) rfl (fa_blk (o := 0) Fd54_1 Sz3)) ?_
 refine g_val (!(decide (ac < aa))) (gy_f rfl) (fun hg => x_ld (p := Oq bJ 1) (v := I ag) (gd_of (c := !(decide (ac < aa))) hg (Oq bJ 1)) (ldb_sc Sc3 (H.bl 3) rfl)) ?_
 refine g_val (!(decide (ac < aa))) (gy_f rfl) (fun hg => x_fa (a := Pq aL) (v := Oq aL 1) rfl (fa_blk (o := 0) Fd54_1 Sz3)) ?_
 refine g_val (!(decide (ac < aa))) (gy_f rfl) (fun hg => x_ld (p := Oq aL 1) (v := I ab) (gd_of (c := !(decide (ac < aa))) hg (Oq aL 1)) (ldb_sc Sc3 (H.bl 4) rfl)) ?_
 refine g_val (!(decide (ac < aa))) (gy_f rfl) (fun hg => x_cmp (kd := .i64) (a := ag) (b := ab) (r := decide (ab < ag)) (gd_of (c := !(decide (ac < aa))) hg (I ag)) (gd_of (c := !(decide (ac < aa))) hg (I ab)) rfl) ?_
 refine s_val (x_por (b := decide (ac < aa)) (r := decide (ab < ag)) rfl rfl (fun hb => gd_of (c := !(decide (ac < aa))) (by first | exact hb | (rw [hb]; rfl) | simp_all) (B (decide (ab < ag))))) ?_
 refine zM (B ((decide (ac < aa)) || (decide (ab < ag)))) rfl ?_
 refine g_val (!((decide (ac < aa)) || (decide (ab < ag)))) (gy_f rfl) (fun hg => x_fa (a := Pq bT) (v := Pq bT) rfl (fa_blk (o := 0) Fd54_0 Sz3)) ?_
 refine g_val (!((decide (ac < aa)) || (decide (ab < ag)))) (gy_f rfl) (fun hg => x_ld (p := Pq bT) (v := I ap) (gd_of (c := !((decide (ac < aa)) || (decide (ab < ag)))) hg (Pq bT)) (ldb_sc Sc3 (H.bl 2) rfl)) ?_
 refine g_val (!((decide (ac < aa)) || (decide (ab < ag)))) (gy_f rfl) (fun hg => x_fa (a := Pq aL) (v := Pq aL) rfl (fa_blk (o := 0) Fd54_0 Sz3)) ?_
 refine g_val (!((decide (ac < aa)) || (decide (ab < ag)))) (gy_f rfl) (fun hg => x_ld (p := Pq aL) (v := I aa) (gd_of (c := !((decide (ac < aa)) || (decide (ab < ag)))) hg (Pq aL)) (ldb_sc Sc3 (H.bl 4) rfl)) ?_
 refine g_val (!((decide (ac < aa)) || (decide (ab < ag)))) (gy_f rfl) (fun hg => x_cmp (kd := .i64) (a := ap) (b := aa) (r := decide (aa < ap)) (gd_of (c := !((decide (ac < aa)) || (decide (ab < ag)))) hg (I ap)) (gd_of (c := !((decide (ac < aa)) || (decide (ab < ag)))) hg (I aa)) rfl) ?_
 refine s_val (x_por (b := ((decide (ac < aa)) || (decide (ab < ag)))) (r := decide (aa < ap)) rfl rfl (fun hb => gd_of (c := !((decide (ac < aa)) || (decide (ab < ag)))) (by first | exact hb | (rw [hb]; rfl) | simp_all) (B (decide (aa < ap))))) ?_
 refine zM (B (((decide (ac < aa)) || (decide (ab < ag))) || (decide (aa < ap)))) rfl ?_
 refine g_val (!(((decide (ac < aa)) || (decide (ab < ag))) || (decide (aa < ap)))) (gy_f rfl) (fun hg => x_fa (a := Pq bT) (v := Oq bT 1) rfl (fa_blk (o := 0) Fd54_1 Sz3)) ?_
 refine g_val (!(((decide (ac < aa)) || (decide (ab < ag))) || (decide (aa < ap)))) (gy_f rfl) (fun hg => x_ld (p := Oq bT 1) (v := I ax) (gd_of (c := !(((decide (ac < aa)) || (decide (ab < ag))) || (decide (aa < ap)))) hg (Oq bT 1)) (ldb_sc Sc3 (H.bl 2) rfl)) ?_
 refine g_val (!(((decide (ac < aa)) || (decide (ab < ag))) || (decide (aa < ap)))) (gy_f rfl) (fun hg => x_fa (a := Pq aL) (v := Oq aL 1) rfl (fa_blk (o := 0) Fd54_1 Sz3)) ?_
 refine g_val (!(((decide (ac < aa)) || (decide (ab < ag))) || (decide (aa < ap)))) (gy_f rfl) (fun hg => x_ld (p := Oq aL 1) (v := I ab) (gd_of (c := !(((decide (ac < aa)) || (decide (ab < ag))) || (decide (aa < ap)))) hg (Oq aL 1)) (ldb_sc Sc3 (H.bl 4) rfl)) ?_
 refine g_val (!(((decide (ac < aa)) || (decide (ab < ag))) || (decide (aa < ap)))) (gy_f rfl) (fun hg => x_cmp (kd := .i64) (a := ax) (b := ab) (r := decide (ax < ab)) (gd_of (c := !(((decide (ac < aa)) || (decide (ab < ag))) || (decide (aa < ap)))) hg (I ax)) (gd_of (c := !(((decide (ac < aa)) || (decide (ab < ag))) || (decide (aa < ap)))) hg (I ab)) rfl) ?_
 refine s_val (x_por (b := (((decide (ac < aa)) || (decide (ab < ag))) || (decide (aa < ap)))) (r := decide (ax < ab)) rfl rfl (fun hb => gd_of (c := !(((decide (ac < aa)) || (decide (ab < ag))) || (decide (aa < ap)))) (by first | exact hb | (rw [hb]; rfl) | simp_all) (B (decide (ax < ab))))) ?_
 refine zM (B ((((decide (ac < aa)) || (decide (ab < ag))) || (decide (aa < ap))) || (decide (ax < ab)))) rfl ?_
 refine g_val (!((((decide (ac < aa)) || (decide (ab < ag))) || (decide (aa < ap))) || (decide (ax < ab)))) (gy_f rfl) (fun hg => x_fa (a := Pq bU) (v := Pq bU) rfl (fa_blk (o := 0) Fd54_0 Sz3)) ?_
 refine g_val (!((((decide (ac < aa)) || (decide (ab < ag))) || (decide (aa < ap))) || (decide (ax < ab)))) (gy_f rfl) (fun hg => x_ld (p := Pq bU) (v := I aF) (gd_of (c := !((((decide (ac < aa)) || (decide (ab < ag))) || (decide (aa < ap))) || (decide (ax < ab)))) hg (Pq bU)) (ldb_sc Sc3 (H.bl 1) rfl)) ?_
 refine g_val (!((((decide (ac < aa)) || (decide (ab < ag))) || (decide (aa < ap))) || (decide (ax < ab)))) (gy_f rfl) (fun hg => x_fa (a := Pq aL) (v := Pq aL) rfl (fa_blk (o := 0) Fd54_0 Sz3)) ?_
 refine g_val (!((((decide (ac < aa)) || (decide (ab < ag))) || (decide (aa < ap))) || (decide (ax < ab)))) (gy_f rfl) (fun hg => x_ld (p := Pq aL) (v := I aa) (gd_of (c := !((((decide (ac < aa)) || (decide (ab < ag))) || (decide (aa < ap))) || (decide (ax < ab)))) hg (Pq aL)) (ldb_sc Sc3 (H.bl 4) rfl)) ?_
 refine g_val (!((((decide (ac < aa)) || (decide (ab < ag))) || (decide (aa < ap))) || (decide (ax < ab)))) (gy_f rfl) (fun hg => x_cmp (kd := .i64) (a := aF) (b := aa) (r := decide (aa < aF)) (gd_of (c := !((((decide (ac < aa)) || (decide (ab < ag))) || (decide (aa < ap))) || (decide (ax < ab)))) hg (I aF)) (gd_of (c := !((((decide (ac < aa)) || (decide (ab < ag))) || (decide (aa < ap))) || (decide (ax < ab)))) hg (I aa)) rfl) ?_
 refine s_val (x_por (b := ((((decide (ac < aa)) || (decide (ab < ag))) || (decide (aa < ap))) || (decide (ax < ab)))) (r := decide (aa < aF)) rfl rfl (fun hb => gd_of (c := !((((decide (ac < aa)) || (decide (ab < ag))) || (decide (aa < ap))) || (decide (ax < ab)))) (by first | exact hb | (rw [hb]; rfl) | simp_all) (B (decide (aa < aF))))) ?_
 refine zM (B (((((decide (ac < aa)) || (decide (ab < ag))) || (decide (aa < ap))) || (decide (ax < ab))) || (decide (aa < aF)))) rfl ?_
 refine g_val (!(((((decide (ac < aa)) || (decide (ab < ag))) || (decide (aa < ap))) || (decide (ax < ab))) || (decide (aa < aF)))) (gy_f rfl) (fun hg => x_fa (a := Pq bU) (v := Oq bU 1) rfl (fa_blk (o := 0) Fd54_1 Sz3)) ?_
 refine g_val (!(((((decide (ac < aa)) || (decide (ab < ag))) || (decide (aa < ap))) || (decide (ax < ab))) || (decide (aa < aF)))) (gy_f rfl) (fun hg => x_ld (p := Oq bU 1) (v := I aQ) (gd_of (c := !(((((decide (ac < aa)) || (decide (ab < ag))) || (decide (aa < ap))) || (decide (ax < ab))) || (decide (aa < aF)))) hg (Oq bU 1)) (ldb_sc Sc3 (H.bl 1) rfl)) ?_
 refine g_val (!(((((decide (ac < aa)) || (decide (ab < ag))) || (decide (aa < ap))) || (decide (ax < ab))) || (decide (aa < aF)))) (gy_f rfl) (fun hg => x_fa (a := Pq aL) (v := Oq aL 1) rfl (fa_blk (o := 0) Fd54_1 Sz3)) ?_
 refine g_val (!(((((decide (ac < aa)) || (decide (ab < ag))) || (decide (aa < ap))) || (decide (ax < ab))) || (decide (aa < aF)))) (gy_f rfl) (fun hg => x_ld (p := Oq aL 1) (v := I ab) (gd_of (c := !(((((decide (ac < aa)) || (decide (ab < ag))) || (decide (aa < ap))) || (decide (ax < ab))) || (decide (aa < aF)))) hg (Oq aL 1)) (ldb_sc Sc3 (H.bl 4) rfl)) ?_
 refine g_val (!(((((decide (ac < aa)) || (decide (ab < ag))) || (decide (aa < ap))) || (decide (ax < ab))) || (decide (aa < aF)))) (gy_f rfl) (fun hg => x_cmp (kd := .i64) (a := aQ) (b := ab) (r := decide (aQ < ab)) (gd_of (c := !(((((decide (ac < aa)) || (decide (ab < ag))) || (decide (aa < ap))) || (decide (ax < ab))) || (decide (aa < aF)))) hg (I aQ)) (gd_of (c := !(((((decide (ac < aa)) || (decide (ab < ag))) || (decide (aa < ap))) || (decide (ax < ab))) || (decide (aa < aF)))) hg (I ab)) rfl) ?_
 refine s_val (x_por (b := (((((decide (ac < aa)) || (decide (ab < ag))) || (decide (aa < ap))) || (decide (ax < ab))) || (decide (aa < aF)))) (r := decide (aQ < ab)) rfl rfl (fun hb => gd_of (c := !(((((decide (ac < aa)) || (decide (ab < ag))) || (decide (aa < ap))) || (decide (ax < ab))) || (decide (aa < aF)))) (by first | exact hb | (rw [hb]; rfl) | simp_all) (B (decide (aQ < ab))))) ?_
 refine zM (B ((((((decide (ac < aa)) || (decide (ab < ag))) || (decide (aa < ap))) || (decide (ax < ab))) || (decide (aa < aF))) || (decide (aQ < ab)))) rfl ?_
 refine g_val (!((((((decide (ac < aa)) || (decide (ab < ag))) || (decide (aa < ap))) || (decide (ax < ab))) || (decide (aa < aF))) || (decide (aQ < ab)))) (gy_f rfl) (fun hg => x_fa (a := Pq bV) (v := Pq bV) rfl (fa_blk (o := 0) Fd54_0 Sz3)) ?_
 refine g_val (!((((((decide (ac < aa)) || (decide (ab < ag))) || (decide (aa < ap))) || (decide (ax < ab))) || (decide (aa < aF))) || (decide (aQ < ab)))) (gy_f rfl) (fun hg => x_ld (p := Pq bV) (v := I bm) (gd_of (c := !((((((decide (ac < aa)) || (decide (ab < ag))) || (decide (aa < ap))) || (decide (ax < ab))) || (decide (aa < aF))) || (decide (aQ < ab)))) hg (Pq bV)) (ldb_sc Sc3 (H.bl 0) rfl)) ?_
 refine g_val (!((((((decide (ac < aa)) || (decide (ab < ag))) || (decide (aa < ap))) || (decide (ax < ab))) || (decide (aa < aF))) || (decide (aQ < ab)))) (gy_f rfl) (fun hg => x_fa (a := Pq aL) (v := Pq aL) rfl (fa_blk (o := 0) Fd54_0 Sz3)) ?_
 refine g_val (!((((((decide (ac < aa)) || (decide (ab < ag))) || (decide (aa < ap))) || (decide (ax < ab))) || (decide (aa < aF))) || (decide (aQ < ab)))) (gy_f rfl) (fun hg => x_ld (p := Pq aL) (v := I aa) (gd_of (c := !((((((decide (ac < aa)) || (decide (ab < ag))) || (decide (aa < ap))) || (decide (ax < ab))) || (decide (aa < aF))) || (decide (aQ < ab)))) hg (Pq aL)) (ldb_sc Sc3 (H.bl 4) rfl)) ?_
 refine g_val (!((((((decide (ac < aa)) || (decide (ab < ag))) || (decide (aa < ap))) || (decide (ax < ab))) || (decide (aa < aF))) || (decide (aQ < ab)))) (gy_f rfl) (fun hg => x_cmp (kd := .i64) (a := bm) (b := aa) (r := decide (aa < bm)) (gd_of (c := !((((((decide (ac < aa)) || (decide (ab < ag))) || (decide (aa < ap))) || (decide (ax < ab))) || (decide (aa < aF))) || (decide (aQ < ab)))) hg (I bm)) (gd_of (c := !((((((decide (ac < aa)) || (decide (ab < ag))) || (decide (aa < ap))) || (decide (ax < ab))) || (decide (aa < aF))) || (decide (aQ < ab)))) hg (I aa)) rfl) ?_
 refine s_val (x_por (b := ((((((decide (ac < aa)) || (decide (ab < ag))) || (decide (aa < ap))) || (decide (ax < ab))) || (decide (aa < aF))) || (decide (aQ < ab)))) (r := decide (aa < bm)) rfl rfl (fun hb => gd_of (c := !((((((decide (ac < aa)) || (decide (ab < ag))) || (decide (aa < ap))) || (decide (ax < ab))) || (decide (aa < aF))) || (decide (aQ < ab)))) (by first | exact hb | (rw [hb]; rfl) | simp_all) (B (decide (aa < bm))))) ?_
 refine zM (B (((((((decide (ac < aa)) || (decide (ab < ag))) || (decide (aa < ap))) || (decide (ax < ab))) || (decide (aa < aF))) || (decide (aQ < ab))) || (decide (aa < bm)))) rfl ?_
 refine g_val (!(((((((decide (ac < aa)) || (decide (ab < ag))) || (decide (aa < ap))) || (decide (ax < ab))) || (decide (aa < aF))) || (decide (aQ < ab))) || (decide (aa < bm)))) (gy_f rfl) (fun hg => x_fa (a := Pq bV) (v := Oq bV 1) rfl (fa_blk (o := 0) Fd54_1 Sz3)) ?_
 refine g_val (!(((((((decide (ac < aa)) || (decide (ab < ag))) || (decide (aa < ap))) || (decide (ax < ab))) || (decide (aa < aF))) || (decide (aQ < ab))) || (decide (aa < bm)))) (gy_f rfl) (fun hg => x_ld (p := Oq bV 1) (v := I bM) (gd_of (c := !(((((((decide (ac < aa)) || (decide (ab < ag))) || (decide (aa < ap))) || (decide (ax < ab))) || (decide (aa < aF))) || (decide (aQ < ab))) || (decide (aa < bm)))) hg (Oq bV 1)) (ldb_sc Sc3 (H.bl 0) rfl)) ?_
 refine g_val (!(((((((decide (ac < aa)) || (decide (ab < ag))) || (decide (aa < ap))) || (decide (ax < ab))) || (decide (aa < aF))) || (decide (aQ < ab))) || (decide (aa < bm)))) (gy_f rfl) (fun hg => x_fa (a := Pq aL) (v := Oq aL 1) rfl (fa_blk (o := 0) Fd54_1 Sz3)) ?_
 refine g_val (!(((((((decide (ac < aa)) || (decide (ab < ag))) || (decide (aa < ap))) || (decide (ax < ab))) || (decide (aa < aF))) || (decide (aQ < ab))) || (decide (aa < bm)))) (gy_f rfl) (fun hg => x_ld (p := Oq aL 1) (v := I ab) (gd_of (c := !(((((((decide (ac < aa)) || (decide (ab < ag))) || (decide (aa < ap))) || (decide (ax < ab))) || (decide (aa < aF))) || (decide (aQ < ab))) || (decide (aa < bm)))) hg (Oq aL 1)) (ldb_sc Sc3 (H.bl 4) rfl)) ?_
 refine g_val (!(((((((decide (ac < aa)) || (decide (ab < ag))) || (decide (aa < ap))) || (decide (ax < ab))) || (decide (aa < aF))) || (decide (aQ < ab))) || (decide (aa < bm)))) (gy_f rfl) (fun hg => x_cmp (kd := .i64) (a := bM) (b := ab) (r := decide (ab < bM)) (gd_of (c := !(((((((decide (ac < aa)) || (decide (ab < ag))) || (decide (aa < ap))) || (decide (ax < ab))) || (decide (aa < aF))) || (decide (aQ < ab))) || (decide (aa < bm)))) hg (I bM)) (gd_of (c := !(((((((decide (ac < aa)) || (decide (ab < ag))) || (decide (aa < ap))) || (decide (ax < ab))) || (decide (aa < aF))) || (decide (aQ < ab))) || (decide (aa < bm)))) hg (I ab)) rfl) ?_
 refine s_val (x_por (b := (((((((decide (ac < aa)) || (decide (ab < ag))) || (decide (aa < ap))) || (decide (ax < ab))) || (decide (aa < aF))) || (decide (aQ < ab))) || (decide (aa < bm)))) (r := decide (ab < bM)) rfl rfl (fun hb => gd_of (c := !(((((((decide (ac < aa)) || (decide (ab < ag))) || (decide (aa < ap))) || (decide (ax < ab))) || (decide (aa < aF))) || (decide (aQ < ab))) || (decide (aa < bm)))) (by first | exact hb | (rw [hb]; rfl) | simp_all) (B (decide (ab < bM))))) ?_
 refine s_nil ?_
 replace H := H.pk [4, 5, 6, 7, 8, 9, 10]
 refine W.cond ((((((((decide (ac < aa)) || (decide (ab < ag))) || (decide (aa < ap))) || (decide (ax < ab))) || (decide (aa < aF))) || (decide (aQ < ab))) || (decide (aa < bm))) || (decide (ab < bM))) rfl (fun b4 => ?_) (fun b4 => ?_)
 ·replace hM := M.e_t hM b4
  refine W.seq ?_
  refine W.region rfl ?_
  refine zA (B false) rfl ?_
  refine s_nil ?_
  replace H := H.pk []
  refine W.ret ?_
  have bS := M.e_pure hM
  exact ⟨_, resE_tmp rfl, ⟨false, bS, rfl, H⟩⟩
 replace hM := M.e_f hM b4
 refine W.skip ?_
 refine W.seq ?_
 refine W.region rfl ?_
 refine s_val (x_ld (p := Pq aA) (v := .agg #[ah, ai, ae]) rfl (ldb_ag (ds := [ah, ai, ae]) Ag27 Sz27 (H.bl 2) rfl rfl)) ?_
 refine zM aI rfl ?_
 obtain ⟨gP, eg, hM⟩ := M.e_bind hM
 refine s_call cf23 [.agg #[ah, ai, ae], aI] rfl (zdd aV aM aq r3 (Reads.sup (rdo 3) (Reads.of (k := 4) rfl roLe)) (rowSl rfl (H.get (k := 3) rfl) (roLe _ (H.get (k := 4) rfl)) bL) (rdo 5) (H.os 5) (rdo 6) (H.os 6) (rdo 1) (H.os 1) eg _ (H.gt 7)) ?_
 rintro vq gQ ⟨ay, aG, au, ei, hvq, al⟩
 subst ei
 subst vq
 try dsimp only at hM
 replace H := H.bk al
 clear al
 refine zM (.tuple #[.agg #[I ay, I aG], I au]) rfl ?_
 refine zX [.agg #[I ay, I aG], I au] (.agg #[I ay, I aG]) rfl rfl ?_
 refine zX [.agg #[I ay, I aG], I au] (I au) rfl rfl ?_
 refine t_alloc (cs := [I 0, I 0]) H Al54 rfl ?_
 intro bK gR H
 refine t_sw 0 0 [I ay, I aG] (.agg #[I ay, I aG]) H rfl rfl Sz54 rfl rfl rfl rfl ?_
 intro gS H
 refine zA (I au) rfl ?_
 refine s_nil ?_
 replace H := H.pk [0, 1]
 refine W.seq ?_
 refine W.seq ?_
 refine W.region rfl ?_
 refine zM (I au) rfl ?_
 refine zC au 0 (au != 0) rfl rfl rfl ?_
 refine zM (B (au != 0)) rfl ?_
 refine g_val (au != 0) (gy_t rfl) (fun hg => x_mv (v := I au) rfl) ?_
 refine g_val (au != 0) (gy_t rfl) (fun hg => x_cmp (kd := .i64) (a := au) (b := 5) (r := au != 5) (gd_of (c := au != 0) hg (I au)) rfl rfl) ?_
 refine s_val (x_pand (b := au != 0) (r := au != 5) rfl (fun hb => gd_of (c := au != 0) (by first | exact hb | (rw [hb]; rfl) | simp_all) (B (au != 5))) rfl) ?_
 refine s_nil ?_
 refine W.cond ((au != 0) && (au != 5)) rfl (fun b5 => ?_) (fun b5 => ?_)
 ·replace hM := M.e_t hM b5
  refine W.seq ?_
  refine W.region rfl ?_
  refine zA (B false) rfl ?_
  refine s_nil ?_
  replace H := H.pk []
  refine W.ret ?_
  have bS := M.e_pure hM
  exact ⟨_, resE_tmp rfl, ⟨false, bS, rfl, H⟩⟩
 replace hM := M.e_f hM b5
 refine W.skip ?_
 refine W.seq ?_
 refine W.region rfl ?_
 refine zM (I au) rfl ?_
 refine zC au 0 (au != 0) rfl rfl rfl ?_
 refine zM (B (au != 0)) rfl ?_
 refine g_val (!(au != 0)) (gy_f rfl) (fun hg => x_fa (a := Pq bK) (v := Pq bK) rfl (fa_blk (o := 0) Fd54_0 Sz3)) ?_
 refine g_val (!(au != 0)) (gy_f rfl) (fun hg => x_ld (p := Pq bK) (v := I ay) (gd_of (c := !(au != 0)) hg (Pq bK)) (ldb_sc Sc3 (H.bl 0) rfl)) ?_
 refine g_val (!(au != 0)) (gy_f rfl) (fun hg => x_fa (a := Pq aL) (v := Pq aL) rfl (fa_blk (o := 0) Fd54_0 Sz3)) ?_
 refine g_val (!(au != 0)) (gy_f rfl) (fun hg => x_ld (p := Pq aL) (v := I aa) (gd_of (c := !(au != 0)) hg (Pq aL)) (ldb_sc Sc3 (H.bl 1) rfl)) ?_
 refine g_val (!(au != 0)) (gy_f rfl) (fun hg => x_cmp (kd := .i64) (a := ay) (b := aa) (r := decide (aa <= ay)) (gd_of (c := !(au != 0)) hg (I ay)) (gd_of (c := !(au != 0)) hg (I aa)) rfl) ?_
 refine g_val (!(au != 0)) (gy_f rfl) (fun hg => x_mv (v := B (decide (aa <= ay))) (gd_of (c := !(au != 0)) hg (B (decide (aa <= ay))))) ?_
 refine g_val ((!(au != 0)) && (decide (aa <= ay))) (gy_gt rfl rfl) (fun hg => x_fa (a := Pq bK) (v := Oq bK 1) rfl (fa_blk (o := 0) Fd54_1 Sz3)) ?_
 refine g_val ((!(au != 0)) && (decide (aa <= ay))) (gy_gt rfl rfl) (fun hg => x_ld (p := Oq bK 1) (v := I aG) (gd_of (c := ((!(au != 0)) && (decide (aa <= ay)))) hg (Oq bK 1)) (ldb_sc Sc3 (H.bl 0) rfl)) ?_
 refine g_val ((!(au != 0)) && (decide (aa <= ay))) (gy_gt rfl rfl) (fun hg => x_fa (a := Pq aL) (v := Oq aL 1) rfl (fa_blk (o := 0) Fd54_1 Sz3)) ?_
 refine g_val ((!(au != 0)) && (decide (aa <= ay))) (gy_gt rfl rfl) (fun hg => x_ld (p := Oq aL 1) (v := I ab) (gd_of (c := ((!(au != 0)) && (decide (aa <= ay)))) hg (Oq aL 1)) (ldb_sc Sc3 (H.bl 1) rfl)) ?_
 refine g_val ((!(au != 0)) && (decide (aa <= ay))) (gy_gt rfl rfl) (fun hg => x_cmp (kd := .i64) (a := aG) (b := ab) (r := decide (aG <= ab)) (gd_of (c := ((!(au != 0)) && (decide (aa <= ay)))) hg (I aG)) (gd_of (c := ((!(au != 0)) && (decide (aa <= ay)))) hg (I ab)) rfl) ?_
 refine g_val (!(au != 0)) (gy_f rfl) (fun hg => x_pand (b := decide (aa <= ay)) (r := decide (aG <= ab)) (gd_of (c := !(au != 0)) hg (B (decide (aa <= ay)))) (fun hb => gd_of (c := ((!(au != 0)) && (decide (aa <= ay)))) (by first | exact hb | (rw [hb]; rfl) | simp_all) (B (decide (aG <= ab)))) rfl) ?_
 refine g_val (!(au != 0)) (gy_f rfl) (fun hg => x_mv (v := B ((decide (aa <= ay)) && (decide (aG <= ab)))) (gd_of (c := !(au != 0)) hg (B ((decide (aa <= ay)) && (decide (aG <= ab)))))) ?_
 refine g_val ((!(au != 0)) && ((decide (aa <= ay)) && (decide (aG <= ab)))) (gy_gt rfl rfl) (fun hg => x_fa (a := Pq bK) (v := Pq bK) rfl (fa_blk (o := 0) Fd54_0 Sz3)) ?_
 refine g_val ((!(au != 0)) && ((decide (aa <= ay)) && (decide (aG <= ab)))) (gy_gt rfl rfl) (fun hg => x_ld (p := Pq bK) (v := I ay) (gd_of (c := ((!(au != 0)) && ((decide (aa <= ay)) && (decide (aG <= ab))))) hg (Pq bK)) (ldb_sc Sc3 (H.bl 0) rfl)) ?_
 refine g_val ((!(au != 0)) && ((decide (aa <= ay)) && (decide (aG <= ab)))) (gy_gt rfl rfl) (fun hg => x_fa (a := Pq bK) (v := Oq bK 1) rfl (fa_blk (o := 0) Fd54_1 Sz3)) ?_
 refine g_val ((!(au != 0)) && ((decide (aa <= ay)) && (decide (aG <= ab)))) (gy_gt rfl rfl) (fun hg => x_ld (p := Oq bK 1) (v := I aG) (gd_of (c := ((!(au != 0)) && ((decide (aa <= ay)) && (decide (aG <= ab))))) hg (Oq bK 1)) (ldb_sc Sc3 (H.bl 0) rfl)) ?_
 refine g_val ((!(au != 0)) && ((decide (aa <= ay)) && (decide (aG <= ab)))) (gy_gt rfl rfl) (fun hg => x_cmp (kd := .i64) (a := ay) (b := aG) (r := decide (ay <= aG)) (gd_of (c := ((!(au != 0)) && ((decide (aa <= ay)) && (decide (aG <= ab))))) hg (I ay)) (gd_of (c := ((!(au != 0)) && ((decide (aa <= ay)) && (decide (aG <= ab))))) hg (I aG)) rfl) ?_
 refine g_val (!(au != 0)) (gy_f rfl) (fun hg => x_pand (b := ((decide (aa <= ay)) && (decide (aG <= ab)))) (r := decide (ay <= aG)) (gd_of (c := !(au != 0)) hg (B ((decide (aa <= ay)) && (decide (aG <= ab))))) (fun hb => gd_of (c := ((!(au != 0)) && ((decide (aa <= ay)) && (decide (aG <= ab))))) (by first | exact hb | (rw [hb]; rfl) | simp_all) (B (decide (ay <= aG)))) rfl) ?_
 refine s_val (x_por (b := au != 0) (r := (((decide (aa <= ay)) && (decide (aG <= ab))) && (decide (ay <= aG)))) rfl rfl (fun hb => gd_of (c := !(au != 0)) (by first | exact hb | (rw [hb]; rfl) | simp_all) (B (((decide (aa <= ay)) && (decide (aG <= ab))) && (decide (ay <= aG)))))) ?_
 refine zM (B ((au != 0) || (((decide (aa <= ay)) && (decide (aG <= ab))) && (decide (ay <= aG))))) rfl ?_
 obtain ⟨bX, ej, hM⟩ := M.e_bind hM
 refine t_gcall ((au != 0) || (((decide (aa <= ay)) && (decide (aG <= ab))) && (decide (ay <= aG)))) (gy_t rfl) cf16 (B bX) (fun _ => []) (fun _ => rfl) H (fun hg => (zc7 (M.e_opt ej hg) _ (H.give (A := []) rfl)).mono fun v_ w_ ⟨y_, bS, ek, H_⟩ => by subst bS; exact ⟨ek, H.via H_⟩) ?_
 intro gT H
 refine s_val (x_pand (b := ((au != 0) || (((decide (aa <= ay)) && (decide (aG <= ab))) && (decide (ay <= aG))))) (r := bX) rfl (fun hb => gd_of (c := ((au != 0) || (((decide (aa <= ay)) && (decide (aG <= ab))) && (decide (ay <= aG))))) (by first | exact hb | (rw [hb]; rfl) | simp_all) (B bX)) rfl) ?_
 refine zA (B (((au != 0) || (((decide (aa <= ay)) && (decide (aG <= ab))) && (decide (ay <= aG)))) && bX)) rfl ?_
 refine s_nil ?_
 replace H := H.pk []
 refine W.ret ?_
 have bS := M.e_pure hM
 exact ⟨_, resE_tmp rfl, ⟨(((au != 0) || (((decide (aa <= ay)) && (decide (aG <= ab))) && (decide (ay <= aG)))) && bX), bS, rfl, H⟩⟩

end Go.Proofs.YtlemgioaakecpaaGreat
end
namespace Go.Nm
namespace Fl
def ints (n : Nat) : List Int := (List.range n).map fun i : Nat => (i : Int)
theorem ints_len (n : Nat) : (ints n).length = n := by simp [ints]
theorem ints_succ (n : Nat) : ints (n + 1) = ints n ++ [(n : Int)] := by unfold ints; rw [List.range_succ, List.map_append]; rfl
theorem ints_mem {n : Nat} {k : Int} : k ∈ ints n ↔ 0 <= k /\ k < n := by
  unfold ints
  rw [List.mem_map]
  constructor
  · rintro ⟨i, hi, rfl⟩
    have := List.mem_range.1 hi
    omega
  · rintro ⟨h0, h1⟩
    exact ⟨Int.toNat k, List.mem_range.2 (by omega), by omega⟩
section
variable {S : List Sect} {M : List Mrk} {R : List Rch} {t ro ms : List Int} {r : Rch}
theorem pk (hS : Secs S) (hr : Rok S r) (hk : ∀ x ∈ M, Mok x) (hx : Ixs M ms) (ht : Tog M ms) {c c1 c2 : Cas} {a b : Int} (ha : IsLow S M ms r c1 a) (hb : IsHigh S M ms r c2 b) (hc : Cok c)
    (hd : Dn S M ms r c.down) (h0 : stLo M ms (pu S r) <= c.up) (h1 : c.up <= stHi M ms (pu S r)) (k1 : r.lo <= c.roughup) (k2 : c.roughup <= r.hi) (k3 : r.lo <= c.roughdown) (k4 : c.roughdown <= r.hi) :
    0 <= a /\ a <= fl S r c /\ fl S r c <= b := by
  obtain ⟨x, _, _, e1, m1⟩ := ha
  obtain ⟨y, _, _, e2, m2⟩ := hb
  have q1 := m1 _ hd
  have q2 := m2 _ hd
  have du := hc.du
  refine ⟨by rw [e1]; exact fl_nn _, Int.le_trans q1 (fl_mono hS hr (lc_ok hr hk hx ht hd) hc rfl ?_ k2 k4), Int.le_trans (fl_mono hS hr hc (hc_ok hr hd) rfl h1 k1 k3) q2⟩
  show max (stLo M ms (pu S r)) c.down <= c.up
  omega
theorem Truth.rok (h : Truth S M R t ro) {i : Nat} (hi : i < R.length) : Rok S (R.getD i default) := by
  rw [getD_el R hi]
  exact h.site.rks _ (List.getElem_mem hi)
theorem ints_ix (M : List Mrk) : Ixs M (ints M.length) := fun k hk => ints_mem.1 hk
theorem ints_inc (M : List Mrk) : Inc M (ints M.length) := by
  refine ⟨?_, ints_ix M⟩
  unfold ints
  rw [List.pairwise_map]
  exact List.Pairwise.imp (fun h => by omega) List.pairwise_lt_range
end
end Fl
end Go.Nm
namespace Go.Proofs.YtlemgioaakecpaaGreat
open Go Go.Nm
section
variable {S : List Sect} {M' : List Mrk} {R' : List Rch} {t ro : List Int}
theorem every_ends (hn : M'.length <= 16) : (za3 S M' R').Ends (Fl.ints M'.length) := by
  unfold za3
  refine M.i_bind (a := (Fl.ints M'.length, Fl.ints M'.length)) ?_ M.i_pure
  refine M.i_for (fun i => (i, Fl.ints i)) M'.length (fun i hi => ?_) ?_
  · simp only [za1]
    refine M.i_t (decide_eq_true (by omega)) (M.i_grd (decide_eq_true (by rw [Fl.ints_len]; simp; omega)) ?_)
    rw [Fl.ints_succ]
    exact M.i_pure
  · simp only [za1]
    exact M.i_f (decide_eq_false (by omega)) M.i_pure
end
end Go.Proofs.YtlemgioaakecpaaGreat
namespace Go.Nm
namespace Fl
section
variable {M : List Mrk} {p : Int}
theorem ints_mk {M : List Mrk} {k : Int} (h : k ∈ ints M.length) : M.getD (Int.toNat k) default ∈ M := by
  have := ints_mem.1 h
  have hl : Int.toNat k < M.length := by omega
  rw [getD_el M hl]
  exact List.getElem_mem hl
theorem mk_ints {M : List Mrk} {m : Mrk} (h : m ∈ M) : ∃ k, k ∈ ints M.length /\ M.getD (Int.toNat k) default = m := by
  obtain ⟨i, hi, rfl⟩ := mem_getD h default
  exact ⟨(i : Int), ints_mem.2 ⟨by omega, by omega⟩, by rw [Int.toNat_natCast]⟩
theorem aLo_ge {m : Mrk} (h : m ∈ M) (hp : p <= m.place) : m.lo <= stLo M (ints M.length) p := by
  obtain ⟨k, hk, rfl⟩ := mk_ints h
  exact stLo_ge hk hp
theorem aLo_ex : stLo M (ints M.length) p = 0 ∨ ∃ m ∈ M, p <= m.place /\ stLo M (ints M.length) p = m.lo := by
  rcases stLo_ex (M := M) (p := p) (ints M.length) with e | ⟨k, hk, h1, h2⟩
  · exact .inl e
  · exact .inr ⟨_, ints_mk hk, h1, h2⟩
theorem aHi_le {m : Mrk} (h : m ∈ M) (hp : m.place <= p) : stHi M (ints M.length) p <= m.hi := by
  obtain ⟨k, hk, rfl⟩ := mk_ints h
  exact stHi_ge hk hp
theorem aHi_ex : stHi M (ints M.length) p = 2000 ∨ ∃ m ∈ M, m.place <= p /\ stHi M (ints M.length) p = m.hi := by
  rcases stHi_ex (M := M) (p := p) (ints M.length) with e | ⟨k, hk, h1, h2⟩
  · exact .inl e
  · exact .inr ⟨_, ints_mk hk, h1, h2⟩
theorem aTog : Tog M (ints M.length) ↔ ∀ a ∈ M, ∀ b ∈ M, ¬(a.place <= b.place /\ a.hi < b.lo) := by
  constructor
  · intro h a ha b hb
    obtain ⟨k, hk, rfl⟩ := mk_ints ha
    obtain ⟨j, hj, rfl⟩ := mk_ints hb
    exact h k hk j hj
  · intro h a ha b hb
    exact h _ (ints_mk ha) _ (ints_mk hb)
end
section
variable {S : List Sect} {M : List Mrk} {R : List Rch} {r : Rch} {c : Cas}
/-- A case whose stages lie in the surfaces, with one roughness that is allowed. -/
structure Lies (S : List Sect) (M : List Mrk) (r : Rch) (c : Cas) : Prop where
  u1 : stLo M (ints M.length) (pu S r) <= c.up
  u2 : c.up <= stHi M (ints M.length) (pu S r)
  d1 : stLo M (ints M.length) (pd S r) <= c.down
  d2 : c.down <= stHi M (ints M.length) (pd S r)
  du : c.down <= c.up
  e : c.roughup = c.roughdown
  r1 : r.lo <= c.roughup
  r2 : c.roughup <= r.hi
theorem Lies.ok (h : Lies S M r c) (hr : Rok S r) : Cok c := by
  have h2 := stLo_nn (M := M) (p := pd S r) (ints M.length)
  have h3 := stHi_le (M := M) (p := pu S r) (ints M.length)
  obtain ⟨a, b, d, e, f, g, i, j⟩ := h
  have := hr.l1
  have := hr.h4
  constructor <;> omega
def told (S : List Sect) (M : List Mrk) (r : Rch) (c : Cas) : List Mrk := M ++ [⟨pu S r, c.up, c.up⟩, ⟨pd S r, c.down, c.down⟩]
theorem told_mem {m : Mrk} : m ∈ told S M r c ↔ m ∈ M ∨ m = ⟨pu S r, c.up, c.up⟩ ∨ m = ⟨pd S r, c.down, c.down⟩ := by
  unfold told
  rw [List.mem_append, List.mem_cons, List.mem_singleton]
theorem Lies.tog (h : Lies S M r c) (hp : pu S r < pd S r) (ht : Tog M (ints M.length)) : Tog (told S M r c) (ints (told S M r c).length) := by
  rw [aTog] at ht ⊢
  obtain ⟨u1, u2, d1, d2, du, _⟩ := h
  intro a ha b hb
  rcases told_mem.1 ha with ha | rfl | rfl <;> rcases told_mem.1 hb with hb | rfl | rfl <;> rintro ⟨k1, k2⟩ <;> (try dsimp only at k1 k2)
  · exact ht a ha b hb ⟨k1, k2⟩
  · have := aHi_le ha k1; omega
  · have := aHi_le ha k1; omega
  · have := aLo_ge hb k1; omega
  · omega
  · omega
  · have := aLo_ge hb k1; omega
  · omega
  · omega
theorem lc_lies (hr : Rok S r) (hk : ∀ x ∈ M, Mok x) (ht : Tog M (ints M.length)) {x : Int} (hx : Dn S M (ints M.length) r x) : Lies S M r (lc S M (ints M.length) r x) := by
  have h4 := st_le hk (ints_ix M) ht (Int.le_refl (pu S r))
  obtain ⟨a, b⟩ := hx
  have := hr.lh
  unfold lc
  constructor <;> dsimp only <;> omega
theorem hc_lies (hr : Rok S r) (hk : ∀ x ∈ M, Mok x) (ht : Tog M (ints M.length)) {x : Int} (hx : Dn S M (ints M.length) r x) : Lies S M r (hc S M (ints M.length) r x) := by
  have h4 := st_le hk (ints_ix M) ht (Int.le_refl (pu S r))
  obtain ⟨a, b⟩ := hx
  have := hr.lh
  unfold hc
  constructor <;> dsimp only <;> omega
end
end Fl
end Go.Nm
namespace Go.Nm
structure SOk (c u x : Int) : Prop where
  u0 : 0 <= u
  u1 : u <= c
  x0 : 0 <= x
  x1 : x < 251
theorem SOk.mono {c d u x : Int} (h : SOk c u x) (hd : c <= d) : SOk d u x := ⟨h.u0, Int.le_trans h.u1 hd, h.x0, h.x1⟩
/-- What a stream gives: a number below n. -/
structure Nx (c n : Int) (y : Int × Int × Int) : Prop where
  ok : SOk c y.2.1 y.2.2
  lt : 1 <= n -> 0 <= y.1 /\ y.1 < n
  no : n < 1 -> y.1 = 0
end Go.Nm
namespace Go.Proofs.YtlemgioaakecpaaGreat
open Go Go.Nm
theorem next_out {b : List UInt8} {c u x n : Int} (h : SOk c u x) (hc : c <= 1000000000000) (hn : n <= 1000000) : (zab b u x n).Out (Nx (c + 1) n) := by
  obtain ⟨u0, u1, x0, x1⟩ := h
  unfold zab
  refine M.o_if (fun hb => ?_) (fun hb => ?_)
  · simp only [Bool.or_eq_true, decide_eq_true_eq, beq_iff_eq] at hb
    refine M.o_pure ⟨⟨u0, by dsimp only; omega, x0, x1⟩, fun h1 => ⟨Int.le_refl _, ?_⟩, fun _ => rfl⟩
    dsimp only
    omega
  · simp only [Bool.or_eq_false_iff, decide_eq_false_iff_not, beq_eq_false_iff_ne, ne_eq] at hb
    have hl : (0 : Int) < (b.length : Int) := by omega
    have m0 := Int.emod_nonneg u (show (b.length : Int) ≠ 0 by omega)
    have m1 := Int.emod_lt_of_pos u hl
    have d0 := Int.ediv_nonneg u0 (show (0 : Int) <= (b.length : Int) by omega)
    have d1 : u / (b.length : Int) <= u := Int.ediv_le_self _ u0
    have y1 : ((b.getD (Int.toNat (u % (b.length : Int))) 0).toNat : Int) < 256 := by
      have := UInt8.toNat_lt (b.getD (Int.toNat (u % (b.length : Int))) 0)
      omega
    have y0 : (0 : Int) <= ((b.getD (Int.toNat (u % (b.length : Int))) 0).toNat : Int) := Int.natCast_nonneg _
    generalize ((b.getD (Int.toNat (u % (b.length : Int))) 0).toNat : Int) = y at *
    generalize u % (b.length : Int) = m at *
    generalize u / (b.length : Int) = d at *
    have hn0 : 0 < n := by omega
    have fin : ∀ z : Int, 0 <= z -> 0 <= z % n /\ z % n < n := fun z hz => ⟨Int.emod_nonneg _ (by omega), Int.emod_lt_of_pos _ hn0⟩
    have pr : ∀ z w : Int, 0 <= z -> Nx (c + 1) n (z % n, u + 1, w % 251) := fun z w hz => ⟨⟨by dsimp only; omega, by dsimp only; omega, by dsimp only; omega, by dsimp only; omega⟩, fun _ => fin z hz, fun h => by omega⟩
    refine M.o_grd (by simp only [Bool.and_eq_true, decide_eq_true_eq]; omega) (M.o_grd (by simp only [Bool.and_eq_true, decide_eq_true_eq]; omega) (M.o_grd (by simp only [Bool.and_eq_true, decide_eq_true_eq]; omega) ?_))
    refine M.o_if (fun h1 => ?_) (fun h1 => ?_)
    · refine M.o_grd (by simp only [Bool.and_eq_true, decide_eq_true_eq]; omega) (M.o_grd (by simp only [Bool.and_eq_true, decide_eq_true_eq]; omega) (M.o_grd (by simp only [Bool.and_eq_true, decide_eq_true_eq]; omega) (M.o_grd (by simp only [Bool.and_eq_true, decide_eq_true_eq]; omega) (M.o_grd (by simp only [Bool.and_eq_true, decide_eq_true_eq]; omega) ?_))))
      refine M.o_grd (by simp only [Bool.and_eq_true, decide_eq_true_eq]; omega) (M.o_grd (by simp only [Bool.and_eq_true, decide_eq_true_eq]; omega) (M.o_grd (by simp only [Bool.and_eq_true, decide_eq_true_eq]; omega) (M.o_grd (by simp only [Bool.and_eq_true, decide_eq_true_eq]; omega) ?_)))
      refine M.o_if (fun h2 => ?_) (fun h2 => ?_)
      · refine M.o_grd (by simp only [Bool.and_eq_true, decide_eq_true_eq]; omega) (M.o_grd (by simp only [Bool.and_eq_true, decide_eq_true_eq]; omega) (M.o_grd (by simp only [Bool.and_eq_true, decide_eq_true_eq]; omega) (M.o_pure (pr _ _ (by omega)))))
      · refine M.o_grd (by simp only [Bool.and_eq_true, decide_eq_true_eq]; omega) (M.o_pure (pr _ _ (by omega)))
    · refine M.o_grd (by simp only [Bool.and_eq_true, decide_eq_true_eq]; omega) (M.o_grd (by simp only [Bool.and_eq_true, decide_eq_true_eq]; omega) (M.o_grd (by simp only [Bool.and_eq_true, decide_eq_true_eq]; omega) (M.o_grd (by simp only [Bool.and_eq_true, decide_eq_true_eq]; omega) (M.o_grd (by simp only [Bool.and_eq_true, decide_eq_true_eq]; omega) ?_))))
      refine M.o_if (fun h2 => ?_) (fun h2 => ?_)
      · refine M.o_grd (by simp only [Bool.and_eq_true, decide_eq_true_eq]; omega) (M.o_grd (by simp only [Bool.and_eq_true, decide_eq_true_eq]; omega) (M.o_grd (by simp only [Bool.and_eq_true, decide_eq_true_eq]; omega) (M.o_pure (pr _ _ (by omega)))))
      · refine M.o_grd (by simp only [Bool.and_eq_true, decide_eq_true_eq]; omega) (M.o_pure (pr _ _ (by omega)))
theorem within_out {b : List UInt8} {c u x lo hi : Int} (h : SOk c u x) (hc : c <= 1000000000000) (h0 : -1000 <= lo) (h1 : lo <= hi) (h2 : hi <= 10000) : (zaf b u x lo hi).Out (fun y => SOk (c + 1) y.2.1 y.2.2 /\ lo <= y.1 /\ y.1 <= hi) := by
  unfold zaf
  refine M.o_grd (gA2 (by omega) (by omega)) (M.o_grd (gA2 (by omega) (by omega)) (M.o_bind (next_out h hc (by omega)) ?_))
  rintro ⟨r, u', x'⟩ ⟨k, hl, _⟩
  have := hl (by omega)
  dsimp only at this k ⊢
  exact M.o_grd (gA2 (by omega) (by omega)) (M.o_pure ⟨k, by dsimp only; omega, by dsimp only; omega⟩)
end Go.Proofs.YtlemgioaakecpaaGreat
namespace Go.Nm
theorem SOk.zero : SOk 0 0 0 := ⟨Int.le_refl _, Int.le_refl _, Int.le_refl _, by decide⟩
end Go.Nm
namespace Go.Proofs.YtlemgioaakecpaaGreat
open Go Go.Nm
theorem pick_num {v n : Int} (h : 1 <= n /\ n <= 1000000) : (zbo v n).Out (fun r => 0 <= r /\ r < n) := by
  unfold zbo
  have h1 : Int.tmod v n < n := Int.tmod_lt_of_pos v (by omega)
  have h2 : -n < Int.tmod v n := by
    have := Int.tmod_lt_of_pos (-v) (show 0 < n by omega)
    rw [Int.neg_tmod] at this
    omega
  refine M.o_f (decide_eq_false (by omega)) (M.o_grdD (by omega) (M.o_if (fun hb => ?_) (fun hb => ?_)))
  · have := of_decide_eq_true hb
    exact M.o_grd (gA2 (by omega) (by omega)) (M.o_pure (by omega))
  · have := of_decide_eq_false hb
    exact M.o_pure (by omega)
end Go.Proofs.YtlemgioaakecpaaGreat
namespace Go.Nm
namespace Fl
theorem getD_app {α : Type} {l : List α} {x d : α} {j : Nat} (h : j < l.length) : (l ++ [x]).getD j d = l.getD j d := by
  simp [List.getD, List.getElem?_append_left h]
theorem getD_appE {α : Type} {l : List α} {x d : α} {j : Nat} (h : l.length = j) : (l ++ [x]).getD j d = x := by
  subst h
  simp [List.getD]
/-- A mark about what was. -/
def Mt (S : List Sect) (t : List Int) (m : Mrk) : Prop := Mok m /\ ∃ j, j < S.length /\ (S.getD j default).place <= m.place /\ m.place <= (S.getD j default).place + 19 /\ m.lo <= t.getD j 0 /\ t.getD j 0 <= m.hi
/-- What is made so far. -/
structure Mi (S : List Sect) (M : List Mrk) (t ro : List Int) (place stage : Int) : Prop where
  tl : t.length = S.length
  rl : ro.length = S.length
  rows : ∀ j, j < S.length -> Rows (S.getD j default).rows /\ 2 <= (S.getD j default).rows.length /\ (S.getD j default).rows.length <= 8
  pl : ∀ j, j < S.length -> 0 <= (S.getD j default).place /\ (S.getD j default).place + 21 <= place
  gap : ∀ i j, i < j -> j < S.length -> (S.getD i default).place + 21 <= (S.getD j default).place
  tr : ∀ j, j < S.length -> stage <= t.getD j 0 /\ t.getD j 0 <= 400
  td : ∀ i j, i <= j -> j < S.length -> t.getD j 0 <= t.getD i 0
  mt : ∀ m ∈ M, Mt S t m
  m8 : M.length <= 8
  ro0 : ∀ j, j < S.length -> 30 <= ro.getD j 0 /\ ro.getD j 0 <= 90
  p0 : 0 <= place
  p1 : place <= 50 + 200 * S.length
  s0 : 100 <= stage + 19 * S.length
  s1 : stage <= 400
theorem Mt.app {S : List Sect} {t : List Int} {m : Mrk} {s : Sect} {v : Int} (hl : t.length = S.length) (h : Mt S t m) : Mt (S ++ [s]) (t ++ [v]) m := by
  obtain ⟨h0, j, h1, h2⟩ := h
  refine ⟨h0, j, by simp; omega, ?_⟩
  rw [getD_app h1, getD_app (by omega)]
  exact h2
theorem Mi.step {S : List Sect} {M M' : List Mrk} {t ro : List Int} {place stage p q r : Int} {rows : List FRow} (h : Mi S M t ro place stage) (hr : Rows rows) (h2 : 2 <= rows.length) (h8 : rows.length <= 8) (hm : ∀ m ∈ M', Mt (S ++ [⟨place, rows⟩]) (t ++ [stage]) m) (m8 : M'.length <= 8)
    (hp : 21 <= p /\ p <= 200) (hq : 0 <= q /\ q <= 19) (hro : 30 <= r /\ r <= 90) : Mi (S ++ [⟨place, rows⟩]) M' (t ++ [stage]) (ro ++ [r]) (place + p) (stage - q) := by
  have e1 := h.tl
  have e2 := h.rl
  have p0 := h.p0
  have p1 := h.p1
  have s0 := h.s0
  have s1 := h.s1
  have split : ∀ j, j < (S ++ [(⟨place, rows⟩ : Sect)]).length -> j < S.length ∨ j = S.length := fun j hj => by simp at hj; omega
  refine ⟨by simp [e1], by simp [e2], fun j hj => ?_, fun j hj => ?_, fun i j hij hj => ?_, fun j hj => ?_, fun i j hij hj => ?_, hm, m8, fun j hj => ?_, by omega, by simp; omega, by simp; omega, by omega⟩
  · rcases split j hj with e | rfl
    · rw [getD_app e]; exact h.rows j e
    · rw [getD_appE rfl]; exact ⟨hr, h2, h8⟩
  · rcases split j hj with e | rfl
    · rw [getD_app e]; have := h.pl j e; omega
    · rw [getD_appE rfl]; dsimp only; omega
  · rcases split j hj with e | rfl
    · rw [getD_app e, getD_app (by omega)]; exact h.gap i j hij e
    · rw [getD_appE rfl, getD_app hij]; exact (h.pl i hij).2
  · rcases split j hj with e | rfl
    · rw [getD_app (by omega)]; have := h.tr j e; omega
    · rw [getD_appE e1]; omega
  · rcases split j hj with e | rfl
    · rw [getD_app (by omega), getD_app (by omega)]; exact h.td i j hij e
    · rw [getD_appE e1]
      rcases Nat.lt_or_eq_of_le hij with e | rfl
      · rw [getD_app (by omega)]; exact (h.tr i e).1
      · rw [getD_appE e1]; exact Int.le_refl _
  · rcases split j hj with e | rfl
    · rw [getD_app (by omega)]; exact h.ro0 j e
    · rw [getD_appE e2]; exact hro
end Fl
end Go.Nm
namespace Go.Proofs.YtlemgioaakecpaaGreat
open Go Go.Nm
theorem b6_out {b : List UInt8} {c u x a0 c0 K : Int} (hS : SOk c u x) (hc : c <= 100000) (ha : 0 <= a0 /\ a0 <= 60) (hc0 : 0 <= c0 /\ c0 <= 50) (hK : 2 <= K /\ K <= 4) :
    (M.iter (za5 b) (u, x, a0, c0, K, [])).Out (fun z => SOk (c + 10) z.1 z.2.1 /\ Fl.Rows z.2.2.2 /\ 2 <= z.2.2.2.length /\ z.2.2.2.length <= 8) := by
  refine M.o_iter (fun m (s : Int × Int × Int × Int × Int × List FRow) => m = s.2.2.2.2.1.toNat /\ 0 <= s.2.2.2.2.1 /\ s.2.2.2.2.1 + s.2.2.2.2.2.length = K /\ SOk (c + 2 * s.2.2.2.2.2.length) s.1 s.2.1 /\ Fl.Rows s.2.2.2.2.2 /\ (∀ e ∈ s.2.2.2.2.2, e.stage < s.2.2.1 /\ e.carry <= s.2.2.2.1) /\ 0 <= s.2.2.1 /\ s.2.2.1 <= 60 + 200 * s.2.2.2.2.2.length /\ 0 <= s.2.2.2.1 /\ s.2.2.2.1 <= 50 + 2000 * s.2.2.2.2.2.length) ?_ _ (u, x, a0, c0, K, []) ⟨rfl, by dsimp only; omega, by simp, by simpa using hS, trivial, fun e he => (List.not_mem_nil he).elim, ha.1, by simp; omega, hc0.1, by simp; omega⟩
  rintro m ⟨u, x, a, ca, k, l⟩ ⟨rfl, k0, kl, hS, hr, he, a1, a2, c1, c2⟩
  dsimp only at k0 kl hS hr he a1 a2 c1 c2 ⊢
  simp only [za5]
  refine M.o_if (fun hb => ?_) (fun hb => ?_)
  · have hb := of_decide_eq_true hb
    refine M.o_grd (decide_eq_true (by simp; omega)) (M.o_bind (within_out hS (by omega) (by omega) (by omega) (by omega)) ?_)
    rintro ⟨r8, u8, x8⟩ ⟨k8, g8, g8'⟩
    dsimp only at k8 g8 g8' ⊢
    refine M.o_grd (gA2 (by omega) (by omega)) (M.o_bind (next_out k8 (by omega) (by omega)) ?_)
    rintro ⟨r9, u9, x9⟩ ⟨k9, g9, _⟩
    have g9 := g9 (by omega)
    dsimp only at k9 g9 ⊢
    refine M.o_grd (gA2 (by omega) (by omega)) (M.o_grd (gA2 (by omega) (by omega)) (M.o_pure ⟨(k - 1).toNat, by omega, rfl, by dsimp only; omega, by simp; omega, k9.mono (by simp; omega), hr.snoc he a1 (by dsimp only; omega) c1 (by dsimp only; omega), fun e h => ?_, by dsimp only; omega, by simp; omega, by dsimp only; omega, by simp; omega⟩))
    rcases List.mem_append.1 h with h | h
    · have := he e h
      dsimp only
      omega
    · rw [List.mem_singleton] at h
      subst h
      dsimp only
      omega
  · have hb := of_decide_eq_false hb
    exact M.o_pure ⟨hS.mono (by omega), hr, by dsimp only; omega, by dsimp only; omega⟩
theorem b7_out {b : List UInt8} {c u x place stage k : Int} (P : Mrk -> Prop) (hP : ∀ d e f : Int, 0 <= d -> d <= 19 -> 0 <= e -> e <= 8 -> 0 <= f -> f <= 8 -> P ⟨place + d, max 0 (stage - e), stage + f⟩) (hS : SOk c u x) (hc : c <= 100000) (hk : 0 <= k /\ k <= 2) (hp : 0 <= place /\ place <= 10000) (hs : 0 <= stage /\ stage <= 1000) {l : List Mrk} (hl : l.length <= 8) (h0 : ∀ m ∈ l, P m) :
    (M.iter (zaH b 8 false place stage) (u, x, k, l)).Out (fun z => SOk (c + 8) z.1 z.2.1 /\ (∀ m ∈ z.2.2.2, P m) /\ z.2.2.2.length <= 8) := by
  refine M.o_iter (fun m (s : Int × Int × Int × List Mrk) => m = s.2.2.1.toNat /\ 0 <= s.2.2.1 /\ s.2.2.1 <= 2 /\ SOk (c + 4 * (2 - s.2.2.1)) s.1 s.2.1 /\ (∀ m ∈ s.2.2.2, P m) /\ s.2.2.2.length <= 8) ?_ _ (u, x, k, l) ⟨rfl, hk.1, hk.2, hS.mono (by dsimp only; omega), h0, hl⟩
  rintro m ⟨u, x, k, l⟩ ⟨rfl, k0, k2, hS, hm, h8⟩
  dsimp only at k0 k2 hS hm h8 ⊢
  simp only [zaH]
  refine M.o_if (fun hb => ?_) (fun hb => ?_)
  · rw [Bool.and_eq_true, decide_eq_true_eq, decide_eq_true_eq] at hb
    refine M.o_bind (next_out hS (by omega) (by omega)) ?_
    rintro ⟨r1, u1, x1⟩ ⟨k1, g1, _⟩
    have g1 := g1 (by omega)
    dsimp only at k1 g1 ⊢
    refine M.o_bind (next_out k1 (by omega) (by omega)) ?_
    rintro ⟨r2, u2, x2⟩ ⟨kk2, g2, _⟩
    have g2 := g2 (by omega)
    dsimp only at kk2 g2 ⊢
    have hd : 0 <= r1 * r2 /\ r1 * r2 <= 19 := by
      rcases (by omega : r1 = 0 ∨ r1 = 1) with rfl | rfl
      · simp
      · simp; omega
    generalize r1 * r2 = d at hd ⊢
    refine M.o_grd (gA2 (by omega) (by omega)) (M.o_grd (gA2 (by omega) (by omega)) (M.o_bind (next_out kk2 (by omega) (by omega)) ?_))
    rintro ⟨r3, u3, x3⟩ ⟨k3, g3, _⟩
    have g3 := g3 (by omega)
    dsimp only at k3 g3 ⊢
    refine M.o_grd (gA2 (by omega) (by omega)) (M.o_bind (next_out k3 (by omega) (by omega)) ?_)
    rintro ⟨r4, u4, x4⟩ ⟨k4, g4, _⟩
    have g4 := g4 (by omega)
    dsimp only at k4 g4 ⊢
    refine M.o_grd (gA2 (by omega) (by omega)) (M.o_f rfl (M.o_grd (decide_eq_true (by simp; omega)) (M.o_grd (gA2 (by omega) (by omega)) (M.o_pure ⟨(k - 1).toNat, by omega, rfl, by dsimp only; omega, by dsimp only; omega, k4.mono (by dsimp only; omega), fun m h => ?_, by simp; omega⟩))))
    rcases List.mem_append.1 h with h | h
    · exact hm m h
    · rw [List.mem_singleton] at h
      subst h
      exact hP _ _ _ hd.1 hd.2 (by omega) (by omega) (by omega) (by omega)
  · exact M.o_pure ⟨hS.mono (by omega), hm, h8⟩
end Go.Proofs.YtlemgioaakecpaaGreat
