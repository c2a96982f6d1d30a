/- Part 4 of the texts on which the proof rests. Conditions: none. -/
import Derived.Test.YtndobgodeicloaaZB3
set_option linter.unusedVariables false
set_option linter.unusedSimpArgs false
set_option linter.unusedSectionVars false
section
set_option maxRecDepth 100000
set_option maxHeartbeats 16000000
namespace Go.Proofs.Ytndobgodeicloaa
open Go Go.Nm
def zae : M (List Work) :=
  M.pure ([(⟨([]), (1 : Int), (5 : Int)⟩ : Work), (⟨([]), (1 : Int), (6 : Int)⟩ : Work), (⟨([(0 : Int), (1 : Int)]), (1 : Int), (10 : Int)⟩ : Work), (⟨([(1 : Int)]), (1 : Int), (30 : Int)⟩ : Work), (⟨([(2 : Int), (3 : Int)]), (1 : Int), (20 : Int)⟩ : Work), (⟨([(4 : Int)]), (1 : Int), (1 : Int)⟩ : Work)])
theorem zai {R : List Chunk}    {r : (List Work)} (hM : (zae).Ends r) (w : World) (H : St w w [] R) : Ret Try.prog 79 #[] w fun v w' => ∃ (y0 : List Work) (u0 : Value) (rr1 : List (Raw 2)) (aE : Base), y0 = r /\ v = u0 /\ St w w' [cOwn (α := Raw 2) 60 u0 rr1, cRo aE] R /\ RepR (α := Work) aE.cells rr1 y0 := by
 refine ret_of_W Try.func79 rfl rfl rfl ?_
 refine sQ rfl <| sA (.slice none 0 0) rfl <| s_nil <| sQ rfl <| s_val (x_bld (ps := [(1, I 1), (2, I 5)]) (zs := [.slice none 0 0, I 0, I 0]) (L' := [.slice none 0 0, I 1, I 5]) rfl Try.underlying60 Al60 rfl (Bd60 Try.underlying60) (.cons (cs := [I 1]) rfl rfl rfl rfl rfl <| .cons (cs := [I 5]) rfl rfl rfl rfl rfl <| .nil)) <| s_val (x_bld (ps := [(1, I 1), (2, I 6)]) (zs := [.slice none 0 0, I 0, I 0]) (L' := [.slice none 0 0, I 1, I 6]) rfl Try.underlying60 Al60 rfl (Bd60 Try.underlying60) (.cons (cs := [I 1]) rfl rfl rfl rfl rfl <| .cons (cs := [I 6]) rfl rfl rfl rfl rfl <| .nil)) ?_
 refine t_bs (α := Int) T34 [I 0, I 1] [(0 : Int), (1 : Int)] H rfl (.cons rfl (Flat.rep_enc _ (0 : Int)) <| .cons rfl (Flat.rep_enc _ (1 : Int)) <| .nil) rfl rfl rfl ?_
 intro ah a5 H
 refine s_val (x_bld (ps := [(0, ah), (1, I 1), (2, I 10)]) (zs := [.slice none 0 0, I 0, I 0]) (L' := [ah, I 1, I 10]) rfl Try.underlying60 Al60 rfl (Bd60 Try.underlying60) (.cons (cs := [ah]) (Sl.cells (ownSl (H.get (k := 0) rfl))) rfl rfl rfl rfl <| .cons (cs := [I 1]) rfl rfl rfl rfl rfl <| .cons (cs := [I 10]) rfl rfl rfl rfl rfl <| .nil)) ?_
 refine t_bs (α := Int) T34 [I 1] [(1 : Int)] H rfl (.cons rfl (Flat.rep_enc _ (1 : Int)) <| .nil) rfl rfl rfl ?_
 intro ag a6 H
 refine s_val (x_bld (ps := [(0, ag), (1, I 1), (2, I 30)]) (zs := [.slice none 0 0, I 0, I 0]) (L' := [ag, I 1, I 30]) rfl Try.underlying60 Al60 rfl (Bd60 Try.underlying60) (.cons (cs := [ag]) (Sl.cells (ownSl (H.get (k := 0) rfl))) rfl rfl rfl rfl <| .cons (cs := [I 1]) rfl rfl rfl rfl rfl <| .cons (cs := [I 30]) rfl rfl rfl rfl rfl <| .nil)) ?_
 refine t_bs (α := Int) T34 [I 2, I 3] [(2 : Int), (3 : Int)] H rfl (.cons rfl (Flat.rep_enc _ (2 : Int)) <| .cons rfl (Flat.rep_enc _ (3 : Int)) <| .nil) rfl rfl rfl ?_
 intro ac a7 H
 refine s_val (x_bld (ps := [(0, ac), (1, I 1), (2, I 20)]) (zs := [.slice none 0 0, I 0, I 0]) (L' := [ac, I 1, I 20]) rfl Try.underlying60 Al60 rfl (Bd60 Try.underlying60) (.cons (cs := [ac]) (Sl.cells (ownSl (H.get (k := 0) rfl))) rfl rfl rfl rfl <| .cons (cs := [I 1]) rfl rfl rfl rfl rfl <| .cons (cs := [I 20]) rfl rfl rfl rfl rfl <| .nil)) ?_
 refine t_bs (α := Int) T34 [I 4] [(4 : Int)] H rfl (.cons rfl (Flat.rep_enc _ (4 : Int)) <| .nil) rfl rfl rfl ?_
 intro ab av H
 refine s_val (x_bld (ps := [(0, ab), (1, I 1), (2, I 1)]) (zs := [.slice none 0 0, I 0, I 0]) (L' := [ab, I 1, I 1]) rfl Try.underlying60 Al60 rfl (Bd60 Try.underlying60) (.cons (cs := [ab]) (Sl.cells (ownSl (H.get (k := 0) rfl))) rfl rfl rfl rfl <| .cons (cs := [I 1]) rfl rfl rfl rfl rfl <| .cons (cs := [I 1]) rfl rfl rfl rfl rfl <| .nil)) ?_
 obtain ⟨aq, H⟩ := H.emptyE
 obtain ⟨au, H, aO⟩ := H.freezeE (k := 4) rfl
 replace H : St w av [cRo aq, cOwn (α := Int) 3 ab ([(4 : Int)]), cOwn (α := Int) 3 ac ([(2 : Int), (3 : Int)]), cOwn (α := Int) 3 ag ([(1 : Int)]), cRo au] R := H
 have aa := aO
 obtain ⟨aw, H, a8, aP⟩ := H.joinE (i := 0) (j := 4) rfl rfl
 replace aa := aa.mono aP
 obtain ⟨ax, H, aQ⟩ := H.freezeE (k := 4) rfl
 replace H : St w av [cRo aw, cRo aq, cOwn (α := Int) 3 ab ([(4 : Int)]), cOwn (α := Int) 3 ac ([(2 : Int), (3 : Int)]), cRo ax, cRo au] R := H
 have ae := aQ
 obtain ⟨az, H, aR, aS⟩ := H.joinE (i := 0) (j := 4) rfl rfl
 replace aa := aa.mono aR
 replace ae := ae.mono aS
 obtain ⟨aA, H, aT⟩ := H.freezeE (k := 4) rfl
 replace H : St w av [cRo az, cRo aw, cRo aq, cOwn (α := Int) 3 ab ([(4 : Int)]), cRo aA, cRo ax, cRo au] R := H
 have ai := aT
 obtain ⟨aF, H, aG, aU⟩ := H.joinE (i := 0) (j := 4) rfl rfl
 replace aa := aa.mono aG
 replace ae := ae.mono aG
 replace ai := ai.mono aU
 obtain ⟨aH, H, aV⟩ := H.freezeE (k := 4) rfl
 replace H : St w av [cRo aF, cRo az, cRo aw, cRo aq, cRo aH, cRo aA, cRo ax, cRo au] R := H
 have ay := aV
 obtain ⟨aB, H, aC, aW⟩ := H.joinE (i := 0) (j := 4) rfl rfl
 replace aa := aa.mono aC
 replace ae := ae.mono aC
 replace ai := ai.mono aC
 replace ay := ay.mono aW
 obtain ⟨aj, aI⟩ : ∃ r : Raw 2, r.cs = [.slice none 0 0, I 1, I 5] := ⟨Raw.of [.slice none 0 0, I 1, I 5] rfl rfl, rfl⟩
 obtain ⟨ak, aJ⟩ : ∃ r : Raw 2, r.cs = [.slice none 0 0, I 1, I 6] := ⟨Raw.of [.slice none 0 0, I 1, I 6] rfl rfl, rfl⟩
 obtain ⟨al, aK⟩ : ∃ r : Raw 2, r.cs = [ah, I 1, I 10] := ⟨Raw.of [ah, I 1, I 10] rfl (by simp only [List.all_cons, List.all_nil, Bool.true_and, Bool.and_true, Sl.oc aa]; try rfl), rfl⟩
 obtain ⟨am, aL⟩ : ∃ r : Raw 2, r.cs = [ag, I 1, I 30] := ⟨Raw.of [ag, I 1, I 30] rfl (by simp only [List.all_cons, List.all_nil, Bool.true_and, Bool.and_true, Sl.oc ae]; try rfl), rfl⟩
 obtain ⟨ao, aM⟩ : ∃ r : Raw 2, r.cs = [ac, I 1, I 20] := ⟨Raw.of [ac, I 1, I 20] rfl (by simp only [List.all_cons, List.all_nil, Bool.true_and, Bool.and_true, Sl.oc ai]; try rfl), rfl⟩
 obtain ⟨ap, aN⟩ : ∃ r : Raw 2, r.cs = [ab, I 1, I 1] := ⟨Raw.of [ab, I 1, I 1] rfl (by simp only [List.all_cons, List.all_nil, Bool.true_and, Bool.and_true, Sl.oc ay]; try rfl), rfl⟩
 have aX : RepR (α := Work) aB.cells [aj, ak, al, am, ao, ap] [(⟨([]), (1 : Int), (5 : Int)⟩ : Work), (⟨([]), (1 : Int), (6 : Int)⟩ : Work), (⟨([(0 : Int), (1 : Int)]), (1 : Int), (10 : Int)⟩ : Work), (⟨([(1 : Int)]), (1 : Int), (30 : Int)⟩ : Work), (⟨([(2 : Int), (3 : Int)]), (1 : Int), (20 : Int)⟩ : Work), (⟨([(4 : Int)]), (1 : Int), (1 : Int)⟩ : Work)] := .cons (by rw [aI]; exact ⟨_, rfl, (Sl.nil _)⟩) <| .cons (by rw [aJ]; exact ⟨_, rfl, (Sl.nil _)⟩) <| .cons (by rw [aK]; exact ⟨_, rfl, aa⟩) <| .cons (by rw [aL]; exact ⟨_, rfl, ae⟩) <| .cons (by rw [aM]; exact ⟨_, rfl, ai⟩) <| .cons (by rw [aN]; exact ⟨_, rfl, ay⟩) <| .nil
 refine t_bs (α := Raw 2) T22 [.agg #[.slice none 0 0, I 1, I 5], .agg #[.slice none 0 0, I 1, I 6], .agg #[ah, I 1, I 10], .agg #[ag, I 1, I 30], .agg #[ac, I 1, I 20], .agg #[ab, I 1, I 1]] [aj, ak, al, am, ao, ap] H rfl (.cons (by rw [show (Flat.enc aj : List Value) = aj.cs from rfl, aI]; rfl) (Flat.rep_enc _ _) <| .cons (by rw [show (Flat.enc ak : List Value) = ak.cs from rfl, aJ]; rfl) (Flat.rep_enc _ _) <| .cons (by rw [show (Flat.enc al : List Value) = al.cs from rfl, aK]; rfl) (Flat.rep_enc _ _) <| .cons (by rw [show (Flat.enc am : List Value) = am.cs from rfl, aL]; rfl) (Flat.rep_enc _ _) <| .cons (by rw [show (Flat.enc ao : List Value) = ao.cs from rfl, aM]; rfl) (Flat.rep_enc _ _) <| .cons (by rw [show (Flat.enc ap : List Value) = ap.cs from rfl, aN]; rfl) (Flat.rep_enc _ _) <| .nil) rfl rfl rfl ?_
 intro aD aY H
 replace H : St w aY [cOwn (α := Raw 2) 60 aD ([aj, ak, al, am, ao, ap]), cRo aB, cRo aF, cRo az, cRo aw, cRo aq, cRo aH, cRo aA, cRo ax, cRo au] R := H
 refine sA aD rfl <| s_nil ?_
 refine W.ret ?_
 have aZ := M.e_pure hM
 exact ⟨_, resE_tmp rfl, ⟨([(⟨([]), (1 : Int), (5 : Int)⟩ : Work), (⟨([]), (1 : Int), (6 : Int)⟩ : Work), (⟨([(0 : Int), (1 : Int)]), (1 : Int), (10 : Int)⟩ : Work), (⟨([(1 : Int)]), (1 : Int), (30 : Int)⟩ : Work), (⟨([(2 : Int), (3 : Int)]), (1 : Int), (20 : Int)⟩ : Work), (⟨([(4 : Int)]), (1 : Int), (1 : Int)⟩ : Work)]), aD, [aj, ak, al, am, ao, ap], aB, aZ, rfl, (H.pick [0, 1] (by decide) rfl), aX⟩⟩

def zbd (aa : List Work) (one : Int) : M Int :=
  M.pure one
theorem zbM {R : List Chunk} {aa : Nat} {ae : Cells} {ag : Value} (ah : List Work) (one : Int) (aj : Reads R ae) (ak : Sl ae ag ah) (al : Has R (cBlk aa [ag] 187)) {r : Int} (hM : (zbd ah one).Ends r) (w : World) (H : St w w [] R) : Ret Try.prog 98 #[Pz aa, I one] w fun v w' => ∃ (y0 : Int) (nb0 : Nat) (nb1 : Nat), y0 = r /\ v = .func (.func 148) #[] #[Pz nb0, Pz nb1] /\ St w w' [cBlk nb0 [Pz aa] 127, cBlk nb1 [I y0] 3] R := by
 refine ret_of_W Try.func98 rfl rfl rfl ?_
 refine sQ rfl ?_
 refine t_box (v := Pz aa) (cs := [Pz aa]) H rfl rfl ?_
 intro ab am H
 refine t_box (v := I one) (cs := [I one]) H rfl rfl ?_
 intro ac ao H
 refine sA .nilFunc rfl <| s_nil <| sQ rfl <| s_val (x_mf (fs := []) (cs := [Pz ab, Pz ac]) rfl rfl) <| sA (.func (.func 148) #[] #[Pz ab, Pz ac]) rfl <| s_nil ?_
 refine W.ret ?_
 have ai := M.e_pure hM
 exact ⟨_, resE_tmp rfl, ⟨one, ab, ac, ai, rfl, (H.pick [1, 0] (by decide) rfl)⟩⟩

def zaj (s : List Int) (f : Int -> M Bool) : Nat -> M (Nat ⊕ (Int ⊕ Unit)) := fun s2 =>
  bif decide ((s2 : Int) < (s.length : Int)) then (
  M.grd (decide ((s2 : Int) < (s.length : Int))) <|
  M.bind (f (s.getD s2 0)) fun r2 =>
  bif r2 then (
  M.pure (.inr (.inl (s2 : Int))))
  else (
  M.pure (.inl (s2 + 1))))
  else (
  M.pure (.inr (.inr ())))
def zau (s : List Int) (f : Int -> M Bool) : M Int :=
  M.bind (M.iter (zaj s f) 0) fun x_ => match x_ with
  | (.inl s3) => (
  M.pure s3)
  | (.inr (_ : Unit)) => (
  M.pure (-1))
theorem zbY {R : List Chunk} {ak : Cells} {aa : Value} {ac : Value} (s : List Int) (f : Int -> M Bool) (ao : Reads R ak) (ae : Sl ak aa s) (ap : FnM Try.prog R ac f) {r : Int} (hM : (zau s f).Ends r) (w : World) (H : St w w [] R) : Ret Try.prog 102 #[aa, ac] w fun v w' => ∃ (y0 : Int), y0 = r /\ v = I y0 /\ St w w' [] R := by
 refine ret_of_W Try.func102 rfl rfl rfl ?_
 refine sQ rfl <| sA (I 0) rfl <| s_nil <| W.seq <| sQ rfl <| sM aa rfl ?_
 have az := (ae).len_le
 refine s_val (x_lenS T34.und rfl ae) <| sM (I 0) rfl <| s_nil <| W.block ?_
 obtain ⟨aq, ag, al⟩ := M.e_bind hM
 obtain ⟨aA, ag⟩ := M.e_iter ag
 refine W.loop (fun m σ W => ∃ (s2 : Nat) (ρ : Env), σ = upds ρ [(0, aa), (1, ac), (7, I (s.length : Int)), (8, I (s2 : Int))] /\ M.iterN (zaj s f) m s2 = some aq /\ St w W [] R) ?_ ?_
 ·exact ⟨_, 0, _, upds_of _ _ ⟨rfl, rfl, rfl, rfl, trivial⟩, ag, H⟩
 rintro aB σ aC ⟨s2, ρ, rfl, am, H⟩
 obtain ⟨au, av, aD, hM, ah⟩ := M.e_iterN am
 simp only [zaj] at hM
 clear am
 refine sQ rfl <| sC (s2 : Int) (s.length : Int) (decide ((s2 : Int) < (s.length : Int))) rfl rfl rfl <| s_nil <| W.seq ?_
 refine W.cond (decide ((s2 : Int) < (s.length : Int))) rfl (fun ab => ?_) (fun ab => ?_)
 ·replace hM := M.e_t hM ab
  simp only [qz1, qz2, qz3, qz4, qz5, qz6, ne_eq, qz7] at ab
  refine W.skip <| W.seq <| W.block <| sQ rfl <| sM (I (s2 : Int)) rfl <| sA (I (s2 : Int)) rfl <| s_nil <| sQ rfl <| sM ac rfl <| sM aa rfl ?_
  refine sM (I (s2 : Int)) rfl ?_
  obtain ⟨aE, hM⟩ := M.e_gd hM
  refine s_val (x_ix (a := aa) (b := I (s2 : Int)) (v := vat aa 1 (Int.toNat (s2 : Int))) rfl rfl (Sl.ix (α := Int) T34.und T34.size ae (by omega) (by omega))) <| s_val (x_ld (p := vat aa 1 (Int.toNat (s2 : Int))) (v := I (s.getD s2 0)) rfl (ld_sc Sc3 (At.mono (Int_at ae (i := (s2 : Int)) (by omega) (by omega)) (ao.at H)))) ?_
  obtain ⟨r2, aw, hM⟩ := M.e_bind hM
  refine t_callM H ap rfl rfl (s.getD s2 0) Reads.none (Arg.mkI (fun _ => none) _) aw ?_
  intro aF H
  refine s_nil ?_
  refine W.cond r2 rfl (fun ai => ?_) (fun ai => ?_)
  ·replace hM := M.e_t hM ai
   refine sQ rfl <| sM (I (s2 : Int)) rfl <| sA (I (s2 : Int)) rfl <| s_nil ?_
   refine W.ret ?_
   have ax := M.e_inr hM ah
   subst ax
   replace hM := al
   try dsimp only at hM
   have aj := M.e_pure hM
   exact ⟨_, resE_tmp rfl, ⟨(s2 : Int), aj, rfl, H⟩⟩
  replace hM := M.e_f hM ai
  refine W.skip <| W.region rfl <| sR (s2 : Int) 1 ((s2 : Int) + 1) rfl rfl rfl (by omega) <| sM (I ((s2 : Int) + 1)) rfl <| s_nil ?_
  exact ⟨au, av, s2 + 1, _, upds_of _ _ ⟨rfl, rfl, rfl, rfl, trivial⟩, M.e_inl hM ah, H⟩
 replace hM := M.e_f hM ab
 simp only [qz1, qz2, qz3, qz4, qz5, qz6, ne_eq, qz7] at ab
 refine W.exit ?_
 have ay := M.e_inr hM ah
 subst ay
 replace hM := al
 try dsimp only at hM
 refine sQ rfl <| sA (I (-1)) rfl <| s_nil ?_
 refine W.ret ?_
 have aj := M.e_pure hM
 exact ⟨_, resE_tmp rfl, ⟨(-1), aj, rfl, H⟩⟩

def zaf (s : List Int) (f : Int -> M Bool) : M Bool :=
  M.bind (zau s f) fun r2 =>
  M.pure (decide (0 <= r2))
theorem zar {R : List Chunk} {ac : Cells} {aa : Value} {ab : Value} (s : List Int) (f : Int -> M Bool) (ag : Reads R ac) (ah : Sl ac aa s) (ai : FnM Try.prog R ab f) {r : Bool} (hM : (zaf s f).Ends r) (w : World) (H : St w w [] R) : Ret Try.prog 48 #[aa, ab] w fun v w' => ∃ (y0 : Bool), y0 = r /\ v = B y0 /\ St w w' [] R := by
 refine ret_of_W Try.func48 rfl rfl rfl ?_
 refine sQ rfl <| sA (B false) rfl <| s_nil <| sQ rfl <| sM aa rfl <| sM ab rfl ?_
 obtain ⟨ao, aj, hM⟩ := M.e_bind hM
 refine s_call cf102 [aa, ab] rfl (zbY s f (ag.app _) ah (ai.app _) aj _ (St.give (T := []) H rfl)) ?_
 rintro vq ak ⟨r2, al, hvq, ae⟩
 subst al
 subst vq
 try dsimp only at hM
 replace H : St w ak [] R := H.back ae rfl
 clear ae
 refine sC r2 0 (decide (0 <= r2)) rfl rfl rfl <| sA (B (decide (0 <= r2))) rfl <| s_nil ?_
 refine W.ret ?_
 have am := M.e_pure hM
 exact ⟨_, resE_tmp rfl, ⟨(decide (0 <= r2)), am, rfl, H⟩⟩

def zaz (x : Int) (aa : Int -> M Bool) : M Bool :=
  M.bind (aa x) fun r2 =>
  M.pure (!r2)
theorem zcb {R : List Chunk} {aa : Nat} {ab : Value} (x : Int) (ac : Int -> M Bool) (ae : FnM Try.prog R ab ac) (ag : Has R (cBlk aa [ab] 75)) {r : Bool} (hM : (zaz x ac).Ends r) (w : World) (H : St w w [] R) : Ret Try.prog 143 #[I x, Pz aa] w fun v w' => ∃ (y0 : Bool), y0 = r /\ v = B y0 /\ St w w' [] R := by
 refine ret_of_W Try.func143 rfl rfl rfl ?_
 refine sQ rfl <| sA (B false) rfl <| s_nil <| sQ rfl <| s_val (x_ld (p := Pz aa) (v := ab) rfl (ldb_sc Sc75 (ag.blk H) rfl)) <| sM (I x) rfl ?_
 obtain ⟨r2, ah, hM⟩ := M.e_bind hM
 refine t_callM H ae rfl rfl x Reads.none (Arg.mkI (fun _ => none) _) ah ?_
 intro aj H
 refine s_val (x_not (b := r2) rfl) <| sA (B (!r2)) rfl <| s_nil ?_
 refine W.ret ?_
 have ai := M.e_pure hM
 exact ⟨_, resE_tmp rfl, ⟨(!r2), ai, rfl, H⟩⟩

def zaG (so : Int -> M Bool) (l : List Int) : M Bool :=
  M.bind (zaf l (fun aa => zaz aa so)) fun r2 =>
  M.pure (!r2)
theorem zbi {R : List Chunk} {aa : Value} {ag : Cells} {ac : Value} (so : Int -> M Bool) (l : List Int) (ah : FnM Try.prog R aa so) (ak : Reads R ag) (al : Sl ag ac l) {r : Bool} (hM : (zaG so l).Ends r) (w : World) (H : St w w [] R) : Ret Try.prog 87 #[aa, ac] w fun v w' => ∃ (y0 : Bool), y0 = r /\ v = B y0 /\ St w w' [] R := by
 refine ret_of_W Try.func87 rfl rfl rfl ?_
 refine sQ rfl ?_
 refine t_box (v := aa) (cs := [aa]) H rfl (FnM.cells ah) ?_
 intro ab aB H
 refine sA (B false) rfl <| s_nil <| sQ rfl <| sM ac rfl <| s_val (x_mf (fs := []) (cs := [Pz ab]) rfl rfl) ?_
 obtain ⟨aC, am, hM⟩ := M.e_bind hM
 refine s_call cf48 [ac, .func (.func 143) #[] #[Pz ab]] rfl (zar l (fun ae => zaz ae so) (ak.app _) al ⟨143, [Pz ab], rfl, cf143, fun ai aD aE ao ae aF ap aG aq au => by obtain rfl := Arg.int aq; exact (zcb ae so (FnM.app (ah.app _) _) (Has.app (Has.here (k := 0) rfl) _) au ai (St.refl ap)).mono fun ao ai ⟨aH, av, aw, ax⟩ => by subst av; exact ⟨aw, ax⟩⟩ am _ (St.give (T := [cBlk ab [aa] 75]) H rfl)) ?_
 rintro vq ay ⟨r2, az, hvq, aj⟩
 subst az
 subst vq
 try dsimp only at hM
 replace H : St w ay [cBlk ab [aa] 75] R := H.back aj rfl
 clear aj
 refine s_val (x_not (b := r2) rfl) <| sA (B (!r2)) rfl <| s_nil ?_
 refine W.ret ?_
 have aA := M.e_pure hM
 exact ⟨_, resE_tmp rfl, ⟨(!r2), aA, rfl, (H.pick [] (by decide) rfl)⟩⟩

def zak (i : Int) (aa : List Int) : M Bool :=
  M.pure (aa.contains i)
theorem zbe {R : List Chunk} {ac : Nat} {ae : Cells} {aa : Value} (i : Int) (ab : List Int) (ah : Reads R ae) (ai : Sl ae aa ab) (aj : Has R (cBlk ac [aa] 34)) {r : Bool} (hM : (zak i ab).Ends r) (w : World) (H : St w w [] R) : Ret Try.prog 97 #[I i, Pz ac] w fun v w' => ∃ (y0 : Bool), y0 = r /\ v = B y0 /\ St w w' [] R := by
 refine ret_of_W Try.func97 rfl rfl rfl ?_
 refine sQ rfl <| sA (B false) rfl <| s_nil <| sQ rfl <| s_val (x_ld (p := Pz ac) (v := aa) rfl (ldb_sc Sc34 (aj.blk H) rfl)) <| sM (I i) rfl ?_
 refine s_call cf45 [aa, I i] rfl (contains_int i _ (ai.mono (ah.at H))) ?_
 rintro _ ak ⟨rfl, ag⟩
 replace H : St w ak [] R := H.ext ag
 clear ag
 refine sA (B (ab.contains i)) rfl <| s_nil ?_
 refine W.ret ?_
 have al := M.e_pure hM
 exact ⟨_, resE_tmp rfl, ⟨(ab.contains i), al, rfl, H⟩⟩

def zaB (aa : List Work) (work : Int) (other : Int) : M Bool :=
  M.grd (decide ((0 : Int) <= work) && decide (work < (aa.length : Int))) <|
  M.pure (((aa.getD (Int.toNat work) default).of).contains other)
theorem zbp {R : List Chunk} {aa : Nat} {ai : Cells} {ab : Value} (ac : List Work) (work : Int) (other : Int) (aj : Reads R ai) (ag : Sl ai ab ac) (al : Has R (cBlk aa [ab] 187)) {r : Bool} (hM : (zaB ac work other).Ends r) (w : World) (H : St w w [] R) : Ret Try.prog 149 #[Pz aa, I work, I other] w fun v w' => ∃ (y0 : Bool), y0 = r /\ v = B y0 /\ St w w' [] R := by
 refine ret_of_W Try.func149 rfl rfl rfl ?_
 refine sQ rfl <| sA (B false) rfl <| s_nil <| sQ rfl <| sM (Pz aa) rfl <| s_val (x_nc (a := ⟨aa, 0, none⟩) rfl) <| s_val (x_fa (a := Pz aa) (v := Pz aa) rfl (fa_blk (o := 0) Fd187_0 Sz185)) <| s_val (x_fa (a := Pz aa) (v := Pz aa) rfl (fa_blk (o := 0) Fd185_0 Sz22)) <| s_val (x_ld (p := Pz aa) (v := ab) rfl (ldb_sc Sc22 (al.blk H) rfl)) <| sM (I work) rfl ?_
 obtain ⟨aq, hM⟩ := M.e_gd hM
 refine s_val (x_ix (a := ab) (b := I work) (v := vat ab 3 (Int.toNat work)) rfl rfl (Sl.ix (α := Work) T22.und T22.size ag (by omega) (by omega))) <| s_val (x_fa (a := vat ab 3 (Int.toNat work)) (v := fat (vat ab 3 (Int.toNat work)) 0) rfl (fa_pl Fd60_0 Sz34 (Sl.pl (i := work) ag (by omega) (by omega)))) ?_
 obtain ⟨ah, am, ae⟩ := Work_at0 ag (i := work) (by omega) (by omega)
 replace ae : Sl _ ah (ac.getD (Int.toNat work) default).of := ae
 have au := ae.len_le
 refine s_val (x_ld (p := fat (vat ab 3 (Int.toNat work)) 0) (v := ah) rfl (ld_sc Sc34 (At.mono (am) (aj.at H)))) <| sM (I other) rfl ?_
 refine s_call cf45 [ah, I other] rfl (contains_int other _ (ae.mono (aj.at H))) ?_
 rintro _ ao ⟨rfl, ak⟩
 replace H : St w ao [] R := H.ext ak
 clear ak
 refine sA (B (((ac.getD (Int.toNat work) default).of).contains other)) rfl <| s_nil ?_
 refine W.ret ?_
 have ap := M.e_pure hM
 exact ⟨_, resE_tmp rfl, ⟨(((ac.getD (Int.toNat work) default).of).contains other), ap, rfl, H⟩⟩

def zaN {T_ : Type} (ab : T_ -> Int -> M (Bool × T_)) (aa : List Work) (ac : Int) : (Nat × T_) -> M ((Nat × T_) ⊕ (T_ ⊕ T_)) := fun (s, t2) =>
  bif decide ((s : Int) < (aa.length : Int)) then (
  M.bind (zaB aa (s : Int) ac) fun r2 =>
  bif r2 then (
  M.bind (ab t2 (s : Int)) fun (go6, t9) =>
  bif (r2 && (!go6)) then (
  M.pure (.inr (.inl t9)))
  else (
  M.pure (.inl (s + 1, t9))))
  else (
  bif (r2 && (!false)) then (
  M.pure (.inr (.inl t2)))
  else (
  M.pure (.inl (s + 1, t2)))))
  else (
  M.pure (.inr (.inr t2)))
def zam {T_ : Type} (aa : T_ -> Int -> M (Bool × T_)) (t_ : T_) (ab : List Work) (ac : Int) : M T_ :=
  M.bind (M.iter (zaN aa ab ac) (0, t_)) fun x_ => match x_ with
  | (.inl t6) => (
  M.pure t6)
  | (.inr t7) => (
  M.pure t7)
theorem zbL {R : List Chunk} {T_ : Type} {Y_ : T_ -> List Chunk -> Prop} {ae : Value} {am : List Chunk} {ag : Nat} {aa : Nat} {az : Cells} {ao : Value} {al : Nat} (ap : T_ -> Int -> M (Bool × T_)) (t_ : T_) (ab : List Work) (ac : Int) (aI : YieldC Try.prog R arI Y_ ae ap) (aJ : Y_ t_ am) (aK : Reads R az) (aq : Sl az ao ab) (aA : Has R (cBlk aa [ao] 187)) (aB : Has R (cBlk ag [Pz aa] 127)) (aL : Has R (cBlk al [I ac] 3)) {r : T_} (hM : (zam ap t_ ab ac).Ends r) (w : World) (H : St w w [cAll am] R) : Ret Try.prog 148 #[ae, Pz ag, Pz al] w fun v w' => ∃ (y0 : T_) (Ls0 : List Chunk), y0 = r /\ v = .tuple #[] /\ St w w' [cAll Ls0] R /\ Y_ y0 Ls0 := by
 refine ret_of_W Try.func148 rfl rfl rfl ?_
 refine sQ rfl <| s_val (x_ld (p := Pz ag) (v := Pz aa) rfl (ldb_sc Sc127 (aB.blk H) rfl)) <| s_val (x_nc (a := ⟨aa, 0, none⟩) rfl) <| s_val (x_fa (a := Pz aa) (v := Pz aa) rfl (fa_blk (o := 0) Fd187_0 Sz185)) <| s_val (x_fa (a := Pz aa) (v := Pz aa) rfl (fa_blk (o := 0) Fd185_0 Sz22)) <| s_val (x_ld (p := Pz aa) (v := ao) rfl (ldb_sc Sc22 (aA.blk H) rfl)) ?_
 have aV := (aq).len_le
 refine s_val (x_lenS T22.und rfl aq) <| sM (I 0) rfl <| s_nil <| W.block ?_
 obtain ⟨aM, au, av⟩ := M.e_bind hM
 obtain ⟨aW, au⟩ := M.e_iter au
 refine W.loop (fun m σ W => ∃ (s : Nat) (t2 : T_) (Ls_t2 : List Chunk) (ρ : Env), σ = upds ρ [(0, ae), (1, Pz ag), (2, Pz al), (10, I (ab.length : Int)), (11, I (s : Int))] /\ M.iterN (zaN ap ab ac) m (s, t2) = some aM /\ St w W [cAll Ls_t2] R /\ Y_ t2 Ls_t2) ?_ ?_
 ·exact ⟨_, 0, t_, am, _, upds_of _ _ ⟨rfl, rfl, rfl, rfl, rfl, trivial⟩, au, H, aJ⟩
 rintro aX σ aY ⟨s, t2, Ls_t2, ρ, rfl, aC, H, hY_t2⟩
 obtain ⟨aD, aE, aZ, hM, ah⟩ := M.e_iterN aC
 simp only [zaN] at hM
 clear aC
 refine sQ rfl <| sC (s : Int) (ab.length : Int) (decide ((s : Int) < (ab.length : Int))) rfl rfl rfl <| s_nil <| W.seq ?_
 refine W.cond (decide ((s : Int) < (ab.length : Int))) rfl (fun ai => ?_) (fun ai => ?_)
 ·replace hM := M.e_t hM ai
  simp only [qz1, qz2, qz3, qz4, qz5, qz6, ne_eq, qz7] at ai
  refine W.skip <| W.seq <| W.block <| sQ rfl <| sM (I (s : Int)) rfl <| sA (I (s : Int)) rfl <| s_nil <| sQ rfl <| s_val (x_ld (p := Pz ag) (v := Pz aa) rfl (ldb_sc Sc127 (aB.blk H) rfl)) <| sM (I (s : Int)) rfl ?_
  refine s_val (x_ld (p := Pz al) (v := I ac) rfl (ldb_sc Sc3 (aL.blk H) rfl)) ?_
  obtain ⟨a5, aN, hM⟩ := M.e_bind hM
  refine s_call cf149 [Pz aa, I (s : Int), I ac] rfl (zbp ab (s : Int) ac (aK.app _) aq (aA.app _) aN _ (St.give (T := [cAll Ls_t2]) H rfl)) ?_
  rintro vq aO ⟨r2, aP, hvq, aF⟩
  subst aP
  subst vq
  try dsimp only at hM
  replace H : St w aO [cAll Ls_t2] R := H.back aF rfl
  clear aF
  refine sM (B r2) rfl <| g_val r2 (gy_t rfl) (fun hg => x_mv (v := ae) rfl) <| g_val r2 (gy_t rfl) (fun hg => x_mv (v := I (s : Int)) rfl) ?_
  refine g_splitV r2 (B false) (gy_t rfl) (fun aj => ?_) (fun aj => ?_)
  ·replace hM := M.e_t hM aj
   obtain ⟨⟨go7, aG⟩, aQ, hM⟩ := M.e_bind hM
   try dsimp only at hM
   refine t_yield (L := []) H aI hY_t2 (by exact (gd_of (c := r2) aj (ae))) [I (s : Int)] (lst1 (gd_of (c := r2) aj (I (s : Int)))) (s : Int) Reads.none rfl aQ ?_
   intro aw aR aH H
   replace H : St w aR [cAll aw] R := H
   refine g_val r2 (gy_t rfl) (fun hg => x_not (b := go7) rfl) <| s_val (x_pand (b := r2) (r := !go7) rfl (fun hb => gd_of (c := r2) (by first | exact hb | (rw [hb]; rfl) | simp_all) (B (!go7))) rfl) <| s_nil ?_
   refine W.cond (r2 && (!go7)) rfl (fun ax => ?_) (fun ax => ?_)
   ·replace hM := M.e_t hM ax
    refine W.ret ?_
    have aS := M.e_inr hM ah
    subst aS
    replace hM := av
    try dsimp only at hM
    have ak := M.e_pure hM
    exact ⟨_, resE_tmp0 rfl, ⟨aG, aw, ak, rfl, H, aH⟩⟩
   replace hM := M.e_f hM ax
   refine W.skip <| W.region rfl <| sR (s : Int) 1 ((s : Int) + 1) rfl rfl rfl (by omega) <| sM (I ((s : Int) + 1)) rfl <| s_nil ?_
   exact ⟨aD, aE, s + 1, aG, aw, _, upds_of _ _ ⟨rfl, rfl, rfl, rfl, rfl, trivial⟩, M.e_inl hM ah, H, aH⟩
  replace hM := M.e_f hM aj
  refine g_val r2 (gy_t rfl) (fun hg => x_not (b := false) (gd_of (c := r2) hg (B false))) <| s_val (x_pand (b := r2) (r := !false) rfl (fun hb => gd_of (c := r2) (by first | exact hb | (rw [hb]; rfl) | simp_all) (B (!false))) rfl) <| s_nil ?_
  refine W.cond (r2 && (!false)) rfl (fun ay => ?_) (fun ay => ?_)
  ·replace hM := M.e_t hM ay
   refine W.ret ?_
   have aT := M.e_inr hM ah
   subst aT
   replace hM := av
   try dsimp only at hM
   have ak := M.e_pure hM
   exact ⟨_, resE_tmp0 rfl, ⟨t2, Ls_t2, ak, rfl, H, hY_t2⟩⟩
  replace hM := M.e_f hM ay
  refine W.skip <| W.region rfl <| sR (s : Int) 1 ((s : Int) + 1) rfl rfl rfl (by omega) <| sM (I ((s : Int) + 1)) rfl <| s_nil ?_
  exact ⟨aD, aE, s + 1, t2, Ls_t2, _, upds_of _ _ ⟨rfl, rfl, rfl, rfl, rfl, trivial⟩, M.e_inl hM ah, H, hY_t2⟩
 replace hM := M.e_f hM ai
 simp only [qz1, qz2, qz3, qz4, qz5, qz6, ne_eq, qz7] at ai
 refine W.exit ?_
 have aU := M.e_inr hM ah
 subst aU
 replace hM := av
 try dsimp only at hM
 have ak := M.e_pure hM
 exact ⟨_, resE_tmp0 rfl, ⟨t2, Ls_t2, ak, rfl, H, hY_t2⟩⟩
theorem zbV {T_ : Type} {n_ : Nat} {y y' : T_ -> Int -> M (Bool × T_)} (h : ∀ s a, M.LeN n_ (y s a) (y' s a)) (t_ : T_) (aa : List Work) (ab : Int) : M.LeN n_ (zam y t_ aa ab) (zam y' t_ aa ab) := by
  simp only [zam, zaN]
  repeat' (first | exact M.le_same _ _ | exact h _ _ | refine M.le_grd ?_ | refine M.le_if ?_ ?_ | refine M.le_bind ?_ (fun x => ?_) | refine M.le_opt ?_ | refine M.le_iter (fun x => ?_) _ | (rename_i x; cases x) | (rename_i x; obtain ⟨_, _⟩ := x))

def zbs (fence : List Int) : Nat -> M (Nat ⊕ Unit) := fun s =>
  bif decide ((s : Int) < (fence.length : Int)) then (
  M.grd (decide ((s : Int) < (fence.length : Int))) <|
  M.fail)
  else (
  M.pure (.inr ()))
def zbD (fence : List Int) : Nat -> M (Nat ⊕ Unit) := fun s =>
  bif decide ((s : Int) < (fence.length : Int)) then (
  M.grd (decide ((s : Int) < (fence.length : Int))) <|
  M.fail)
  else (
  M.pure (.inr ()))
def zaE (fence : List Int) : Unit -> Int -> M (Unit ⊕ Unit) := fun (_ : Unit) x =>
  M.bind (zak x fence) fun r3 =>
  bif !r3 then (
  M.pure (.inr ()))
  else (
  M.pure (.inl ()))
def zbF (w_ : List Work) (fence : List Int) : Nat -> M (Nat ⊕ (Unit ⊕ Unit)) := fun s =>
  bif decide ((s : Int) < (fence.length : Int)) then (
  M.grd (decide ((s : Int) < (fence.length : Int))) <|
  M.bind (zbd w_ (fence.getD s 0)) fun aa =>
  M.bind (zam (M.yl (zaE fence)) (.inl ()) w_ aa) fun x_ => match x_ with
  | .inl _ => (
  M.pure (.inl (s + 1)))
  | .inr _ => (
  M.pure (.inr (.inl ()))))
  else (
  M.pure (.inr (.inr ())))
def zbf (w_ : List Work) (revised : List Int) (fence : List Int) : M (Bool × Int) :=
  bif (askedE w_ revised == 0) then (
  bif (0 : Int) == 0 then (bif (listedE w_.length fence) != 0 then (
  M.pure (false, (listedE w_.length fence)))
  else (
  M.bind (M.iter (zbF w_ fence) 0) fun x_ => match x_ with
  | (.inl (_ : Unit)) => (
  M.pure (false, 0))
  | (.inr (_ : Unit)) => (
  M.bind (zaG (fun aa => zak aa fence) revised) fun r2 =>
  M.pure (r2, 0)))) else (M.fail))
  else (
  bif (askedE w_ revised) == 0 then (
  bif (listedE w_.length fence) != 0 then (
  M.pure (false, (listedE w_.length fence)))
  else (
  M.bind (M.iter (zbs fence) 0) fun (_ : Unit) =>
  M.bind (zaG (fun aa => zak aa fence) revised) fun r2 =>
  M.pure (r2, 0)))
  else (
  bif (askedE w_ revised) != 0 then (
  M.pure (false, (askedE w_ revised)))
  else (
  M.bind (M.iter (zbD fence) 0) fun (_ : Unit) =>
  M.bind (zaG (fun aa => zak aa fence) revised) fun r2 =>
  M.pure (r2, 0))))
theorem zbW {R : List Chunk} {bj : Cells} {az : Value} {bk : Cells} {au : Value} {bl : Cells} {ab : Value} (w_ : List Work) (revised : List Int) (fence : List Int) (aD : Reads R bj) (aF : Sl bj az w_) (aG : Reads R bk) (aJ : Sl bk au revised) (aw : Reads R bl) (ak : Sl bl ab fence) {r : (Bool × Int)} (hM : (zbf w_ revised fence).Ends r) (w : World) (H : St w w [] R) : Ret Try.prog 34 #[az, au, ab] w fun v w' => ∃ (y0 : Bool) (y1 : Int), (y0, y1) = r /\ v = .tuple #[B y0, I y1] /\ St w w' [] R := by
 refine ret_of_WD Try.func34 rfl rfl rfl ?_
 replace H : St w w [cMk ([])] R := H.mk0
 have cI := aF.len_le
 have cJ := aJ.len_le
 have cK := ak.len_le
 unfold zbf at hM
 refine WD.seq ?_
 refine WD.of ?_
 refine W.region rfl ?_
 refine t_box (v := ab) (cs := [ab]) H rfl (Sl.cells ak) ?_
 intro aa cL H
 refine t_alloc (cs := [B false]) H Al4 rfl ?_
 intro ac cM H
 refine t_alloc (cs := [I 0]) H Al35 rfl ?_
 intro ae cN H
 refine s_nil ?_
 refine WD.seq ?_
 refine WD.of ?_
 refine W.region rfl <| sM az rfl <| sM au rfl ?_
 refine s_call cf92 [az, au] rfl (asked_any _ (aF.mono (aD.at H)) (aJ.mono (aG.at H))) ?_
 rintro _ bm (⟨a5, rfl, aA⟩ | ⟨a5, aj, aE, rfl, bn, a6⟩)
 ·replace hM := M.e_f hM (by simpa using a5)
  replace H : St w bm [cBlk ae [I 0] 35, cBlk ac [B false] 4, cBlk aa [ab] 34, cMk ([])] R := H.ext aA
  clear aA
  refine sM (.tuple #[.pointer none, .slice none 0 0, .agg (encB (List.replicate 30 false)).toArray, I (askedE w_ revised)]) rfl <| sX [.pointer none, .slice none 0 0, .agg (encB (List.replicate 30 false)).toArray, I (askedE w_ revised)] (.pointer none) rfl rfl <| sX [.pointer none, .slice none 0 0, .agg (encB (List.replicate 30 false)).toArray, I (askedE w_ revised)] (.slice none 0 0) rfl rfl <| sX [.pointer none, .slice none 0 0, .agg (encB (List.replicate 30 false)).toArray, I (askedE w_ revised)] (.agg (encB (List.replicate 30 false)).toArray) rfl rfl <| sX [.pointer none, .slice none 0 0, .agg (encB (List.replicate 30 false)).toArray, I (askedE w_ revised)] (I (askedE w_ revised)) rfl rfl ?_
  refine t_alloc (cs := encB (List.replicate 30 false)) H Al141 rfl ?_
  intro ag cO H
  have a7 : (List.replicate 30 false).length = 30 := by simp
  refine sA (.pointer none) rfl <| sA (.slice none 0 0) rfl ?_
  refine t_stArrA (k := 0) (b := ag) (l := List.replicate 30 false) (l' := List.replicate 30 false) (L' := [cBlk ag (encB (List.replicate 30 false)) 141, cBlk ae [I 0] 35, cBlk ac [B false] 4, cBlk aa [ab] 34, cMk ([])]) H rfl rfl rfl Sz141 a7 (List.length_replicate) rfl ?_
  intro cP H
  refine sA (I (askedE w_ revised)) rfl <| s_nil ?_
  refine WD.seq ?_
  refine WD.seq ?_
  refine WD.of ?_
  refine W.region rfl <| sM (I (askedE w_ revised)) rfl <| sC (askedE w_ revised) 0 ((askedE w_ revised) == 0) rfl rfl rfl <| s_nil ?_
  refine WD.cond ((askedE w_ revised) == 0) rfl (fun aK => ?_) (fun aK => ?_)
  ·replace hM := M.e_t hM aK
   simp only [qz1, qz2, qz3, qz4, qz5, qz6, ne_eq, qz7] at aK
   refine WD.of ?_
   refine W.region rfl <| sM az rfl <| s_val (x_ld (p := Pz aa) (v := ab) rfl (ldb_sc Sc34 (H.blk (k := 3) rfl) rfl)) ?_
   refine s_call cf96 [az, ab] rfl (listed_any _ (aF.mono (aD.at H)) (ak.mono (aw.at H))) ?_
   rintro _ bC ⟨rfl, aA⟩
   replace H : St w bC [cBlk ag (encB (List.replicate 30 false)) 141, cBlk ae [I 0] 35, cBlk ac [B false] 4, cBlk aa [ab] 34, cMk ([])] R := H.ext aA
   clear aA
   refine sA (I (listedE w_.length fence)) rfl <| s_nil ?_
   refine WD.seq ?_
   refine WD.seq ?_
   refine WD.of ?_
   refine W.region rfl <| sM (I (listedE w_.length fence)) rfl <| sC (listedE w_.length fence) 0 ((listedE w_.length fence) != 0) rfl rfl rfl <| s_nil ?_
   refine WD.cond ((listedE w_.length fence) != 0) rfl (fun aL => ?_) (fun aL => ?_)
   ·replace hM := M.e_t hM aL
    simp only [qz1, qz2, qz3, qz4, qz5, qz6, ne_eq, qz7] at aL
    refine WD.seq ?_
    refine WD.of ?_
    refine W.region rfl <| sM (I (listedE w_.length fence)) rfl ?_
    refine t_st (k := 2) (b := ac) (off := 0) (cs := [B false]) (vs := [B false]) (cs' := [B false]) (v := B false) (L' := [cBlk ag (encB (List.replicate 30 false)) 141, cBlk ae [I 0] 35, cBlk ac [B false] 4, cBlk aa [ab] 34, cMk ([])]) H rfl rfl rfl Sz4 rfl rfl rfl rfl rfl rfl ?_
    intro cQ H
    refine t_st (k := 1) (b := ae) (off := 0) (cs := [I 0]) (vs := [I (listedE w_.length fence)]) (cs' := [I (listedE w_.length fence)]) (v := I (listedE w_.length fence)) (L' := [cBlk ag (encB (List.replicate 30 false)) 141, cBlk ae [I (listedE w_.length fence)] 35, cBlk ac [B false] 4, cBlk aa [ab] 34, cMk ([])]) H rfl rfl rfl Sz35 rfl rfl rfl rfl rfl rfl ?_
    intro cR H
    refine s_nil ?_
    refine WD.of ?_
    refine W.ret ?_
    refine bodyD_r (H.pick [4, 0, 1, 2, 3] (by decide) rfl) ?_
    intro bD H
    replace H : St w bD [cBlk ag (encB (List.replicate 30 false)) 141, cBlk ae [I (listedE w_.length fence)] 35, cBlk ac [B false] 4, cBlk aa [ab] 34] R := H
    have bE := (H.blk (k := 2) rfl)
    have bF := (H.blk (k := 1) rfl)
    have av := M.e_pure hM
    exact ⟨_, (resE_ofn (vs := [B false, I (listedE w_.length fence)]) rfl rfl (.cell (v := B false) rfl (run_loadVar_sc Sc4 bE rfl) <| .cell (v := I (listedE w_.length fence)) rfl (run_loadVar_sc Sc35 bF rfl) <| .nil)), ⟨false, (listedE w_.length fence), av, rfl, (H.pick [] (by decide) rfl)⟩⟩
   replace hM := M.e_f hM aL
   simp only [qz1, qz2, qz3, qz4, qz5, qz6, ne_eq, qz7] at aL
   refine WD.of ?_
   refine W.skip ?_
   refine WD.seq ?_
   refine WD.of ?_
   refine W.region rfl <| s_val (x_mf (fs := []) (cs := [Pz aa]) rfl rfl) ?_
   refine t_alloc (cs := [.nilFunc]) H Al75 rfl ?_
   intro ah cS H
   refine t_st (k := 0) (b := ah) (off := 0) (cs := [.nilFunc]) (vs := [.func (.func 97) #[] #[Pz aa]]) (cs' := [.func (.func 97) #[] #[Pz aa]]) (v := .func (.func 97) #[] #[Pz aa]) (L' := [cBlk ah [.func (.func 97) #[] #[Pz aa]] 75, cBlk ag (encB (List.replicate 30 false)) 141, cBlk ae [I 0] 35, cBlk ac [B false] 4, cBlk aa [ab] 34, cMk ([])]) H rfl rfl rfl Sz75 rfl rfl rfl rfl rfl rfl ?_
   intro cT H
   refine s_nil ?_
   refine WD.seq ?_
   refine WD.seq ?_
   refine WD.of ?_
   refine W.region rfl <| s_val (x_ld (p := Pz aa) (v := ab) rfl (ldb_sc Sc34 (H.blk (k := 4) rfl) rfl)) ?_
   have cU := (ak).len_le
   refine s_val (x_lenS T34.und rfl ak) <| sM (I 0) rfl <| s_nil ?_
   refine WD.block ?_
   obtain ⟨bG, a8, bH⟩ := M.e_bind hM
   obtain ⟨bo, a8⟩ := M.e_iter a8
   refine WD.loop (fun m aH σ W => ∃ (s : Nat) (ρ : Env), σ = upds ρ [(1, au), (6, Pz ac), (7, Pz ae), (8, .pointer none), (12, Pz ah), (33, ab), (34, I (fence.length : Int)), (35, I (s : Int))] /\ M.iterN (zbs fence) m s = some bG /\ St w W [cBlk ah [.func (.func 97) #[] #[Pz aa]] 75, cBlk ag (encB (List.replicate 30 false)) 141, cBlk ae [I 0] 35, cBlk ac [B false] 4, cBlk aa [ab] 34, cMk aH] R) ?_ ?_
   ·exact ⟨_, 0, _, upds_of _ _ ⟨rfl, rfl, rfl, rfl, rfl, rfl, rfl, rfl, trivial⟩, a8, H⟩
   rintro cV aH σ cW ⟨s, ρ, rfl, bp, H⟩
   obtain ⟨cX, cY, cZ, hM, bI⟩ := M.e_iterN bp
   simp only [zbs] at hM
   clear bp
   refine WD.seq ?_
   refine WD.of ?_
   refine W.region rfl <| sC (s : Int) (fence.length : Int) (decide ((s : Int) < (fence.length : Int))) rfl rfl rfl <| s_nil ?_
   refine WD.seq ?_
   refine WD.cond (decide ((s : Int) < (fence.length : Int))) rfl (fun aM => ?_) (fun aM => ?_)
   ·replace hM := M.e_t hM aM
    simp only [qz1, qz2, qz3, qz4, qz5, qz6, ne_eq, qz7] at aM
    refine WD.of ?_
    refine W.skip ?_
    refine WD.seq ?_
    refine WD.block ?_
    refine WD.seq ?_
    refine WD.of ?_
    refine W.region rfl ?_
    obtain ⟨da, hM⟩ := M.e_gd hM
    refine s_val (x_ix (a := ab) (b := I (s : Int)) (v := vat ab 1 (Int.toNat (s : Int))) rfl rfl (Sl.ix (α := Int) T34.und T34.size ak (by omega) (by omega))) <| s_val (x_ld (p := vat ab 1 (Int.toNat (s : Int))) (v := I (fence.getD s 0)) rfl (ld_sc Sc3 (At.mono (Int_at ak (i := (s : Int)) (by omega) (by omega)) (aw.at H)))) <| sA (I (fence.getD s 0)) rfl <| s_nil ?_
    refine WD.seq ?_
    refine WD.of ?_
    refine W.region rfl <| sM (.pointer none) rfl <| sM (I (fence.getD s 0)) rfl ?_
    exact (M.e_fail hM).elim
   replace hM := M.e_f hM aM
   simp only [qz1, qz2, qz3, qz4, qz5, qz6, ne_eq, qz7] at aM
   refine WD.of ?_
   refine W.exit ?_
   have bJ := M.e_inr hM bI
   subst bJ
   replace hM := bH
   try dsimp only at hM
   refine WD.seq ?_
   refine WD.of ?_
   refine W.region rfl <| s_val (x_ld (p := Pz ah) (v := .func (.func 97) #[] #[Pz aa]) rfl (ldb_sc Sc75 (H.blk (k := 0) rfl) rfl)) <| sM au rfl ?_
   obtain ⟨db, bK, hM⟩ := M.e_bind hM
   refine s_call cf87 [.func (.func 97) #[] #[Pz aa], au] rfl (zbi (fun ax => zak ax fence) revised ⟨97, [Pz aa], rfl, cf97, fun aB bq br aN ax bt aO bu aP aQ => by obtain rfl := Arg.int aP; exact (zbe ax fence (Reads.app (aw.app _) _) ak (Has.app (Has.here (k := 4) rfl) _) aQ aB (St.refl aO)).mono fun aN aB ⟨bv, aR, aS, aT⟩ => by subst aR; exact ⟨aS, aT⟩⟩ (aG.app _) aJ bK _ (St.give (T := [cBlk ah [.func (.func 97) #[] #[Pz aa]] 75, cBlk ag (encB (List.replicate 30 false)) 141, cBlk ae [I 0] 35, cBlk ac [B false] 4, cBlk aa [ab] 34, cMk aH]) H rfl)) ?_
   rintro vq bL ⟨r2, bM, hvq, al⟩
   subst bM
   subst vq
   try dsimp only at hM
   replace H : St w bL [cBlk ah [.func (.func 97) #[] #[Pz aa]] 75, cBlk ag (encB (List.replicate 30 false)) 141, cBlk ae [I 0] 35, cBlk ac [B false] 4, cBlk aa [ab] 34, cMk aH] R := H.back al rfl
   clear al
   refine t_st (k := 3) (b := ac) (off := 0) (cs := [B false]) (vs := [B r2]) (cs' := [B r2]) (v := B r2) (L' := [cBlk ah [.func (.func 97) #[] #[Pz aa]] 75, cBlk ag (encB (List.replicate 30 false)) 141, cBlk ae [I 0] 35, cBlk ac [B r2] 4, cBlk aa [ab] 34, cMk aH]) H rfl rfl rfl Sz4 rfl rfl rfl rfl rfl rfl ?_
   intro dc H
   refine t_st (k := 2) (b := ae) (off := 0) (cs := [I 0]) (vs := [I 0]) (cs' := [I 0]) (v := I 0) (L' := [cBlk ah [.func (.func 97) #[] #[Pz aa]] 75, cBlk ag (encB (List.replicate 30 false)) 141, cBlk ae [I 0] 35, cBlk ac [B r2] 4, cBlk aa [ab] 34, cMk aH]) H rfl rfl rfl Sz35 rfl rfl rfl rfl rfl rfl ?_
   intro dd H
   refine s_nil ?_
   refine WD.of ?_
   refine W.ret ?_
   refine bodyD_r (H.pick [5, 0, 1, 2, 3, 4] (by decide) rfl) ?_
   intro bN H
   replace H : St w bN [cBlk ah [.func (.func 97) #[] #[Pz aa]] 75, cBlk ag (encB (List.replicate 30 false)) 141, cBlk ae [I 0] 35, cBlk ac [B r2] 4, cBlk aa [ab] 34] R := H
   have bO := (H.blk (k := 3) rfl)
   have bP := (H.blk (k := 2) rfl)
   have av := M.e_pure hM
   exact ⟨_, (resE_ofn (vs := [B r2, I 0]) rfl rfl (.cell (v := B r2) rfl (run_loadVar_sc Sc4 bO rfl) <| .cell (v := I 0) rfl (run_loadVar_sc Sc35 bP rfl) <| .nil)), ⟨r2, 0, av, rfl, (H.pick [] (by decide) rfl)⟩⟩
  replace hM := M.e_f hM aK
  simp only [qz1, qz2, qz3, qz4, qz5, qz6, ne_eq, qz7] at aK
  refine WD.of ?_
  refine W.skip ?_
  refine WD.seq ?_
  refine WD.seq ?_
  refine WD.of ?_
  refine W.region rfl <| sM (I (askedE w_ revised)) rfl <| sC (askedE w_ revised) 0 ((askedE w_ revised) != 0) rfl rfl rfl <| s_nil ?_
  refine WD.cond ((askedE w_ revised) != 0) rfl (fun aU => ?_) (fun aU => ?_)
  ·replace hM := M.e_t hM aU
   simp only [qz1, qz2, qz3, qz4, qz5, qz6, ne_eq, qz7] at aU
   refine WD.seq ?_
   refine WD.of ?_
   refine W.region rfl <| sM (I (askedE w_ revised)) rfl ?_
   refine t_st (k := 2) (b := ac) (off := 0) (cs := [B false]) (vs := [B false]) (cs' := [B false]) (v := B false) (L' := [cBlk ag (encB (List.replicate 30 false)) 141, cBlk ae [I 0] 35, cBlk ac [B false] 4, cBlk aa [ab] 34, cMk ([])]) H rfl rfl rfl Sz4 rfl rfl rfl rfl rfl rfl ?_
   intro de H
   refine t_st (k := 1) (b := ae) (off := 0) (cs := [I 0]) (vs := [I (askedE w_ revised)]) (cs' := [I (askedE w_ revised)]) (v := I (askedE w_ revised)) (L' := [cBlk ag (encB (List.replicate 30 false)) 141, cBlk ae [I (askedE w_ revised)] 35, cBlk ac [B false] 4, cBlk aa [ab] 34, cMk ([])]) H rfl rfl rfl Sz35 rfl rfl rfl rfl rfl rfl ?_
   intro dg H
   refine s_nil ?_
   refine WD.of ?_
   refine W.ret ?_
   refine bodyD_r (H.pick [4, 0, 1, 2, 3] (by decide) rfl) ?_
   intro bQ H
   replace H : St w bQ [cBlk ag (encB (List.replicate 30 false)) 141, cBlk ae [I (askedE w_ revised)] 35, cBlk ac [B false] 4, cBlk aa [ab] 34] R := H
   have bR := (H.blk (k := 2) rfl)
   have bS := (H.blk (k := 1) rfl)
   have av := M.e_pure hM
   exact ⟨_, (resE_ofn (vs := [B false, I (askedE w_ revised)]) rfl rfl (.cell (v := B false) rfl (run_loadVar_sc Sc4 bR rfl) <| .cell (v := I (askedE w_ revised)) rfl (run_loadVar_sc Sc35 bS rfl) <| .nil)), ⟨false, (askedE w_ revised), av, rfl, (H.pick [] (by decide) rfl)⟩⟩
  replace hM := M.e_f hM aU
  simp only [qz1, qz2, qz3, qz4, qz5, qz6, ne_eq, qz7] at aU
  refine WD.of ?_
  refine W.skip ?_
  refine WD.seq ?_
  refine WD.of ?_
  refine W.region rfl <| s_val (x_mf (fs := []) (cs := [Pz aa]) rfl rfl) ?_
  refine t_alloc (cs := [.nilFunc]) H Al75 rfl ?_
  intro ah dh H
  refine t_st (k := 0) (b := ah) (off := 0) (cs := [.nilFunc]) (vs := [.func (.func 97) #[] #[Pz aa]]) (cs' := [.func (.func 97) #[] #[Pz aa]]) (v := .func (.func 97) #[] #[Pz aa]) (L' := [cBlk ah [.func (.func 97) #[] #[Pz aa]] 75, cBlk ag (encB (List.replicate 30 false)) 141, cBlk ae [I 0] 35, cBlk ac [B false] 4, cBlk aa [ab] 34, cMk ([])]) H rfl rfl rfl Sz75 rfl rfl rfl rfl rfl rfl ?_
  intro di H
  refine s_nil ?_
  refine WD.seq ?_
  refine WD.seq ?_
  refine WD.of ?_
  refine W.region rfl <| s_val (x_ld (p := Pz aa) (v := ab) rfl (ldb_sc Sc34 (H.blk (k := 4) rfl) rfl)) ?_
  have dj := (ak).len_le
  refine s_val (x_lenS T34.und rfl ak) <| sM (I 0) rfl <| s_nil ?_
  refine WD.block ?_
  obtain ⟨bT, a9, bU⟩ := M.e_bind hM
  obtain ⟨bo, a9⟩ := M.e_iter a9
  refine WD.loop (fun m aI σ W => ∃ (s : Nat) (ρ : Env), σ = upds ρ [(1, au), (6, Pz ac), (7, Pz ae), (8, .pointer none), (12, Pz ah), (33, ab), (34, I (fence.length : Int)), (35, I (s : Int))] /\ M.iterN (zbD fence) m s = some bT /\ St w W [cBlk ah [.func (.func 97) #[] #[Pz aa]] 75, cBlk ag (encB (List.replicate 30 false)) 141, cBlk ae [I 0] 35, cBlk ac [B false] 4, cBlk aa [ab] 34, cMk aI] R) ?_ ?_
  ·exact ⟨_, 0, _, upds_of _ _ ⟨rfl, rfl, rfl, rfl, rfl, rfl, rfl, rfl, trivial⟩, a9, H⟩
  rintro dk aI σ dl ⟨s, ρ, rfl, bw, H⟩
  obtain ⟨dm, dp, dq, hM, bV⟩ := M.e_iterN bw
  simp only [zbD] at hM
  clear bw
  refine WD.seq ?_
  refine WD.of ?_
  refine W.region rfl <| sC (s : Int) (fence.length : Int) (decide ((s : Int) < (fence.length : Int))) rfl rfl rfl <| s_nil ?_
  refine WD.seq ?_
  refine WD.cond (decide ((s : Int) < (fence.length : Int))) rfl (fun aV => ?_) (fun aV => ?_)
  ·replace hM := M.e_t hM aV
   simp only [qz1, qz2, qz3, qz4, qz5, qz6, ne_eq, qz7] at aV
   refine WD.of ?_
   refine W.skip ?_
   refine WD.seq ?_
   refine WD.block ?_
   refine WD.seq ?_
   refine WD.of ?_
   refine W.region rfl ?_
   obtain ⟨dr, hM⟩ := M.e_gd hM
   refine s_val (x_ix (a := ab) (b := I (s : Int)) (v := vat ab 1 (Int.toNat (s : Int))) rfl rfl (Sl.ix (α := Int) T34.und T34.size ak (by omega) (by omega))) <| s_val (x_ld (p := vat ab 1 (Int.toNat (s : Int))) (v := I (fence.getD s 0)) rfl (ld_sc Sc3 (At.mono (Int_at ak (i := (s : Int)) (by omega) (by omega)) (aw.at H)))) <| sA (I (fence.getD s 0)) rfl <| s_nil ?_
   refine WD.seq ?_
   refine WD.of ?_
   refine W.region rfl <| sM (.pointer none) rfl <| sM (I (fence.getD s 0)) rfl ?_
   exact (M.e_fail hM).elim
  replace hM := M.e_f hM aV
  simp only [qz1, qz2, qz3, qz4, qz5, qz6, ne_eq, qz7] at aV
  refine WD.of ?_
  refine W.exit ?_
  have bW := M.e_inr hM bV
  subst bW
  replace hM := bU
  try dsimp only at hM
  refine WD.seq ?_
  refine WD.of ?_
  refine W.region rfl <| s_val (x_ld (p := Pz ah) (v := .func (.func 97) #[] #[Pz aa]) rfl (ldb_sc Sc75 (H.blk (k := 0) rfl) rfl)) <| sM au rfl ?_
  obtain ⟨dt, bX, hM⟩ := M.e_bind hM
  refine s_call cf87 [.func (.func 97) #[] #[Pz aa], au] rfl (zbi (fun ax => zak ax fence) revised ⟨97, [Pz aa], rfl, cf97, fun aB bq br aN ax bt aO bu aP aQ => by obtain rfl := Arg.int aP; exact (zbe ax fence (Reads.app (aw.app _) _) ak (Has.app (Has.here (k := 4) rfl) _) aQ aB (St.refl aO)).mono fun aN aB ⟨bv, aR, aS, aT⟩ => by subst aR; exact ⟨aS, aT⟩⟩ (aG.app _) aJ bX _ (St.give (T := [cBlk ah [.func (.func 97) #[] #[Pz aa]] 75, cBlk ag (encB (List.replicate 30 false)) 141, cBlk ae [I 0] 35, cBlk ac [B false] 4, cBlk aa [ab] 34, cMk aI]) H rfl)) ?_
  rintro vq bY ⟨r2, bZ, hvq, al⟩
  subst bZ
  subst vq
  try dsimp only at hM
  replace H : St w bY [cBlk ah [.func (.func 97) #[] #[Pz aa]] 75, cBlk ag (encB (List.replicate 30 false)) 141, cBlk ae [I 0] 35, cBlk ac [B false] 4, cBlk aa [ab] 34, cMk aI] R := H.back al rfl
  clear al
  refine t_st (k := 3) (b := ac) (off := 0) (cs := [B false]) (vs := [B r2]) (cs' := [B r2]) (v := B r2) (L' := [cBlk ah [.func (.func 97) #[] #[Pz aa]] 75, cBlk ag (encB (List.replicate 30 false)) 141, cBlk ae [I 0] 35, cBlk ac [B r2] 4, cBlk aa [ab] 34, cMk aI]) H rfl rfl rfl Sz4 rfl rfl rfl rfl rfl rfl ?_
  intro du H
  refine t_st (k := 2) (b := ae) (off := 0) (cs := [I 0]) (vs := [I 0]) (cs' := [I 0]) (v := I 0) (L' := [cBlk ah [.func (.func 97) #[] #[Pz aa]] 75, cBlk ag (encB (List.replicate 30 false)) 141, cBlk ae [I 0] 35, cBlk ac [B r2] 4, cBlk aa [ab] 34, cMk aI]) H rfl rfl rfl Sz35 rfl rfl rfl rfl rfl rfl ?_
  intro dv H
  refine s_nil ?_
  refine WD.of ?_
  refine W.ret ?_
  refine bodyD_r (H.pick [5, 0, 1, 2, 3, 4] (by decide) rfl) ?_
  intro b6 H
  replace H : St w b6 [cBlk ah [.func (.func 97) #[] #[Pz aa]] 75, cBlk ag (encB (List.replicate 30 false)) 141, cBlk ae [I 0] 35, cBlk ac [B r2] 4, cBlk aa [ab] 34] R := H
  have b8 := (H.blk (k := 3) rfl)
  have ca := (H.blk (k := 2) rfl)
  have av := M.e_pure hM
  exact ⟨_, (resE_ofn (vs := [B r2, I 0]) rfl rfl (.cell (v := B r2) rfl (run_loadVar_sc Sc4 b8 rfl) <| .cell (v := I 0) rfl (run_loadVar_sc Sc35 ca rfl) <| .nil)), ⟨r2, 0, av, rfl, (H.pick [] (by decide) rfl)⟩⟩
 replace hM := M.e_t hM (by simpa using a5)
 obtain ⟨ai, al, a6, bx⟩ := H.freshNB bn a6
 replace H : St w bm [cRo ai, cBlk ae [I 0] 35, cBlk ac [B false] 4, cBlk aa [ab] 34, cMk ([])] R := al
 clear al bn
 have dw := a6.len_le
 refine sM (.tuple #[Pz aj, aE, .agg (encB (staleL w_ revised)).toArray, I 0]) rfl <| sX [Pz aj, aE, .agg (encB (staleL w_ revised)).toArray, I 0] (Pz aj) rfl rfl <| sX [Pz aj, aE, .agg (encB (staleL w_ revised)).toArray, I 0] aE rfl rfl <| sX [Pz aj, aE, .agg (encB (staleL w_ revised)).toArray, I 0] (.agg (encB (staleL w_ revised)).toArray) rfl rfl <| sX [Pz aj, aE, .agg (encB (staleL w_ revised)).toArray, I 0] (I 0) rfl rfl ?_
 refine t_alloc (cs := encB (List.replicate 30 false)) H Al141 rfl ?_
 intro ag dx H
 have a7 : (List.replicate 30 false).length = 30 := by simp
 refine sA (Pz aj) rfl <| sA aE rfl ?_
 refine t_stArrA (k := 0) (b := ag) (l := List.replicate 30 false) (l' := staleL w_ revised) (L' := [cBlk ag (encB (staleL w_ revised)) 141, cRo ai, cBlk ae [I 0] 35, cBlk ac [B false] 4, cBlk aa [ab] 34, cMk ([])]) H rfl rfl rfl Sz141 a7 (staleL_len _ _) rfl ?_
 intro dy H
 refine sA (I 0) rfl <| s_nil ?_
 refine WD.seq ?_
 refine WD.seq ?_
 refine WD.of ?_
 refine W.region rfl <| sM (I 0) rfl <| sC 0 0 ((0 : Int) == 0) rfl rfl rfl <| s_nil ?_
 refine WD.cond ((0 : Int) == 0) rfl (fun ba => ?_) (fun ba => ?_)
 ·skip
  replace hM := M.e_t hM ba
  refine WD.of ?_
  refine W.region rfl <| sM az rfl <| s_val (x_ld (p := Pz aa) (v := ab) rfl (ldb_sc Sc34 (H.blk (k := 4) rfl) rfl)) ?_
  refine s_call cf96 [az, ab] rfl (listed_any _ (aF.mono (aD.at H)) (ak.mono (aw.at H))) ?_
  rintro _ cb ⟨rfl, aA⟩
  replace H : St w cb [cBlk ag (encB (staleL w_ revised)) 141, cRo ai, cBlk ae [I 0] 35, cBlk ac [B false] 4, cBlk aa [ab] 34, cMk ([])] R := H.ext aA
  clear aA
  refine sA (I (listedE w_.length fence)) rfl <| s_nil ?_
  refine WD.seq ?_
  refine WD.seq ?_
  refine WD.of ?_
  refine W.region rfl <| sM (I (listedE w_.length fence)) rfl <| sC (listedE w_.length fence) 0 ((listedE w_.length fence) != 0) rfl rfl rfl <| s_nil ?_
  refine WD.cond ((listedE w_.length fence) != 0) rfl (fun aW => ?_) (fun aW => ?_)
  ·replace hM := M.e_t hM aW
   simp only [qz1, qz2, qz3, qz4, qz5, qz6, ne_eq, qz7] at aW
   refine WD.seq ?_
   refine WD.of ?_
   refine W.region rfl <| sM (I (listedE w_.length fence)) rfl ?_
   refine t_st (k := 3) (b := ac) (off := 0) (cs := [B false]) (vs := [B false]) (cs' := [B false]) (v := B false) (L' := [cBlk ag (encB (staleL w_ revised)) 141, cRo ai, cBlk ae [I 0] 35, cBlk ac [B false] 4, cBlk aa [ab] 34, cMk ([])]) H rfl rfl rfl Sz4 rfl rfl rfl rfl rfl rfl ?_
   intro dz H
   refine t_st (k := 2) (b := ae) (off := 0) (cs := [I 0]) (vs := [I (listedE w_.length fence)]) (cs' := [I (listedE w_.length fence)]) (v := I (listedE w_.length fence)) (L' := [cBlk ag (encB (staleL w_ revised)) 141, cRo ai, cBlk ae [I (listedE w_.length fence)] 35, cBlk ac [B false] 4, cBlk aa [ab] 34, cMk ([])]) H rfl rfl rfl Sz35 rfl rfl rfl rfl rfl rfl ?_
   intro dA H
   refine s_nil ?_
   refine WD.of ?_
   refine W.ret ?_
   refine bodyD_r (H.pick [5, 0, 1, 2, 3, 4] (by decide) rfl) ?_
   intro cc H
   replace H : St w cc [cBlk ag (encB (staleL w_ revised)) 141, cRo ai, cBlk ae [I (listedE w_.length fence)] 35, cBlk ac [B false] 4, cBlk aa [ab] 34] R := H
   have cd := (H.blk (k := 3) rfl)
   have ce := (H.blk (k := 2) rfl)
   have av := M.e_pure hM
   exact ⟨_, (resE_ofn (vs := [B false, I (listedE w_.length fence)]) rfl rfl (.cell (v := B false) rfl (run_loadVar_sc Sc4 cd rfl) <| .cell (v := I (listedE w_.length fence)) rfl (run_loadVar_sc Sc35 ce rfl) <| .nil)), ⟨false, (listedE w_.length fence), av, rfl, (H.pick [] (by decide) rfl)⟩⟩
  replace hM := M.e_f hM aW
  simp only [qz1, qz2, qz3, qz4, qz5, qz6, ne_eq, qz7] at aW
  refine WD.of ?_
  refine W.skip ?_
  refine WD.seq ?_
  refine WD.of ?_
  refine W.region rfl <| s_val (x_mf (fs := []) (cs := [Pz aa]) rfl rfl) ?_
  refine t_alloc (cs := [.nilFunc]) H Al75 rfl ?_
  intro ah dB H
  refine t_st (k := 0) (b := ah) (off := 0) (cs := [.nilFunc]) (vs := [.func (.func 97) #[] #[Pz aa]]) (cs' := [.func (.func 97) #[] #[Pz aa]]) (v := .func (.func 97) #[] #[Pz aa]) (L' := [cBlk ah [.func (.func 97) #[] #[Pz aa]] 75, cBlk ag (encB (staleL w_ revised)) 141, cRo ai, cBlk ae [I 0] 35, cBlk ac [B false] 4, cBlk aa [ab] 34, cMk ([])]) H rfl rfl rfl Sz75 rfl rfl rfl rfl rfl rfl ?_
  intro dC H
  refine s_nil ?_
  refine WD.seq ?_
  refine WD.seq ?_
  refine WD.of ?_
  refine W.region rfl <| s_val (x_ld (p := Pz aa) (v := ab) rfl (ldb_sc Sc34 (H.blk (k := 5) rfl) rfl)) ?_
  have dD := (ak).len_le
  refine s_val (x_lenS T34.und rfl ak) <| sM (I 0) rfl <| s_nil ?_
  refine WD.block ?_
  obtain ⟨cf, bb, bz⟩ := M.e_bind hM
  obtain ⟨bo, bb⟩ := M.e_iter bb
  refine WD.loop (fun m am σ W => ∃ (s : Nat) (ρ : Env), σ = upds ρ [(1, au), (6, Pz ac), (7, Pz ae), (8, Pz aj), (12, Pz ah), (33, ab), (34, I (fence.length : Int)), (35, I (s : Int))] /\ M.iterN (zbF w_ fence) m s = some cf /\ St w W [cBlk ah [.func (.func 97) #[] #[Pz aa]] 75, cBlk ag (encB (staleL w_ revised)) 141, cRo ai, cBlk ae [I 0] 35, cBlk ac [B false] 4, cBlk aa [ab] 34, cMk am] R) ?_ ?_
  ·exact ⟨_, 0, _, upds_of _ _ ⟨rfl, rfl, rfl, rfl, rfl, rfl, rfl, rfl, trivial⟩, bb, H⟩
  rintro dE am σ dF ⟨s, ρ, rfl, bA, H⟩
  obtain ⟨cg, ci, dG, hM, bc⟩ := M.e_iterN bA
  simp only [zbF] at hM
  clear bA
  refine WD.seq ?_
  refine WD.of ?_
  refine W.region rfl <| sC (s : Int) (fence.length : Int) (decide ((s : Int) < (fence.length : Int))) rfl rfl rfl <| s_nil ?_
  refine WD.seq ?_
  refine WD.cond (decide ((s : Int) < (fence.length : Int))) rfl (fun aX => ?_) (fun aX => ?_)
  ·replace hM := M.e_t hM aX
   simp only [qz1, qz2, qz3, qz4, qz5, qz6, ne_eq, qz7] at aX
   refine WD.of ?_
   refine W.skip ?_
   refine WD.seq ?_
   refine WD.block ?_
   refine WD.seq ?_
   refine WD.of ?_
   refine W.region rfl ?_
   obtain ⟨dH, hM⟩ := M.e_gd hM
   refine s_val (x_ix (a := ab) (b := I (s : Int)) (v := vat ab 1 (Int.toNat (s : Int))) rfl rfl (Sl.ix (α := Int) T34.und T34.size ak (by omega) (by omega))) <| s_val (x_ld (p := vat ab 1 (Int.toNat (s : Int))) (v := I (fence.getD s 0)) rfl (ld_sc Sc3 (At.mono (Int_at ak (i := (s : Int)) (by omega) (by omega)) (aw.at H)))) <| sA (I (fence.getD s 0)) rfl <| s_nil ?_
   refine WD.seq ?_
   refine WD.of ?_
   refine W.region rfl <| sM (Pz aj) rfl <| sM (I (fence.getD s 0)) rfl ?_
   obtain ⟨dI, cj, hM⟩ := M.e_bind hM
   refine s_call cf98 [Pz aj, I (fence.getD s 0)] rfl (zbM w_ (fence.getD s 0) (aD.app _) aF (Has.ro (k := 2) rfl bx) cj _ (St.give (T := [cBlk ah [.func (.func 97) #[] #[Pz aa]] 75, cBlk ag (encB (staleL w_ revised)) 141, cRo ai, cBlk ae [I 0] 35, cBlk ac [B false] 4, cBlk aa [ab] 34, cMk am]) H rfl)) ?_
   rintro vq ck ⟨ao, ap, aq, cm, hvq, al⟩
   subst cm
   subst vq
   try dsimp only at hM
   replace H : St w ck [cBlk ap [Pz aj] 127, cBlk aq [I ao] 3, cBlk ah [.func (.func 97) #[] #[Pz aa]] 75, cBlk ag (encB (staleL w_ revised)) 141, cRo ai, cBlk ae [I 0] 35, cBlk ac [B false] 4, cBlk aa [ab] 34, cMk am] R := H.back al rfl
   clear al
   refine s_nil ?_
   refine WD.block ?_
   obtain ⟨dJ, cn, hM⟩ := M.e_bind hM
   refine WD.range (L := [cBlk ae [I 0] 35, cBlk ac [B false] 4, cBlk ap [Pz aj] 127, cBlk aq [I ao] 3, cBlk ah [.func (.func 97) #[] #[Pz aa]] 75, cBlk ag (encB (staleL w_ revised)) 141, cRo ai, cBlk aa [ab] 34]) [Pz ap, Pz aq] (H.pick [8, 5, 6, 0, 1, 2, 3, 4, 7] (by decide) rfl) rfl cf148 ?_
   intro aY ay aZ co bf H
   have hYC : YieldC Try.prog ([cMk (ay :: am), cBlk ap [Pz aj] 127, cBlk aq [I ao] 3, cBlk ah [.func (.func 97) #[] #[Pz aa]] 75, cBlk ag (encB (staleL w_ revised)) 141, cRo ai, cBlk aa [ab] 34] ++ R) arI (yJ aY aZ (fun _ aC => aC = [cBlk ae [I 0] 35, cBlk ac [B false] 4]) (fun _ aC => aC = [cBlk ae [I 0] 35, cBlk ac [B false] 4]) (fun _ => .ret)) (.func (.yield aY) #[] #[]) (M.yl (zaE fence)) := by
    refine YieldC.mk bf (fun _ aC => aC = [cBlk ae [I 0] 35, cBlk ac [B false] 4]) (fun _ aC => aC = [cBlk ae [I 0] 35, cBlk ac [B false] 4]) (fun _ => .ret) (zaE fence) (by rintro _ _ h_; obtain ⟨rfl⟩ := h_; rfl) (by rintro _ _ h_; (obtain ⟨rfl⟩ := h_; rfl)) rfl (arI_len rfl) ?_
    intro C_ dK x W_ cp
    obtain rfl := cp
    refine W.region rfl <| sA (I x) rfl <| s_nil ?_
    refine ⟨rfl, rfl, ?_⟩
    intro w R bg aC s_ r cq hM H
    skip
    obtain ⟨rfl⟩ := cq
    replace aD := aD.sub bg
    replace aG := aG.sub bg
    replace aw := aw.sub bg
    replace hM : (zaE fence () x).Ends r := hM
    simp only [zaE] at hM
    replace H : St w w [cBlk ae [I 0] 35, cBlk ac [B false] 4, cBlk ap [Pz aj] 127, cBlk aq [I ao] 3, cBlk ah [.func (.func 97) #[] #[Pz aa]] 75, cBlk ag (encB (staleL w_ revised)) 141, cRo ai, cBlk aa [ab] 34, cMk (ay :: am)] R := H.pick [0, 1, 3, 4, 5, 6, 7, 8, 2] (by decide) rfl
    refine W.block <| sQ rfl <| s_val (x_ld (p := Pz ah) (v := .func (.func 97) #[] #[Pz aa]) rfl (ldb_sc Sc75 (H.blk (k := 4) rfl) rfl)) <| sM (I x) rfl ?_
    obtain ⟨dL, cr, hM⟩ := M.e_bind hM
    refine s_callv (f := 97) rfl cf97 [I x] rfl (zbe x fence (aw.app _) ak (Has.here (k := 7) rfl) cr _ (St.give (T := [cBlk ae [I 0] 35, cBlk ac [B false] 4, cBlk ap [Pz aj] 127, cBlk aq [I ao] 3, cBlk ah [.func (.func 97) #[] #[Pz aa]] 75, cBlk ag (encB (staleL w_ revised)) 141, cRo ai, cBlk aa [ab] 34, cMk (ay :: am)]) H rfl)) ?_
    rintro vq ct ⟨r3, cu, hvq, al⟩
    subst cu
    subst vq
    try dsimp only at hM
    replace H : St w ct [cBlk ae [I 0] 35, cBlk ac [B false] 4, cBlk ap [Pz aj] 127, cBlk aq [I ao] 3, cBlk ah [.func (.func 97) #[] #[Pz aa]] 75, cBlk ag (encB (staleL w_ revised)) 141, cRo ai, cBlk aa [ab] 34, cMk (ay :: am)] R := H.back al rfl
    clear al
    refine s_val (x_not (b := r3) rfl) <| s_nil ?_
    refine W.cond (!r3) rfl (fun bh => ?_) (fun bh => ?_)
    ·replace hM := M.e_t hM bh
     refine sQ rfl ?_
     refine t_st (k := 1) (b := ac) (off := 0) (cs := [B false]) (vs := [B false]) (cs' := [B false]) (v := B false) (L' := [cBlk ae [I 0] 35, cBlk ac [B false] 4, cBlk ap [Pz aj] 127, cBlk aq [I ao] 3, cBlk ah [.func (.func 97) #[] #[Pz aa]] 75, cBlk ag (encB (staleL w_ revised)) 141, cRo ai, cBlk aa [ab] 34, cMk (ay :: am)]) H rfl rfl rfl Sz4 rfl rfl rfl rfl rfl rfl ?_
     intro dM H
     refine t_st (k := 0) (b := ae) (off := 0) (cs := [I 0]) (vs := [I 0]) (cs' := [I 0]) (v := I 0) (L' := [cBlk ae [I 0] 35, cBlk ac [B false] 4, cBlk ap [Pz aj] 127, cBlk aq [I ao] 3, cBlk ah [.func (.func 97) #[] #[Pz aa]] 75, cBlk ag (encB (staleL w_ revised)) 141, cRo ai, cBlk aa [ab] 34, cMk (ay :: am)]) H rfl rfl rfl Sz35 rfl rfl rfl rfl rfl rfl ?_
     intro dN H
     refine s_nil ?_
     refine W.ret ?_
     exact ⟨(), [cBlk ae [I 0] 35, cBlk ac [B false] 4], (M.e_pure hM).symm, rfl, H.pick [0, 1, 8, 2, 3, 4, 5, 6, 7] (by decide) rfl, rfl⟩
    replace hM := M.e_f hM bh
    refine W.skip ?_
    exact ⟨(), [cBlk ae [I 0] 35, cBlk ac [B false] 4], (M.e_pure hM).symm, rfl, H.pick [0, 1, 8, 2, 3, 4, 5, 6, 7] (by decide) rfl⟩
   replace H : St w co (cAll (cObj aY (.loop aZ) :: [cBlk ae [I 0] 35, cBlk ac [B false] 4]) :: [cMk (ay :: am), cBlk ap [Pz aj] 127, cBlk aq [I ao] 3, cBlk ah [.func (.func 97) #[] #[Pz aa]] 75, cBlk ag (encB (staleL w_ revised)) 141, cRo ai, cBlk aa [ab] 34]) R := St.bundleB (A := cObj aY (.loop aZ) :: [cBlk ae [I 0] 35, cBlk ac [B false] 4]) (T := [cMk (ay :: am), cBlk ap [Pz aj] 127, cBlk aq [I ao] 3, cBlk ah [.func (.func 97) #[] #[Pz aa]] 75, cBlk ag (encB (staleL w_ revised)) 141, cRo ai, cBlk aa [ab] 34]) rfl (H.pick [0, 2, 3, 1, 4, 5, 6, 7, 8, 9] (by decide) rfl)
   refine (zbL (M.yl (zaE fence)) (.inl ()) w_ ao hYC ⟨_, rfl, rfl⟩ (aD.app _) aF (Has.ro (k := 5) rfl bx) (Has.here (k := 1) rfl) (Has.here (k := 2) rfl) cn _ (St.give (A := [cAll (cObj aY (.loop aZ) :: [cBlk ae [I 0] 35, cBlk ac [B false] 4])]) (T := [cMk (ay :: am), cBlk ap [Pz aj] 127, cBlk aq [I ao] 3, cBlk ah [.func (.func 97) #[] #[Pz aa]] 75, cBlk ag (encB (staleL w_ revised)) 141, cRo ai, cBlk aa [ab] 34]) H rfl)).mono ?_
   rintro vq dO ⟨cv, dP, cw, hvq, al, bB⟩
   subst cw
   replace H := H.back al rfl
   clear al hYC
   rcases cv with _ | _
   ·try dsimp only at hM
    obtain ⟨_, rfl, rfl⟩ := bB
    refine ⟨_, [cBlk ae [I 0] 35, cBlk ac [B false] 4, cBlk ap [Pz aj] 127, cBlk aq [I ao] 3, cBlk ah [.func (.func 97) #[] #[Pz aa]] 75, cBlk ag (encB (staleL w_ revised)) 141, cRo ai, cBlk aa [ab] 34], H.unbundle.pick [0, 3, 1, 2, 4, 5, 6, 7, 8, 9] (by decide) rfl, bf.nb, ?_⟩
    intro bi H
    rw [bf.pd]
    replace H : St w bi [cMk (ay :: am), cBlk ae [I 0] 35, cBlk ac [B false] 4, cBlk ap [Pz aj] 127, cBlk aq [I ao] 3, cBlk ah [.func (.func 97) #[] #[Pz aa]] 75, cBlk ag (encB (staleL w_ revised)) 141, cRo ai, cBlk aa [ab] 34] R := H
    try simp only []
    refine WD.of ?_
    refine W.region rfl <| sR (s : Int) 1 ((s : Int) + 1) rfl rfl rfl (by omega) <| sM (I ((s : Int) + 1)) rfl <| s_nil ?_
    exact ⟨cg, ci, s + 1, _, upds_of _ _ ⟨rfl, rfl, rfl, rfl, rfl, rfl, rfl, rfl, trivial⟩, M.e_inl hM bc, (H.pick [5, 6, 7, 1, 2, 8, 0] (by decide) rfl)⟩
   try dsimp only at hM
   obtain ⟨_, rfl, rfl⟩ := bB
   refine ⟨_, [cBlk ae [I 0] 35, cBlk ac [B false] 4, cBlk ap [Pz aj] 127, cBlk aq [I ao] 3, cBlk ah [.func (.func 97) #[] #[Pz aa]] 75, cBlk ag (encB (staleL w_ revised)) 141, cRo ai, cBlk aa [ab] 34], H.unbundle.pick [0, 3, 1, 2, 4, 5, 6, 7, 8, 9] (by decide) rfl, nofun, ?_⟩
   intro bi H
   show WD _ _ _ (.ret) _ _ _
   refine WD.of ?_
   refine W.ret ?_
   replace H : St w bi [cMk (ay :: am), cBlk ae [I 0] 35, cBlk ac [B false] 4, cBlk ap [Pz aj] 127, cBlk aq [I ao] 3, cBlk ah [.func (.func 97) #[] #[Pz aa]] 75, cBlk ag (encB (staleL w_ revised)) 141, cRo ai, cBlk aa [ab] 34] R := H
   have cx := M.e_inr hM bc
   subst cx
   replace hM := bz
   try dsimp only at hM
   refine bodyD_r (H.pick [0, 1, 2, 3, 4, 5, 6, 7, 8] (by decide) rfl) ?_
   intro cy H
   replace H : St w cy [cBlk ae [I 0] 35, cBlk ac [B false] 4, cBlk ap [Pz aj] 127, cBlk aq [I ao] 3, cBlk ah [.func (.func 97) #[] #[Pz aa]] 75, cBlk ag (encB (staleL w_ revised)) 141, cRo ai, cBlk aa [ab] 34] R := H
   have cz := (H.blk (k := 1) rfl)
   have cA := (H.blk (k := 0) rfl)
   have av := M.e_pure hM
   exact ⟨_, (resE_ofn (vs := [B false, I 0]) rfl rfl (.cell (v := B false) rfl (run_loadVar_sc Sc4 cz rfl) <| .cell (v := I 0) rfl (run_loadVar_sc Sc35 cA rfl) <| .nil)), ⟨false, 0, av, rfl, (H.pick [] (by decide) rfl)⟩⟩
  replace hM := M.e_f hM aX
  simp only [qz1, qz2, qz3, qz4, qz5, qz6, ne_eq, qz7] at aX
  refine WD.of ?_
  refine W.exit ?_
  have cB := M.e_inr hM bc
  subst cB
  replace hM := bz
  try dsimp only at hM
  refine WD.seq ?_
  refine WD.of ?_
  refine W.region rfl <| s_val (x_ld (p := Pz ah) (v := .func (.func 97) #[] #[Pz aa]) rfl (ldb_sc Sc75 (H.blk (k := 0) rfl) rfl)) <| sM au rfl ?_
  obtain ⟨dQ, cC, hM⟩ := M.e_bind hM
  refine s_call cf87 [.func (.func 97) #[] #[Pz aa], au] rfl (zbi (fun ax => zak ax fence) revised ⟨97, [Pz aa], rfl, cf97, fun aB bq br aN ax bt aO bu aP aQ => by obtain rfl := Arg.int aP; exact (zbe ax fence (Reads.app (aw.app _) _) ak (Has.app (Has.here (k := 5) rfl) _) aQ aB (St.refl aO)).mono fun aN aB ⟨bv, aR, aS, aT⟩ => by subst aR; exact ⟨aS, aT⟩⟩ (aG.app _) aJ cC _ (St.give (T := [cBlk ah [.func (.func 97) #[] #[Pz aa]] 75, cBlk ag (encB (staleL w_ revised)) 141, cRo ai, cBlk ae [I 0] 35, cBlk ac [B false] 4, cBlk aa [ab] 34, cMk am]) H rfl)) ?_
  rintro vq cD ⟨r2, cE, hvq, al⟩
  subst cE
  subst vq
  try dsimp only at hM
  replace H : St w cD [cBlk ah [.func (.func 97) #[] #[Pz aa]] 75, cBlk ag (encB (staleL w_ revised)) 141, cRo ai, cBlk ae [I 0] 35, cBlk ac [B false] 4, cBlk aa [ab] 34, cMk am] R := H.back al rfl
  clear al
  refine t_st (k := 4) (b := ac) (off := 0) (cs := [B false]) (vs := [B r2]) (cs' := [B r2]) (v := B r2) (L' := [cBlk ah [.func (.func 97) #[] #[Pz aa]] 75, cBlk ag (encB (staleL w_ revised)) 141, cRo ai, cBlk ae [I 0] 35, cBlk ac [B r2] 4, cBlk aa [ab] 34, cMk am]) H rfl rfl rfl Sz4 rfl rfl rfl rfl rfl rfl ?_
  intro dR H
  refine t_st (k := 3) (b := ae) (off := 0) (cs := [I 0]) (vs := [I 0]) (cs' := [I 0]) (v := I 0) (L' := [cBlk ah [.func (.func 97) #[] #[Pz aa]] 75, cBlk ag (encB (staleL w_ revised)) 141, cRo ai, cBlk ae [I 0] 35, cBlk ac [B r2] 4, cBlk aa [ab] 34, cMk am]) H rfl rfl rfl Sz35 rfl rfl rfl rfl rfl rfl ?_
  intro dS H
  refine s_nil ?_
  refine WD.of ?_
  refine W.ret ?_
  refine bodyD_r (H.pick [6, 0, 1, 2, 3, 4, 5] (by decide) rfl) ?_
  intro cF H
  replace H : St w cF [cBlk ah [.func (.func 97) #[] #[Pz aa]] 75, cBlk ag (encB (staleL w_ revised)) 141, cRo ai, cBlk ae [I 0] 35, cBlk ac [B r2] 4, cBlk aa [ab] 34] R := H
  have cG := (H.blk (k := 4) rfl)
  have cH := (H.blk (k := 3) rfl)
  have av := M.e_pure hM
  exact ⟨_, (resE_ofn (vs := [B r2, I 0]) rfl rfl (.cell (v := B r2) rfl (run_loadVar_sc Sc4 cG rfl) <| .cell (v := I 0) rfl (run_loadVar_sc Sc35 cH rfl) <| .nil)), ⟨r2, 0, av, rfl, (H.pick [] (by decide) rfl)⟩⟩
 skip
 exact absurd ba (by decide)

def zaD (w_ : List Work) (revised : List Int) (work : Int) : M (Int ⊕ Int) :=
  bif (askedE w_ revised == 0) then (
  bif (0 : Int) != 0 then (M.fail) else (bif !(inB work 0 ((w_.length : Int) - 1)) then (
  M.pure (.inl 2))
  else (
  bif revised.contains work then (
  M.pure (.inl 8))
  else (
  M.pure (.inr 0)))))
  else (
  bif (askedE w_ revised) != 0 then (
  M.pure (.inl (askedE w_ revised)))
  else (
  bif !(inB work 0 ((w_.length : Int) - 1)) then (
  M.pure (.inl 2))
  else (
  bif revised.contains work then (
  M.pure (.inl 8))
  else (
  M.pure (.inl 0)))))
theorem zbw {R : List Chunk} {aA : Cells} {ah : Value} {aB : Cells} {ag : Value} (w_ : List Work) (revised : List Int) (work : Int) (aG : Reads R aA) (aj : Sl aA ah w_) (am : Reads R aB) (ao : Sl aB ag revised) {r : (Int ⊕ Int)} (hM : (zaD w_ revised work).Ends r) (w : World) (H : St w w [] R) : Ret Try.prog 116 #[ah, ag, I work] w fun v w' => (∃ (y0 : Int), (.inl y0) = r /\ v = .tuple #[.pointer none, I y0] /\ St w w' [] R) ∨ (∃ (y0 : Int) (nb0 : Nat) (aC : Base), (.inr y0) = r /\ v = .tuple #[Pz nb0, I y0] /\ St w w' [cRo aC] R /\ (∀ W, (cRo aC).ok W -> W.heap[nb0]? = some (.cells [ah].toArray 187 (0, 0)))) := by
 refine ret_of_W Try.func116 rfl rfl rfl ?_
 refine sQ rfl <| sA (.pointer none) rfl <| sA (I 0) rfl <| s_nil <| sQ rfl <| sM ah rfl <| sM ag rfl ?_
 refine s_call cf92 [ah, ag] rfl (asked_any _ (aj.mono (aG.at H)) (ao.mono (am.at H))) ?_
 rintro _ aD (⟨ap, rfl, aa⟩ | ⟨ap, ac, ai, rfl, aE, aq⟩)
 ·replace hM := M.e_f hM (by simpa using ap)
  replace H : St w aD [] R := H.ext aa
  clear aa
  refine sM (.tuple #[.pointer none, .slice none 0 0, .agg (encB (List.replicate 30 false)).toArray, I (askedE w_ revised)]) rfl <| sX [.pointer none, .slice none 0 0, .agg (encB (List.replicate 30 false)).toArray, I (askedE w_ revised)] (.pointer none) rfl rfl <| sX [.pointer none, .slice none 0 0, .agg (encB (List.replicate 30 false)).toArray, I (askedE w_ revised)] (.slice none 0 0) rfl rfl <| sX [.pointer none, .slice none 0 0, .agg (encB (List.replicate 30 false)).toArray, I (askedE w_ revised)] (.agg (encB (List.replicate 30 false)).toArray) rfl rfl <| sX [.pointer none, .slice none 0 0, .agg (encB (List.replicate 30 false)).toArray, I (askedE w_ revised)] (I (askedE w_ revised)) rfl rfl ?_
  refine t_alloc (cs := encB (List.replicate 30 false)) H Al141 rfl ?_
  intro ae aM H
  have au : (List.replicate 30 false).length = 30 := by simp
  refine sA (.pointer none) rfl <| sA (.slice none 0 0) rfl ?_
  refine t_stArrA (k := 0) (b := ae) (l := List.replicate 30 false) (l' := List.replicate 30 false) (L' := [cBlk ae (encB (List.replicate 30 false)) 141]) H rfl rfl rfl Sz141 au (List.length_replicate) rfl ?_
  intro aN H
  refine sA (I (askedE w_ revised)) rfl <| s_nil <| W.seq <| W.block <| sQ rfl <| sM (I (askedE w_ revised)) rfl <| sC (askedE w_ revised) 0 ((askedE w_ revised) != 0) rfl rfl rfl <| sA (B ((askedE w_ revised) != 0)) rfl <| s_nil ?_
  refine W.cond ((askedE w_ revised) != 0) rfl (fun ak => ?_) (fun ak => ?_)
  ·replace hM := M.e_t hM ak
   simp only [qz1, qz2, qz3, qz4, qz5, qz6, ne_eq, qz7] at ak
   refine sQ rfl <| sM (I (askedE w_ revised)) rfl <| sA (.pointer none) rfl <| sA (I (askedE w_ revised)) rfl <| s_nil ?_
   refine W.ret ?_
   have ab := M.e_pure hM
   exact ⟨_, resE_tmp2 rfl, .inl (⟨(askedE w_ revised), ab, rfl, (H.pick [] (by decide) rfl)⟩)⟩
  replace hM := M.e_f hM ak
  simp only [qz1, qz2, qz3, qz4, qz5, qz6, ne_eq, qz7] at ak
  refine sQ rfl <| sM (I work) rfl <| sM ah rfl ?_
  have aO := (aj).len_le
  refine s_val (x_lenS T22.und rfl aj) <| sR (w_.length : Int) 1 ((w_.length : Int) - 1) rfl rfl rfl (by omega) ?_
  refine s_call cf84 [I work, I 0, I ((w_.length : Int) - 1)] rfl (in_any work 0 ((w_.length : Int) - 1) _) ?_
  rintro _ aH ⟨rfl, aa⟩
  replace H : St w aH [cBlk ae (encB (List.replicate 30 false)) 141] R := H.ext aa
  clear aa
  refine s_val (x_not (b := inB work 0 ((w_.length : Int) - 1)) rfl) <| sA (B (!(inB work 0 ((w_.length : Int) - 1)))) rfl <| s_nil ?_
  refine W.cond (!(inB work 0 ((w_.length : Int) - 1))) rfl (fun av => ?_) (fun av => ?_)
  ·replace hM := M.e_t hM av
   refine sQ rfl <| sA (.pointer none) rfl <| sA (I 2) rfl <| s_nil ?_
   refine W.ret ?_
   have ab := M.e_pure hM
   exact ⟨_, resE_tmp2 rfl, .inl (⟨2, ab, rfl, (H.pick [] (by decide) rfl)⟩)⟩
  replace hM := M.e_f hM av
  refine sQ rfl <| sM ag rfl <| sM (I work) rfl ?_
  refine s_call cf45 [ag, I work] rfl (contains_int work _ (ao.mono (am.at H))) ?_
  rintro _ aI ⟨rfl, aa⟩
  replace H : St w aI [cBlk ae (encB (List.replicate 30 false)) 141] R := H.ext aa
  clear aa
  refine sA (B (revised.contains work)) rfl <| s_nil ?_
  refine W.cond (revised.contains work) rfl (fun aw => ?_) (fun aw => ?_)
  ·replace hM := M.e_t hM aw
   refine sQ rfl <| sA (.pointer none) rfl <| sA (I 8) rfl <| s_nil ?_
   refine W.ret ?_
   have ab := M.e_pure hM
   exact ⟨_, resE_tmp2 rfl, .inl (⟨8, ab, rfl, (H.pick [] (by decide) rfl)⟩)⟩
  replace hM := M.e_f hM aw
  refine W.skip <| sQ rfl <| sM (.pointer none) rfl <| sA (.pointer none) rfl <| sA (I 0) rfl <| s_nil ?_
  refine W.ret ?_
  have ab := M.e_pure hM
  exact ⟨_, resE_tmp2 rfl, .inl (⟨0, ab, rfl, (H.pick [] (by decide) rfl)⟩)⟩
 replace hM := M.e_t hM (by simpa using ap)
 obtain ⟨al, aF, aq, aJ⟩ := H.freshNB aE aq
 replace H : St w aD [cRo al] R := aF
 clear aF aE
 have aP := aq.len_le
 refine sM (.tuple #[Pz ac, ai, .agg (encB (staleL w_ revised)).toArray, I 0]) rfl <| sX [Pz ac, ai, .agg (encB (staleL w_ revised)).toArray, I 0] (Pz ac) rfl rfl <| sX [Pz ac, ai, .agg (encB (staleL w_ revised)).toArray, I 0] ai rfl rfl <| sX [Pz ac, ai, .agg (encB (staleL w_ revised)).toArray, I 0] (.agg (encB (staleL w_ revised)).toArray) rfl rfl <| sX [Pz ac, ai, .agg (encB (staleL w_ revised)).toArray, I 0] (I 0) rfl rfl ?_
 refine t_alloc (cs := encB (List.replicate 30 false)) H Al141 rfl ?_
 intro ae aQ H
 have au : (List.replicate 30 false).length = 30 := by simp
 refine sA (Pz ac) rfl <| sA ai rfl ?_
 refine t_stArrA (k := 0) (b := ae) (l := List.replicate 30 false) (l' := staleL w_ revised) (L' := [cBlk ae (encB (staleL w_ revised)) 141, cRo al]) H rfl rfl rfl Sz141 au (staleL_len _ _) rfl ?_
 intro aR H
 refine sA (I 0) rfl <| s_nil <| W.seq <| W.block <| sQ rfl <| sM (I 0) rfl <| sC 0 0 ((0 : Int) != 0) rfl rfl rfl <| sA (B ((0 : Int) != 0)) rfl <| s_nil ?_
 refine W.cond ((0 : Int) != 0) rfl (fun ax => ?_) (fun ax => ?_)
 ·skip
  exact absurd ax (by decide)
 skip
 replace hM := M.e_f hM ax
 refine sQ rfl <| sM (I work) rfl <| sM ah rfl ?_
 have aS := (aj).len_le
 refine s_val (x_lenS T22.und rfl aj) <| sR (w_.length : Int) 1 ((w_.length : Int) - 1) rfl rfl rfl (by omega) ?_
 refine s_call cf84 [I work, I 0, I ((w_.length : Int) - 1)] rfl (in_any work 0 ((w_.length : Int) - 1) _) ?_
 rintro _ aK ⟨rfl, aa⟩
 replace H : St w aK [cBlk ae (encB (staleL w_ revised)) 141, cRo al] R := H.ext aa
 clear aa
 refine s_val (x_not (b := inB work 0 ((w_.length : Int) - 1)) rfl) <| sA (B (!(inB work 0 ((w_.length : Int) - 1)))) rfl <| s_nil ?_
 refine W.cond (!(inB work 0 ((w_.length : Int) - 1))) rfl (fun ay => ?_) (fun ay => ?_)
 ·replace hM := M.e_t hM ay
  refine sQ rfl <| sA (.pointer none) rfl <| sA (I 2) rfl <| s_nil ?_
  refine W.ret ?_
  have ab := M.e_pure hM
  exact ⟨_, resE_tmp2 rfl, .inl (⟨2, ab, rfl, (H.pick [] (by decide) rfl)⟩)⟩
 replace hM := M.e_f hM ay
 refine sQ rfl <| sM ag rfl <| sM (I work) rfl ?_
 refine s_call cf45 [ag, I work] rfl (contains_int work _ (ao.mono (am.at H))) ?_
 rintro _ aL ⟨rfl, aa⟩
 replace H : St w aL [cBlk ae (encB (staleL w_ revised)) 141, cRo al] R := H.ext aa
 clear aa
 refine sA (B (revised.contains work)) rfl <| s_nil ?_
 refine W.cond (revised.contains work) rfl (fun az => ?_) (fun az => ?_)
 ·replace hM := M.e_t hM az
  refine sQ rfl <| sA (.pointer none) rfl <| sA (I 8) rfl <| s_nil ?_
  refine W.ret ?_
  have ab := M.e_pure hM
  exact ⟨_, resE_tmp2 rfl, .inl (⟨8, ab, rfl, (H.pick [] (by decide) rfl)⟩)⟩
 replace hM := M.e_f hM az
 refine W.skip <| sQ rfl <| sM (Pz ac) rfl <| sA (Pz ac) rfl <| sA (I 0) rfl <| s_nil ?_
 refine W.ret ?_
 have ab := M.e_pure hM
 exact ⟨_, resE_tmp2 rfl, .inr (⟨0, ac, al, ab, rfl, (H.pick [1] (by decide) rfl), aJ⟩)⟩

def zaZ (i : Int) (aa : List Work) (ab : Int) : M Bool :=
  M.bind (zaB aa ab i) fun r2 =>
  M.pure r2
theorem zcl {R : List Chunk} {ac : Nat} {ab : Nat} {ah : Cells} {ai : Value} {ae : Nat} (i : Int) (ag : List Work) (aa : Int) (ak : Reads R ah) (al : Sl ah ai ag) (am : Has R (cBlk ab [ai] 187)) (ao : Has R (cBlk ac [Pz ab] 127)) (ap : Has R (cBlk ae [I aa] 3)) {r : Bool} (hM : (zaZ i ag aa).Ends r) (w : World) (H : St w w [] R) : Ret Try.prog 159 #[I i, Pz ac, Pz ae] w fun v w' => ∃ (y0 : Bool), y0 = r /\ v = B y0 /\ St w w' [] R := by
 refine ret_of_W Try.func159 rfl rfl rfl ?_
 refine sQ rfl <| sA (B false) rfl <| s_nil <| sQ rfl <| s_val (x_ld (p := Pz ac) (v := Pz ab) rfl (ldb_sc Sc127 (ao.blk H) rfl)) <| s_val (x_ld (p := Pz ae) (v := I aa) rfl (ldb_sc Sc3 (ap.blk H) rfl)) <| sM (I i) rfl ?_
 obtain ⟨ax, aq, hM⟩ := M.e_bind hM
 refine s_call cf149 [Pz ab, I aa, I i] rfl (zbp ag aa i (ak.app _) al (am.app _) aq _ (St.give (T := []) H rfl)) ?_
 rintro vq au ⟨r2, av, hvq, aj⟩
 subst av
 subst vq
 try dsimp only at hM
 replace H : St w au [] R := H.back aj rfl
 clear aj
 refine sA (B r2) rfl <| s_nil ?_
 refine W.ret ?_
 have aw := M.e_pure hM
 exact ⟨_, resE_tmp rfl, ⟨r2, aw, rfl, H⟩⟩

def zah (ab : List Work) (aa : List Int) (n_work : Int) (ac : Gate -> Option Int) (ae : Int -> Option Bool) (i : Int) : M Bool :=
  M.pure ((i != n_work) && (!(aa.contains i)))
theorem zaX {R : List Chunk} {aa : Nat} {ae : Nat} {ag : Cells} {ah : Value} {ai : Cells} {ac : Value} {aj : Nat} {ak : Nat} (al : List Work) (ab : List Int) (n_work : Int) (am : Gate -> Option Int) (ao : Int -> Option Bool) (i : Int) (ay : Reads R ag) (az : Sl ag ah al) (aA : Has R (cBlk ae [ah] 187)) (aq : Reads R ai) (au : Sl ai ac ab) (aB : Has R (cMap encG I aj am)) (aC : Has R (cMap I B ak ao)) (ap : Has R (cBlk aa [Pz ae, ac, I n_work, .map (some aj), .map (some ak)] 180)) {r : Bool} (hM : (zah al ab n_work am ao i).Ends r) (w : World) (H : St w w [] R) : Ret Try.prog 127 #[Pz aa, I i] w fun v w' => ∃ (y0 : Bool), y0 = r /\ v = B y0 /\ St w w' [] R := by
 refine ret_of_W Try.func127 rfl rfl rfl ?_
 refine sQ rfl <| sA (B false) rfl <| s_nil <| sQ rfl <| sM (I i) rfl <| sM (Pz aa) rfl <| s_val (x_nc (a := ⟨aa, 0, none⟩) rfl) <| s_val (x_fa (a := Pz aa) (v := Oz aa 2) rfl (fa_blk (o := 0) Fd180_2 Sz3)) <| s_val (x_ld (p := Oz aa 2) (v := I n_work) rfl (ldb_sc Sc3 (ap.blk H) rfl)) <| sC i n_work (i != n_work) rfl rfl rfl ?_
 refine sM (B (i != n_work)) rfl <| g_val (i != n_work) (gy_t rfl) (fun hg => x_mv (v := Pz aa) rfl) <| g_val (i != n_work) (gy_t rfl) (fun hg => x_nc (a := ⟨aa, 0, none⟩) (gd_of (c := i != n_work) hg (Pz aa))) <| g_val (i != n_work) (gy_t rfl) (fun hg => x_fa (a := Pz aa) (v := Oz aa 1) (gd_of (c := i != n_work) hg (Pz aa)) (fa_blk (o := 0) Fd180_1 Sz34)) <| g_val (i != n_work) (gy_t rfl) (fun hg => x_ld (p := Oz aa 1) (v := ac) (gd_of (c := i != n_work) hg (Oz aa 1)) (ldb_sc Sc34 (ap.blk H) rfl)) <| g_val (i != n_work) (gy_t rfl) (fun hg => x_mv (v := I i) rfl) ?_
 refine t_gcall (i != n_work) (gy_t rfl) cf45 (B (ab.contains i)) (fun _ => [ac, I i]) (fun hg => lst2 (gd_of (c := i != n_work) hg (ac)) (gd_of (c := i != n_work) hg (I i))) H (fun hg => Ret.mono (contains_int i _ (au.mono (aq.at H))) fun v_ w_ ⟨av, aw⟩ => ⟨av, H.ext aw⟩) ?_
 intro aD H
 refine g_val (i != n_work) (gy_t rfl) (fun hg => x_not (b := ab.contains i) (gd_of (c := i != n_work) hg (B (ab.contains i)))) <| s_val (x_pand (b := i != n_work) (r := !(ab.contains i)) rfl (fun hb => gd_of (c := i != n_work) (by first | exact hb | (rw [hb]; rfl) | simp_all) (B (!(ab.contains i)))) rfl) <| sA (B ((i != n_work) && (!(ab.contains i)))) rfl <| s_nil ?_
 refine W.ret ?_
 have ax := M.e_pure hM
 exact ⟨_, resE_tmp rfl, ⟨((i != n_work) && (!(ab.contains i))), ax, rfl, H⟩⟩

def zaw (ae : List Work) (ah : List Int) (n_work : Int) (aa : Int) (ai : ((List Work) × (List Int) × Int × (Gate -> Option Int) × (Int -> Option Bool) × Int) -> M (Bool × (Gate -> Option Int) × (Int -> Option Bool))) : ((Gate -> Option Int) × (Int -> Option Bool) × Nat) -> M (((Gate -> Option Int) × (Int -> Option Bool) × Nat) ⊕ (((Gate -> Option Int) × (Int -> Option Bool)) ⊕ ((Gate -> Option Int) × (Int -> Option Bool)))) := fun (mp, ac, s) =>
  bif decide ((s : Int) < (2 * (ae.length : Int))) then (
  bif ((decide (0 < ((mp (⟨(aa : Int), (s : Int)⟩ : Gate)).getD 0))) && (!((ac (s : Int)).getD false))) then (
  M.bind (ai (ae, ah, n_work, mp, ac, (s : Int))) fun (r8, ab, ag) =>
  bif (((decide (0 < ((mp (⟨(aa : Int), (s : Int)⟩ : Gate)).getD 0))) && (!((ac (s : Int)).getD false))) && r8) then (
  M.grd (decide ((-9223372036854775808 : Int) <= (((ab (⟨(aa : Int), (s : Int)⟩ : Gate)).getD 0) - 1)) && decide ((((ab (⟨(aa : Int), (s : Int)⟩ : Gate)).getD 0) - 1) <= (9223372036854775807 : Int))) <|
  M.grd (decide ((-9223372036854775808 : Int) <= ((((updF ab (⟨(aa : Int), (s : Int)⟩ : Gate) (((ab (⟨(aa : Int), (s : Int)⟩ : Gate)).getD 0) - 1 : Int)) (⟨(s : Int), (aa : Int)⟩ : Gate)).getD 0) + 1)) && decide (((((updF ab (⟨(aa : Int), (s : Int)⟩ : Gate) (((ab (⟨(aa : Int), (s : Int)⟩ : Gate)).getD 0) - 1 : Int)) (⟨(s : Int), (aa : Int)⟩ : Gate)).getD 0) + 1) <= (9223372036854775807 : Int))) <|
  M.pure (.inr (.inl (updF (updF ab (⟨(aa : Int), (s : Int)⟩ : Gate) (((ab (⟨(aa : Int), (s : Int)⟩ : Gate)).getD 0) - 1 : Int)) (⟨(s : Int), (aa : Int)⟩ : Gate) ((((updF ab (⟨(aa : Int), (s : Int)⟩ : Gate) (((ab (⟨(aa : Int), (s : Int)⟩ : Gate)).getD 0) - 1 : Int)) (⟨(s : Int), (aa : Int)⟩ : Gate)).getD 0) + 1 : Int), ag))))
  else (
  M.grd (decide ((-9223372036854775808 : Int) <= ((s : Int) + 1)) && decide (((s : Int) + 1) <= (9223372036854775807 : Int))) <|
  M.pure (.inl (ab, ag, s + 1))))
  else (
  bif (((decide (0 < ((mp (⟨(aa : Int), (s : Int)⟩ : Gate)).getD 0))) && (!((ac (s : Int)).getD false))) && false) then (
  M.grd (decide ((-9223372036854775808 : Int) <= (((mp (⟨(aa : Int), (s : Int)⟩ : Gate)).getD 0) - 1)) && decide ((((mp (⟨(aa : Int), (s : Int)⟩ : Gate)).getD 0) - 1) <= (9223372036854775807 : Int))) <|
  M.grd (decide ((-9223372036854775808 : Int) <= ((((updF mp (⟨(aa : Int), (s : Int)⟩ : Gate) (((mp (⟨(aa : Int), (s : Int)⟩ : Gate)).getD 0) - 1 : Int)) (⟨(s : Int), (aa : Int)⟩ : Gate)).getD 0) + 1)) && decide (((((updF mp (⟨(aa : Int), (s : Int)⟩ : Gate) (((mp (⟨(aa : Int), (s : Int)⟩ : Gate)).getD 0) - 1 : Int)) (⟨(s : Int), (aa : Int)⟩ : Gate)).getD 0) + 1) <= (9223372036854775807 : Int))) <|
  M.pure (.inr (.inl (updF (updF mp (⟨(aa : Int), (s : Int)⟩ : Gate) (((mp (⟨(aa : Int), (s : Int)⟩ : Gate)).getD 0) - 1 : Int)) (⟨(s : Int), (aa : Int)⟩ : Gate) ((((updF mp (⟨(aa : Int), (s : Int)⟩ : Gate) (((mp (⟨(aa : Int), (s : Int)⟩ : Gate)).getD 0) - 1 : Int)) (⟨(s : Int), (aa : Int)⟩ : Gate)).getD 0) + 1 : Int), ac))))
  else (
  M.grd (decide ((-9223372036854775808 : Int) <= ((s : Int) + 1)) && decide (((s : Int) + 1) <= (9223372036854775807 : Int))) <|
  M.pure (.inl (mp, ac, s + 1)))))
  else (
  M.pure (.inr (.inr (mp, ac))))
def zan (ag : ((List Work) × (List Int) × Int × (Gate -> Option Int) × (Int -> Option Bool) × Int) -> M (Bool × (Gate -> Option Int) × (Int -> Option Bool))) : ((List Work) × (List Int) × Int × (Gate -> Option Int) × (Int -> Option Bool) × Int) -> M (Bool × (Gate -> Option Int) × (Int -> Option Bool)) := fun (aa, ah, n_work, ac, ae, ab) =>
  M.grd (decide ((-9223372036854775808 : Int) <= (2 * n_work)) && decide ((2 * n_work) <= (9223372036854775807 : Int))) <|
  bif ab == (2 * n_work) then (
  M.pure (true, ac, ae))
  else (
  M.grd (decide ((-9223372036854775808 : Int) <= (2 * (aa.length : Int))) && decide ((2 * (aa.length : Int)) <= (9223372036854775807 : Int))) <|
  M.bind (M.iter (zaw aa ah n_work ab ag) (ac, updF ae (ab : Int) true, 0)) fun x_ => match x_ with
  | (.inl (ai, aj)) => (
  M.pure (true, ai, aj))
  | (.inr (ak, al)) => (
  M.pure (false, ak, al)))
theorem zbU : M.Mon zan := by
  intro n f g h a
  obtain ⟨aa, ab, n_work, ac, ae, ag⟩ := a
  simp only [zan, zaw]
  repeat' (first | exact M.le_same _ _ | exact h _ | refine M.le_grd ?_ | refine M.le_if ?_ ?_ | refine M.le_bind ?_ (fun x => ?_) | refine M.le_opt ?_ | refine M.le_iter (fun x => ?_) _ | refine zbV (M.le_yl (fun s_ a_ => ?_)) _ _ _ | (rename_i x; cases x) | (rename_i x; obtain ⟨_, _⟩ := x))
def zbm (aa : List Work) (ab : List Int) (n_work : Int) (ac : Gate -> Option Int) (ae : Int -> Option Bool) (ag : Int) : M (Bool × (Gate -> Option Int) × (Int -> Option Bool)) := M.fix zan zbU (aa, ab, n_work, ac, ae, ag)
theorem zch (n_ : Nat) : ∀ {R : List Chunk} {ac : Nat} {ao : Nat} {aC : Cells} {ax : Value} {aD : Cells} {aE : Value} {ag : Nat} {ae : Nat} (am : List Work) (aw : List Int) (n_work : Int) (av : Gate -> Option Int) (au : Int -> Option Bool) (aa : Int) (aG : Reads R aC) (ay : Sl aC ax am) (aF : Has R (cBlk ao [ax] 187)) (aH : Reads R aD) (aI : Sl aD aE aw) (al : Has R (cBlk ac [Pz ao, aE, I n_work, .map (some ag), .map (some ae)] 180)) {r : (Bool × (Gate -> Option Int) × (Int -> Option Bool))} (hM : (M.fixN zan n_ (am, aw, n_work, av, au, aa)).Ends r) (w : World) (H : St w w [cMap encG I ag av, cMap I B ae au] R), Ret Try.prog 126 #[Pz ac, I aa] w fun v w' => ∃ (y0 : Bool) (y1 : Gate -> Option Int) (y2 : Int -> Option Bool), (y0, y1, y2) = r /\ v = B y0 /\ St w w' [cMap encG I ag y1, cMap I B ae y2] R := by
  induction n_ with
  | zero => intro R ac ao aC ax aD aE ag ae am aw n_work av au aa aG ay aF aH aI al r hM w H; exact (M.e_fail hM).elim
  | succ n_ ih =>
    intro R ac ao aC ax aD aE ag ae am aw n_work av au aa aG ay aF aH aI al r hM w H
    refine ret_of_W Try.func126 rfl rfl rfl ?_
    refine sQ rfl <| sA (B false) rfl <| s_nil <| W.seq <| sQ rfl <| sM (I aa) rfl <| sM (Pz ac) rfl <| s_val (x_nc (a := ⟨ac, 0, none⟩) rfl) <| s_val (x_fa (a := Pz ac) (v := Oz ac 2) rfl (fa_blk (o := 0) Fd180_2 Sz3)) <| s_val (x_ld (p := Oz ac 2) (v := I n_work) rfl (ldb_sc Sc3 (al.blk H) rfl)) ?_
    obtain ⟨bG, hM⟩ := M.e_gd hM
    refine sR 2 n_work (2 * n_work) rfl rfl rfl (by omega) <| sC aa (2 * n_work) (aa == (2 * n_work)) rfl rfl rfl <| s_nil ?_
    refine W.cond (aa == (2 * n_work)) rfl (fun az => ?_) (fun az => ?_)
    ·replace hM := M.e_t hM az
     simp only [qz1, qz2, qz3, qz4, qz5, qz6, ne_eq, qz7] at az
     refine sQ rfl <| sA (B true) rfl <| s_nil ?_
     refine W.ret ?_
     have aj := M.e_pure hM
     exact ⟨_, resE_tmp rfl, ⟨true, av, au, aj, rfl, H⟩⟩
    replace hM := M.e_f hM az
    simp only [qz1, qz2, qz3, qz4, qz5, qz6, ne_eq, qz7] at az
    refine W.skip <| sQ rfl <| sM (Pz ac) rfl <| s_val (x_nc (a := ⟨ac, 0, none⟩) rfl) <| s_val (x_fa (a := Pz ac) (v := Oz ac 4) rfl (fa_blk (o := 0) Fd180_4 Sz178)) <| s_val (x_ld (p := Oz ac 4) (v := .map (some ae)) rfl (ldb_sc Sc178 (al.blk H) rfl)) <| sM (I aa) rfl ?_
    refine t_mapu (i := 1) (kenc := I) (venc := B) (f := au) (k := (aa : Int)) (v := true) (L' := [cMap encG I ag av, cMap I B ae (updF au (aa : Int) true)]) keyIntB Try.underlying178 H rfl rfl rfl rfl rfl ?_
    intro bH H
    refine s_nil <| W.seq <| sQ rfl <| sM (Pz ac) rfl <| s_val (x_nc (a := ⟨ac, 0, none⟩) rfl) <| s_val (x_fa (a := Pz ac) (v := Pz ac) rfl (fa_blk (o := 0) Fd180_0 Sz127)) <| s_val (x_ld (p := Pz ac) (v := Pz ao) rfl (ldb_sc Sc127 (al.blk H) rfl)) <| s_val (x_nc (a := ⟨ao, 0, none⟩) rfl) <| s_val (x_fa (a := Pz ao) (v := Pz ao) rfl (fa_blk (o := 0) Fd187_0 Sz185)) <| s_val (x_fa (a := Pz ao) (v := Pz ao) rfl (fa_blk (o := 0) Fd185_0 Sz22)) <| s_val (x_ld (p := Pz ao) (v := ax) rfl (ldb_sc Sc22 (aF.blk H) rfl)) ?_
    have bI := (ay).len_le
    refine s_val (x_lenS T22.und rfl ay) ?_
    obtain ⟨bJ, hM⟩ := M.e_gd hM
    refine sR 2 (am.length : Int) (2 * (am.length : Int)) rfl rfl rfl (by omega) <| sM (I 0) rfl <| s_nil <| W.block ?_
    obtain ⟨a7, aJ, aq⟩ := M.e_bind hM
    obtain ⟨bK, aJ⟩ := M.e_iter aJ
    refine W.loop (fun m σ W => ∃ (mp : Gate -> Option Int) (ah : Int -> Option Bool) (s : Nat) (ρ : Env), σ = upds ρ [(0, Pz ac), (1, I aa), (27, I (2 * (am.length : Int))), (28, I (s : Int))] /\ M.iterN (zaw am aw n_work aa (M.fixN zan n_)) m (mp, ah, s) = some a7 /\ St w W [cMap encG I ag mp, cMap I B ae ah] R) ?_ ?_
    ·exact ⟨_, av, updF au (aa : Int) true, 0, _, upds_of _ _ ⟨rfl, rfl, rfl, rfl, trivial⟩, aJ, H⟩
    rintro bL σ bM ⟨mp, ah, s, ρ, rfl, aY, H⟩
    obtain ⟨aZ, a5, bN, hM, ap⟩ := M.e_iterN aY
    simp only [zaw] at hM
    clear aY
    refine sQ rfl <| sC (s : Int) (2 * (am.length : Int)) (decide ((s : Int) < (2 * (am.length : Int)))) rfl rfl rfl <| s_nil <| W.seq ?_
    refine W.cond (decide ((s : Int) < (2 * (am.length : Int)))) rfl (fun aA => ?_) (fun aA => ?_)
    ·replace hM := M.e_t hM aA
     simp only [qz1, qz2, qz3, qz4, qz5, qz6, ne_eq, qz7] at aA
     refine W.skip <| W.seq <| W.block <| sQ rfl <| sM (I (s : Int)) rfl <| sA (I (s : Int)) rfl <| s_nil <| sQ rfl <| sM (Pz ac) rfl <| s_val (x_nc (a := ⟨ac, 0, none⟩) rfl) ?_
     refine s_val (x_fa (a := Pz ac) (v := Oz ac 3) rfl (fa_blk (o := 0) Fd180_3 Sz177)) <| s_val (x_ld (p := Oz ac 3) (v := .map (some ag)) rfl (ldb_sc Sc177 (al.blk H) rfl)) <| sM (I aa) rfl <| sM (I (s : Int)) rfl <| s_val (x_bld (ps := [(0, I aa), (1, I (s : Int))]) (zs := [I 0, I 0]) (L' := [I aa, I (s : Int)]) rfl Try.underlying182 Al182 rfl (Bd182 Try.underlying182) (.cons (cs := [I aa]) rfl rfl rfl rfl rfl <| .cons (cs := [I (s : Int)]) rfl rfl rfl rfl rfl <| .nil)) <| s_val (q_look (kenc := encG) (venc := I) (f := mp) (k := (⟨(aa : Int), (s : Int)⟩ : Gate)) (v := I ((mp (⟨(aa : Int), (s : Int)⟩ : Gate)).getD 0)) keyGate Try.underlying177 Al3 rfl rfl (H.get (k := 0) rfl) false (by rw [if_neg (by decide), int_val])) <| sC ((mp (⟨(aa : Int), (s : Int)⟩ : Gate)).getD 0) 0 (decide (0 < ((mp (⟨(aa : Int), (s : Int)⟩ : Gate)).getD 0))) rfl rfl rfl <| sM (B (decide (0 < ((mp (⟨(aa : Int), (s : Int)⟩ : Gate)).getD 0)))) rfl <| g_val (decide (0 < ((mp (⟨(aa : Int), (s : Int)⟩ : Gate)).getD 0))) (gy_t rfl) (fun hg => x_mv (v := Pz ac) rfl) <| g_val (decide (0 < ((mp (⟨(aa : Int), (s : Int)⟩ : Gate)).getD 0))) (gy_t rfl) (fun hg => x_nc (a := ⟨ac, 0, none⟩) (gd_of (c := decide (0 < ((mp (⟨(aa : Int), (s : Int)⟩ : Gate)).getD 0))) hg (Pz ac))) <| g_val (decide (0 < ((mp (⟨(aa : Int), (s : Int)⟩ : Gate)).getD 0))) (gy_t rfl) (fun hg => x_fa (a := Pz ac) (v := Oz ac 4) (gd_of (c := decide (0 < ((mp (⟨(aa : Int), (s : Int)⟩ : Gate)).getD 0))) hg (Pz ac)) (fa_blk (o := 0) Fd180_4 Sz178)) <| g_val (decide (0 < ((mp (⟨(aa : Int), (s : Int)⟩ : Gate)).getD 0))) (gy_t rfl) (fun hg => x_ld (p := Oz ac 4) (v := .map (some ae)) (gd_of (c := decide (0 < ((mp (⟨(aa : Int), (s : Int)⟩ : Gate)).getD 0))) hg (Oz ac 4)) (ldb_sc Sc178 (al.blk H) rfl)) ?_
     refine g_val (decide (0 < ((mp (⟨(aa : Int), (s : Int)⟩ : Gate)).getD 0))) (gy_t rfl) (fun hg => x_mv (v := I (s : Int)) rfl) <| g_val (decide (0 < ((mp (⟨(aa : Int), (s : Int)⟩ : Gate)).getD 0))) (gy_t rfl) (fun hg => q_look (kenc := I) (venc := B) (f := ah) (k := (s : Int)) (v := B ((ah (s : Int)).getD false)) keyIntB Try.underlying178 Al4 (by exact (gd_of (c := decide (0 < ((mp (⟨(aa : Int), (s : Int)⟩ : Gate)).getD 0))) hg (.map (some ae)))) (by exact (gd_of (c := decide (0 < ((mp (⟨(aa : Int), (s : Int)⟩ : Gate)).getD 0))) hg (I (s : Int)))) (H.get (k := 1) rfl) false (by rw [if_neg (by decide), bool_val])) <| g_val (decide (0 < ((mp (⟨(aa : Int), (s : Int)⟩ : Gate)).getD 0))) (gy_t rfl) (fun hg => x_not (b := (ah (s : Int)).getD false) (gd_of (c := decide (0 < ((mp (⟨(aa : Int), (s : Int)⟩ : Gate)).getD 0))) hg (B ((ah (s : Int)).getD false)))) <| s_val (x_pand (b := decide (0 < ((mp (⟨(aa : Int), (s : Int)⟩ : Gate)).getD 0))) (r := !((ah (s : Int)).getD false)) rfl (fun hb => gd_of (c := decide (0 < ((mp (⟨(aa : Int), (s : Int)⟩ : Gate)).getD 0))) (by first | exact hb | (rw [hb]; rfl) | simp_all) (B (!((ah (s : Int)).getD false)))) rfl) <| sM (B ((decide (0 < ((mp (⟨(aa : Int), (s : Int)⟩ : Gate)).getD 0))) && (!((ah (s : Int)).getD false)))) rfl <| g_val ((decide (0 < ((mp (⟨(aa : Int), (s : Int)⟩ : Gate)).getD 0))) && (!((ah (s : Int)).getD false))) (gy_t rfl) (fun hg => x_mv (v := Pz ac) rfl) <| g_val ((decide (0 < ((mp (⟨(aa : Int), (s : Int)⟩ : Gate)).getD 0))) && (!((ah (s : Int)).getD false))) (gy_t rfl) (fun hg => x_mv (v := I (s : Int)) rfl) ?_
     refine g_splitV ((decide (0 < ((mp (⟨(aa : Int), (s : Int)⟩ : Gate)).getD 0))) && (!((ah (s : Int)).getD false))) (B false) (gy_t rfl) (fun aB => ?_) (fun aB => ?_)
     ·replace hM := M.e_t hM aB
      obtain ⟨bO, a8, hM⟩ := M.e_bind hM
      refine s_call cf126 [Pz ac, I (s : Int)] (lst2 (gd_of (c := ((decide (0 < ((mp (⟨(aa : Int), (s : Int)⟩ : Gate)).getD 0))) && (!((ah (s : Int)).getD false)))) aB (Pz ac)) (gd_of (c := ((decide (0 < ((mp (⟨(aa : Int), (s : Int)⟩ : Gate)).getD 0))) && (!((ah (s : Int)).getD false)))) aB (I (s : Int)))) (ih am aw n_work mp ah (s : Int) (aG.app _) ay (aF.app _) (aH.app _) aI (al.app _) a8 _ (St.give (T := []) H rfl)) ?_
      rintro vq a9 ⟨r9, ab, ai, ba, hvq, a6⟩
      subst ba
      subst vq
      try dsimp only at hM
      replace H : St w a9 [cMap encG I ag ab, cMap I B ae ai] R := H.back a6 rfl
      clear a6
      refine s_val (x_pand (b := ((decide (0 < ((mp (⟨(aa : Int), (s : Int)⟩ : Gate)).getD 0))) && (!((ah (s : Int)).getD false)))) (r := r9) rfl (fun _ => rfl) rfl) <| s_nil ?_
      refine W.cond (((decide (0 < ((mp (⟨(aa : Int), (s : Int)⟩ : Gate)).getD 0))) && (!((ah (s : Int)).getD false))) && r9) rfl (fun aK => ?_) (fun aK => ?_)
      ·replace hM := M.e_t hM aK
       refine W.seq ?_
       refine W.drawT (fun W => St w W [cMap I B ae ai] R) (.q 0 (.q 1 (.q 2 (.q 3 (.q 4 (.q 5 (.q 6 (.l2 7 (.q 8 (.l 9 (.q 10 (.l 11 .nil)))) 9 (.q 10 (.l 7 (.q 8 (.l 11 .nil)))))))))))) mixed (by decide +kernel) rfl ?_
       intro bb ak
       replace H : St w bb [cMap encG I ag ab, cMap I B ae ai] R := H.ext ak
       clear ak
       refine ⟨(H.pick [1] (by decide) rfl), ?_⟩
       refine t_q rfl (fun w' H => x_mv (v := Pz ac) rfl) ?_
       refine t_q rfl (fun w' H => x_nc (a := ⟨ac, 0, none⟩) rfl) ?_
       refine t_q rfl (fun w' H => x_fa (a := Pz ac) (v := Oz ac 3) rfl (fa_blk (o := 0) Fd180_3 Sz177)) ?_
       refine t_q rfl (fun w' H => x_ld (p := Oz ac 3) (v := .map (some ag)) rfl (ldb_sc Sc177 (al.blk H) rfl)) ?_
       refine t_q rfl (fun w' H => x_mv (v := I aa) rfl) ?_
       refine t_q rfl (fun w' H => x_mv (v := I (s : Int)) rfl) ?_
       refine t_q rfl (fun w' H => x_bld (ps := [(0, I aa), (1, I (s : Int))]) (zs := [I 0, I 0]) (L' := [I aa, I (s : Int)]) rfl Try.underlying182 Al182 rfl (Bd182 Try.underlying182) (.cons (cs := [I aa]) rfl rfl rfl rfl rfl <| .cons (cs := [I (s : Int)]) rfl rfl rfl rfl rfl <| .nil)) ?_
       obtain ⟨bP, hM⟩ := M.e_gd hM
       refine t_l2 rfl rfl ?_ ?_
       ·skip
        refine s_val (q_look (kenc := encG) (venc := I) (f := ab) (k := (⟨(aa : Int), (s : Int)⟩ : Gate)) (v := I ((ab (⟨(aa : Int), (s : Int)⟩ : Gate)).getD 0)) keyGate Try.underlying177 Al3 rfl rfl (H.get (k := 0) rfl) false (by rw [if_neg (by decide), int_val])) ?_
        refine s_nil ⟨(H.pick [1] (by decide) rfl), ?_⟩
        refine t_q rfl (fun w' H => x_ari (a := (ab (⟨(aa : Int), (s : Int)⟩ : Gate)).getD 0) (b := 1) (r := ((ab (⟨(aa : Int), (s : Int)⟩ : Gate)).getD 0) - 1) rfl rfl rfl (by omega)) ?_
        refine t_l rfl ?_
        refine t_ment (i := 0) (kenc := encG) (venc := I) (f := ab) (k := (⟨(aa : Int), (s : Int)⟩ : Gate)) (z := 0) keyGate Try.underlying177 Al3 H rfl rfl rfl ?_
        intro aL bc H
        replace H : St w bc [cEnt encG I ag (updF ab (⟨(aa : Int), (s : Int)⟩ : Gate) ((ab (⟨(aa : Int), (s : Int)⟩ : Gate)).getD 0)) (⟨(aa : Int), (s : Int)⟩ : Gate) aL, cMap I B ae ai] R := H
        refine s_nil ⟨(H.pick [1] (by decide) rfl), ?_⟩
        refine t_q rfl (fun w' H => x_ext (vs := [I ((ab (⟨(aa : Int), (s : Int)⟩ : Gate)).getD 0), .int .i64 aL]) (v := .int .i64 aL) rfl rfl) ?_
        refine t_l rfl ?_
        refine t_enst (i := 0) (kenc := encG) (venc := I) (f0 := ab) (k := (⟨(aa : Int), (s : Int)⟩ : Gate)) (v := (((ab (⟨(aa : Int), (s : Int)⟩ : Gate)).getD 0) - 1 : Int)) (L' := [cMap encG I ag (updF ab (⟨(aa : Int), (s : Int)⟩ : Gate) (((ab (⟨(aa : Int), (s : Int)⟩ : Gate)).getD 0) - 1 : Int)), cMap I B ae ai]) H rfl rfl rfl rfl rfl ?_
        intro bQ H
        refine s_nil ⟨(H.pick [1] (by decide) rfl), ?_⟩
        refine t_nil ?_
        refine W.seq ?_
        refine W.drawT (fun W => St w W [cMap I B ae ai] R) (.q 0 (.q 1 (.q 2 (.q 3 (.q 4 (.q 5 (.q 6 (.l2 7 (.q 8 (.l 9 (.q 10 (.l 11 .nil)))) 9 (.q 10 (.l 7 (.q 8 (.l 11 .nil)))))))))))) mixed (by decide +kernel) rfl ?_
        intro bf ak
        replace H : St w bf [cMap encG I ag (updF ab (⟨(aa : Int), (s : Int)⟩ : Gate) (((ab (⟨(aa : Int), (s : Int)⟩ : Gate)).getD 0) - 1 : Int)), cMap I B ae ai] R := H.ext ak
        clear ak
        refine ⟨(H.pick [1] (by decide) rfl), ?_⟩
        refine t_q rfl (fun w' H => x_mv (v := Pz ac) rfl) ?_
        refine t_q rfl (fun w' H => x_nc (a := ⟨ac, 0, none⟩) rfl) ?_
        refine t_q rfl (fun w' H => x_fa (a := Pz ac) (v := Oz ac 3) rfl (fa_blk (o := 0) Fd180_3 Sz177)) ?_
        refine t_q rfl (fun w' H => x_ld (p := Oz ac 3) (v := .map (some ag)) rfl (ldb_sc Sc177 (al.blk H) rfl)) ?_
        refine t_q rfl (fun w' H => x_mv (v := I (s : Int)) rfl) ?_
        refine t_q rfl (fun w' H => x_mv (v := I aa) rfl) ?_
        refine t_q rfl (fun w' H => x_bld (ps := [(0, I (s : Int)), (1, I aa)]) (zs := [I 0, I 0]) (L' := [I (s : Int), I aa]) rfl Try.underlying182 Al182 rfl (Bd182 Try.underlying182) (.cons (cs := [I (s : Int)]) rfl rfl rfl rfl rfl <| .cons (cs := [I aa]) rfl rfl rfl rfl rfl <| .nil)) ?_
        obtain ⟨bR, hM⟩ := M.e_gd hM
        refine t_l2 rfl rfl ?_ ?_
        ·skip
         refine s_val (q_look (kenc := encG) (venc := I) (f := updF ab (⟨(aa : Int), (s : Int)⟩ : Gate) (((ab (⟨(aa : Int), (s : Int)⟩ : Gate)).getD 0) - 1 : Int)) (k := (⟨(s : Int), (aa : Int)⟩ : Gate)) (v := I (((updF ab (⟨(aa : Int), (s : Int)⟩ : Gate) (((ab (⟨(aa : Int), (s : Int)⟩ : Gate)).getD 0) - 1 : Int)) (⟨(s : Int), (aa : Int)⟩ : Gate)).getD 0)) keyGate Try.underlying177 Al3 rfl rfl (H.get (k := 0) rfl) false (by rw [if_neg (by decide), int_val])) ?_
         refine s_nil ⟨(H.pick [1] (by decide) rfl), ?_⟩
         refine t_q rfl (fun w' H => x_ari (a := ((updF ab (⟨(aa : Int), (s : Int)⟩ : Gate) (((ab (⟨(aa : Int), (s : Int)⟩ : Gate)).getD 0) - 1 : Int)) (⟨(s : Int), (aa : Int)⟩ : Gate)).getD 0) (b := 1) (r := (((updF ab (⟨(aa : Int), (s : Int)⟩ : Gate) (((ab (⟨(aa : Int), (s : Int)⟩ : Gate)).getD 0) - 1 : Int)) (⟨(s : Int), (aa : Int)⟩ : Gate)).getD 0) + 1) rfl rfl rfl (by omega)) ?_
         refine t_l rfl ?_
         refine t_ment (i := 0) (kenc := encG) (venc := I) (f := updF ab (⟨(aa : Int), (s : Int)⟩ : Gate) (((ab (⟨(aa : Int), (s : Int)⟩ : Gate)).getD 0) - 1 : Int)) (k := (⟨(s : Int), (aa : Int)⟩ : Gate)) (z := 0) keyGate Try.underlying177 Al3 H rfl rfl rfl ?_
         intro aM bg H
         replace H : St w bg [cEnt encG I ag (updF (updF ab (⟨(aa : Int), (s : Int)⟩ : Gate) (((ab (⟨(aa : Int), (s : Int)⟩ : Gate)).getD 0) - 1 : Int)) (⟨(s : Int), (aa : Int)⟩ : Gate) (((updF ab (⟨(aa : Int), (s : Int)⟩ : Gate) (((ab (⟨(aa : Int), (s : Int)⟩ : Gate)).getD 0) - 1 : Int)) (⟨(s : Int), (aa : Int)⟩ : Gate)).getD 0)) (⟨(s : Int), (aa : Int)⟩ : Gate) aM, cMap I B ae ai] R := H
         refine s_nil ⟨(H.pick [1] (by decide) rfl), ?_⟩
         refine t_q rfl (fun w' H => x_ext (vs := [I (((updF ab (⟨(aa : Int), (s : Int)⟩ : Gate) (((ab (⟨(aa : Int), (s : Int)⟩ : Gate)).getD 0) - 1 : Int)) (⟨(s : Int), (aa : Int)⟩ : Gate)).getD 0), .int .i64 aM]) (v := .int .i64 aM) rfl rfl) ?_
         refine t_l rfl ?_
         refine t_enst (i := 0) (kenc := encG) (venc := I) (f0 := updF ab (⟨(aa : Int), (s : Int)⟩ : Gate) (((ab (⟨(aa : Int), (s : Int)⟩ : Gate)).getD 0) - 1 : Int)) (k := (⟨(s : Int), (aa : Int)⟩ : Gate)) (v := ((((updF ab (⟨(aa : Int), (s : Int)⟩ : Gate) (((ab (⟨(aa : Int), (s : Int)⟩ : Gate)).getD 0) - 1 : Int)) (⟨(s : Int), (aa : Int)⟩ : Gate)).getD 0) + 1 : Int)) (L' := [cMap encG I ag (updF (updF ab (⟨(aa : Int), (s : Int)⟩ : Gate) (((ab (⟨(aa : Int), (s : Int)⟩ : Gate)).getD 0) - 1 : Int)) (⟨(s : Int), (aa : Int)⟩ : Gate) ((((updF ab (⟨(aa : Int), (s : Int)⟩ : Gate) (((ab (⟨(aa : Int), (s : Int)⟩ : Gate)).getD 0) - 1 : Int)) (⟨(s : Int), (aa : Int)⟩ : Gate)).getD 0) + 1 : Int)), cMap I B ae ai]) H rfl rfl rfl rfl rfl ?_
         intro bS H
         refine s_nil ⟨(H.pick [1] (by decide) rfl), ?_⟩
         refine t_nil ?_
         refine sQ rfl <| sA (B true) rfl <| s_nil ?_
         refine W.ret ?_
         have bh := M.e_inr hM ap
         subst bh
         replace hM := aq
         try dsimp only at hM
         have aj := M.e_pure hM
         exact ⟨_, resE_tmp rfl, ⟨true, (updF (updF ab (⟨(aa : Int), (s : Int)⟩ : Gate) (((ab (⟨(aa : Int), (s : Int)⟩ : Gate)).getD 0) - 1 : Int)) (⟨(s : Int), (aa : Int)⟩ : Gate) ((((updF ab (⟨(aa : Int), (s : Int)⟩ : Gate) (((ab (⟨(aa : Int), (s : Int)⟩ : Gate)).getD 0) - 1 : Int)) (⟨(s : Int), (aa : Int)⟩ : Gate)).getD 0) + 1 : Int)), ai, aj, rfl, H⟩⟩
        skip
        refine t_ment (i := 0) (kenc := encG) (venc := I) (f := updF ab (⟨(aa : Int), (s : Int)⟩ : Gate) (((ab (⟨(aa : Int), (s : Int)⟩ : Gate)).getD 0) - 1 : Int)) (k := (⟨(s : Int), (aa : Int)⟩ : Gate)) (z := 0) keyGate Try.underlying177 Al3 H rfl rfl rfl ?_
        intro aN bi H
        replace H : St w bi [cEnt encG I ag (updF (updF ab (⟨(aa : Int), (s : Int)⟩ : Gate) (((ab (⟨(aa : Int), (s : Int)⟩ : Gate)).getD 0) - 1 : Int)) (⟨(s : Int), (aa : Int)⟩ : Gate) (((updF ab (⟨(aa : Int), (s : Int)⟩ : Gate) (((ab (⟨(aa : Int), (s : Int)⟩ : Gate)).getD 0) - 1 : Int)) (⟨(s : Int), (aa : Int)⟩ : Gate)).getD 0)) (⟨(s : Int), (aa : Int)⟩ : Gate) aN, cMap I B ae ai] R := H
        refine s_nil ⟨(H.pick [1] (by decide) rfl), ?_⟩
        refine t_q rfl (fun w' H => x_ext (vs := [I (((updF ab (⟨(aa : Int), (s : Int)⟩ : Gate) (((ab (⟨(aa : Int), (s : Int)⟩ : Gate)).getD 0) - 1 : Int)) (⟨(s : Int), (aa : Int)⟩ : Gate)).getD 0), .int .i64 aN]) (v := .int .i64 aN) rfl rfl) ?_
        refine t_l rfl ?_
        refine s_val (q_look (kenc := encG) (venc := I) (f := updF (updF ab (⟨(aa : Int), (s : Int)⟩ : Gate) (((ab (⟨(aa : Int), (s : Int)⟩ : Gate)).getD 0) - 1 : Int)) (⟨(s : Int), (aa : Int)⟩ : Gate) (((updF ab (⟨(aa : Int), (s : Int)⟩ : Gate) (((ab (⟨(aa : Int), (s : Int)⟩ : Gate)).getD 0) - 1 : Int)) (⟨(s : Int), (aa : Int)⟩ : Gate)).getD 0)) (k := (⟨(s : Int), (aa : Int)⟩ : Gate)) (v := I (((updF ab (⟨(aa : Int), (s : Int)⟩ : Gate) (((ab (⟨(aa : Int), (s : Int)⟩ : Gate)).getD 0) - 1 : Int)) (⟨(s : Int), (aa : Int)⟩ : Gate)).getD 0)) keyGate Try.underlying177 Al3 rfl rfl (entMap (H.get (k := 0) rfl)) false (by rw [if_neg (by decide), int_val, updF_same])) ?_
        refine s_nil ⟨(H.pick [1] (by decide) rfl), ?_⟩
        refine t_q rfl (fun w' H => x_ari (a := ((updF ab (⟨(aa : Int), (s : Int)⟩ : Gate) (((ab (⟨(aa : Int), (s : Int)⟩ : Gate)).getD 0) - 1 : Int)) (⟨(s : Int), (aa : Int)⟩ : Gate)).getD 0) (b := 1) (r := (((updF ab (⟨(aa : Int), (s : Int)⟩ : Gate) (((ab (⟨(aa : Int), (s : Int)⟩ : Gate)).getD 0) - 1 : Int)) (⟨(s : Int), (aa : Int)⟩ : Gate)).getD 0) + 1) rfl rfl rfl (by omega)) ?_
        refine t_l rfl ?_
        refine t_enst (i := 0) (kenc := encG) (venc := I) (f0 := updF ab (⟨(aa : Int), (s : Int)⟩ : Gate) (((ab (⟨(aa : Int), (s : Int)⟩ : Gate)).getD 0) - 1 : Int)) (k := (⟨(s : Int), (aa : Int)⟩ : Gate)) (v := ((((updF ab (⟨(aa : Int), (s : Int)⟩ : Gate) (((ab (⟨(aa : Int), (s : Int)⟩ : Gate)).getD 0) - 1 : Int)) (⟨(s : Int), (aa : Int)⟩ : Gate)).getD 0) + 1 : Int)) (L' := [cMap encG I ag (updF (updF ab (⟨(aa : Int), (s : Int)⟩ : Gate) (((ab (⟨(aa : Int), (s : Int)⟩ : Gate)).getD 0) - 1 : Int)) (⟨(s : Int), (aa : Int)⟩ : Gate) ((((updF ab (⟨(aa : Int), (s : Int)⟩ : Gate) (((ab (⟨(aa : Int), (s : Int)⟩ : Gate)).getD 0) - 1 : Int)) (⟨(s : Int), (aa : Int)⟩ : Gate)).getD 0) + 1 : Int)), cMap I B ae ai]) H rfl rfl rfl rfl rfl ?_
        intro bT H
        refine s_nil ⟨(H.pick [1] (by decide) rfl), ?_⟩
        refine t_nil ?_
        refine sQ rfl <| sA (B true) rfl <| s_nil ?_
        refine W.ret ?_
        have bj := M.e_inr hM ap
        subst bj
        replace hM := aq
        try dsimp only at hM
        have aj := M.e_pure hM
        exact ⟨_, resE_tmp rfl, ⟨true, (updF (updF ab (⟨(aa : Int), (s : Int)⟩ : Gate) (((ab (⟨(aa : Int), (s : Int)⟩ : Gate)).getD 0) - 1 : Int)) (⟨(s : Int), (aa : Int)⟩ : Gate) ((((updF ab (⟨(aa : Int), (s : Int)⟩ : Gate) (((ab (⟨(aa : Int), (s : Int)⟩ : Gate)).getD 0) - 1 : Int)) (⟨(s : Int), (aa : Int)⟩ : Gate)).getD 0) + 1 : Int)), ai, aj, rfl, H⟩⟩
       skip
       refine t_ment (i := 0) (kenc := encG) (venc := I) (f := ab) (k := (⟨(aa : Int), (s : Int)⟩ : Gate)) (z := 0) keyGate Try.underlying177 Al3 H rfl rfl rfl ?_
       intro aO bk H
       replace H : St w bk [cEnt encG I ag (updF ab (⟨(aa : Int), (s : Int)⟩ : Gate) ((ab (⟨(aa : Int), (s : Int)⟩ : Gate)).getD 0)) (⟨(aa : Int), (s : Int)⟩ : Gate) aO, cMap I B ae ai] R := H
       refine s_nil ⟨(H.pick [1] (by decide) rfl), ?_⟩
       refine t_q rfl (fun w' H => x_ext (vs := [I ((ab (⟨(aa : Int), (s : Int)⟩ : Gate)).getD 0), .int .i64 aO]) (v := .int .i64 aO) rfl rfl) ?_
       refine t_l rfl ?_
       refine s_val (q_look (kenc := encG) (venc := I) (f := updF ab (⟨(aa : Int), (s : Int)⟩ : Gate) ((ab (⟨(aa : Int), (s : Int)⟩ : Gate)).getD 0)) (k := (⟨(aa : Int), (s : Int)⟩ : Gate)) (v := I ((ab (⟨(aa : Int), (s : Int)⟩ : Gate)).getD 0)) keyGate Try.underlying177 Al3 rfl rfl (entMap (H.get (k := 0) rfl)) false (by rw [if_neg (by decide), int_val, updF_same])) ?_
       refine s_nil ⟨(H.pick [1] (by decide) rfl), ?_⟩
       refine t_q rfl (fun w' H => x_ari (a := (ab (⟨(aa : Int), (s : Int)⟩ : Gate)).getD 0) (b := 1) (r := ((ab (⟨(aa : Int), (s : Int)⟩ : Gate)).getD 0) - 1) rfl rfl rfl (by omega)) ?_
       refine t_l rfl ?_
       refine t_enst (i := 0) (kenc := encG) (venc := I) (f0 := ab) (k := (⟨(aa : Int), (s : Int)⟩ : Gate)) (v := (((ab (⟨(aa : Int), (s : Int)⟩ : Gate)).getD 0) - 1 : Int)) (L' := [cMap encG I ag (updF ab (⟨(aa : Int), (s : Int)⟩ : Gate) (((ab (⟨(aa : Int), (s : Int)⟩ : Gate)).getD 0) - 1 : Int)), cMap I B ae ai]) H rfl rfl rfl rfl rfl ?_
       intro bU H
       refine s_nil ⟨(H.pick [1] (by decide) rfl), ?_⟩
       refine t_nil ?_
       refine W.seq ?_
       refine W.drawT (fun W => St w W [cMap I B ae ai] R) (.q 0 (.q 1 (.q 2 (.q 3 (.q 4 (.q 5 (.q 6 (.l2 7 (.q 8 (.l 9 (.q 10 (.l 11 .nil)))) 9 (.q 10 (.l 7 (.q 8 (.l 11 .nil)))))))))))) mixed (by decide +kernel) rfl ?_
       intro bl ak
       replace H : St w bl [cMap encG I ag (updF ab (⟨(aa : Int), (s : Int)⟩ : Gate) (((ab (⟨(aa : Int), (s : Int)⟩ : Gate)).getD 0) - 1 : Int)), cMap I B ae ai] R := H.ext ak
       clear ak
       refine ⟨(H.pick [1] (by decide) rfl), ?_⟩
       refine t_q rfl (fun w' H => x_mv (v := Pz ac) rfl) ?_
       refine t_q rfl (fun w' H => x_nc (a := ⟨ac, 0, none⟩) rfl) ?_
       refine t_q rfl (fun w' H => x_fa (a := Pz ac) (v := Oz ac 3) rfl (fa_blk (o := 0) Fd180_3 Sz177)) ?_
       refine t_q rfl (fun w' H => x_ld (p := Oz ac 3) (v := .map (some ag)) rfl (ldb_sc Sc177 (al.blk H) rfl)) ?_
       refine t_q rfl (fun w' H => x_mv (v := I (s : Int)) rfl) ?_
       refine t_q rfl (fun w' H => x_mv (v := I aa) rfl) ?_
       refine t_q rfl (fun w' H => x_bld (ps := [(0, I (s : Int)), (1, I aa)]) (zs := [I 0, I 0]) (L' := [I (s : Int), I aa]) rfl Try.underlying182 Al182 rfl (Bd182 Try.underlying182) (.cons (cs := [I (s : Int)]) rfl rfl rfl rfl rfl <| .cons (cs := [I aa]) rfl rfl rfl rfl rfl <| .nil)) ?_
       obtain ⟨bV, hM⟩ := M.e_gd hM
       refine t_l2 rfl rfl ?_ ?_
       ·skip
        refine s_val (q_look (kenc := encG) (venc := I) (f := updF ab (⟨(aa : Int), (s : Int)⟩ : Gate) (((ab (⟨(aa : Int), (s : Int)⟩ : Gate)).getD 0) - 1 : Int)) (k := (⟨(s : Int), (aa : Int)⟩ : Gate)) (v := I (((updF ab (⟨(aa : Int), (s : Int)⟩ : Gate) (((ab (⟨(aa : Int), (s : Int)⟩ : Gate)).getD 0) - 1 : Int)) (⟨(s : Int), (aa : Int)⟩ : Gate)).getD 0)) keyGate Try.underlying177 Al3 rfl rfl (H.get (k := 0) rfl) false (by rw [if_neg (by decide), int_val])) ?_
        refine s_nil ⟨(H.pick [1] (by decide) rfl), ?_⟩
        refine t_q rfl (fun w' H => x_ari (a := ((updF ab (⟨(aa : Int), (s : Int)⟩ : Gate) (((ab (⟨(aa : Int), (s : Int)⟩ : Gate)).getD 0) - 1 : Int)) (⟨(s : Int), (aa : Int)⟩ : Gate)).getD 0) (b := 1) (r := (((updF ab (⟨(aa : Int), (s : Int)⟩ : Gate) (((ab (⟨(aa : Int), (s : Int)⟩ : Gate)).getD 0) - 1 : Int)) (⟨(s : Int), (aa : Int)⟩ : Gate)).getD 0) + 1) rfl rfl rfl (by omega)) ?_
        refine t_l rfl ?_
        refine t_ment (i := 0) (kenc := encG) (venc := I) (f := updF ab (⟨(aa : Int), (s : Int)⟩ : Gate) (((ab (⟨(aa : Int), (s : Int)⟩ : Gate)).getD 0) - 1 : Int)) (k := (⟨(s : Int), (aa : Int)⟩ : Gate)) (z := 0) keyGate Try.underlying177 Al3 H rfl rfl rfl ?_
        intro aP bm H
        replace H : St w bm [cEnt encG I ag (updF (updF ab (⟨(aa : Int), (s : Int)⟩ : Gate) (((ab (⟨(aa : Int), (s : Int)⟩ : Gate)).getD 0) - 1 : Int)) (⟨(s : Int), (aa : Int)⟩ : Gate) (((updF ab (⟨(aa : Int), (s : Int)⟩ : Gate) (((ab (⟨(aa : Int), (s : Int)⟩ : Gate)).getD 0) - 1 : Int)) (⟨(s : Int), (aa : Int)⟩ : Gate)).getD 0)) (⟨(s : Int), (aa : Int)⟩ : Gate) aP, cMap I B ae ai] R := H
        refine s_nil ⟨(H.pick [1] (by decide) rfl), ?_⟩
        refine t_q rfl (fun w' H => x_ext (vs := [I (((updF ab (⟨(aa : Int), (s : Int)⟩ : Gate) (((ab (⟨(aa : Int), (s : Int)⟩ : Gate)).getD 0) - 1 : Int)) (⟨(s : Int), (aa : Int)⟩ : Gate)).getD 0), .int .i64 aP]) (v := .int .i64 aP) rfl rfl) ?_
        refine t_l rfl ?_
        refine t_enst (i := 0) (kenc := encG) (venc := I) (f0 := updF ab (⟨(aa : Int), (s : Int)⟩ : Gate) (((ab (⟨(aa : Int), (s : Int)⟩ : Gate)).getD 0) - 1 : Int)) (k := (⟨(s : Int), (aa : Int)⟩ : Gate)) (v := ((((updF ab (⟨(aa : Int), (s : Int)⟩ : Gate) (((ab (⟨(aa : Int), (s : Int)⟩ : Gate)).getD 0) - 1 : Int)) (⟨(s : Int), (aa : Int)⟩ : Gate)).getD 0) + 1 : Int)) (L' := [cMap encG I ag (updF (updF ab (⟨(aa : Int), (s : Int)⟩ : Gate) (((ab (⟨(aa : Int), (s : Int)⟩ : Gate)).getD 0) - 1 : Int)) (⟨(s : Int), (aa : Int)⟩ : Gate) ((((updF ab (⟨(aa : Int), (s : Int)⟩ : Gate) (((ab (⟨(aa : Int), (s : Int)⟩ : Gate)).getD 0) - 1 : Int)) (⟨(s : Int), (aa : Int)⟩ : Gate)).getD 0) + 1 : Int)), cMap I B ae ai]) H rfl rfl rfl rfl rfl ?_
        intro bW H
        refine s_nil ⟨(H.pick [1] (by decide) rfl), ?_⟩
        refine t_nil ?_
        refine sQ rfl <| sA (B true) rfl <| s_nil ?_
        refine W.ret ?_
        have bn := M.e_inr hM ap
        subst bn
        replace hM := aq
        try dsimp only at hM
        have aj := M.e_pure hM
        exact ⟨_, resE_tmp rfl, ⟨true, (updF (updF ab (⟨(aa : Int), (s : Int)⟩ : Gate) (((ab (⟨(aa : Int), (s : Int)⟩ : Gate)).getD 0) - 1 : Int)) (⟨(s : Int), (aa : Int)⟩ : Gate) ((((updF ab (⟨(aa : Int), (s : Int)⟩ : Gate) (((ab (⟨(aa : Int), (s : Int)⟩ : Gate)).getD 0) - 1 : Int)) (⟨(s : Int), (aa : Int)⟩ : Gate)).getD 0) + 1 : Int)), ai, aj, rfl, H⟩⟩
       skip
       refine t_ment (i := 0) (kenc := encG) (venc := I) (f := updF ab (⟨(aa : Int), (s : Int)⟩ : Gate) (((ab (⟨(aa : Int), (s : Int)⟩ : Gate)).getD 0) - 1 : Int)) (k := (⟨(s : Int), (aa : Int)⟩ : Gate)) (z := 0) keyGate Try.underlying177 Al3 H rfl rfl rfl ?_
       intro aQ bo H
       replace H : St w bo [cEnt encG I ag (updF (updF ab (⟨(aa : Int), (s : Int)⟩ : Gate) (((ab (⟨(aa : Int), (s : Int)⟩ : Gate)).getD 0) - 1 : Int)) (⟨(s : Int), (aa : Int)⟩ : Gate) (((updF ab (⟨(aa : Int), (s : Int)⟩ : Gate) (((ab (⟨(aa : Int), (s : Int)⟩ : Gate)).getD 0) - 1 : Int)) (⟨(s : Int), (aa : Int)⟩ : Gate)).getD 0)) (⟨(s : Int), (aa : Int)⟩ : Gate) aQ, cMap I B ae ai] R := H
       refine s_nil ⟨(H.pick [1] (by decide) rfl), ?_⟩
       refine t_q rfl (fun w' H => x_ext (vs := [I (((updF ab (⟨(aa : Int), (s : Int)⟩ : Gate) (((ab (⟨(aa : Int), (s : Int)⟩ : Gate)).getD 0) - 1 : Int)) (⟨(s : Int), (aa : Int)⟩ : Gate)).getD 0), .int .i64 aQ]) (v := .int .i64 aQ) rfl rfl) ?_
       refine t_l rfl ?_
       refine s_val (q_look (kenc := encG) (venc := I) (f := updF (updF ab (⟨(aa : Int), (s : Int)⟩ : Gate) (((ab (⟨(aa : Int), (s : Int)⟩ : Gate)).getD 0) - 1 : Int)) (⟨(s : Int), (aa : Int)⟩ : Gate) (((updF ab (⟨(aa : Int), (s : Int)⟩ : Gate) (((ab (⟨(aa : Int), (s : Int)⟩ : Gate)).getD 0) - 1 : Int)) (⟨(s : Int), (aa : Int)⟩ : Gate)).getD 0)) (k := (⟨(s : Int), (aa : Int)⟩ : Gate)) (v := I (((updF ab (⟨(aa : Int), (s : Int)⟩ : Gate) (((ab (⟨(aa : Int), (s : Int)⟩ : Gate)).getD 0) - 1 : Int)) (⟨(s : Int), (aa : Int)⟩ : Gate)).getD 0)) keyGate Try.underlying177 Al3 rfl rfl (entMap (H.get (k := 0) rfl)) false (by rw [if_neg (by decide), int_val, updF_same])) ?_
       refine s_nil ⟨(H.pick [1] (by decide) rfl), ?_⟩
       refine t_q rfl (fun w' H => x_ari (a := ((updF ab (⟨(aa : Int), (s : Int)⟩ : Gate) (((ab (⟨(aa : Int), (s : Int)⟩ : Gate)).getD 0) - 1 : Int)) (⟨(s : Int), (aa : Int)⟩ : Gate)).getD 0) (b := 1) (r := (((updF ab (⟨(aa : Int), (s : Int)⟩ : Gate) (((ab (⟨(aa : Int), (s : Int)⟩ : Gate)).getD 0) - 1 : Int)) (⟨(s : Int), (aa : Int)⟩ : Gate)).getD 0) + 1) rfl rfl rfl (by omega)) ?_
       refine t_l rfl ?_
       refine t_enst (i := 0) (kenc := encG) (venc := I) (f0 := updF ab (⟨(aa : Int), (s : Int)⟩ : Gate) (((ab (⟨(aa : Int), (s : Int)⟩ : Gate)).getD 0) - 1 : Int)) (k := (⟨(s : Int), (aa : Int)⟩ : Gate)) (v := ((((updF ab (⟨(aa : Int), (s : Int)⟩ : Gate) (((ab (⟨(aa : Int), (s : Int)⟩ : Gate)).getD 0) - 1 : Int)) (⟨(s : Int), (aa : Int)⟩ : Gate)).getD 0) + 1 : Int)) (L' := [cMap encG I ag (updF (updF ab (⟨(aa : Int), (s : Int)⟩ : Gate) (((ab (⟨(aa : Int), (s : Int)⟩ : Gate)).getD 0) - 1 : Int)) (⟨(s : Int), (aa : Int)⟩ : Gate) ((((updF ab (⟨(aa : Int), (s : Int)⟩ : Gate) (((ab (⟨(aa : Int), (s : Int)⟩ : Gate)).getD 0) - 1 : Int)) (⟨(s : Int), (aa : Int)⟩ : Gate)).getD 0) + 1 : Int)), cMap I B ae ai]) H rfl rfl rfl rfl rfl ?_
       intro bX H
       refine s_nil ⟨(H.pick [1] (by decide) rfl), ?_⟩
       refine t_nil ?_
       refine sQ rfl <| sA (B true) rfl <| s_nil ?_
       refine W.ret ?_
       have bp := M.e_inr hM ap
       subst bp
       replace hM := aq
       try dsimp only at hM
       have aj := M.e_pure hM
       exact ⟨_, resE_tmp rfl, ⟨true, (updF (updF ab (⟨(aa : Int), (s : Int)⟩ : Gate) (((ab (⟨(aa : Int), (s : Int)⟩ : Gate)).getD 0) - 1 : Int)) (⟨(s : Int), (aa : Int)⟩ : Gate) ((((updF ab (⟨(aa : Int), (s : Int)⟩ : Gate) (((ab (⟨(aa : Int), (s : Int)⟩ : Gate)).getD 0) - 1 : Int)) (⟨(s : Int), (aa : Int)⟩ : Gate)).getD 0) + 1 : Int)), ai, aj, rfl, H⟩⟩
      replace hM := M.e_f hM aK
      refine W.skip <| W.region rfl ?_
      obtain ⟨bY, hM⟩ := M.e_gd hM
      refine sR (s : Int) 1 ((s : Int) + 1) rfl rfl rfl (by omega) <| sM (I ((s : Int) + 1)) rfl <| s_nil ?_
      exact ⟨aZ, a5, ab, ai, s + 1, _, upds_of _ _ ⟨rfl, rfl, rfl, rfl, trivial⟩, M.e_inl hM ap, H⟩
     replace hM := M.e_f hM aB
     refine s_val (x_pand (b := ((decide (0 < ((mp (⟨(aa : Int), (s : Int)⟩ : Gate)).getD 0))) && (!((ah (s : Int)).getD false)))) (r := false) rfl (fun hb => gd_of (c := ((decide (0 < ((mp (⟨(aa : Int), (s : Int)⟩ : Gate)).getD 0))) && (!((ah (s : Int)).getD false)))) (by first | exact hb | (rw [hb]; rfl) | simp_all) (B false)) rfl) <| s_nil ?_
     refine W.cond (((decide (0 < ((mp (⟨(aa : Int), (s : Int)⟩ : Gate)).getD 0))) && (!((ah (s : Int)).getD false))) && false) rfl (fun aR => ?_) (fun aR => ?_)
     ·replace hM := M.e_t hM aR
      refine W.seq ?_
      refine W.drawT (fun W => St w W [cMap I B ae ah] R) (.q 0 (.q 1 (.q 2 (.q 3 (.q 4 (.q 5 (.q 6 (.l2 7 (.q 8 (.l 9 (.q 10 (.l 11 .nil)))) 9 (.q 10 (.l 7 (.q 8 (.l 11 .nil)))))))))))) mixed (by decide +kernel) rfl ?_
      intro bq ak
      replace H : St w bq [cMap encG I ag mp, cMap I B ae ah] R := H.ext ak
      clear ak
      refine ⟨(H.pick [1] (by decide) rfl), ?_⟩
      refine t_q rfl (fun w' H => x_mv (v := Pz ac) rfl) ?_
      refine t_q rfl (fun w' H => x_nc (a := ⟨ac, 0, none⟩) rfl) ?_
      refine t_q rfl (fun w' H => x_fa (a := Pz ac) (v := Oz ac 3) rfl (fa_blk (o := 0) Fd180_3 Sz177)) ?_
      refine t_q rfl (fun w' H => x_ld (p := Oz ac 3) (v := .map (some ag)) rfl (ldb_sc Sc177 (al.blk H) rfl)) ?_
      refine t_q rfl (fun w' H => x_mv (v := I aa) rfl) ?_
      refine t_q rfl (fun w' H => x_mv (v := I (s : Int)) rfl) ?_
      refine t_q rfl (fun w' H => x_bld (ps := [(0, I aa), (1, I (s : Int))]) (zs := [I 0, I 0]) (L' := [I aa, I (s : Int)]) rfl Try.underlying182 Al182 rfl (Bd182 Try.underlying182) (.cons (cs := [I aa]) rfl rfl rfl rfl rfl <| .cons (cs := [I (s : Int)]) rfl rfl rfl rfl rfl <| .nil)) ?_
      obtain ⟨bZ, hM⟩ := M.e_gd hM
      refine t_l2 rfl rfl ?_ ?_
      ·skip
       refine s_val (q_look (kenc := encG) (venc := I) (f := mp) (k := (⟨(aa : Int), (s : Int)⟩ : Gate)) (v := I ((mp (⟨(aa : Int), (s : Int)⟩ : Gate)).getD 0)) keyGate Try.underlying177 Al3 rfl rfl (H.get (k := 0) rfl) false (by rw [if_neg (by decide), int_val])) ?_
       refine s_nil ⟨(H.pick [1] (by decide) rfl), ?_⟩
       refine t_q rfl (fun w' H => x_ari (a := (mp (⟨(aa : Int), (s : Int)⟩ : Gate)).getD 0) (b := 1) (r := ((mp (⟨(aa : Int), (s : Int)⟩ : Gate)).getD 0) - 1) rfl rfl rfl (by omega)) ?_
       refine t_l rfl ?_
       refine t_ment (i := 0) (kenc := encG) (venc := I) (f := mp) (k := (⟨(aa : Int), (s : Int)⟩ : Gate)) (z := 0) keyGate Try.underlying177 Al3 H rfl rfl rfl ?_
       intro aS br H
       replace H : St w br [cEnt encG I ag (updF mp (⟨(aa : Int), (s : Int)⟩ : Gate) ((mp (⟨(aa : Int), (s : Int)⟩ : Gate)).getD 0)) (⟨(aa : Int), (s : Int)⟩ : Gate) aS, cMap I B ae ah] R := H
       refine s_nil ⟨(H.pick [1] (by decide) rfl), ?_⟩
       refine t_q rfl (fun w' H => x_ext (vs := [I ((mp (⟨(aa : Int), (s : Int)⟩ : Gate)).getD 0), .int .i64 aS]) (v := .int .i64 aS) rfl rfl) ?_
       refine t_l rfl ?_
       refine t_enst (i := 0) (kenc := encG) (venc := I) (f0 := mp) (k := (⟨(aa : Int), (s : Int)⟩ : Gate)) (v := (((mp (⟨(aa : Int), (s : Int)⟩ : Gate)).getD 0) - 1 : Int)) (L' := [cMap encG I ag (updF mp (⟨(aa : Int), (s : Int)⟩ : Gate) (((mp (⟨(aa : Int), (s : Int)⟩ : Gate)).getD 0) - 1 : Int)), cMap I B ae ah]) H rfl rfl rfl rfl rfl ?_
       intro b6 H
       refine s_nil ⟨(H.pick [1] (by decide) rfl), ?_⟩
       refine t_nil ?_
       refine W.seq ?_
       refine W.drawT (fun W => St w W [cMap I B ae ah] R) (.q 0 (.q 1 (.q 2 (.q 3 (.q 4 (.q 5 (.q 6 (.l2 7 (.q 8 (.l 9 (.q 10 (.l 11 .nil)))) 9 (.q 10 (.l 7 (.q 8 (.l 11 .nil)))))))))))) mixed (by decide +kernel) rfl ?_
       intro bt ak
       replace H : St w bt [cMap encG I ag (updF mp (⟨(aa : Int), (s : Int)⟩ : Gate) (((mp (⟨(aa : Int), (s : Int)⟩ : Gate)).getD 0) - 1 : Int)), cMap I B ae ah] R := H.ext ak
       clear ak
       refine ⟨(H.pick [1] (by decide) rfl), ?_⟩
       refine t_q rfl (fun w' H => x_mv (v := Pz ac) rfl) ?_
       refine t_q rfl (fun w' H => x_nc (a := ⟨ac, 0, none⟩) rfl) ?_
       refine t_q rfl (fun w' H => x_fa (a := Pz ac) (v := Oz ac 3) rfl (fa_blk (o := 0) Fd180_3 Sz177)) ?_
       refine t_q rfl (fun w' H => x_ld (p := Oz ac 3) (v := .map (some ag)) rfl (ldb_sc Sc177 (al.blk H) rfl)) ?_
       refine t_q rfl (fun w' H => x_mv (v := I (s : Int)) rfl) ?_
       refine t_q rfl (fun w' H => x_mv (v := I aa) rfl) ?_
       refine t_q rfl (fun w' H => x_bld (ps := [(0, I (s : Int)), (1, I aa)]) (zs := [I 0, I 0]) (L' := [I (s : Int), I aa]) rfl Try.underlying182 Al182 rfl (Bd182 Try.underlying182) (.cons (cs := [I (s : Int)]) rfl rfl rfl rfl rfl <| .cons (cs := [I aa]) rfl rfl rfl rfl rfl <| .nil)) ?_
       obtain ⟨b8, hM⟩ := M.e_gd hM
       refine t_l2 rfl rfl ?_ ?_
       ·skip
        refine s_val (q_look (kenc := encG) (venc := I) (f := updF mp (⟨(aa : Int), (s : Int)⟩ : Gate) (((mp (⟨(aa : Int), (s : Int)⟩ : Gate)).getD 0) - 1 : Int)) (k := (⟨(s : Int), (aa : Int)⟩ : Gate)) (v := I (((updF mp (⟨(aa : Int), (s : Int)⟩ : Gate) (((mp (⟨(aa : Int), (s : Int)⟩ : Gate)).getD 0) - 1 : Int)) (⟨(s : Int), (aa : Int)⟩ : Gate)).getD 0)) keyGate Try.underlying177 Al3 rfl rfl (H.get (k := 0) rfl) false (by rw [if_neg (by decide), int_val])) ?_
        refine s_nil ⟨(H.pick [1] (by decide) rfl), ?_⟩
        refine t_q rfl (fun w' H => x_ari (a := ((updF mp (⟨(aa : Int), (s : Int)⟩ : Gate) (((mp (⟨(aa : Int), (s : Int)⟩ : Gate)).getD 0) - 1 : Int)) (⟨(s : Int), (aa : Int)⟩ : Gate)).getD 0) (b := 1) (r := (((updF mp (⟨(aa : Int), (s : Int)⟩ : Gate) (((mp (⟨(aa : Int), (s : Int)⟩ : Gate)).getD 0) - 1 : Int)) (⟨(s : Int), (aa : Int)⟩ : Gate)).getD 0) + 1) rfl rfl rfl (by omega)) ?_
        refine t_l rfl ?_
        refine t_ment (i := 0) (kenc := encG) (venc := I) (f := updF mp (⟨(aa : Int), (s : Int)⟩ : Gate) (((mp (⟨(aa : Int), (s : Int)⟩ : Gate)).getD 0) - 1 : Int)) (k := (⟨(s : Int), (aa : Int)⟩ : Gate)) (z := 0) keyGate Try.underlying177 Al3 H rfl rfl rfl ?_
        intro aT bu H
        replace H : St w bu [cEnt encG I ag (updF (updF mp (⟨(aa : Int), (s : Int)⟩ : Gate) (((mp (⟨(aa : Int), (s : Int)⟩ : Gate)).getD 0) - 1 : Int)) (⟨(s : Int), (aa : Int)⟩ : Gate) (((updF mp (⟨(aa : Int), (s : Int)⟩ : Gate) (((mp (⟨(aa : Int), (s : Int)⟩ : Gate)).getD 0) - 1 : Int)) (⟨(s : Int), (aa : Int)⟩ : Gate)).getD 0)) (⟨(s : Int), (aa : Int)⟩ : Gate) aT, cMap I B ae ah] R := H
        refine s_nil ⟨(H.pick [1] (by decide) rfl), ?_⟩
        refine t_q rfl (fun w' H => x_ext (vs := [I (((updF mp (⟨(aa : Int), (s : Int)⟩ : Gate) (((mp (⟨(aa : Int), (s : Int)⟩ : Gate)).getD 0) - 1 : Int)) (⟨(s : Int), (aa : Int)⟩ : Gate)).getD 0), .int .i64 aT]) (v := .int .i64 aT) rfl rfl) ?_
        refine t_l rfl ?_
        refine t_enst (i := 0) (kenc := encG) (venc := I) (f0 := updF mp (⟨(aa : Int), (s : Int)⟩ : Gate) (((mp (⟨(aa : Int), (s : Int)⟩ : Gate)).getD 0) - 1 : Int)) (k := (⟨(s : Int), (aa : Int)⟩ : Gate)) (v := ((((updF mp (⟨(aa : Int), (s : Int)⟩ : Gate) (((mp (⟨(aa : Int), (s : Int)⟩ : Gate)).getD 0) - 1 : Int)) (⟨(s : Int), (aa : Int)⟩ : Gate)).getD 0) + 1 : Int)) (L' := [cMap encG I ag (updF (updF mp (⟨(aa : Int), (s : Int)⟩ : Gate) (((mp (⟨(aa : Int), (s : Int)⟩ : Gate)).getD 0) - 1 : Int)) (⟨(s : Int), (aa : Int)⟩ : Gate) ((((updF mp (⟨(aa : Int), (s : Int)⟩ : Gate) (((mp (⟨(aa : Int), (s : Int)⟩ : Gate)).getD 0) - 1 : Int)) (⟨(s : Int), (aa : Int)⟩ : Gate)).getD 0) + 1 : Int)), cMap I B ae ah]) H rfl rfl rfl rfl rfl ?_
        intro ca H
        refine s_nil ⟨(H.pick [1] (by decide) rfl), ?_⟩
        refine t_nil ?_
        refine sQ rfl <| sA (B true) rfl <| s_nil ?_
        refine W.ret ?_
        have bv := M.e_inr hM ap
        subst bv
        replace hM := aq
        try dsimp only at hM
        have aj := M.e_pure hM
        exact ⟨_, resE_tmp rfl, ⟨true, (updF (updF mp (⟨(aa : Int), (s : Int)⟩ : Gate) (((mp (⟨(aa : Int), (s : Int)⟩ : Gate)).getD 0) - 1 : Int)) (⟨(s : Int), (aa : Int)⟩ : Gate) ((((updF mp (⟨(aa : Int), (s : Int)⟩ : Gate) (((mp (⟨(aa : Int), (s : Int)⟩ : Gate)).getD 0) - 1 : Int)) (⟨(s : Int), (aa : Int)⟩ : Gate)).getD 0) + 1 : Int)), ah, aj, rfl, H⟩⟩
       skip
       refine t_ment (i := 0) (kenc := encG) (venc := I) (f := updF mp (⟨(aa : Int), (s : Int)⟩ : Gate) (((mp (⟨(aa : Int), (s : Int)⟩ : Gate)).getD 0) - 1 : Int)) (k := (⟨(s : Int), (aa : Int)⟩ : Gate)) (z := 0) keyGate Try.underlying177 Al3 H rfl rfl rfl ?_
       intro aU bw H
       replace H : St w bw [cEnt encG I ag (updF (updF mp (⟨(aa : Int), (s : Int)⟩ : Gate) (((mp (⟨(aa : Int), (s : Int)⟩ : Gate)).getD 0) - 1 : Int)) (⟨(s : Int), (aa : Int)⟩ : Gate) (((updF mp (⟨(aa : Int), (s : Int)⟩ : Gate) (((mp (⟨(aa : Int), (s : Int)⟩ : Gate)).getD 0) - 1 : Int)) (⟨(s : Int), (aa : Int)⟩ : Gate)).getD 0)) (⟨(s : Int), (aa : Int)⟩ : Gate) aU, cMap I B ae ah] R := H
       refine s_nil ⟨(H.pick [1] (by decide) rfl), ?_⟩
       refine t_q rfl (fun w' H => x_ext (vs := [I (((updF mp (⟨(aa : Int), (s : Int)⟩ : Gate) (((mp (⟨(aa : Int), (s : Int)⟩ : Gate)).getD 0) - 1 : Int)) (⟨(s : Int), (aa : Int)⟩ : Gate)).getD 0), .int .i64 aU]) (v := .int .i64 aU) rfl rfl) ?_
       refine t_l rfl ?_
       refine s_val (q_look (kenc := encG) (venc := I) (f := updF (updF mp (⟨(aa : Int), (s : Int)⟩ : Gate) (((mp (⟨(aa : Int), (s : Int)⟩ : Gate)).getD 0) - 1 : Int)) (⟨(s : Int), (aa : Int)⟩ : Gate) (((updF mp (⟨(aa : Int), (s : Int)⟩ : Gate) (((mp (⟨(aa : Int), (s : Int)⟩ : Gate)).getD 0) - 1 : Int)) (⟨(s : Int), (aa : Int)⟩ : Gate)).getD 0)) (k := (⟨(s : Int), (aa : Int)⟩ : Gate)) (v := I (((updF mp (⟨(aa : Int), (s : Int)⟩ : Gate) (((mp (⟨(aa : Int), (s : Int)⟩ : Gate)).getD 0) - 1 : Int)) (⟨(s : Int), (aa : Int)⟩ : Gate)).getD 0)) keyGate Try.underlying177 Al3 rfl rfl (entMap (H.get (k := 0) rfl)) false (by rw [if_neg (by decide), int_val, updF_same])) ?_
       refine s_nil ⟨(H.pick [1] (by decide) rfl), ?_⟩
       refine t_q rfl (fun w' H => x_ari (a := ((updF mp (⟨(aa : Int), (s : Int)⟩ : Gate) (((mp (⟨(aa : Int), (s : Int)⟩ : Gate)).getD 0) - 1 : Int)) (⟨(s : Int), (aa : Int)⟩ : Gate)).getD 0) (b := 1) (r := (((updF mp (⟨(aa : Int), (s : Int)⟩ : Gate) (((mp (⟨(aa : Int), (s : Int)⟩ : Gate)).getD 0) - 1 : Int)) (⟨(s : Int), (aa : Int)⟩ : Gate)).getD 0) + 1) rfl rfl rfl (by omega)) ?_
       refine t_l rfl ?_
       refine t_enst (i := 0) (kenc := encG) (venc := I) (f0 := updF mp (⟨(aa : Int), (s : Int)⟩ : Gate) (((mp (⟨(aa : Int), (s : Int)⟩ : Gate)).getD 0) - 1 : Int)) (k := (⟨(s : Int), (aa : Int)⟩ : Gate)) (v := ((((updF mp (⟨(aa : Int), (s : Int)⟩ : Gate) (((mp (⟨(aa : Int), (s : Int)⟩ : Gate)).getD 0) - 1 : Int)) (⟨(s : Int), (aa : Int)⟩ : Gate)).getD 0) + 1 : Int)) (L' := [cMap encG I ag (updF (updF mp (⟨(aa : Int), (s : Int)⟩ : Gate) (((mp (⟨(aa : Int), (s : Int)⟩ : Gate)).getD 0) - 1 : Int)) (⟨(s : Int), (aa : Int)⟩ : Gate) ((((updF mp (⟨(aa : Int), (s : Int)⟩ : Gate) (((mp (⟨(aa : Int), (s : Int)⟩ : Gate)).getD 0) - 1 : Int)) (⟨(s : Int), (aa : Int)⟩ : Gate)).getD 0) + 1 : Int)), cMap I B ae ah]) H rfl rfl rfl rfl rfl ?_
       intro cb H
       refine s_nil ⟨(H.pick [1] (by decide) rfl), ?_⟩
       refine t_nil ?_
       refine sQ rfl <| sA (B true) rfl <| s_nil ?_
       refine W.ret ?_
       have bx := M.e_inr hM ap
       subst bx
       replace hM := aq
       try dsimp only at hM
       have aj := M.e_pure hM
       exact ⟨_, resE_tmp rfl, ⟨true, (updF (updF mp (⟨(aa : Int), (s : Int)⟩ : Gate) (((mp (⟨(aa : Int), (s : Int)⟩ : Gate)).getD 0) - 1 : Int)) (⟨(s : Int), (aa : Int)⟩ : Gate) ((((updF mp (⟨(aa : Int), (s : Int)⟩ : Gate) (((mp (⟨(aa : Int), (s : Int)⟩ : Gate)).getD 0) - 1 : Int)) (⟨(s : Int), (aa : Int)⟩ : Gate)).getD 0) + 1 : Int)), ah, aj, rfl, H⟩⟩
      skip
      refine t_ment (i := 0) (kenc := encG) (venc := I) (f := mp) (k := (⟨(aa : Int), (s : Int)⟩ : Gate)) (z := 0) keyGate Try.underlying177 Al3 H rfl rfl rfl ?_
      intro aV bz H
      replace H : St w bz [cEnt encG I ag (updF mp (⟨(aa : Int), (s : Int)⟩ : Gate) ((mp (⟨(aa : Int), (s : Int)⟩ : Gate)).getD 0)) (⟨(aa : Int), (s : Int)⟩ : Gate) aV, cMap I B ae ah] R := H
      refine s_nil ⟨(H.pick [1] (by decide) rfl), ?_⟩
      refine t_q rfl (fun w' H => x_ext (vs := [I ((mp (⟨(aa : Int), (s : Int)⟩ : Gate)).getD 0), .int .i64 aV]) (v := .int .i64 aV) rfl rfl) ?_
      refine t_l rfl ?_
      refine s_val (q_look (kenc := encG) (venc := I) (f := updF mp (⟨(aa : Int), (s : Int)⟩ : Gate) ((mp (⟨(aa : Int), (s : Int)⟩ : Gate)).getD 0)) (k := (⟨(aa : Int), (s : Int)⟩ : Gate)) (v := I ((mp (⟨(aa : Int), (s : Int)⟩ : Gate)).getD 0)) keyGate Try.underlying177 Al3 rfl rfl (entMap (H.get (k := 0) rfl)) false (by rw [if_neg (by decide), int_val, updF_same])) ?_
      refine s_nil ⟨(H.pick [1] (by decide) rfl), ?_⟩
      refine t_q rfl (fun w' H => x_ari (a := (mp (⟨(aa : Int), (s : Int)⟩ : Gate)).getD 0) (b := 1) (r := ((mp (⟨(aa : Int), (s : Int)⟩ : Gate)).getD 0) - 1) rfl rfl rfl (by omega)) ?_
      refine t_l rfl ?_
      refine t_enst (i := 0) (kenc := encG) (venc := I) (f0 := mp) (k := (⟨(aa : Int), (s : Int)⟩ : Gate)) (v := (((mp (⟨(aa : Int), (s : Int)⟩ : Gate)).getD 0) - 1 : Int)) (L' := [cMap encG I ag (updF mp (⟨(aa : Int), (s : Int)⟩ : Gate) (((mp (⟨(aa : Int), (s : Int)⟩ : Gate)).getD 0) - 1 : Int)), cMap I B ae ah]) H rfl rfl rfl rfl rfl ?_
      intro cc H
      refine s_nil ⟨(H.pick [1] (by decide) rfl), ?_⟩
      refine t_nil ?_
      refine W.seq ?_
      refine W.drawT (fun W => St w W [cMap I B ae ah] R) (.q 0 (.q 1 (.q 2 (.q 3 (.q 4 (.q 5 (.q 6 (.l2 7 (.q 8 (.l 9 (.q 10 (.l 11 .nil)))) 9 (.q 10 (.l 7 (.q 8 (.l 11 .nil)))))))))))) mixed (by decide +kernel) rfl ?_
      intro bA ak
      replace H : St w bA [cMap encG I ag (updF mp (⟨(aa : Int), (s : Int)⟩ : Gate) (((mp (⟨(aa : Int), (s : Int)⟩ : Gate)).getD 0) - 1 : Int)), cMap I B ae ah] R := H.ext ak
      clear ak
      refine ⟨(H.pick [1] (by decide) rfl), ?_⟩
      refine t_q rfl (fun w' H => x_mv (v := Pz ac) rfl) ?_
      refine t_q rfl (fun w' H => x_nc (a := ⟨ac, 0, none⟩) rfl) ?_
      refine t_q rfl (fun w' H => x_fa (a := Pz ac) (v := Oz ac 3) rfl (fa_blk (o := 0) Fd180_3 Sz177)) ?_
      refine t_q rfl (fun w' H => x_ld (p := Oz ac 3) (v := .map (some ag)) rfl (ldb_sc Sc177 (al.blk H) rfl)) ?_
      refine t_q rfl (fun w' H => x_mv (v := I (s : Int)) rfl) ?_
      refine t_q rfl (fun w' H => x_mv (v := I aa) rfl) ?_
      refine t_q rfl (fun w' H => x_bld (ps := [(0, I (s : Int)), (1, I aa)]) (zs := [I 0, I 0]) (L' := [I (s : Int), I aa]) rfl Try.underlying182 Al182 rfl (Bd182 Try.underlying182) (.cons (cs := [I (s : Int)]) rfl rfl rfl rfl rfl <| .cons (cs := [I aa]) rfl rfl rfl rfl rfl <| .nil)) ?_
      obtain ⟨cd, hM⟩ := M.e_gd hM
      refine t_l2 rfl rfl ?_ ?_
      ·skip
       refine s_val (q_look (kenc := encG) (venc := I) (f := updF mp (⟨(aa : Int), (s : Int)⟩ : Gate) (((mp (⟨(aa : Int), (s : Int)⟩ : Gate)).getD 0) - 1 : Int)) (k := (⟨(s : Int), (aa : Int)⟩ : Gate)) (v := I (((updF mp (⟨(aa : Int), (s : Int)⟩ : Gate) (((mp (⟨(aa : Int), (s : Int)⟩ : Gate)).getD 0) - 1 : Int)) (⟨(s : Int), (aa : Int)⟩ : Gate)).getD 0)) keyGate Try.underlying177 Al3 rfl rfl (H.get (k := 0) rfl) false (by rw [if_neg (by decide), int_val])) ?_
       refine s_nil ⟨(H.pick [1] (by decide) rfl), ?_⟩
       refine t_q rfl (fun w' H => x_ari (a := ((updF mp (⟨(aa : Int), (s : Int)⟩ : Gate) (((mp (⟨(aa : Int), (s : Int)⟩ : Gate)).getD 0) - 1 : Int)) (⟨(s : Int), (aa : Int)⟩ : Gate)).getD 0) (b := 1) (r := (((updF mp (⟨(aa : Int), (s : Int)⟩ : Gate) (((mp (⟨(aa : Int), (s : Int)⟩ : Gate)).getD 0) - 1 : Int)) (⟨(s : Int), (aa : Int)⟩ : Gate)).getD 0) + 1) rfl rfl rfl (by omega)) ?_
       refine t_l rfl ?_
       refine t_ment (i := 0) (kenc := encG) (venc := I) (f := updF mp (⟨(aa : Int), (s : Int)⟩ : Gate) (((mp (⟨(aa : Int), (s : Int)⟩ : Gate)).getD 0) - 1 : Int)) (k := (⟨(s : Int), (aa : Int)⟩ : Gate)) (z := 0) keyGate Try.underlying177 Al3 H rfl rfl rfl ?_
       intro aW bB H
       replace H : St w bB [cEnt encG I ag (updF (updF mp (⟨(aa : Int), (s : Int)⟩ : Gate) (((mp (⟨(aa : Int), (s : Int)⟩ : Gate)).getD 0) - 1 : Int)) (⟨(s : Int), (aa : Int)⟩ : Gate) (((updF mp (⟨(aa : Int), (s : Int)⟩ : Gate) (((mp (⟨(aa : Int), (s : Int)⟩ : Gate)).getD 0) - 1 : Int)) (⟨(s : Int), (aa : Int)⟩ : Gate)).getD 0)) (⟨(s : Int), (aa : Int)⟩ : Gate) aW, cMap I B ae ah] R := H
       refine s_nil ⟨(H.pick [1] (by decide) rfl), ?_⟩
       refine t_q rfl (fun w' H => x_ext (vs := [I (((updF mp (⟨(aa : Int), (s : Int)⟩ : Gate) (((mp (⟨(aa : Int), (s : Int)⟩ : Gate)).getD 0) - 1 : Int)) (⟨(s : Int), (aa : Int)⟩ : Gate)).getD 0), .int .i64 aW]) (v := .int .i64 aW) rfl rfl) ?_
       refine t_l rfl ?_
       refine t_enst (i := 0) (kenc := encG) (venc := I) (f0 := updF mp (⟨(aa : Int), (s : Int)⟩ : Gate) (((mp (⟨(aa : Int), (s : Int)⟩ : Gate)).getD 0) - 1 : Int)) (k := (⟨(s : Int), (aa : Int)⟩ : Gate)) (v := ((((updF mp (⟨(aa : Int), (s : Int)⟩ : Gate) (((mp (⟨(aa : Int), (s : Int)⟩ : Gate)).getD 0) - 1 : Int)) (⟨(s : Int), (aa : Int)⟩ : Gate)).getD 0) + 1 : Int)) (L' := [cMap encG I ag (updF (updF mp (⟨(aa : Int), (s : Int)⟩ : Gate) (((mp (⟨(aa : Int), (s : Int)⟩ : Gate)).getD 0) - 1 : Int)) (⟨(s : Int), (aa : Int)⟩ : Gate) ((((updF mp (⟨(aa : Int), (s : Int)⟩ : Gate) (((mp (⟨(aa : Int), (s : Int)⟩ : Gate)).getD 0) - 1 : Int)) (⟨(s : Int), (aa : Int)⟩ : Gate)).getD 0) + 1 : Int)), cMap I B ae ah]) H rfl rfl rfl rfl rfl ?_
       intro ce H
       refine s_nil ⟨(H.pick [1] (by decide) rfl), ?_⟩
       refine t_nil ?_
       refine sQ rfl <| sA (B true) rfl <| s_nil ?_
       refine W.ret ?_
       have bC := M.e_inr hM ap
       subst bC
       replace hM := aq
       try dsimp only at hM
       have aj := M.e_pure hM
       exact ⟨_, resE_tmp rfl, ⟨true, (updF (updF mp (⟨(aa : Int), (s : Int)⟩ : Gate) (((mp (⟨(aa : Int), (s : Int)⟩ : Gate)).getD 0) - 1 : Int)) (⟨(s : Int), (aa : Int)⟩ : Gate) ((((updF mp (⟨(aa : Int), (s : Int)⟩ : Gate) (((mp (⟨(aa : Int), (s : Int)⟩ : Gate)).getD 0) - 1 : Int)) (⟨(s : Int), (aa : Int)⟩ : Gate)).getD 0) + 1 : Int)), ah, aj, rfl, H⟩⟩
      skip
      refine t_ment (i := 0) (kenc := encG) (venc := I) (f := updF mp (⟨(aa : Int), (s : Int)⟩ : Gate) (((mp (⟨(aa : Int), (s : Int)⟩ : Gate)).getD 0) - 1 : Int)) (k := (⟨(s : Int), (aa : Int)⟩ : Gate)) (z := 0) keyGate Try.underlying177 Al3 H rfl rfl rfl ?_
      intro aX bD H
      replace H : St w bD [cEnt encG I ag (updF (updF mp (⟨(aa : Int), (s : Int)⟩ : Gate) (((mp (⟨(aa : Int), (s : Int)⟩ : Gate)).getD 0) - 1 : Int)) (⟨(s : Int), (aa : Int)⟩ : Gate) (((updF mp (⟨(aa : Int), (s : Int)⟩ : Gate) (((mp (⟨(aa : Int), (s : Int)⟩ : Gate)).getD 0) - 1 : Int)) (⟨(s : Int), (aa : Int)⟩ : Gate)).getD 0)) (⟨(s : Int), (aa : Int)⟩ : Gate) aX, cMap I B ae ah] R := H
      refine s_nil ⟨(H.pick [1] (by decide) rfl), ?_⟩
      refine t_q rfl (fun w' H => x_ext (vs := [I (((updF mp (⟨(aa : Int), (s : Int)⟩ : Gate) (((mp (⟨(aa : Int), (s : Int)⟩ : Gate)).getD 0) - 1 : Int)) (⟨(s : Int), (aa : Int)⟩ : Gate)).getD 0), .int .i64 aX]) (v := .int .i64 aX) rfl rfl) ?_
      refine t_l rfl ?_
      refine s_val (q_look (kenc := encG) (venc := I) (f := updF (updF mp (⟨(aa : Int), (s : Int)⟩ : Gate) (((mp (⟨(aa : Int), (s : Int)⟩ : Gate)).getD 0) - 1 : Int)) (⟨(s : Int), (aa : Int)⟩ : Gate) (((updF mp (⟨(aa : Int), (s : Int)⟩ : Gate) (((mp (⟨(aa : Int), (s : Int)⟩ : Gate)).getD 0) - 1 : Int)) (⟨(s : Int), (aa : Int)⟩ : Gate)).getD 0)) (k := (⟨(s : Int), (aa : Int)⟩ : Gate)) (v := I (((updF mp (⟨(aa : Int), (s : Int)⟩ : Gate) (((mp (⟨(aa : Int), (s : Int)⟩ : Gate)).getD 0) - 1 : Int)) (⟨(s : Int), (aa : Int)⟩ : Gate)).getD 0)) keyGate Try.underlying177 Al3 rfl rfl (entMap (H.get (k := 0) rfl)) false (by rw [if_neg (by decide), int_val, updF_same])) ?_
      refine s_nil ⟨(H.pick [1] (by decide) rfl), ?_⟩
      refine t_q rfl (fun w' H => x_ari (a := ((updF mp (⟨(aa : Int), (s : Int)⟩ : Gate) (((mp (⟨(aa : Int), (s : Int)⟩ : Gate)).getD 0) - 1 : Int)) (⟨(s : Int), (aa : Int)⟩ : Gate)).getD 0) (b := 1) (r := (((updF mp (⟨(aa : Int), (s : Int)⟩ : Gate) (((mp (⟨(aa : Int), (s : Int)⟩ : Gate)).getD 0) - 1 : Int)) (⟨(s : Int), (aa : Int)⟩ : Gate)).getD 0) + 1) rfl rfl rfl (by omega)) ?_
      refine t_l rfl ?_
      refine t_enst (i := 0) (kenc := encG) (venc := I) (f0 := updF mp (⟨(aa : Int), (s : Int)⟩ : Gate) (((mp (⟨(aa : Int), (s : Int)⟩ : Gate)).getD 0) - 1 : Int)) (k := (⟨(s : Int), (aa : Int)⟩ : Gate)) (v := ((((updF mp (⟨(aa : Int), (s : Int)⟩ : Gate) (((mp (⟨(aa : Int), (s : Int)⟩ : Gate)).getD 0) - 1 : Int)) (⟨(s : Int), (aa : Int)⟩ : Gate)).getD 0) + 1 : Int)) (L' := [cMap encG I ag (updF (updF mp (⟨(aa : Int), (s : Int)⟩ : Gate) (((mp (⟨(aa : Int), (s : Int)⟩ : Gate)).getD 0) - 1 : Int)) (⟨(s : Int), (aa : Int)⟩ : Gate) ((((updF mp (⟨(aa : Int), (s : Int)⟩ : Gate) (((mp (⟨(aa : Int), (s : Int)⟩ : Gate)).getD 0) - 1 : Int)) (⟨(s : Int), (aa : Int)⟩ : Gate)).getD 0) + 1 : Int)), cMap I B ae ah]) H rfl rfl rfl rfl rfl ?_
      intro cf H
      refine s_nil ⟨(H.pick [1] (by decide) rfl), ?_⟩
      refine t_nil ?_
      refine sQ rfl <| sA (B true) rfl <| s_nil ?_
      refine W.ret ?_
      have bE := M.e_inr hM ap
      subst bE
      replace hM := aq
      try dsimp only at hM
      have aj := M.e_pure hM
      exact ⟨_, resE_tmp rfl, ⟨true, (updF (updF mp (⟨(aa : Int), (s : Int)⟩ : Gate) (((mp (⟨(aa : Int), (s : Int)⟩ : Gate)).getD 0) - 1 : Int)) (⟨(s : Int), (aa : Int)⟩ : Gate) ((((updF mp (⟨(aa : Int), (s : Int)⟩ : Gate) (((mp (⟨(aa : Int), (s : Int)⟩ : Gate)).getD 0) - 1 : Int)) (⟨(s : Int), (aa : Int)⟩ : Gate)).getD 0) + 1 : Int)), ah, aj, rfl, H⟩⟩
     replace hM := M.e_f hM aR
     refine W.skip <| W.region rfl ?_
     obtain ⟨cg, hM⟩ := M.e_gd hM
     refine sR (s : Int) 1 ((s : Int) + 1) rfl rfl rfl (by omega) <| sM (I ((s : Int) + 1)) rfl <| s_nil ?_
     exact ⟨aZ, a5, mp, ah, s + 1, _, upds_of _ _ ⟨rfl, rfl, rfl, rfl, trivial⟩, M.e_inl hM ap, H⟩
    replace hM := M.e_f hM aA
    simp only [qz1, qz2, qz3, qz4, qz5, qz6, ne_eq, qz7] at aA
    refine W.exit ?_
    have bF := M.e_inr hM ap
    subst bF
    replace hM := aq
    try dsimp only at hM
    refine sQ rfl <| sA (B false) rfl <| s_nil ?_
    refine W.ret ?_
    have aj := M.e_pure hM
    exact ⟨_, resE_tmp rfl, ⟨false, mp, ah, aj, rfl, H⟩⟩
theorem zbP {R : List Chunk} {aj : Nat} {ak : Nat} {al : Cells} {am : Value} {ao : Cells} {ap : Value} {aa : Nat} {ab : Nat} (ac : List Work) (ae : List Int) (n_work : Int) (ag : Gate -> Option Int) (ah : Int -> Option Bool) (ai : Int) (aq : Reads R al) (au : Sl al am ac) (av : Has R (cBlk ak [am] 187)) (aw : Reads R ao) (ax : Sl ao ap ae) (ay : Has R (cBlk aj [Pz ak, ap, I n_work, .map (some aa), .map (some ab)] 180)) {r : (Bool × (Gate -> Option Int) × (Int -> Option Bool))} (hM : (zbm ac ae n_work ag ah ai).Ends r) (w : World) (H : St w w [cMap encG I aa ag, cMap I B ab ah] R) : Ret Try.prog 126 #[Pz aj, I ai] w fun v w' => ∃ (y0 : Bool) (y1 : Gate -> Option Int) (y2 : Int -> Option Bool), (y0, y1, y2) = r /\ v = B y0 /\ St w w' [cMap encG I aa y1, cMap I B ab y2] R := by
  obtain ⟨n_, hM⟩ := M.e_fix hM
  exact zch n_ ac ae n_work ag ah ai aq au av aw ax ay hM w H

end Go.Proofs.Ytndobgodeicloaa
end
section
set_option maxRecDepth 100000
set_option maxHeartbeats 16000000
namespace Go.Proofs.Ytndobgodeicloaa
open Go Go.Nm
def zaA (aa : List Work) (revised : List Int) (work : Int) (s2 : Nat) : ((Gate -> Option Int) × Nat) -> M (((Gate -> Option Int) × Nat) ⊕ (Gate -> Option Int)) := fun (mp, s) =>
  bif decide ((s : Int) < (((aa.getD s2 default).of).length : Int)) then (
  M.grd (decide ((s : Int) < (((aa.getD s2 default).of).length : Int))) <|
  M.bind (M.opt (((((aa.getD s2 default).of).getD s 0) != work) && !((s2 : Int) == work)) (zah aa revised work mp (fun _ => none) (s2 : Int)) false) fun r3 =>
  bif (((((aa.getD s2 default).of).getD s 0) != work) && (((s2 : Int) == work) || r3)) then (
  M.grd (decide ((-9223372036854775808 : Int) <= (2 * (((aa.getD s2 default).of).getD s 0))) && decide ((2 * (((aa.getD s2 default).of).getD s 0)) <= (9223372036854775807 : Int))) <|
  M.grd (decide ((-9223372036854775808 : Int) <= ((2 * (((aa.getD s2 default).of).getD s 0)) + 1)) && decide (((2 * (((aa.getD s2 default).of).getD s 0)) + 1) <= (9223372036854775807 : Int))) <|
  M.grd (decide ((-9223372036854775808 : Int) <= (2 * (s2 : Int))) && decide ((2 * (s2 : Int)) <= (9223372036854775807 : Int))) <|
  M.pure (.inl (updF mp (⟨((2 * (((aa.getD s2 default).of).getD s 0)) + 1 : Int), 2 * (s2 : Int)⟩ : Gate) (30 : Int), s + 1)))
  else (
  M.pure (.inl (mp, s + 1))))
  else (
  M.pure (.inr mp))
def zbh (aa : List Work) (revised : List Int) (work : Int) (s2 : Nat) : ((Gate -> Option Int) × Nat) -> M (((Gate -> Option Int) × Nat) ⊕ (Gate -> Option Int)) := fun (mp, s) =>
  bif decide ((s : Int) < (((aa.getD s2 default).of).length : Int)) then (
  M.grd (decide ((s : Int) < (((aa.getD s2 default).of).length : Int))) <|
  M.bind (M.opt (((((aa.getD s2 default).of).getD s 0) != work) && !((s2 : Int) == work)) (zah aa revised work mp (fun _ => none) (s2 : Int)) false) fun r3 =>
  bif (((((aa.getD s2 default).of).getD s 0) != work) && (((s2 : Int) == work) || r3)) then (
  M.grd (decide ((-9223372036854775808 : Int) <= (2 * (((aa.getD s2 default).of).getD s 0))) && decide ((2 * (((aa.getD s2 default).of).getD s 0)) <= (9223372036854775807 : Int))) <|
  M.grd (decide ((-9223372036854775808 : Int) <= ((2 * (((aa.getD s2 default).of).getD s 0)) + 1)) && decide (((2 * (((aa.getD s2 default).of).getD s 0)) + 1) <= (9223372036854775807 : Int))) <|
  M.grd (decide ((-9223372036854775808 : Int) <= (2 * (s2 : Int))) && decide ((2 * (s2 : Int)) <= (9223372036854775807 : Int))) <|
  M.pure (.inl (updF mp (⟨((2 * (((aa.getD s2 default).of).getD s 0)) + 1 : Int), 2 * (s2 : Int)⟩ : Gate) (30 : Int), s + 1)))
  else (
  M.pure (.inl (mp, s + 1))))
  else (
  M.pure (.inr mp))
def zat (aa : List Work) (revised : List Int) (work : Int) : ((Gate -> Option Int) × Nat) -> M (((Gate -> Option Int) × Nat) ⊕ (Gate -> Option Int)) := fun (ab, s2) =>
  bif decide ((s2 : Int) < (aa.length : Int)) then (
  M.grd (decide ((s2 : Int) < (aa.length : Int))) <|
  M.bind (zah aa revised work ab (fun _ => none) (s2 : Int)) fun r2 =>
  bif r2 then (
  M.grd (decide ((-9223372036854775808 : Int) <= (2 * (s2 : Int))) && decide ((2 * (s2 : Int)) <= (9223372036854775807 : Int))) <|
  M.grd (decide ((-9223372036854775808 : Int) <= ((2 * (s2 : Int)) + 1)) && decide (((2 * (s2 : Int)) + 1) <= (9223372036854775807 : Int))) <|
  M.bind (M.iter (zaA aa revised work s2) (updF ab (⟨2 * (s2 : Int), ((2 * (s2 : Int)) + 1 : Int)⟩ : Gate) (1 : Int), 0)) fun ac =>
  M.pure (.inl (ac, s2 + 1)))
  else (
  M.bind (M.iter (zbh aa revised work s2) (ab, 0)) fun ac =>
  M.pure (.inl (ac, s2 + 1))))
  else (
  M.pure (.inr ab))
def zaV (ac : List Work) (revised : List Int) (work : Int) (s3 : Nat) : ((Gate -> Option Int) × (Int -> Option Bool)) -> M (((Gate -> Option Int) × (Int -> Option Bool)) ⊕ ((Gate -> Option Int) × (Int -> Option Bool))) := fun (ae, ag) =>
  M.grd (decide ((-9223372036854775808 : Int) <= (2 * (revised.getD s3 0))) && decide ((2 * (revised.getD s3 0)) <= (9223372036854775807 : Int))) <|
  M.grd (decide ((-9223372036854775808 : Int) <= ((2 * (revised.getD s3 0)) + 1)) && decide (((2 * (revised.getD s3 0)) + 1) <= (9223372036854775807 : Int))) <|
  M.bind (zbm ac revised work ae (fun _ => none) ((2 * (revised.getD s3 0)) + 1)) fun (r4, aa, ab) =>
  bif !r4 then (
  M.pure (.inr (aa, ab)))
  else (
  M.pure (.inl (aa, ab)))
def za0 (ac : List Work) (revised : List Int) (work : Int) : ((Gate -> Option Int) × (Int -> Option Bool) × Nat) -> M (((Gate -> Option Int) × (Int -> Option Bool) × Nat) ⊕ ((Gate -> Option Int) × (Int -> Option Bool))) := fun (aa, ab, s3) =>
  bif decide ((s3 : Int) < (revised.length : Int)) then (
  M.grd (decide ((s3 : Int) < (revised.length : Int))) <|
  M.bind (M.iter (zaV ac revised work s3) (aa, ab)) fun (ae, ag) =>
  M.pure (.inl (ae, ag, s3 + 1)))
  else (
  M.pure (.inr (aa, ab)))
def zbk (aa : List Work) (revised : List Int) (work : Int) : M (Int × (Gate -> Option Int) × (Int -> Option Bool)) :=
  M.bind (M.iter (zat aa revised work) ((fun _ => none), 0)) fun ab =>
  M.bind (M.iter (za0 aa revised work) (ab, (fun _ => none), 0)) fun (ac, ae) =>
  M.pure (work, ac, ae)
theorem zca {R : List Chunk} {ah : Nat} {aW : Cells} {am : Value} {aX : Cells} {ag : Value} (aa : List Work) (revised : List Int) (work : Int) (aq : Reads R aW) (ap : Sl aW am aa) (av : Has R (cBlk ah [am] 187)) (aw : Reads R aX) (ao : Sl aX ag revised) {r : (Int × (Gate -> Option Int) × (Int -> Option Bool))} (hM : (zbk aa revised work).Ends r) (w : World) (H : St w w [] R) : Ret Try.prog 160 #[Pz ah, ag, I work] w fun v w' => ∃ (y0 : Int) (y1 : Gate -> Option Int) (y2 : Int -> Option Bool) (nb0 : Nat) (nb1 : Nat) (nb2 : Nat), (y0, y1, y2) = r /\ v = Pz nb0 /\ St w w' [cBlk nb0 [Pz ah, ag, I y0, .map (some nb1), .map (some nb2)] 180, cMap encG I nb1 y1, cMap I B nb2 y2] R := by
 refine ret_of_W Try.func160 rfl rfl rfl ?_
 refine sQ rfl <| sA (.pointer none) rfl <| s_nil <| sQ rfl <| sM (Pz ah) rfl <| sM ag rfl <| sM (I work) rfl ?_
 refine t_mkmap (κ := Gate) (ν := Int) encG I H ?_
 intro ac bM H
 refine t_mkmap (κ := Int) (ν := Bool) I B H ?_
 intro ae bN H
 refine s_val (x_bld (ps := [(0, Pz ah), (1, ag), (2, I work), (3, .map (some ac)), (4, .map (some ae))]) (zs := [.pointer none, .slice none 0 0, I 0, .map none, .map none]) (L' := [Pz ah, ag, I work, .map (some ac), .map (some ae)]) rfl Try.underlying180 Al180 rfl (Bd180 Try.underlying180) (.cons (cs := [Pz ah]) rfl rfl rfl rfl rfl <| .cons (cs := [ag]) (Sl.cells ao) rfl rfl rfl rfl <| .cons (cs := [I work]) rfl rfl rfl rfl rfl <| .cons (cs := [.map (some ac)]) rfl rfl rfl rfl rfl <| .cons (cs := [.map (some ae)]) rfl rfl rfl rfl rfl <| .nil)) ?_
 refine t_box (v := .agg #[Pz ah, ag, I work, .map (some ac), .map (some ae)]) (cs := [Pz ah, ag, I work, .map (some ac), .map (some ae)]) H rfl rfl ?_
 intro ab bO H
 refine sA (Pz ab) rfl <| s_nil <| W.seq <| sQ rfl <| sM (Pz ah) rfl <| s_val (x_nc (a := ⟨ah, 0, none⟩) rfl) <| s_val (x_fa (a := Pz ah) (v := Pz ah) rfl (fa_blk (o := 0) Fd187_0 Sz185)) <| s_val (x_fa (a := Pz ah) (v := Pz ah) rfl (fa_blk (o := 0) Fd185_0 Sz22)) <| s_val (x_ld (p := Pz ah) (v := am) rfl (ldb_sc Sc22 (av.blk H) rfl)) ?_
 have bP := (ap).len_le
 refine s_val (x_lenS T22.und rfl ap) <| sM (I 0) rfl <| s_nil <| W.block ?_
 obtain ⟨bi, aH, bj⟩ := M.e_bind hM
 obtain ⟨aF, aH⟩ := M.e_iter aH
 refine W.loop (fun m σ W => ∃ (ak : Gate -> Option Int) (s2 : Nat) (ρ : Env), σ = upds ρ [(1, ag), (2, I work), (7, Pz ab), (25, am), (26, I (aa.length : Int)), (27, I (s2 : Int))] /\ M.iterN (zat aa revised work) m (ak, s2) = some bi /\ St w W [cBlk ab [Pz ah, ag, I work, .map (some ac), .map (some ae)] 180, cMap I B ae (fun _ => none), cMap encG I ac ak] R) ?_ ?_
 ·exact ⟨_, (fun _ => none), 0, _, upds_of _ _ ⟨rfl, rfl, rfl, rfl, rfl, rfl, trivial⟩, aH, H⟩
 rintro bQ σ bR ⟨ak, s2, ρ, rfl, aY, H⟩
 obtain ⟨aZ, a5, bS, hM, aI⟩ := M.e_iterN aY
 simp only [zat] at hM
 clear aY
 refine sQ rfl <| sC (s2 : Int) (aa.length : Int) (decide ((s2 : Int) < (aa.length : Int))) rfl rfl rfl <| s_nil <| W.seq ?_
 refine W.cond (decide ((s2 : Int) < (aa.length : Int))) rfl (fun ax => ?_) (fun ax => ?_)
 ·replace hM := M.e_t hM ax
  simp only [qz1, qz2, qz3, qz4, qz5, qz6, ne_eq, qz7] at ax
  refine W.skip <| W.seq <| W.block <| sQ rfl <| sM (I (s2 : Int)) rfl ?_
  obtain ⟨bT, hM⟩ := M.e_gd hM
  refine s_val (x_ix (a := am) (b := I (s2 : Int)) (v := vat am 3 (Int.toNat (s2 : Int))) rfl rfl (Sl.ix (α := Work) T22.und T22.size ap (by omega) (by omega))) ?_
  obtain ⟨ai, bk, al⟩ := Work_atA ap (i := (s2 : Int)) (by omega) (by omega)
  replace al : Sl _ ai (aa.getD s2 default).of := al
  have bU := al.len_le
  refine s_val (x_ld (p := vat am 3 (Int.toNat (s2 : Int))) (v := .agg #[ai, I ((aa.getD s2 default).base), I ((aa.getD s2 default).minutes)]) rfl (ld_ag Ag60 Sz60 (At.mono bk (aq.at H)))) ?_
  refine t_alloc (cs := [.slice none 0 0, I 0, I 0]) H Al60 rfl ?_
  intro aj bV H
  refine sA (I (s2 : Int)) rfl ?_
  refine t_st (k := 0) (b := aj) (off := 0) (cs := [.slice none 0 0, I 0, I 0]) (vs := [ai, I ((aa.getD s2 default).base), I ((aa.getD s2 default).minutes)]) (cs' := [ai, I ((aa.getD s2 default).base), I ((aa.getD s2 default).minutes)]) (v := .agg #[ai, I ((aa.getD s2 default).base), I ((aa.getD s2 default).minutes)]) (L' := [cBlk aj [ai, I ((aa.getD s2 default).base), I ((aa.getD s2 default).minutes)] 60, cBlk ab [Pz ah, ag, I work, .map (some ac), .map (some ae)] 180, cMap I B ae (fun _ => none), cMap encG I ac ak]) H rfl rfl rfl Sz60 rfl rfl rfl (by simp only [List.all_cons, List.all_nil, Bool.true_and, Bool.and_true, Sl.oc al]; try rfl) rfl rfl ?_
  intro bW H
  refine s_nil <| W.seq <| sQ rfl <| sM (Pz ab) rfl <| sM (I (s2 : Int)) rfl ?_
  obtain ⟨bX, bl, hM⟩ := M.e_bind hM
  refine s_call cf127 [Pz ab, I (s2 : Int)] rfl (zaX aa revised work ak (fun _ => none) (s2 : Int) (aq.app _) ap (av.app _) (aw.app _) ao (Has.here (k := 3) rfl) (Has.here (k := 2) rfl) (Has.here (k := 1) rfl) bl _ (St.give (T := [cBlk aj [ai, I ((aa.getD s2 default).base), I ((aa.getD s2 default).minutes)] 60, cBlk ab [Pz ah, ag, I work, .map (some ac), .map (some ae)] 180, cMap I B ae (fun _ => none), cMap encG I ac ak]) H rfl)) ?_
  rintro vq bm ⟨r2, bn, hvq, ay⟩
  subst bn
  subst vq
  try dsimp only at hM
  replace H : St w bm [cBlk aj [ai, I ((aa.getD s2 default).base), I ((aa.getD s2 default).minutes)] 60, cBlk ab [Pz ah, ag, I work, .map (some ac), .map (some ae)] 180, cMap I B ae (fun _ => none), cMap encG I ac ak] R := H.back ay rfl
  clear ay
  refine s_nil ?_
  refine W.cond r2 rfl (fun aJ => ?_) (fun aJ => ?_)
  ·replace hM := M.e_t hM aJ
   refine W.region rfl <| sM (Pz ab) rfl <| s_val (x_nc (a := ⟨ab, 0, none⟩) rfl) <| s_val (x_fa (a := Pz ab) (v := Oz ab 3) rfl (fa_blk (o := 0) Fd180_3 Sz177)) <| s_val (x_ld (p := Oz ab 3) (v := .map (some ac)) rfl (ldb_sc Sc177 (H.blk (k := 1) rfl) rfl)) <| sM (I (s2 : Int)) rfl ?_
   obtain ⟨bY, hM⟩ := M.e_gd hM
   refine sR 2 (s2 : Int) (2 * (s2 : Int)) rfl rfl rfl (by omega) <| sM (I (s2 : Int)) rfl <| sR 2 (s2 : Int) (2 * (s2 : Int)) rfl rfl rfl (by omega) ?_
   obtain ⟨bZ, hM⟩ := M.e_gd hM
   refine sR (2 * (s2 : Int)) 1 ((2 * (s2 : Int)) + 1) rfl rfl rfl (by omega) <| s_val (x_bld (ps := [(0, I (2 * (s2 : Int))), (1, I ((2 * (s2 : Int)) + 1))]) (zs := [I 0, I 0]) (L' := [I (2 * (s2 : Int)), I ((2 * (s2 : Int)) + 1)]) rfl Try.underlying182 Al182 rfl (Bd182 Try.underlying182) (.cons (cs := [I (2 * (s2 : Int))]) rfl rfl rfl rfl rfl <| .cons (cs := [I ((2 * (s2 : Int)) + 1)]) rfl rfl rfl rfl rfl <| .nil)) ?_
   refine t_mapu (i := 3) (kenc := encG) (venc := I) (f := ak) (k := (⟨2 * (s2 : Int), ((2 * (s2 : Int)) + 1 : Int)⟩ : Gate)) (v := (1 : Int)) (L' := [cBlk aj [ai, I ((aa.getD s2 default).base), I ((aa.getD s2 default).minutes)] 60, cBlk ab [Pz ah, ag, I work, .map (some ac), .map (some ae)] 180, cMap I B ae (fun _ => none), cMap encG I ac (updF ak (⟨2 * (s2 : Int), ((2 * (s2 : Int)) + 1 : Int)⟩ : Gate) (1 : Int))]) keyGate Try.underlying177 H rfl rfl rfl rfl rfl ?_
   intro b6 H
   refine s_nil <| sQ rfl <| s_val (x_fa (a := Pz aj) (v := Pz aj) rfl (fa_blk (o := 0) Fd60_0 Sz34)) <| s_val (x_ld (p := Pz aj) (v := ai) rfl (ldb_sc Sc34 (H.blk (k := 0) rfl) rfl)) ?_
   have b8 := (al).len_le
   refine s_val (x_lenS T34.und rfl al) <| sM (I 0) rfl <| s_nil <| W.block ?_
   obtain ⟨bo, aK, bp⟩ := M.e_bind hM
   obtain ⟨aF, aK⟩ := M.e_iter aK
   refine W.loop (fun m σ W => ∃ (mp : Gate -> Option Int) (s : Nat) (ρ : Env), σ = upds ρ [(1, ag), (2, I work), (7, Pz ab), (8, I (s2 : Int)), (25, am), (26, I (aa.length : Int)), (27, I (s2 : Int)), (46, ai), (47, I (((aa.getD s2 default).of).length : Int)), (48, I (s : Int))] /\ M.iterN (zaA aa revised work s2) m (mp, s) = some bo /\ St w W [cBlk aj [ai, I ((aa.getD s2 default).base), I ((aa.getD s2 default).minutes)] 60, cBlk ab [Pz ah, ag, I work, .map (some ac), .map (some ae)] 180, cMap I B ae (fun _ => none), cMap encG I ac mp] R) ?_ ?_
   ·exact ⟨_, updF ak (⟨2 * (s2 : Int), ((2 * (s2 : Int)) + 1 : Int)⟩ : Gate) (1 : Int), 0, _, upds_of _ _ ⟨rfl, rfl, rfl, rfl, rfl, rfl, rfl, rfl, rfl, rfl, trivial⟩, aK, H⟩
   rintro ca σ cb ⟨mp, s, ρ, rfl, a6, H⟩
   obtain ⟨a7, a8, cc, hM, aL⟩ := M.e_iterN a6
   simp only [zaA] at hM
   clear a6
   refine sQ rfl <| sC (s : Int) (((aa.getD s2 default).of).length : Int) (decide ((s : Int) < (((aa.getD s2 default).of).length : Int))) rfl rfl rfl <| s_nil <| W.seq ?_
   refine W.cond (decide ((s : Int) < (((aa.getD s2 default).of).length : Int))) rfl (fun az => ?_) (fun az => ?_)
   ·replace hM := M.e_t hM az
    simp only [qz1, qz2, qz3, qz4, qz5, qz6, ne_eq, qz7] at az
    refine W.skip <| W.seq <| W.block <| sQ rfl ?_
    obtain ⟨cd, hM⟩ := M.e_gd hM
    refine s_val (x_ix (a := ai) (b := I (s : Int)) (v := vat ai 1 (Int.toNat (s : Int))) rfl rfl (Sl.ix (α := Int) T34.und T34.size al (by omega) (by omega))) <| s_val (x_ld (p := vat ai 1 (Int.toNat (s : Int))) (v := I (((aa.getD s2 default).of).getD s 0)) rfl (ld_sc Sc3 (At.mono (Int_at al (i := (s : Int)) (by omega) (by omega)) (aq.at H)))) <| sA (I (((aa.getD s2 default).of).getD s 0)) rfl <| s_nil <| sQ rfl <| sM (I (((aa.getD s2 default).of).getD s 0)) rfl <| sM (I work) rfl <| sC (((aa.getD s2 default).of).getD s 0) work ((((aa.getD s2 default).of).getD s 0) != work) rfl rfl rfl <| sM (B ((((aa.getD s2 default).of).getD s 0) != work)) rfl <| g_val ((((aa.getD s2 default).of).getD s 0) != work) (gy_t rfl) (fun hg => x_mv (v := I (s2 : Int)) rfl) <| g_val ((((aa.getD s2 default).of).getD s 0) != work) (gy_t rfl) (fun hg => x_mv (v := I work) rfl) ?_
    refine g_val ((((aa.getD s2 default).of).getD s 0) != work) (gy_t rfl) (fun hg => x_cmp (kd := .i64) (a := (s2 : Int)) (b := work) (r := (s2 : Int) == work) (gd_of (c := (((aa.getD s2 default).of).getD s 0) != work) hg (I (s2 : Int))) (gd_of (c := (((aa.getD s2 default).of).getD s 0) != work) hg (I work)) rfl) <| g_val ((((aa.getD s2 default).of).getD s 0) != work) (gy_t rfl) (fun hg => x_mv (v := B ((s2 : Int) == work)) (gd_of (c := (((aa.getD s2 default).of).getD s 0) != work) hg (B ((s2 : Int) == work)))) <| g_val (((((aa.getD s2 default).of).getD s 0) != work) && !((s2 : Int) == work)) (gy_gf rfl rfl) (fun hg => x_mv (v := Pz ab) rfl) <| g_val (((((aa.getD s2 default).of).getD s 0) != work) && !((s2 : Int) == work)) (gy_gf rfl rfl) (fun hg => x_mv (v := I (s2 : Int)) rfl) ?_
    obtain ⟨r3, bq, hM⟩ := M.e_bind hM
    refine t_gcall (((((aa.getD s2 default).of).getD s 0) != work) && !((s2 : Int) == work)) (gy_gf rfl rfl) cf127 (B r3) (fun _ => [Pz ab, I (s2 : Int)]) (fun hg => lst2 (gd_of (c := (((((aa.getD s2 default).of).getD s 0) != work) && !((s2 : Int) == work))) hg (Pz ab)) (gd_of (c := (((((aa.getD s2 default).of).getD s 0) != work) && !((s2 : Int) == work))) hg (I (s2 : Int)))) H (fun hg => (zaX aa revised work mp (fun _ => none) (s2 : Int) (aq.app _) ap (av.app _) (aw.app _) ao (Has.here (k := 3) rfl) (Has.here (k := 2) rfl) (Has.here (k := 1) rfl) (M.e_opt bq hg) _ (H.give (A := []) rfl)).mono fun v_ w_ ⟨y_, aA, aM, H_⟩ => by subst aA; exact ⟨aM, H.via H_⟩) ?_
    intro ce H
    refine g_val ((((aa.getD s2 default).of).getD s 0) != work) (gy_t rfl) (fun hg => x_por (b := (s2 : Int) == work) (r := r3) (gd_of (c := (((aa.getD s2 default).of).getD s 0) != work) hg (B ((s2 : Int) == work))) rfl (fun hb => gd_of (c := (((((aa.getD s2 default).of).getD s 0) != work) && !((s2 : Int) == work))) (by first | exact hb | (rw [hb]; rfl) | simp_all) (B r3))) <| s_val (x_pand (b := (((aa.getD s2 default).of).getD s 0) != work) (r := (((s2 : Int) == work) || r3)) rfl (fun hb => gd_of (c := (((aa.getD s2 default).of).getD s 0) != work) (by first | exact hb | (rw [hb]; rfl) | simp_all) (B (((s2 : Int) == work) || r3))) rfl) <| s_nil ?_
    refine W.cond (((((aa.getD s2 default).of).getD s 0) != work) && (((s2 : Int) == work) || r3)) rfl (fun aN => ?_) (fun aN => ?_)
    ·replace hM := M.e_t hM aN
     refine W.region rfl <| sM (Pz ab) rfl <| s_val (x_nc (a := ⟨ab, 0, none⟩) rfl) <| s_val (x_fa (a := Pz ab) (v := Oz ab 3) rfl (fa_blk (o := 0) Fd180_3 Sz177)) <| s_val (x_ld (p := Oz ab 3) (v := .map (some ac)) rfl (ldb_sc Sc177 (H.blk (k := 1) rfl) rfl)) <| sM (I (((aa.getD s2 default).of).getD s 0)) rfl ?_
     obtain ⟨cf, hM⟩ := M.e_gd hM
     refine sR 2 (((aa.getD s2 default).of).getD s 0) (2 * (((aa.getD s2 default).of).getD s 0)) rfl rfl rfl (by omega) ?_
     obtain ⟨cg, hM⟩ := M.e_gd hM
     refine sR (2 * (((aa.getD s2 default).of).getD s 0)) 1 ((2 * (((aa.getD s2 default).of).getD s 0)) + 1) rfl rfl rfl (by omega) <| sM (I (s2 : Int)) rfl ?_
     obtain ⟨ci, hM⟩ := M.e_gd hM
     refine sR 2 (s2 : Int) (2 * (s2 : Int)) rfl rfl rfl (by omega) <| s_val (x_bld (ps := [(0, I ((2 * (((aa.getD s2 default).of).getD s 0)) + 1)), (1, I (2 * (s2 : Int)))]) (zs := [I 0, I 0]) (L' := [I ((2 * (((aa.getD s2 default).of).getD s 0)) + 1), I (2 * (s2 : Int))]) rfl Try.underlying182 Al182 rfl (Bd182 Try.underlying182) (.cons (cs := [I ((2 * (((aa.getD s2 default).of).getD s 0)) + 1)]) rfl rfl rfl rfl rfl <| .cons (cs := [I (2 * (s2 : Int))]) rfl rfl rfl rfl rfl <| .nil)) ?_
     refine t_mapu (i := 3) (kenc := encG) (venc := I) (f := mp) (k := (⟨((2 * (((aa.getD s2 default).of).getD s 0)) + 1 : Int), 2 * (s2 : Int)⟩ : Gate)) (v := (30 : Int)) (L' := [cBlk aj [ai, I ((aa.getD s2 default).base), I ((aa.getD s2 default).minutes)] 60, cBlk ab [Pz ah, ag, I work, .map (some ac), .map (some ae)] 180, cMap I B ae (fun _ => none), cMap encG I ac (updF mp (⟨((2 * (((aa.getD s2 default).of).getD s 0)) + 1 : Int), 2 * (s2 : Int)⟩ : Gate) (30 : Int))]) keyGate Try.underlying177 H rfl rfl rfl rfl rfl ?_
     intro cj H
     refine s_nil <| W.region rfl <| sR (s : Int) 1 ((s : Int) + 1) rfl rfl rfl (by omega) <| sM (I ((s : Int) + 1)) rfl <| s_nil ?_
     exact ⟨a7, a8, updF mp (⟨((2 * (((aa.getD s2 default).of).getD s 0)) + 1 : Int), 2 * (s2 : Int)⟩ : Gate) (30 : Int), s + 1, _, upds_of _ _ ⟨rfl, rfl, rfl, rfl, rfl, rfl, rfl, rfl, rfl, rfl, trivial⟩, M.e_inl hM aL, H⟩
    replace hM := M.e_f hM aN
    refine W.skip <| W.region rfl <| sR (s : Int) 1 ((s : Int) + 1) rfl rfl rfl (by omega) <| sM (I ((s : Int) + 1)) rfl <| s_nil ?_
    exact ⟨a7, a8, mp, s + 1, _, upds_of _ _ ⟨rfl, rfl, rfl, rfl, rfl, rfl, rfl, rfl, rfl, rfl, trivial⟩, M.e_inl hM aL, H⟩
   replace hM := M.e_f hM az
   simp only [qz1, qz2, qz3, qz4, qz5, qz6, ne_eq, qz7] at az
   refine W.exit ?_
   have br := M.e_inr hM aL
   subst br
   replace hM := bp
   try dsimp only at hM
   refine W.region rfl <| sR (s2 : Int) 1 ((s2 : Int) + 1) rfl rfl rfl (by omega) <| sM (I ((s2 : Int) + 1)) rfl <| s_nil ?_
   exact ⟨aZ, a5, mp, s2 + 1, _, upds_of _ _ ⟨rfl, rfl, rfl, rfl, rfl, rfl, trivial⟩, M.e_inl hM aI, (H.pick [1, 2, 3] (by decide) rfl)⟩
  replace hM := M.e_f hM aJ
  refine W.skip <| sQ rfl <| s_val (x_fa (a := Pz aj) (v := Pz aj) rfl (fa_blk (o := 0) Fd60_0 Sz34)) <| s_val (x_ld (p := Pz aj) (v := ai) rfl (ldb_sc Sc34 (H.blk (k := 0) rfl) rfl)) ?_
  have ck := (al).len_le
  refine s_val (x_lenS T34.und rfl al) <| sM (I 0) rfl <| s_nil <| W.block ?_
  obtain ⟨bt, aO, bu⟩ := M.e_bind hM
  obtain ⟨aF, aO⟩ := M.e_iter aO
  refine W.loop (fun m σ W => ∃ (mp : Gate -> Option Int) (s : Nat) (ρ : Env), σ = upds ρ [(1, ag), (2, I work), (7, Pz ab), (8, I (s2 : Int)), (25, am), (26, I (aa.length : Int)), (27, I (s2 : Int)), (46, ai), (47, I (((aa.getD s2 default).of).length : Int)), (48, I (s : Int))] /\ M.iterN (zbh aa revised work s2) m (mp, s) = some bt /\ St w W [cBlk aj [ai, I ((aa.getD s2 default).base), I ((aa.getD s2 default).minutes)] 60, cBlk ab [Pz ah, ag, I work, .map (some ac), .map (some ae)] 180, cMap I B ae (fun _ => none), cMap encG I ac mp] R) ?_ ?_
  ·exact ⟨_, ak, 0, _, upds_of _ _ ⟨rfl, rfl, rfl, rfl, rfl, rfl, rfl, rfl, rfl, rfl, trivial⟩, aO, H⟩
  rintro cm σ cn ⟨mp, s, ρ, rfl, a9, H⟩
  obtain ⟨ba, bb, co, hM, aP⟩ := M.e_iterN a9
  simp only [zbh] at hM
  clear a9
  refine sQ rfl <| sC (s : Int) (((aa.getD s2 default).of).length : Int) (decide ((s : Int) < (((aa.getD s2 default).of).length : Int))) rfl rfl rfl <| s_nil <| W.seq ?_
  refine W.cond (decide ((s : Int) < (((aa.getD s2 default).of).length : Int))) rfl (fun aB => ?_) (fun aB => ?_)
  ·replace hM := M.e_t hM aB
   simp only [qz1, qz2, qz3, qz4, qz5, qz6, ne_eq, qz7] at aB
   refine W.skip <| W.seq <| W.block <| sQ rfl ?_
   obtain ⟨cp, hM⟩ := M.e_gd hM
   refine s_val (x_ix (a := ai) (b := I (s : Int)) (v := vat ai 1 (Int.toNat (s : Int))) rfl rfl (Sl.ix (α := Int) T34.und T34.size al (by omega) (by omega))) <| s_val (x_ld (p := vat ai 1 (Int.toNat (s : Int))) (v := I (((aa.getD s2 default).of).getD s 0)) rfl (ld_sc Sc3 (At.mono (Int_at al (i := (s : Int)) (by omega) (by omega)) (aq.at H)))) <| sA (I (((aa.getD s2 default).of).getD s 0)) rfl <| s_nil <| sQ rfl <| sM (I (((aa.getD s2 default).of).getD s 0)) rfl <| sM (I work) rfl <| sC (((aa.getD s2 default).of).getD s 0) work ((((aa.getD s2 default).of).getD s 0) != work) rfl rfl rfl <| sM (B ((((aa.getD s2 default).of).getD s 0) != work)) rfl <| g_val ((((aa.getD s2 default).of).getD s 0) != work) (gy_t rfl) (fun hg => x_mv (v := I (s2 : Int)) rfl) <| g_val ((((aa.getD s2 default).of).getD s 0) != work) (gy_t rfl) (fun hg => x_mv (v := I work) rfl) ?_
   refine g_val ((((aa.getD s2 default).of).getD s 0) != work) (gy_t rfl) (fun hg => x_cmp (kd := .i64) (a := (s2 : Int)) (b := work) (r := (s2 : Int) == work) (gd_of (c := (((aa.getD s2 default).of).getD s 0) != work) hg (I (s2 : Int))) (gd_of (c := (((aa.getD s2 default).of).getD s 0) != work) hg (I work)) rfl) <| g_val ((((aa.getD s2 default).of).getD s 0) != work) (gy_t rfl) (fun hg => x_mv (v := B ((s2 : Int) == work)) (gd_of (c := (((aa.getD s2 default).of).getD s 0) != work) hg (B ((s2 : Int) == work)))) <| g_val (((((aa.getD s2 default).of).getD s 0) != work) && !((s2 : Int) == work)) (gy_gf rfl rfl) (fun hg => x_mv (v := Pz ab) rfl) <| g_val (((((aa.getD s2 default).of).getD s 0) != work) && !((s2 : Int) == work)) (gy_gf rfl rfl) (fun hg => x_mv (v := I (s2 : Int)) rfl) ?_
   obtain ⟨r3, bv, hM⟩ := M.e_bind hM
   refine t_gcall (((((aa.getD s2 default).of).getD s 0) != work) && !((s2 : Int) == work)) (gy_gf rfl rfl) cf127 (B r3) (fun _ => [Pz ab, I (s2 : Int)]) (fun hg => lst2 (gd_of (c := (((((aa.getD s2 default).of).getD s 0) != work) && !((s2 : Int) == work))) hg (Pz ab)) (gd_of (c := (((((aa.getD s2 default).of).getD s 0) != work) && !((s2 : Int) == work))) hg (I (s2 : Int)))) H (fun hg => (zaX aa revised work mp (fun _ => none) (s2 : Int) (aq.app _) ap (av.app _) (aw.app _) ao (Has.here (k := 3) rfl) (Has.here (k := 2) rfl) (Has.here (k := 1) rfl) (M.e_opt bv hg) _ (H.give (A := []) rfl)).mono fun v_ w_ ⟨y_, aA, aM, H_⟩ => by subst aA; exact ⟨aM, H.via H_⟩) ?_
   intro cq H
   refine g_val ((((aa.getD s2 default).of).getD s 0) != work) (gy_t rfl) (fun hg => x_por (b := (s2 : Int) == work) (r := r3) (gd_of (c := (((aa.getD s2 default).of).getD s 0) != work) hg (B ((s2 : Int) == work))) rfl (fun hb => gd_of (c := (((((aa.getD s2 default).of).getD s 0) != work) && !((s2 : Int) == work))) (by first | exact hb | (rw [hb]; rfl) | simp_all) (B r3))) <| s_val (x_pand (b := (((aa.getD s2 default).of).getD s 0) != work) (r := (((s2 : Int) == work) || r3)) rfl (fun hb => gd_of (c := (((aa.getD s2 default).of).getD s 0) != work) (by first | exact hb | (rw [hb]; rfl) | simp_all) (B (((s2 : Int) == work) || r3))) rfl) <| s_nil ?_
   refine W.cond (((((aa.getD s2 default).of).getD s 0) != work) && (((s2 : Int) == work) || r3)) rfl (fun aQ => ?_) (fun aQ => ?_)
   ·replace hM := M.e_t hM aQ
    refine W.region rfl <| sM (Pz ab) rfl <| s_val (x_nc (a := ⟨ab, 0, none⟩) rfl) <| s_val (x_fa (a := Pz ab) (v := Oz ab 3) rfl (fa_blk (o := 0) Fd180_3 Sz177)) <| s_val (x_ld (p := Oz ab 3) (v := .map (some ac)) rfl (ldb_sc Sc177 (H.blk (k := 1) rfl) rfl)) <| sM (I (((aa.getD s2 default).of).getD s 0)) rfl ?_
    obtain ⟨cr, hM⟩ := M.e_gd hM
    refine sR 2 (((aa.getD s2 default).of).getD s 0) (2 * (((aa.getD s2 default).of).getD s 0)) rfl rfl rfl (by omega) ?_
    obtain ⟨ct, hM⟩ := M.e_gd hM
    refine sR (2 * (((aa.getD s2 default).of).getD s 0)) 1 ((2 * (((aa.getD s2 default).of).getD s 0)) + 1) rfl rfl rfl (by omega) <| sM (I (s2 : Int)) rfl ?_
    obtain ⟨cu, hM⟩ := M.e_gd hM
    refine sR 2 (s2 : Int) (2 * (s2 : Int)) rfl rfl rfl (by omega) <| s_val (x_bld (ps := [(0, I ((2 * (((aa.getD s2 default).of).getD s 0)) + 1)), (1, I (2 * (s2 : Int)))]) (zs := [I 0, I 0]) (L' := [I ((2 * (((aa.getD s2 default).of).getD s 0)) + 1), I (2 * (s2 : Int))]) rfl Try.underlying182 Al182 rfl (Bd182 Try.underlying182) (.cons (cs := [I ((2 * (((aa.getD s2 default).of).getD s 0)) + 1)]) rfl rfl rfl rfl rfl <| .cons (cs := [I (2 * (s2 : Int))]) rfl rfl rfl rfl rfl <| .nil)) ?_
    refine t_mapu (i := 3) (kenc := encG) (venc := I) (f := mp) (k := (⟨((2 * (((aa.getD s2 default).of).getD s 0)) + 1 : Int), 2 * (s2 : Int)⟩ : Gate)) (v := (30 : Int)) (L' := [cBlk aj [ai, I ((aa.getD s2 default).base), I ((aa.getD s2 default).minutes)] 60, cBlk ab [Pz ah, ag, I work, .map (some ac), .map (some ae)] 180, cMap I B ae (fun _ => none), cMap encG I ac (updF mp (⟨((2 * (((aa.getD s2 default).of).getD s 0)) + 1 : Int), 2 * (s2 : Int)⟩ : Gate) (30 : Int))]) keyGate Try.underlying177 H rfl rfl rfl rfl rfl ?_
    intro cv H
    refine s_nil <| W.region rfl <| sR (s : Int) 1 ((s : Int) + 1) rfl rfl rfl (by omega) <| sM (I ((s : Int) + 1)) rfl <| s_nil ?_
    exact ⟨ba, bb, updF mp (⟨((2 * (((aa.getD s2 default).of).getD s 0)) + 1 : Int), 2 * (s2 : Int)⟩ : Gate) (30 : Int), s + 1, _, upds_of _ _ ⟨rfl, rfl, rfl, rfl, rfl, rfl, rfl, rfl, rfl, rfl, trivial⟩, M.e_inl hM aP, H⟩
   replace hM := M.e_f hM aQ
   refine W.skip <| W.region rfl <| sR (s : Int) 1 ((s : Int) + 1) rfl rfl rfl (by omega) <| sM (I ((s : Int) + 1)) rfl <| s_nil ?_
   exact ⟨ba, bb, mp, s + 1, _, upds_of _ _ ⟨rfl, rfl, rfl, rfl, rfl, rfl, rfl, rfl, rfl, rfl, trivial⟩, M.e_inl hM aP, H⟩
  replace hM := M.e_f hM aB
  simp only [qz1, qz2, qz3, qz4, qz5, qz6, ne_eq, qz7] at aB
  refine W.exit ?_
  have bw := M.e_inr hM aP
  subst bw
  replace hM := bu
  try dsimp only at hM
  refine W.region rfl <| sR (s2 : Int) 1 ((s2 : Int) + 1) rfl rfl rfl (by omega) <| sM (I ((s2 : Int) + 1)) rfl <| s_nil ?_
  exact ⟨aZ, a5, mp, s2 + 1, _, upds_of _ _ ⟨rfl, rfl, rfl, rfl, rfl, rfl, trivial⟩, M.e_inl hM aI, (H.pick [1, 2, 3] (by decide) rfl)⟩
 replace hM := M.e_f hM ax
 simp only [qz1, qz2, qz3, qz4, qz5, qz6, ne_eq, qz7] at ax
 refine W.exit ?_
 have bx := M.e_inr hM aI
 subst bx
 replace hM := bj
 try dsimp only at hM
 refine W.seq <| sQ rfl <| sM ag rfl ?_
 have cw := (ao).len_le
 refine s_val (x_lenS T34.und rfl ao) <| sM (I 0) rfl <| s_nil <| W.block ?_
 obtain ⟨bz, aR, bA⟩ := M.e_bind hM
 obtain ⟨aF, aR⟩ := M.e_iter aR
 refine W.loop (fun m σ W => ∃ (aC : Gate -> Option Int) (aD : Int -> Option Bool) (s3 : Nat) (ρ : Env), σ = upds ρ [(7, Pz ab), (77, ag), (78, I (revised.length : Int)), (79, I (s3 : Int))] /\ M.iterN (za0 aa revised work) m (aC, aD, s3) = some bz /\ St w W [cBlk ab [Pz ah, ag, I work, .map (some ac), .map (some ae)] 180, cMap I B ae aD, cMap encG I ac aC] R) ?_ ?_
 ·exact ⟨_, ak, (fun _ => none), 0, _, upds_of _ _ ⟨rfl, rfl, rfl, rfl, trivial⟩, aR, H⟩
 rintro cx σ cy ⟨aC, aD, s3, ρ, rfl, bc, H⟩
 obtain ⟨bB, bC, cz, hM, bf⟩ := M.e_iterN bc
 simp only [za0] at hM
 clear bc
 refine sQ rfl <| sC (s3 : Int) (revised.length : Int) (decide ((s3 : Int) < (revised.length : Int))) rfl rfl rfl <| s_nil <| W.seq ?_
 refine W.cond (decide ((s3 : Int) < (revised.length : Int))) rfl (fun aE => ?_) (fun aE => ?_)
 ·replace hM := M.e_t hM aE
  simp only [qz1, qz2, qz3, qz4, qz5, qz6, ne_eq, qz7] at aE
  refine W.skip <| W.seq <| W.block <| sQ rfl ?_
  obtain ⟨cA, hM⟩ := M.e_gd hM
  refine s_val (x_ix (a := ag) (b := I (s3 : Int)) (v := vat ag 1 (Int.toNat (s3 : Int))) rfl rfl (Sl.ix (α := Int) T34.und T34.size ao (by omega) (by omega))) <| s_val (x_ld (p := vat ag 1 (Int.toNat (s3 : Int))) (v := I (revised.getD s3 0)) rfl (ld_sc Sc3 (At.mono (Int_at ao (i := (s3 : Int)) (by omega) (by omega)) (aw.at H)))) <| sA (I (revised.getD s3 0)) rfl <| s_nil ?_
  refine W.scope ?_
  refine W.seq ?_
  refine W.label ?_
  refine W.block ?_
  obtain ⟨bD, aS, bE⟩ := M.e_bind hM
  obtain ⟨aF, aS⟩ := M.e_iter aS
  refine W.loop (fun m σ W => ∃ (au : Gate -> Option Int) (aG : Int -> Option Bool) (ρ : Env), σ = upds ρ [(7, Pz ab), (13, I (revised.getD s3 0)), (77, ag), (78, I (revised.length : Int)), (79, I (s3 : Int))] /\ M.iterN (zaV aa revised work s3) m (au, aG) = some bD /\ St w W [cBlk ab [Pz ah, ag, I work, .map (some ac), .map (some ae)] 180, cMap I B ae aG, cMap encG I ac au] R) ?_ ?_
  ·exact ⟨_, aC, aD, _, upds_of _ _ ⟨rfl, rfl, rfl, rfl, rfl, trivial⟩, aS, H⟩
  rintro cB σ cC ⟨au, aG, ρ, rfl, bg, H⟩
  obtain ⟨bF, bG, cD, hM, bh⟩ := M.e_iterN bg
  simp only [zaV] at hM
  clear bg
  refine W.block <| sQ rfl <| sM (Pz ab) rfl <| s_val (x_nc (a := ⟨ab, 0, none⟩) rfl) <| s_val (x_fa (a := Pz ab) (v := Oz ab 4) rfl (fa_blk (o := 0) Fd180_4 Sz178)) <| s_val (x_ld (p := Oz ab 4) (v := .map (some ae)) rfl (ldb_sc Sc178 (H.blk (k := 0) rfl) rfl)) ?_
  refine t_clearm (i := 1) (kenc := I) (venc := B) (f := aG) (L' := [cBlk ab [Pz ah, ag, I work, .map (some ac), .map (some ae)] 180, cMap I B ae (fun _ => none), cMap encG I ac au]) (by rw [show (#[178] : Array TypeId)[0]?.bind Try.prog.underlying = Try.prog.underlying 178 from rfl, Try.underlying178]; rfl) H rfl rfl rfl ?_
  intro cE H
  refine s_nil <| sQ rfl <| sM (Pz ab) rfl <| sM (I (revised.getD s3 0)) rfl ?_
  obtain ⟨cF, hM⟩ := M.e_gd hM
  refine sR 2 (revised.getD s3 0) (2 * (revised.getD s3 0)) rfl rfl rfl (by omega) ?_
  obtain ⟨cG, hM⟩ := M.e_gd hM
  refine sR (2 * (revised.getD s3 0)) 1 ((2 * (revised.getD s3 0)) + 1) rfl rfl rfl (by omega) ?_
  obtain ⟨cH, bH, hM⟩ := M.e_bind hM
  refine s_call cf126 [Pz ab, I ((2 * (revised.getD s3 0)) + 1)] rfl (zbP aa revised work au (fun _ => none) ((2 * (revised.getD s3 0)) + 1) (aq.app _) ap (av.app _) (aw.app _) ao (Has.here (k := 0) rfl) bH _ (St.give (L := [cMap encG I ac au, cMap I B ae (fun _ => none), cBlk ab [Pz ah, ag, I work, .map (some ac), .map (some ae)] 180]) (A := [cMap encG I ac au, cMap I B ae (fun _ => none)]) (T := [cBlk ab [Pz ah, ag, I work, .map (some ac), .map (some ae)] 180]) (H.pick [2, 1, 0] (by decide) rfl) rfl)) ?_
  rintro vq bI ⟨r4, aT, aU, bJ, hvq, ay⟩
  subst bJ
  subst vq
  try dsimp only at hM
  replace H : St w bI [cMap encG I ac aT, cMap I B ae aU, cBlk ab [Pz ah, ag, I work, .map (some ac), .map (some ae)] 180] R := H.pick [2, 1, 0] (by decide) rfl |>.back ay rfl
  clear ay
  refine s_val (x_not (b := r4) rfl) <| s_nil ?_
  refine W.cond (!r4) rfl (fun aV => ?_) (fun aV => ?_)
  ·replace hM := M.e_t hM aV
   refine W.exit ?_
   have bK := M.e_inr hM bh
   subst bK
   replace hM := bE
   try dsimp only at hM
   refine W.region rfl <| sR (s3 : Int) 1 ((s3 : Int) + 1) rfl rfl rfl (by omega) <| sM (I ((s3 : Int) + 1)) rfl <| s_nil ?_
   exact ⟨bB, bC, aT, aU, s3 + 1, _, upds_of _ _ ⟨rfl, rfl, rfl, rfl, trivial⟩, M.e_inl hM bf, (H.pick [2, 1, 0] (by decide) rfl)⟩
  replace hM := M.e_f hM aV
  refine W.skip ?_
  exact ⟨bF, bG, aT, aU, _, upds_of _ _ ⟨rfl, rfl, rfl, rfl, rfl, trivial⟩, M.e_inl hM bh, (H.pick [2, 1, 0] (by decide) rfl)⟩
 replace hM := M.e_f hM aE
 simp only [qz1, qz2, qz3, qz4, qz5, qz6, ne_eq, qz7] at aE
 refine W.exit ?_
 have bL := M.e_inr hM bf
 subst bL
 replace hM := bA
 try dsimp only at hM
 refine sQ rfl <| sM (Pz ab) rfl <| sA (Pz ab) rfl <| s_nil ?_
 refine W.ret ?_
 have aA := M.e_pure hM
 exact ⟨_, resE_tmp rfl, ⟨work, aC, aD, ab, ac, ae, aA, rfl, (H.pick [0, 2, 1] (by decide) rfl)⟩⟩

def zap (w_ : List Work) (revised : List Int) (work : Int) : M (Int ⊕ (Int × (Gate -> Option Int) × (Int -> Option Bool) × Int)) :=
  M.bind (zaD w_ revised work) fun x_ => match x_ with
  | (.inl r1) => (
  bif r1 != 0 then (
  M.pure (.inl r1))
  else (
  M.fail))
  | (.inr aa) => (
  bif aa != 0 then (
  M.pure (.inl aa))
  else (
  M.bind (zaf revised (fun ab => zaZ ab w_ work)) fun r2 =>
  bif r2 then (
  M.pure (.inl 5))
  else (
  M.bind (zbk w_ revised work) fun (ac, r3, r4) =>
  M.pure (.inr (ac, r3, r4, 0)))))
theorem zbZ {R : List Chunk} {aB : Cells} {ak : Value} {aC : Cells} {ag : Value} (w_ : List Work) (revised : List Int) (work : Int) (ao : Reads R aB) (ap : Sl aB ak w_) (aq : Reads R aC) (au : Sl aC ag revised) {r : (Int ⊕ (Int × (Gate -> Option Int) × (Int -> Option Bool) × Int))} (hM : (zap w_ revised work).Ends r) (w : World) (H : St w w [] R) : Ret Try.prog 125 #[ak, ag, I work] w fun v w' => (∃ (y0 : Int), (.inl y0) = r /\ v = .tuple #[.pointer none, I y0] /\ St w w' [] R) ∨ (∃ (y0 : Int) (y1 : Gate -> Option Int) (y2 : Int -> Option Bool) (y3 : Int) (nb0 : Nat) (nb1 : Nat) (aD : Base) (nb3 : Nat) (nb4 : Nat), (.inr (y0, y1, y2, y3)) = r /\ v = .tuple #[Pz nb0, I y3] /\ St w w' [cBlk nb0 [Pz nb1, ag, I y0, .map (some nb3), .map (some nb4)] 180, cRo aD, cMap encG I nb3 y1, cMap I B nb4 y2] R /\ (∀ W, (cRo aD).ok W -> W.heap[nb1]? = some (.cells [ak].toArray 187 (0, 0)))) := by
 refine ret_of_W Try.func125 rfl rfl rfl ?_
 refine sQ rfl ?_
 refine t_box (v := I work) (cs := [I work]) H rfl rfl ?_
 intro ab aX H
 refine sA (.pointer none) rfl <| sA (I 0) rfl <| s_nil <| sQ rfl <| sM ak rfl <| sM ag rfl <| s_val (x_ld (p := Pz ab) (v := I work) rfl (ldb_sc Sc3 (H.blk (k := 0) rfl) rfl)) ?_
 obtain ⟨aY, aH, hM⟩ := M.e_bind hM
 refine s_call cf116 [ak, ag, I work] rfl (zbw w_ revised work (ao.app _) ap (aq.app _) au aH _ (St.give (T := [cBlk ab [I work] 3]) H rfl)) ?_
 rintro vq aE (⟨r1, aI, hvq, ah⟩ | ⟨ae, aa, ai, aJ, hvq, ah, av⟩)
 ·subst aI
  subst vq
  try dsimp only at hM
  replace H : St w aE [cBlk ab [I work] 3] R := H.back ah rfl
  clear ah
  refine sM (.tuple #[.pointer none, I r1]) rfl <| sX [.pointer none, I r1] (.pointer none) rfl rfl <| sX [.pointer none, I r1] (I r1) rfl rfl ?_
  refine t_alloc (cs := [.pointer none]) H Al127 rfl ?_
  intro ac aZ H
  refine t_st (k := 0) (b := ac) (off := 0) (cs := [.pointer none]) (vs := [.pointer none]) (cs' := [.pointer none]) (v := .pointer none) (L' := [cBlk ac [.pointer none] 127, cBlk ab [I work] 3]) H rfl rfl rfl Sz127 rfl rfl rfl rfl rfl rfl ?_
  intro a5 H
  refine sA (I r1) rfl <| s_nil <| W.seq <| W.block <| sQ rfl <| sM (I r1) rfl <| sC r1 0 (r1 != 0) rfl rfl rfl <| sA (B (r1 != 0)) rfl <| s_nil ?_
  refine W.cond (r1 != 0) rfl (fun al => ?_) (fun al => ?_)
  ·replace hM := M.e_t hM al
   simp only [qz1, qz2, qz3, qz4, qz5, qz6, ne_eq, qz7] at al
   refine sQ rfl <| sM (I r1) rfl <| sA (.pointer none) rfl <| sA (I r1) rfl <| s_nil ?_
   refine W.ret ?_
   have aj := M.e_pure hM
   exact ⟨_, resE_tmp2 rfl, .inl (⟨r1, aj, rfl, (H.pick [] (by decide) rfl)⟩)⟩
  replace hM := M.e_f hM al
  simp only [qz1, qz2, qz3, qz4, qz5, qz6, ne_eq, qz7] at al
  refine sQ rfl <| sM ag rfl <| s_val (x_mf (fs := []) (cs := [Pz ac, Pz ab]) rfl rfl) ?_
  exact (M.e_fail hM).elim
 subst aJ
 subst vq
 try dsimp only at hM
 replace H : St w aE [cRo ai, cBlk ab [I work] 3] R := H.back ah rfl
 clear ah
 refine sM (.tuple #[Pz aa, I ae]) rfl <| sX [Pz aa, I ae] (Pz aa) rfl rfl <| sX [Pz aa, I ae] (I ae) rfl rfl ?_
 refine t_alloc (cs := [.pointer none]) H Al127 rfl ?_
 intro ac a6 H
 refine t_st (k := 0) (b := ac) (off := 0) (cs := [.pointer none]) (vs := [Pz aa]) (cs' := [Pz aa]) (v := Pz aa) (L' := [cBlk ac [Pz aa] 127, cRo ai, cBlk ab [I work] 3]) H rfl rfl rfl Sz127 rfl rfl rfl rfl rfl rfl ?_
 intro a7 H
 refine sA (I ae) rfl <| s_nil <| W.seq <| W.block <| sQ rfl <| sM (I ae) rfl <| sC ae 0 (ae != 0) rfl rfl rfl <| sA (B (ae != 0)) rfl <| s_nil ?_
 refine W.cond (ae != 0) rfl (fun am => ?_) (fun am => ?_)
 ·replace hM := M.e_t hM am
  simp only [qz1, qz2, qz3, qz4, qz5, qz6, ne_eq, qz7] at am
  refine sQ rfl <| sM (I ae) rfl <| sA (.pointer none) rfl <| sA (I ae) rfl <| s_nil ?_
  refine W.ret ?_
  have aj := M.e_pure hM
  exact ⟨_, resE_tmp2 rfl, .inl (⟨ae, aj, rfl, (H.pick [] (by decide) rfl)⟩)⟩
 replace hM := M.e_f hM am
 simp only [qz1, qz2, qz3, qz4, qz5, qz6, ne_eq, qz7] at am
 refine sQ rfl <| sM ag rfl <| s_val (x_mf (fs := []) (cs := [Pz ac, Pz ab]) rfl rfl) ?_
 obtain ⟨a8, aK, hM⟩ := M.e_bind hM
 refine s_call cf48 [ag, .func (.func 159) #[] #[Pz ac, Pz ab]] rfl (zar revised (fun aw => zaZ aw w_ work) (aq.app _) au ⟨159, [Pz ac, Pz ab], rfl, cf159, fun aF a9 ba aL aw bb aM bc aN aO => by obtain rfl := Arg.int aN; exact (zcl aw w_ work (Reads.app (ao.app _) _) ap (Has.app (Has.ro (k := 1) rfl av) _) (Has.app (Has.here (k := 0) rfl) _) (Has.app (Has.here (k := 2) rfl) _) aO aF (St.refl aM)).mono fun aL aF ⟨bf, aP, aQ, aR⟩ => by subst aP; exact ⟨aQ, aR⟩⟩ aK _ (St.give (T := [cBlk ac [Pz aa] 127, cRo ai, cBlk ab [I work] 3]) H rfl)) ?_
 rintro vq aS ⟨r2, aT, hvq, ah⟩
 subst aT
 subst vq
 try dsimp only at hM
 replace H : St w aS [cBlk ac [Pz aa] 127, cRo ai, cBlk ab [I work] 3] R := H.back ah rfl
 clear ah
 refine sA (B r2) rfl <| s_nil ?_
 refine W.cond r2 rfl (fun ax => ?_) (fun ax => ?_)
 ·replace hM := M.e_t hM ax
  refine sQ rfl <| sA (.pointer none) rfl <| sA (I 5) rfl <| s_nil ?_
  refine W.ret ?_
  have aj := M.e_pure hM
  exact ⟨_, resE_tmp2 rfl, .inl (⟨5, aj, rfl, (H.pick [] (by decide) rfl)⟩)⟩
 replace hM := M.e_f hM ax
 refine W.skip <| sQ rfl <| s_val (x_ld (p := Pz ac) (v := Pz aa) rfl (ldb_sc Sc127 (H.blk (k := 0) rfl) rfl)) <| sM ag rfl <| s_val (x_ld (p := Pz ab) (v := I work) rfl (ldb_sc Sc3 (H.blk (k := 2) rfl) rfl)) ?_
 obtain ⟨bg, aU, hM⟩ := M.e_bind hM
 refine s_call cf160 [Pz aa, ag, I work] rfl (zca w_ revised work (ao.app _) ap (Has.ro (k := 1) rfl av) (aq.app _) au aU _ (St.give (T := [cBlk ac [Pz aa] 127, cRo ai, cBlk ab [I work] 3]) H rfl)) ?_
 rintro vq aV ⟨aG, r3, r4, ay, az, aA, aW, hvq, ah⟩
 subst aW
 subst vq
 try dsimp only at hM
 replace H : St w aV [cBlk ay [Pz aa, ag, I aG, .map (some az), .map (some aA)] 180, cMap encG I az r3, cMap I B aA r4, cBlk ac [Pz aa] 127, cRo ai, cBlk ab [I work] 3] R := H.back ah rfl
 clear ah
 refine sA (Pz ay) rfl <| sA (I 0) rfl <| s_nil ?_
 refine W.ret ?_
 have aj := M.e_pure hM
 exact ⟨_, resE_tmp2 rfl, .inr (⟨aG, r3, r4, 0, ay, aa, ai, az, aA, aj, rfl, (H.pick [0, 4, 1, 2] (by decide) rfl), av⟩)⟩

def zay (w_ : List Work) (revised : List Int) (ab : Int) : ((Gate -> Option Int) × (Int -> Option Bool) × Nat) -> M (((Gate -> Option Int) × (Int -> Option Bool) × Nat) ⊕ ((Gate -> Option Int) × (Int -> Option Bool))) := fun (mp, aa, s) =>
  bif decide ((s : Int) < (revised.length : Int)) then (
  M.grd (decide ((s : Int) < (revised.length : Int))) <|
  M.grd (decide ((-9223372036854775808 : Int) <= (2 * (revised.getD s 0))) && decide ((2 * (revised.getD s 0)) <= (9223372036854775807 : Int))) <|
  M.grd (decide ((-9223372036854775808 : Int) <= ((2 * (revised.getD s 0)) + 1)) && decide (((2 * (revised.getD s 0)) + 1) <= (9223372036854775807 : Int))) <|
  M.bind (zbm w_ revised ab mp aa ((2 * (revised.getD s 0)) + 1)) fun (r2, ac, ae) =>
  M.pure (.inl (ac, ae, s + 1)))
  else (
  M.pure (.inr (mp, aa)))
def zaR (w_ : List Work) (revised : List Int) (ab : Int) (ac : Gate -> Option Int) (aa : Int -> Option Bool) : (Nat × (List Int)) -> M ((Nat × (List Int)) ⊕ ((List Int) × (List Int))) := fun (s2, l) =>
  bif decide ((s2 : Int) < (w_.length : Int)) then (
  M.bind (zah w_ revised ab ac aa (s2 : Int)) fun r3 =>
  M.grd ((!r3 || (decide ((-9223372036854775808 : Int) <= (2 * (s2 : Int))) && decide ((2 * (s2 : Int)) <= (9223372036854775807 : Int))))) <|
  M.grd ((!(r3 && ((aa (2 * (s2 : Int))).getD false)) || (decide ((-9223372036854775808 : Int) <= (2 * (s2 : Int))) && decide ((2 * (s2 : Int)) <= (9223372036854775807 : Int))))) <|
  M.grd ((!(r3 && ((aa (2 * (s2 : Int))).getD false)) || (decide ((-9223372036854775808 : Int) <= ((2 * (s2 : Int)) + 1)) && decide (((2 * (s2 : Int)) + 1) <= (9223372036854775807 : Int))))) <|
  bif ((r3 && ((aa (2 * (s2 : Int))).getD false)) && (!((aa ((2 * (s2 : Int)) + 1 : Int)).getD false))) then (
  M.grd (decide ((l.length + ([(s2 : Int)]).length) * 8 <= 140737488355328)) <|
  M.pure (.inl (s2 + 1, l ++ ([(s2 : Int)]))))
  else (
  M.pure (.inl (s2 + 1, l))))
  else (
  M.pure (.inr (l, l)))
def zas (w_ : List Work) (revised : List Int) (work : Int) : M ((List Int) × Int) :=
  M.bind (zap w_ revised work) fun x_ => match x_ with
  | (.inl r1) => (
  bif r1 != 0 then (
  M.pure (([]), r1))
  else (
  M.fail))
  | (.inr (aa, ac, ah, ab)) => (
  bif ab != 0 then (
  M.pure (([]), ab))
  else (
  M.bind (M.iter (zay w_ revised aa) (ac, (fun _ => none), 0)) fun (ae, ag) =>
  M.bind (M.iter (zaR w_ revised aa ae ag) (0, [])) fun (l2, l3) =>
  M.pure (l3, 0)))
theorem zbH {R : List Chunk} {aP : Cells} {aq : Value} {aQ : Cells} {ag : Value} (w_ : List Work) (revised : List Int) (work : Int) (aH : Reads R aP) (au : Sl aP aq w_) (aC : Reads R aQ) (ap : Sl aQ ag revised) {r : ((List Int) × Int)} (hM : (zas w_ revised work).Ends r) (w : World) (H : St w w [] R) : Ret Try.prog 64 #[aq, ag, I work] w fun v w' => ∃ (y0 : List Int) (y1 : Int) (u0 : Value), (y0, y1) = r /\ v = .tuple #[u0, I y1] /\ St w w' [cOwn (α := Int) 3 u0 y0] R := by
 refine ret_of_W Try.func64 rfl rfl rfl ?_
 refine sQ rfl <| sA (.slice none 0 0) rfl <| sA (I 0) rfl <| s_nil <| sQ rfl <| sM aq rfl <| sM ag rfl <| sM (I work) rfl ?_
 obtain ⟨br, a5, hM⟩ := M.e_bind hM
 refine s_call cf125 [aq, ag, I work] rfl (zbZ w_ revised work (aH.app _) au (aC.app _) ap a5 _ (St.give (T := []) H rfl)) ?_
 rintro vq aD (⟨r1, a6, hvq, al⟩ | ⟨ah, aE, aI, ai, ab, aj, ak, ae, ac, a7, hvq, al, aR⟩)
 ·subst a6
  subst vq
  try dsimp only at hM
  replace H : St w aD [] R := H.back al rfl
  clear al
  refine sM (.tuple #[.pointer none, I r1]) rfl <| sX [.pointer none, I r1] (.pointer none) rfl rfl <| sX [.pointer none, I r1] (I r1) rfl rfl <| sA (.pointer none) rfl <| sA (I r1) rfl <| s_nil <| W.seq <| sQ rfl <| sM (I r1) rfl <| sC r1 0 (r1 != 0) rfl rfl rfl <| s_nil ?_
  refine W.cond (r1 != 0) rfl (fun av => ?_) (fun av => ?_)
  ·replace hM := M.e_t hM av
   simp only [qz1, qz2, qz3, qz4, qz5, qz6, ne_eq, qz7] at av
   refine sQ rfl <| sM (I r1) rfl <| sA (.slice none 0 0) rfl <| sA (I r1) rfl <| s_nil ?_
   refine W.ret ?_
   have aw := M.e_pure hM
   replace H : St w aD [cOwn (α := Int) 3 (.slice none 0 0) ([])] R := H.nilOwn (α := Int) 3
   exact ⟨_, resE_tmp2 rfl, ⟨([]), r1, (.slice none 0 0), aw, rfl, H⟩⟩
  replace hM := M.e_f hM av
  simp only [qz1, qz2, qz3, qz4, qz5, qz6, ne_eq, qz7] at av
  refine W.skip <| sQ rfl <| sM (.pointer none) rfl ?_
  exact (M.e_fail hM).elim
 subst a7
 subst vq
 try dsimp only at hM
 replace H : St w aD [cBlk ab [Pz aj, ag, I ah, .map (some ae), .map (some ac)] 180, cRo ak, cMap encG I ae aE, cMap I B ac aI] R := H.back al rfl
 clear al
 refine sM (.tuple #[Pz ab, I ai]) rfl <| sX [Pz ab, I ai] (Pz ab) rfl rfl <| sX [Pz ab, I ai] (I ai) rfl rfl <| sA (Pz ab) rfl <| sA (I ai) rfl <| s_nil <| W.seq <| sQ rfl <| sM (I ai) rfl <| sC ai 0 (ai != 0) rfl rfl rfl <| s_nil ?_
 refine W.cond (ai != 0) rfl (fun ax => ?_) (fun ax => ?_)
 ·replace hM := M.e_t hM ax
  simp only [qz1, qz2, qz3, qz4, qz5, qz6, ne_eq, qz7] at ax
  refine sQ rfl <| sM (I ai) rfl <| sA (.slice none 0 0) rfl <| sA (I ai) rfl <| s_nil ?_
  refine W.ret ?_
  have aw := M.e_pure hM
  replace H : St w aD [cOwn (α := Int) 3 (.slice none 0 0) ([]), cBlk ab [Pz aj, ag, I ah, .map (some ae), .map (some ac)] 180, cRo ak, cMap encG I ae aE, cMap I B ac aI] R := H.nilOwn (α := Int) 3
  exact ⟨_, resE_tmp2 rfl, ⟨([]), ai, (.slice none 0 0), aw, rfl, (H.pick [0] (by decide) rfl)⟩⟩
 replace hM := M.e_f hM ax
 simp only [qz1, qz2, qz3, qz4, qz5, qz6, ne_eq, qz7] at ax
 refine W.skip <| sQ rfl <| sM (Pz ab) rfl <| s_val (x_nc (a := ⟨ab, 0, none⟩) rfl) <| s_val (x_fa (a := Pz ab) (v := Oz ab 4) rfl (fa_blk (o := 0) Fd180_4 Sz178)) <| s_val (x_ld (p := Oz ab 4) (v := .map (some ac)) rfl (ldb_sc Sc178 (H.blk (k := 0) rfl) rfl)) ?_
 refine t_clearm (i := 3) (kenc := I) (venc := B) (f := aI) (L' := [cBlk ab [Pz aj, ag, I ah, .map (some ae), .map (some ac)] 180, cRo ak, cMap encG I ae aE, cMap I B ac (fun _ => none)]) (by rw [show (#[178] : Array TypeId)[0]?.bind Try.prog.underlying = Try.prog.underlying 178 from rfl, Try.underlying178]; rfl) H rfl rfl rfl ?_
 intro bt H
 refine s_nil <| W.seq <| sQ rfl <| sM ag rfl ?_
 have bu := (ap).len_le
 refine s_val (x_lenS T34.und rfl ap) <| sM (I 0) rfl <| s_nil <| W.block ?_
 obtain ⟨a8, aJ, a9⟩ := M.e_bind hM
 obtain ⟨ba, aJ⟩ := M.e_iter aJ
 refine W.loop (fun m σ W => ∃ (mp : Gate -> Option Int) (aa : Int -> Option Bool) (s : Nat) (ρ : Env), σ = upds ρ [(0, aq), (8, Pz ab), (28, ag), (29, I (revised.length : Int)), (30, I (s : Int))] /\ M.iterN (zay w_ revised ah) m (mp, aa, s) = some a8 /\ St w W [cBlk ab [Pz aj, ag, I ah, .map (some ae), .map (some ac)] 180, cRo ak, cMap encG I ae mp, cMap I B ac aa] R) ?_ ?_
 ·exact ⟨_, aE, (fun _ => none), 0, _, upds_of _ _ ⟨rfl, rfl, rfl, rfl, rfl, trivial⟩, aJ, H⟩
 rintro bv σ bb ⟨mp, aa, s, ρ, rfl, aS, H⟩
 obtain ⟨bc, bf, bw, hM, aT⟩ := M.e_iterN aS
 simp only [zay] at hM
 clear aS
 refine sQ rfl <| sC (s : Int) (revised.length : Int) (decide ((s : Int) < (revised.length : Int))) rfl rfl rfl <| s_nil <| W.seq ?_
 refine W.cond (decide ((s : Int) < (revised.length : Int))) rfl (fun ay => ?_) (fun ay => ?_)
 ·replace hM := M.e_t hM ay
  simp only [qz1, qz2, qz3, qz4, qz5, qz6, ne_eq, qz7] at ay
  refine W.skip <| W.seq <| W.block <| sQ rfl ?_
  obtain ⟨bx, hM⟩ := M.e_gd hM
  refine s_val (x_ix (a := ag) (b := I (s : Int)) (v := vat ag 1 (Int.toNat (s : Int))) rfl rfl (Sl.ix (α := Int) T34.und T34.size ap (by omega) (by omega))) <| s_val (x_ld (p := vat ag 1 (Int.toNat (s : Int))) (v := I (revised.getD s 0)) rfl (ld_sc Sc3 (At.mono (Int_at ap (i := (s : Int)) (by omega) (by omega)) (aC.at H)))) <| sA (I (revised.getD s 0)) rfl <| s_nil <| W.region rfl <| sM (Pz ab) rfl <| sM (I (revised.getD s 0)) rfl ?_
  obtain ⟨bz, hM⟩ := M.e_gd hM
  refine sR 2 (revised.getD s 0) (2 * (revised.getD s 0)) rfl rfl rfl (by omega) ?_
  obtain ⟨bA, hM⟩ := M.e_gd hM
  refine sR (2 * (revised.getD s 0)) 1 ((2 * (revised.getD s 0)) + 1) rfl rfl rfl (by omega) ?_
  obtain ⟨bB, bg, hM⟩ := M.e_bind hM
  refine s_call cf126 [Pz ab, I ((2 * (revised.getD s 0)) + 1)] rfl (zbP w_ revised ah mp aa ((2 * (revised.getD s 0)) + 1) (aH.app _) au (Has.ro (k := 1) rfl aR) (aC.app _) ap (Has.here (k := 0) rfl) bg _ (St.give (L := [cMap encG I ae mp, cMap I B ac aa, cBlk ab [Pz aj, ag, I ah, .map (some ae), .map (some ac)] 180, cRo ak]) (A := [cMap encG I ae mp, cMap I B ac aa]) (T := [cBlk ab [Pz aj, ag, I ah, .map (some ae), .map (some ac)] 180, cRo ak]) (H.pick [2, 3, 0, 1] (by decide) rfl) rfl)) ?_
  rintro vq bh ⟨r2, aU, aV, bi, hvq, al⟩
  subst bi
  subst vq
  try dsimp only at hM
  replace H : St w bh [cMap encG I ae aU, cMap I B ac aV, cBlk ab [Pz aj, ag, I ah, .map (some ae), .map (some ac)] 180, cRo ak] R := H.pick [2, 3, 0, 1] (by decide) rfl |>.back al rfl
  clear al
  refine s_nil <| W.region rfl <| sR (s : Int) 1 ((s : Int) + 1) rfl rfl rfl (by omega) <| sM (I ((s : Int) + 1)) rfl <| s_nil ?_
  exact ⟨bc, bf, aU, aV, s + 1, _, upds_of _ _ ⟨rfl, rfl, rfl, rfl, rfl, trivial⟩, M.e_inl hM aT, (H.pick [2, 3, 0, 1] (by decide) rfl)⟩
 replace hM := M.e_f hM ay
 simp only [qz1, qz2, qz3, qz4, qz5, qz6, ne_eq, qz7] at ay
 refine W.exit ?_
 have bj := M.e_inr hM aT
 subst bj
 replace hM := a9
 try dsimp only at hM
 refine sQ rfl <| sA (.slice none 0 0) rfl <| s_nil <| W.seq <| sQ rfl <| sM aq rfl ?_
 have bC := (au).len_le
 refine s_val (x_lenS T22.und rfl au) <| sM (I 0) rfl <| s_nil <| W.block ?_
 replace H : St w bb [cOwn (α := Int) 3 (.slice none 0 0) ([]), cBlk ab [Pz aj, ag, I ah, .map (some ae), .map (some ac)] 180, cRo ak, cMap encG I ae mp, cMap I B ac aa] R := H.nilOwn (α := Int) 3
 obtain ⟨bk, aK, bl⟩ := M.e_bind hM
 obtain ⟨ba, aK⟩ := M.e_iter aK
 refine W.loop (fun m σ W => ∃ (s2 : Nat) (l : List Int) (ao : Value) (ρ : Env), σ = upds ρ [(8, Pz ab), (12, ao), (41, I (w_.length : Int)), (42, I (s2 : Int))] /\ M.iterN (zaR w_ revised ah mp aa) m (s2, l) = some bk /\ St w W [cOwn (α := Int) 3 ao l, cBlk ab [Pz aj, ag, I ah, .map (some ae), .map (some ac)] 180, cRo ak, cMap encG I ae mp, cMap I B ac aa] R) ?_ ?_
 ·exact ⟨_, 0, [], (.slice none 0 0), _, upds_of _ _ ⟨rfl, rfl, rfl, rfl, trivial⟩, aK, H⟩
 rintro bD σ bE ⟨s2, l, ao, ρ, rfl, aW, H⟩
 obtain ⟨aX, aY, bF, hM, aL⟩ := M.e_iterN aW
 simp only [zaR] at hM
 clear aW
 refine sQ rfl <| sC (s2 : Int) (w_.length : Int) (decide ((s2 : Int) < (w_.length : Int))) rfl rfl rfl <| s_nil <| W.seq ?_
 refine W.cond (decide ((s2 : Int) < (w_.length : Int))) rfl (fun az => ?_) (fun az => ?_)
 ·replace hM := M.e_t hM az
  simp only [qz1, qz2, qz3, qz4, qz5, qz6, ne_eq, qz7] at az
  refine W.skip <| W.seq <| W.block <| sQ rfl <| sM (I (s2 : Int)) rfl <| sA (I (s2 : Int)) rfl <| s_nil <| sQ rfl <| sM (Pz ab) rfl <| sM (I (s2 : Int)) rfl ?_
  obtain ⟨bG, bm, hM⟩ := M.e_bind hM
  refine s_call cf127 [Pz ab, I (s2 : Int)] rfl (zaX w_ revised ah mp aa (s2 : Int) (aH.app _) au (Has.ro (k := 2) rfl aR) (aC.app _) ap (Has.here (k := 3) rfl) (Has.here (k := 4) rfl) (Has.here (k := 1) rfl) bm _ (St.give (T := [cOwn (α := Int) 3 ao l, cBlk ab [Pz aj, ag, I ah, .map (some ae), .map (some ac)] 180, cRo ak, cMap encG I ae mp, cMap I B ac aa]) H rfl)) ?_
  rintro vq bn ⟨r3, bo, hvq, al⟩
  subst bo
  subst vq
  try dsimp only at hM
  replace H : St w bn [cOwn (α := Int) 3 ao l, cBlk ab [Pz aj, ag, I ah, .map (some ae), .map (some ac)] 180, cRo ak, cMap encG I ae mp, cMap I B ac aa] R := H.back al rfl
  clear al
  refine sM (B r3) rfl <| g_val r3 (gy_t rfl) (fun hg => x_mv (v := Pz ab) rfl) <| g_val r3 (gy_t rfl) (fun hg => x_nc (a := ⟨ab, 0, none⟩) (gd_of (c := r3) hg (Pz ab))) <| g_val r3 (gy_t rfl) (fun hg => x_fa (a := Pz ab) (v := Oz ab 4) (gd_of (c := r3) hg (Pz ab)) (fa_blk (o := 0) Fd180_4 Sz178)) <| g_val r3 (gy_t rfl) (fun hg => x_ld (p := Oz ab 4) (v := .map (some ac)) (gd_of (c := r3) hg (Oz ab 4)) (ldb_sc Sc178 (H.blk (k := 1) rfl) rfl)) <| g_val r3 (gy_t rfl) (fun hg => x_mv (v := I (s2 : Int)) rfl) ?_
  obtain ⟨aF, hM⟩ := M.e_grd hM
  replace aF := M.imp_of aF
  simp only [Bool.and_eq_true, decide_eq_true_eq] at aF
  refine g_val r3 (gy_t rfl) (fun hg => x_ari (a := 2) (b := (s2 : Int)) (r := 2 * (s2 : Int)) rfl (gd_of (c := r3) hg (I (s2 : Int))) rfl (by have am := aF.resolve_left (by rw [hg]; decide); first | exact am | exact am.1 | exact am.2 | omega | (have aA := hg; simp at aA; omega))) <| g_val r3 (gy_t rfl) (fun hg => q_look (kenc := I) (venc := B) (f := aa) (k := (2 * (s2 : Int))) (v := B ((aa (2 * (s2 : Int))).getD false)) keyIntB Try.underlying178 Al4 (by exact (gd_of (c := r3) hg (.map (some ac)))) (by exact (gd_of (c := r3) hg (I (2 * (s2 : Int))))) (H.get (k := 4) rfl) false (by rw [if_neg (by decide), bool_val])) <| s_val (x_pand (b := r3) (r := (aa (2 * (s2 : Int))).getD false) rfl (fun hb => gd_of (c := r3) (by first | exact hb | (rw [hb]; rfl) | simp_all) (B ((aa (2 * (s2 : Int))).getD false))) rfl) <| sM (B (r3 && ((aa (2 * (s2 : Int))).getD false))) rfl <| g_val (r3 && ((aa (2 * (s2 : Int))).getD false)) (gy_t rfl) (fun hg => x_mv (v := Pz ab) rfl) <| g_val (r3 && ((aa (2 * (s2 : Int))).getD false)) (gy_t rfl) (fun hg => x_nc (a := ⟨ab, 0, none⟩) (gd_of (c := (r3 && ((aa (2 * (s2 : Int))).getD false))) hg (Pz ab))) <| g_val (r3 && ((aa (2 * (s2 : Int))).getD false)) (gy_t rfl) (fun hg => x_fa (a := Pz ab) (v := Oz ab 4) (gd_of (c := (r3 && ((aa (2 * (s2 : Int))).getD false))) hg (Pz ab)) (fa_blk (o := 0) Fd180_4 Sz178)) <| g_val (r3 && ((aa (2 * (s2 : Int))).getD false)) (gy_t rfl) (fun hg => x_ld (p := Oz ab 4) (v := .map (some ac)) (gd_of (c := (r3 && ((aa (2 * (s2 : Int))).getD false))) hg (Oz ab 4)) (ldb_sc Sc178 (H.blk (k := 1) rfl) rfl)) <| g_val (r3 && ((aa (2 * (s2 : Int))).getD false)) (gy_t rfl) (fun hg => x_mv (v := I (s2 : Int)) rfl) ?_
  obtain ⟨aB, hM⟩ := M.e_grd hM
  replace aB := M.imp_of aB
  simp only [Bool.and_eq_true, decide_eq_true_eq] at aB
  refine g_val (r3 && ((aa (2 * (s2 : Int))).getD false)) (gy_t rfl) (fun hg => x_ari (a := 2) (b := (s2 : Int)) (r := 2 * (s2 : Int)) rfl (gd_of (c := (r3 && ((aa (2 * (s2 : Int))).getD false))) hg (I (s2 : Int))) rfl (by have am := aB.resolve_left (by rw [hg]; decide); first | exact am | exact am.1 | exact am.2 | omega | (have aA := hg; simp at aA; omega))) ?_
  obtain ⟨aG, hM⟩ := M.e_grd hM
  replace aG := M.imp_of aG
  simp only [Bool.and_eq_true, decide_eq_true_eq] at aG
  refine g_val (r3 && ((aa (2 * (s2 : Int))).getD false)) (gy_t rfl) (fun hg => x_ari (a := 2 * (s2 : Int)) (b := 1) (r := (2 * (s2 : Int)) + 1) (gd_of (c := (r3 && ((aa (2 * (s2 : Int))).getD false))) hg (I (2 * (s2 : Int)))) rfl rfl (by have am := aB.resolve_left (by rw [hg]; decide); have aM := aG.resolve_left (by rw [hg]; decide); first | exact am | exact am.1 | exact am.2 | exact aM | exact aM.1 | exact aM.2 | omega | (have aA := hg; simp at aA; omega))) <| g_val (r3 && ((aa (2 * (s2 : Int))).getD false)) (gy_t rfl) (fun hg => q_look (kenc := I) (venc := B) (f := aa) (k := ((2 * (s2 : Int)) + 1 : Int)) (v := B ((aa ((2 * (s2 : Int)) + 1 : Int)).getD false)) keyIntB Try.underlying178 Al4 (by exact (gd_of (c := (r3 && ((aa (2 * (s2 : Int))).getD false))) hg (.map (some ac)))) (by exact (gd_of (c := (r3 && ((aa (2 * (s2 : Int))).getD false))) hg (I ((2 * (s2 : Int)) + 1)))) (H.get (k := 4) rfl) false (by rw [if_neg (by decide), bool_val])) <| g_val (r3 && ((aa (2 * (s2 : Int))).getD false)) (gy_t rfl) (fun hg => x_not (b := (aa ((2 * (s2 : Int)) + 1 : Int)).getD false) (gd_of (c := (r3 && ((aa (2 * (s2 : Int))).getD false))) hg (B ((aa ((2 * (s2 : Int)) + 1 : Int)).getD false)))) <| s_val (x_pand (b := (r3 && ((aa (2 * (s2 : Int))).getD false))) (r := !((aa ((2 * (s2 : Int)) + 1 : Int)).getD false)) rfl (fun hb => gd_of (c := (r3 && ((aa (2 * (s2 : Int))).getD false))) (by first | exact hb | (rw [hb]; rfl) | simp_all) (B (!((aa ((2 * (s2 : Int)) + 1 : Int)).getD false)))) rfl) <| s_nil ?_
  refine W.cond ((r3 && ((aa (2 * (s2 : Int))).getD false)) && (!((aa ((2 * (s2 : Int)) + 1 : Int)).getD false))) rfl (fun aN => ?_) (fun aN => ?_)
  ·replace hM := M.e_t hM aN
   refine W.region rfl <| sM ao rfl <| sM (I (s2 : Int)) rfl ?_
   refine t_bs (α := Int) T34 [I (s2 : Int)] [(s2 : Int)] H rfl (.cons rfl (Flat.rep_enc _ (s2 : Int)) <| .nil) rfl rfl rfl ?_
   intro aZ bH H
   obtain ⟨bI, hM⟩ := M.e_gd hM
   refine t_app (α := Int) (k := 1) (l := l) (l2 := [(s2 : Int)]) (l' := l ++ ([(s2 : Int)])) (vy := aZ) T34 rfl H rfl rfl rfl (ownSl (H.get (k := 0) rfl)) (ownLe _ (H.get (k := 0) rfl)) (rfl) (by first | omega | (simp only [List.length_nil] at *; omega)) ?_
   intro aO bp H
   replace H : St w bp [cOwn (α := Int) 3 aZ ([(s2 : Int)]), cOwn (α := Int) 3 aO (l ++ ([(s2 : Int)])), cBlk ab [Pz aj, ag, I ah, .map (some ae), .map (some ac)] 180, cRo ak, cMap encG I ae mp, cMap I B ac aa] R := H
   refine sA aO rfl <| s_nil <| W.region rfl <| sR (s2 : Int) 1 ((s2 : Int) + 1) rfl rfl rfl (by omega) <| sM (I ((s2 : Int) + 1)) rfl <| s_nil ?_
   exact ⟨aX, aY, s2 + 1, l ++ ([(s2 : Int)]), aO, _, upds_of _ _ ⟨rfl, rfl, rfl, rfl, trivial⟩, M.e_inl hM aL, (H.pick [1, 2, 3, 4, 5] (by decide) rfl)⟩
  replace hM := M.e_f hM aN
  refine W.skip <| W.region rfl <| sR (s2 : Int) 1 ((s2 : Int) + 1) rfl rfl rfl (by omega) <| sM (I ((s2 : Int) + 1)) rfl <| s_nil ?_
  exact ⟨aX, aY, s2 + 1, l, ao, _, upds_of _ _ ⟨rfl, rfl, rfl, rfl, trivial⟩, M.e_inl hM aL, H⟩
 replace hM := M.e_f hM az
 simp only [qz1, qz2, qz3, qz4, qz5, qz6, ne_eq, qz7] at az
 refine W.exit ?_
 have bq := M.e_inr hM aL
 subst bq
 replace hM := bl
 try dsimp only at hM
 refine sQ rfl <| sM ao rfl <| sA ao rfl <| sA (I 0) rfl <| s_nil ?_
 refine W.ret ?_
 have aw := M.e_pure hM
 exact ⟨_, resE_tmp2 rfl, ⟨l, 0, ao, aw, rfl, (H.pick [0] (by decide) rfl)⟩⟩

def zaQ (i : Int) (k : Int) (ab : List Work) (ac : List Int) (ae : Int) (aa : Gate -> Option Int) (ag : Int -> Option Bool) : M Bool :=
  M.grd (decide ((-9223372036854775808 : Int) <= (2 * k)) && decide ((2 * k) <= (9223372036854775807 : Int))) <|
  M.grd (decide ((-9223372036854775808 : Int) <= (2 * i)) && decide ((2 * i) <= (9223372036854775807 : Int))) <|
  M.grd (decide ((-9223372036854775808 : Int) <= ((2 * i) + 1)) && decide (((2 * i) + 1) <= (9223372036854775807 : Int))) <|
  M.pure (decide (0 < ((aa (⟨(2 * k : Int), ((2 * i) + 1 : Int)⟩ : Gate)).getD 0)))
theorem zbS {R : List Chunk} {ac : Nat} {ab : Nat} {ag : Nat} {ah : Cells} {ai : Value} {aj : Cells} {ak : Value} {ae : Nat} {al : Nat} (i : Int) (k : Int) (am : List Work) (ao : List Int) (ap : Int) (aa : Gate -> Option Int) (aq : Int -> Option Bool) (ay : Reads R ah) (az : Sl ah ai am) (aA : Has R (cBlk ag [ai] 187)) (aB : Reads R aj) (aC : Sl aj ak ao) (au : Has R (cMap encG I ae aa)) (aD : Has R (cMap I B al aq)) (av : Has R (cBlk ab [Pz ag, ak, I ap, .map (some ae), .map (some al)] 180)) (aw : Has R (cBlk ac [Pz ab] 174)) {r : Bool} (hM : (zaQ i k am ao ap aa aq).Ends r) (w : World) (H : St w w [] R) : Ret Try.prog 128 #[I i, I k, Pz ac] w fun v w' => ∃ (y0 : Bool), y0 = r /\ v = B y0 /\ St w w' [] R := by
 refine ret_of_W Try.func128 rfl rfl rfl ?_
 refine sQ rfl <| sA (B false) rfl <| s_nil <| sQ rfl <| s_val (x_ld (p := Pz ac) (v := Pz ab) rfl (ldb_sc Sc174 (aw.blk H) rfl)) <| s_val (x_nc (a := ⟨ab, 0, none⟩) rfl) <| s_val (x_fa (a := Pz ab) (v := Oz ab 3) rfl (fa_blk (o := 0) Fd180_3 Sz177)) <| s_val (x_ld (p := Oz ab 3) (v := .map (some ae)) rfl (ldb_sc Sc177 (av.blk H) rfl)) <| sM (I k) rfl ?_
 obtain ⟨aE, hM⟩ := M.e_gd hM
 refine sR 2 k (2 * k) rfl rfl rfl (by omega) <| sM (I i) rfl ?_
 obtain ⟨aF, hM⟩ := M.e_gd hM
 refine sR 2 i (2 * i) rfl rfl rfl (by omega) ?_
 obtain ⟨aG, hM⟩ := M.e_gd hM
 refine sR (2 * i) 1 ((2 * i) + 1) rfl rfl rfl (by omega) <| s_val (x_bld (ps := [(0, I (2 * k)), (1, I ((2 * i) + 1))]) (zs := [I 0, I 0]) (L' := [I (2 * k), I ((2 * i) + 1)]) rfl Try.underlying182 Al182 rfl (Bd182 Try.underlying182) (.cons (cs := [I (2 * k)]) rfl rfl rfl rfl rfl <| .cons (cs := [I ((2 * i) + 1)]) rfl rfl rfl rfl rfl <| .nil)) <| s_val (q_look (kenc := encG) (venc := I) (f := aa) (k := (⟨(2 * k : Int), ((2 * i) + 1 : Int)⟩ : Gate)) (v := I ((aa (⟨(2 * k : Int), ((2 * i) + 1 : Int)⟩ : Gate)).getD 0)) keyGate Try.underlying177 Al3 rfl rfl (au.at H) false (by rw [if_neg (by decide), int_val])) <| sC ((aa (⟨(2 * k : Int), ((2 * i) + 1 : Int)⟩ : Gate)).getD 0) 0 (decide (0 < ((aa (⟨(2 * k : Int), ((2 * i) + 1 : Int)⟩ : Gate)).getD 0))) rfl rfl rfl <| sA (B (decide (0 < ((aa (⟨(2 * k : Int), ((2 * i) + 1 : Int)⟩ : Gate)).getD 0)))) rfl <| s_nil ?_
 refine W.ret ?_
 have ax := M.e_pure hM
 exact ⟨_, resE_tmp rfl, ⟨(decide (0 < ((aa (⟨(2 * k : Int), ((2 * i) + 1 : Int)⟩ : Gate)).getD 0))), ax, rfl, H⟩⟩

def za8 (k : Int) (aa : List Work) (ab : List Int) (ac : Int) (ae : Gate -> Option Int) (ag : Int -> Option Bool) (ah : Int) : M Bool :=
  M.bind (zaQ ah k aa ab ac ae ag) fun r2 =>
  M.pure r2
theorem zb9 {R : List Chunk} {ab : Nat} {ac : Nat} {al : Nat} {am : Nat} {ao : Cells} {ap : Value} {aq : Cells} {au : Value} {av : Nat} {aw : Nat} {ae : Nat} (k : Int) (ag : List Work) (ah : List Int) (ai : Int) (aj : Gate -> Option Int) (ak : Int -> Option Bool) (aa : Int) (ay : Reads R ao) (az : Sl ao ap ag) (aA : Has R (cBlk am [ap] 187)) (aB : Reads R aq) (aC : Sl aq au ah) (aD : Has R (cMap encG I av aj)) (aE : Has R (cMap I B aw ak)) (aF : Has R (cBlk al [Pz am, au, I ai, .map (some av), .map (some aw)] 180)) (aG : Has R (cBlk ac [Pz al] 174)) (aH : Has R (cBlk ab [.func (.func 128) #[] #[Pz ac]] 183)) (aI : Has R (cBlk ae [I aa] 3)) {r : Bool} (hM : (za8 k ag ah ai aj ak aa).Ends r) (w : World) (H : St w w [] R) : Ret Try.prog 129 #[I k, Pz ab, Pz ae] w fun v w' => ∃ (y0 : Bool), y0 = r /\ v = B y0 /\ St w w' [] R := by
 refine ret_of_W Try.func129 rfl rfl rfl ?_
 refine sQ rfl <| sA (B false) rfl <| s_nil <| sQ rfl <| s_val (x_ld (p := Pz ab) (v := .func (.func 128) #[] #[Pz ac]) rfl (ldb_sc Sc183 (aH.blk H) rfl)) <| s_val (x_ld (p := Pz ae) (v := I aa) rfl (ldb_sc Sc3 (aI.blk H) rfl)) <| sM (I k) rfl ?_
 obtain ⟨aN, aJ, hM⟩ := M.e_bind hM
 refine s_callv (f := 128) rfl cf128 [I aa, I k] rfl (zbS aa k ag ah ai aj ak (ay.app _) az (aA.app _) (aB.app _) aC (aD.app _) (aE.app _) (aF.app _) (aG.app _) aJ _ (St.give (T := []) H rfl)) ?_
 rintro vq aK ⟨r2, aL, hvq, ax⟩
 subst aL
 subst vq
 try dsimp only at hM
 replace H : St w aK [] R := H.back ax rfl
 clear ax
 refine sA (B r2) rfl <| s_nil ?_
 refine W.ret ?_
 have aM := M.e_pure hM
 exact ⟨_, resE_tmp rfl, ⟨r2, aM, rfl, H⟩⟩

def zbE (w_ : List Work) : ((List Int) × Nat) -> M (((List Int) × Nat) ⊕ ((List Int) × (List Int))) := fun (l, s) =>
  bif decide ((s : Int) < ((List.replicate (w_.length) (0 : Int)).length : Int)) then (
  M.grd (decide ((s : Int) < (l.length : Int))) <|
  M.pure (.inl (l.set s (s : Int), s + 1)))
  else (
  M.pure (.inr (l, l)))
def zbG (l3 : List Int) : (Nat × (List (List Int))) -> M ((Nat × (List (List Int))) ⊕ ((List (List Int)) × (List (List Int)))) := fun (s4, aa) =>
  bif decide ((s4 : Int) < (l3.length : Int)) then (
  M.grd (decide ((s4 : Int) < (l3.length : Int))) <|
  M.fail)
  else (
  M.pure (.inr (aa, aa)))
def zbt (revised : List Int) (l3 : List Int) : (Nat × (List (List Int))) -> M ((Nat × (List (List Int))) ⊕ ((List (List Int)) × (List (List Int)))) := fun (s2, aa) =>
  bif decide ((s2 : Int) < (revised.length : Int)) then (
  M.grd (decide ((s2 : Int) < (revised.length : Int))) <|
  M.bind (M.iter (zbG l3) (0, aa)) fun (l8, ab) =>
  M.pure (.inl (s2 + 1, ab)))
  else (
  M.pure (.inr (aa, aa)))
def zaq (w_ : List Work) : ((List Int) × Nat) -> M (((List Int) × Nat) ⊕ ((List Int) × (List Int))) := fun (l, s) =>
  bif decide ((s : Int) < ((List.replicate (w_.length) (0 : Int)).length : Int)) then (
  M.grd (decide ((s : Int) < (l.length : Int))) <|
  M.pure (.inl (l.set s (s : Int), s + 1)))
  else (
  M.pure (.inr (l, l)))
def zaS (w_ : List Work) (revised : List Int) (work : Int) (aa : Int) (ab : Gate -> Option Int) (ac : Int -> Option Bool) (l3 : List Int) : ((List Int) × Int) -> M (((List Int) × Int) ⊕ ((List Int) × (List Int))) := fun (l4, s3) =>
  bif s3 != work then (
  M.grd (decide ((l4.length + ([(s3 : Int)]).length) * 8 <= 140737488355328)) <|
  M.bind (zau l3 (fun ae => za8 ae w_ revised aa ab ac s3)) fun r4 =>
  M.pure (.inl (l4 ++ ([(s3 : Int)]), r4)))
  else (
  M.pure (.inr (l4, l4)))
def zaY (w_ : List Work) (revised : List Int) (work : Int) (ab : Int) (ac : Gate -> Option Int) (ae : Int -> Option Bool) (l3 : List Int) (s2 : Nat) : (Nat × (List (List Int))) -> M ((Nat × (List (List Int))) ⊕ ((List (List Int)) × (List (List Int)))) := fun (s4, aa) =>
  bif decide ((s4 : Int) < (l3.length : Int)) then (
  M.grd (decide ((s4 : Int) < (l3.length : Int))) <|
  M.bind (zah w_ revised ab ac ae (l3.getD s4 0)) fun r2 =>
  M.bind (M.opt (!(!r2)) (zaQ (revised.getD s2 0) (l3.getD s4 0) w_ revised ab ac ae) false) fun r3 =>
  bif ((!r2) || (!r3)) then (
  M.pure (.inl (s4 + 1, aa)))
  else (
  M.bind (M.iter (zaS w_ revised work ab ac ae l3) ([(revised.getD s2 0 : Int)], l3.getD s4 0)) fun (l5, l6) =>
  M.grd (decide ((l6.length + ([(work : Int)]).length) * 8 <= 140737488355328)) <|
  M.grd (decide ((aa.length + ([l6 ++ ([(work : Int)])]).length) * 24 <= 140737488355328)) <|
  M.pure (.inl (s4 + 1, aa ++ ([l6 ++ ([(work : Int)])])))))
  else (
  M.pure (.inr (aa, aa)))
def zax (w_ : List Work) (revised : List Int) (work : Int) (ab : Int) (ac : Gate -> Option Int) (ae : Int -> Option Bool) (l3 : List Int) : (Nat × (List (List Int))) -> M ((Nat × (List (List Int))) ⊕ ((List (List Int)) × (List (List Int)))) := fun (s2, aa) =>
  bif decide ((s2 : Int) < (revised.length : Int)) then (
  M.grd (decide ((s2 : Int) < (revised.length : Int))) <|
  M.bind (M.iter (zaY w_ revised work ab ac ae l3 s2) (0, aa)) fun (l8, ag) =>
  M.pure (.inl (s2 + 1, ag)))
  else (
  M.pure (.inr (aa, aa)))
def zaP (w_ : List Work) (revised : List Int) (work : Int) : M ((List (List Int)) × Int) :=
  M.bind (zap w_ revised work) fun x_ => match x_ with
  | (.inl r1) => (
  bif r1 != 0 then (
  M.pure (([]), r1))
  else (
  M.grd (decide ((0 : Int) <= (w_.length : Int)) && decide ((8 : Int) * (w_.length : Int) <= 281474976710656) && decide ((w_.length : Int) <= (9223372036854775807 : Int))) <|
  M.bind (M.iter (zbE w_) (List.replicate (w_.length) (0 : Int), 0)) fun (l2, l3) =>
  M.bind (M.iter (zbt revised l3) (0, [])) fun (ac, aa) =>
  M.pure (aa, 0)))
  | (.inr (ae, ag, ah, ab)) => (
  bif ab != 0 then (
  M.pure (([]), ab))
  else (
  M.grd (decide ((0 : Int) <= (w_.length : Int)) && decide ((8 : Int) * (w_.length : Int) <= 281474976710656) && decide ((w_.length : Int) <= (9223372036854775807 : Int))) <|
  M.bind (M.iter (zaq w_) (List.replicate (w_.length) (0 : Int), 0)) fun (l2, l3) =>
  M.bind (M.iter (zax w_ revised work ae ag ah l3) (0, [])) fun (ac, aa) =>
  M.pure (aa, 0)))
theorem zbR {R : List Chunk} {bw : Cells} {aJ : Value} {bx : Cells} {ah : Value} (w_ : List Work) (revised : List Int) (work : Int) (a5 : Reads R bw) (aE : Sl bw aJ w_) (aK : Reads R bx) (aw : Sl bx ah revised) {r : ((List (List Int)) × Int)} (hM : (zaP w_ revised work).Ends r) (w : World) (H : St w w [] R) : Ret Try.prog 65 #[aJ, ah, I work] w fun v w' => ∃ (y0 : List (List Int)) (y1 : Int) (u0 : Value) (rr1 : List (Raw 0)) (bz : Base), (y0, y1) = r /\ v = .tuple #[u0, I y1] /\ St w w' [cOwn (α := Raw 0) 34 u0 rr1, cRo bz] R /\ RepR (α := List Int) bz.cells rr1 y0 := by
 refine ret_of_W Try.func65 rfl rfl rfl ?_
 refine sQ rfl <| sA (.slice none 0 0) rfl <| sA (I 0) rfl <| s_nil <| sQ rfl <| sM aJ rfl <| sM ah rfl <| sM (I work) rfl ?_
 obtain ⟨dm, bT, hM⟩ := M.e_bind hM
 refine s_call cf125 [aJ, ah, I work] rfl (zbZ w_ revised work (a5.app _) aE (aK.app _) aw bT _ (St.give (T := []) H rfl)) ?_
 rintro vq bA (⟨r1, bU, hvq, ay⟩ | ⟨aj, ak, al, ax, ab, ap, aq, ae, ag, bV, hvq, ay, ba⟩)
 ·subst bU
  subst vq
  try dsimp only at hM
  replace H : St w bA [] R := H.back ay rfl
  clear ay
  refine sM (.tuple #[.pointer none, I r1]) rfl <| sX [.pointer none, I r1] (.pointer none) rfl rfl <| sX [.pointer none, I r1] (I r1) rfl rfl ?_
  refine t_alloc (cs := [.pointer none]) H Al174 rfl ?_
  intro aa dp H
  refine t_st (k := 0) (b := aa) (off := 0) (cs := [.pointer none]) (vs := [.pointer none]) (cs' := [.pointer none]) (v := .pointer none) (L' := [cBlk aa [.pointer none] 174]) H rfl rfl rfl Sz174 rfl rfl rfl rfl rfl rfl ?_
  intro bW H
  refine sA (I r1) rfl <| s_nil <| W.seq <| sQ rfl <| sM (I r1) rfl <| sC r1 0 (r1 != 0) rfl rfl rfl <| s_nil ?_
  refine W.cond (r1 != 0) rfl (fun aN => ?_) (fun aN => ?_)
  ·replace hM := M.e_t hM aN
   simp only [qz1, qz2, qz3, qz4, qz5, qz6, ne_eq, qz7] at aN
   refine sQ rfl <| sM (I r1) rfl <| sA (.slice none 0 0) rfl <| sA (I r1) rfl <| s_nil ?_
   refine W.ret ?_
   have aD := M.e_pure hM
   obtain ⟨aG, H⟩ := H.emptyE
   replace H : St w bW [cOwn (α := Raw 0) 34 (.slice none 0 0) ([]), cRo aG, cBlk aa [.pointer none] 174] R := H.nilOwn (α := Raw 0) 34
   have bX : RepR (α := List Int) (n := 0) aG.cells [] [] := .nil
   exact ⟨_, resE_tmp2 rfl, ⟨([]), r1, (.slice none 0 0), [], aG, aD, rfl, (H.pick [0, 1] (by decide) rfl), bX⟩⟩
  replace hM := M.e_f hM aN
  simp only [qz1, qz2, qz3, qz4, qz5, qz6, ne_eq, qz7] at aN
  refine W.skip <| sQ rfl <| s_val (x_mf (fs := []) (cs := [Pz aa]) rfl rfl) ?_
  refine t_alloc (cs := [.nilFunc]) H Al183 rfl ?_
  intro ai dq H
  refine t_st (k := 0) (b := ai) (off := 0) (cs := [.nilFunc]) (vs := [.func (.func 128) #[] #[Pz aa]]) (cs' := [.func (.func 128) #[] #[Pz aa]]) (v := .func (.func 128) #[] #[Pz aa]) (L' := [cBlk ai [.func (.func 128) #[] #[Pz aa]] 183, cBlk aa [.pointer none] 174]) H rfl rfl rfl Sz183 rfl rfl rfl rfl rfl rfl ?_
  intro dr H
  refine s_nil <| sQ rfl <| sM aJ rfl ?_
  have dt := (aE).len_le
  refine s_val (x_lenS T22.und rfl aE) ?_
  obtain ⟨du, hM⟩ := M.e_gd hM
  refine t_mk (α := Int) T34 (0 : Int) rfl (n := (w_.length : Int)) H rfl rfl (by omega) (by omega) (by omega) ?_
  intro a6 bY H
  replace H : St w bY [cOwn (α := Int) 3 a6 (List.replicate (w_.length) (0 : Int)), cBlk ai [.func (.func 128) #[] #[Pz aa]] 183, cBlk aa [.pointer none] 174] R := H
  refine sA a6 rfl <| s_nil <| W.seq <| sQ rfl <| sM a6 rfl ?_
  have dv := ((ownSl (H.get (k := 0) rfl))).len_le
  refine s_val (x_lenS T34.und rfl (ownSl (H.get (k := 0) rfl))) <| sM (I 0) rfl <| s_nil <| W.block ?_
  obtain ⟨bZ, bb, b6⟩ := M.e_bind hM
  obtain ⟨aL, bb⟩ := M.e_iter bb
  refine W.loop (fun m σ W => ∃ (l : List Int) (s : Nat) (ac : Value) (ρ : Env), σ = upds ρ [(1, ah), (2, I work), (8, Pz aa), (10, Pz ai), (11, ac), (35, I ((List.replicate (w_.length) (0 : Int)).length : Int)), (36, I (s : Int))] /\ M.iterN (zbE w_) m (l, s) = some bZ /\ St w W [cOwn (α := Int) 3 ac l, cBlk ai [.func (.func 128) #[] #[Pz aa]] 183, cBlk aa [.pointer none] 174] R) ?_ ?_
  ·exact ⟨_, List.replicate (w_.length) (0 : Int), 0, a6, _, upds_of _ _ ⟨rfl, rfl, rfl, rfl, rfl, rfl, rfl, trivial⟩, bb, H⟩
  rintro dw σ b8 ⟨l, s, ac, ρ, rfl, bB, H⟩
  obtain ⟨ca, cb, dx, hM, bC⟩ := M.e_iterN bB
  simp only [zbE] at hM
  clear bB
  refine sQ rfl <| sC (s : Int) ((List.replicate (w_.length) (0 : Int)).length : Int) (decide ((s : Int) < ((List.replicate (w_.length) (0 : Int)).length : Int))) rfl rfl rfl <| s_nil <| W.seq ?_
  refine W.cond (decide ((s : Int) < ((List.replicate (w_.length) (0 : Int)).length : Int))) rfl (fun aO => ?_) (fun aO => ?_)
  ·replace hM := M.e_t hM aO
   simp only [qz1, qz2, qz3, qz4, qz5, qz6, ne_eq, qz7] at aO
   refine W.skip <| W.seq <| W.block <| sQ rfl <| sM (I (s : Int)) rfl <| sA (I (s : Int)) rfl <| s_nil <| W.region rfl <| sM ac rfl <| sM (I (s : Int)) rfl <| sM (I (s : Int)) rfl ?_
   obtain ⟨dy, hM⟩ := M.e_gd hM
   refine s_val (x_ix (a := ac) (b := I (s : Int)) (v := vat ac 1 (Int.toNat (s : Int))) rfl rfl (Sl.ix (α := Int) T34.und T34.size (ownSl (H.get (k := 0) rfl)) (by omega) (by omega))) ?_
   refine t_ost (k := 0) (i := (s : Int)) (l := l) (l' := l.set s (s : Int)) (val := I (s : Int)) (L' := [cOwn (α := Int) 3 ac (l.set s (s : Int)), cBlk ai [.func (.func 128) #[] #[Pz aa]] 183, cBlk aa [.pointer none] 174]) H rfl Sz3 (by omega) (by omega) (s : Int) rfl rfl rfl rfl rfl ?_
   intro dz H
   refine s_nil <| W.region rfl <| sR (s : Int) 1 ((s : Int) + 1) rfl rfl rfl (by omega) <| sM (I ((s : Int) + 1)) rfl <| s_nil ?_
   exact ⟨ca, cb, l.set s (s : Int), s + 1, ac, _, upds_of _ _ ⟨rfl, rfl, rfl, rfl, rfl, rfl, rfl, trivial⟩, M.e_inl hM bC, H⟩
  replace hM := M.e_f hM aO
  simp only [qz1, qz2, qz3, qz4, qz5, qz6, ne_eq, qz7] at aO
  refine W.exit ?_
  have cc := M.e_inr hM bC
  subst cc
  replace hM := b6
  try dsimp only at hM
  refine sQ rfl <| sA (.slice none 0 0) rfl <| s_nil <| W.seq <| sQ rfl <| sM ah rfl ?_
  have dA := (aw).len_le
  refine s_val (x_lenS T34.und rfl aw) <| sM (I 0) rfl <| s_nil <| W.block ?_
  obtain ⟨aH, H⟩ := H.emptyE
  replace H : St w b8 [cOwn (α := Raw 0) 34 (.slice none 0 0) ([]), cRo aH, cOwn (α := Int) 3 ac l, cBlk ai [.func (.func 128) #[] #[Pz aa]] 183, cBlk aa [.pointer none] 174] R := H.nilOwn (α := Raw 0) 34
  have cd : RepR (α := List Int) (n := 0) aH.cells [] [] := .nil
  obtain ⟨ce, bc, cf⟩ := M.e_bind hM
  obtain ⟨aL, bc⟩ := M.e_iter bc
  refine W.loop (fun m σ W => ∃ (s2 : Nat) (az : List (List Int)) (av : Value) (aA : List (Raw 0)) (B_l12 : Base) (ρ : Env), σ = upds ρ [(2, I work), (8, Pz aa), (10, Pz ai), (11, ac), (13, av), (44, ah), (45, I (revised.length : Int)), (46, I (s2 : Int))] /\ M.iterN (zbt revised l) m (s2, az) = some ce /\ St w W [cOwn (α := Raw 0) 34 av aA, cRo B_l12, cOwn (α := Int) 3 ac l, cBlk ai [.func (.func 128) #[] #[Pz aa]] 183, cBlk aa [.pointer none] 174] R /\ RepR (α := List Int) B_l12.cells aA az) ?_ ?_
  ·exact ⟨_, 0, [], (.slice none 0 0), [], aH, _, upds_of _ _ ⟨rfl, rfl, rfl, rfl, rfl, rfl, rfl, rfl, trivial⟩, bc, H, cd⟩
  rintro dB σ dC ⟨s2, az, av, aA, B_l12, ρ, rfl, bD, H, aP⟩
  obtain ⟨cg, ci, dD, hM, bE⟩ := M.e_iterN bD
  simp only [zbt] at hM
  clear bD
  refine sQ rfl <| sC (s2 : Int) (revised.length : Int) (decide ((s2 : Int) < (revised.length : Int))) rfl rfl rfl <| s_nil <| W.seq ?_
  refine W.cond (decide ((s2 : Int) < (revised.length : Int))) rfl (fun aQ => ?_) (fun aQ => ?_)
  ·replace hM := M.e_t hM aQ
   simp only [qz1, qz2, qz3, qz4, qz5, qz6, ne_eq, qz7] at aQ
   refine W.skip <| W.seq <| W.block <| sQ rfl ?_
   obtain ⟨dE, hM⟩ := M.e_gd hM
   refine s_val (x_ix (a := ah) (b := I (s2 : Int)) (v := vat ah 1 (Int.toNat (s2 : Int))) rfl rfl (Sl.ix (α := Int) T34.und T34.size aw (by omega) (by omega))) <| s_val (x_ld (p := vat ah 1 (Int.toNat (s2 : Int))) (v := I (revised.getD s2 0)) rfl (ld_sc Sc3 (At.mono (Int_at aw (i := (s2 : Int)) (by omega) (by omega)) (aK.at H)))) <| sA (I (revised.getD s2 0)) rfl <| s_nil <| sQ rfl <| sM ac rfl ?_
   have dF := ((ownSl (H.get (k := 2) rfl))).len_le
   refine s_val (x_lenS T34.und rfl (ownSl (H.get (k := 2) rfl))) <| sM (I 0) rfl <| s_nil <| W.block ?_
   obtain ⟨cj, bf, ck⟩ := M.e_bind hM
   obtain ⟨aL, bf⟩ := M.e_iter bf
   refine W.loop (fun m σ W => ∃ (s4 : Nat) (aB : List (List Int)) (ao : Value) (am : List (Raw 0)) (B_l10 : Base) (ρ : Env), σ = upds ρ [(2, I work), (8, Pz aa), (10, Pz ai), (11, ac), (13, ao), (15, I (revised.getD s2 0)), (44, ah), (45, I (revised.length : Int)), (46, I (s2 : Int)), (50, ac), (51, I (l.length : Int)), (52, I (s4 : Int))] /\ M.iterN (zbG l) m (s4, aB) = some cj /\ St w W [cOwn (α := Raw 0) 34 ao am, cRo B_l10, cOwn (α := Int) 3 ac l, cBlk ai [.func (.func 128) #[] #[Pz aa]] 183, cBlk aa [.pointer none] 174] R /\ RepR (α := List Int) B_l10.cells am aB) ?_ ?_
   ·exact ⟨_, 0, az, av, aA, B_l12, _, upds_of _ _ ⟨rfl, rfl, rfl, rfl, rfl, rfl, rfl, rfl, rfl, rfl, rfl, rfl, trivial⟩, bf, H, aP⟩
   rintro dG σ dH ⟨s4, aB, ao, am, B_l10, ρ, rfl, bF, H, aF⟩
   obtain ⟨dI, dJ, dK, hM, cm⟩ := M.e_iterN bF
   simp only [zbG] at hM
   clear bF
   refine sQ rfl <| sC (s4 : Int) (l.length : Int) (decide ((s4 : Int) < (l.length : Int))) rfl rfl rfl <| s_nil <| W.seq ?_
   refine W.cond (decide ((s4 : Int) < (l.length : Int))) rfl (fun aR => ?_) (fun aR => ?_)
   ·replace hM := M.e_t hM aR
    simp only [qz1, qz2, qz3, qz4, qz5, qz6, ne_eq, qz7] at aR
    refine W.skip <| W.seq <| W.block <| sQ rfl ?_
    obtain ⟨dL, hM⟩ := M.e_gd hM
    refine s_val (x_ix (a := ac) (b := I (s4 : Int)) (v := vat ac 1 (Int.toNat (s4 : Int))) rfl rfl (Sl.ix (α := Int) T34.und T34.size (ownSl (H.get (k := 2) rfl)) (by omega) (by omega))) <| s_val (x_ld (p := vat ac 1 (Int.toNat (s4 : Int))) (v := I (l.getD s4 0)) rfl (ld_sc Sc3 (At.mono (Int_at (ownSl (H.get (k := 2) rfl)) (i := (s4 : Int)) (by omega) (by omega)) (ownLe _ (H.get (k := 2) rfl))))) <| sA (I (l.getD s4 0)) rfl <| s_nil <| W.seq <| sQ rfl <| s_val (x_ld (p := Pz aa) (v := .pointer none) rfl (ldb_sc Sc174 (H.blk (k := 4) rfl) rfl)) <| sM (I (l.getD s4 0)) rfl ?_
    exact (M.e_fail hM).elim
   replace hM := M.e_f hM aR
   simp only [qz1, qz2, qz3, qz4, qz5, qz6, ne_eq, qz7] at aR
   refine W.exit ?_
   have cn := M.e_inr hM cm
   subst cn
   replace hM := ck
   try dsimp only at hM
   refine W.region rfl <| sR (s2 : Int) 1 ((s2 : Int) + 1) rfl rfl rfl (by omega) <| sM (I ((s2 : Int) + 1)) rfl <| s_nil ?_
   exact ⟨cg, ci, s2 + 1, aB, ao, am, B_l10, _, upds_of _ _ ⟨rfl, rfl, rfl, rfl, rfl, rfl, rfl, rfl, trivial⟩, M.e_inl hM bE, H, aF⟩
  replace hM := M.e_f hM aQ
  simp only [qz1, qz2, qz3, qz4, qz5, qz6, ne_eq, qz7] at aQ
  refine W.exit ?_
  have co := M.e_inr hM bE
  subst co
  replace hM := cf
  try dsimp only at hM
  refine sQ rfl <| sM av rfl <| sA av rfl <| sA (I 0) rfl <| s_nil ?_
  refine W.ret ?_
  have aD := M.e_pure hM
  exact ⟨_, resE_tmp2 rfl, ⟨az, 0, av, aA, B_l12, aD, rfl, (H.pick [0, 1] (by decide) rfl), aP⟩⟩
 subst bV
 subst vq
 try dsimp only at hM
 replace H : St w bA [cBlk ab [Pz ap, ah, I aj, .map (some ae), .map (some ag)] 180, cRo aq, cMap encG I ae ak, cMap I B ag al] R := H.back ay rfl
 clear ay
 refine sM (.tuple #[Pz ab, I ax]) rfl <| sX [Pz ab, I ax] (Pz ab) rfl rfl <| sX [Pz ab, I ax] (I ax) rfl rfl ?_
 refine t_alloc (cs := [.pointer none]) H Al174 rfl ?_
 intro aa dM H
 refine t_st (k := 0) (b := aa) (off := 0) (cs := [.pointer none]) (vs := [Pz ab]) (cs' := [Pz ab]) (v := Pz ab) (L' := [cBlk aa [Pz ab] 174, cBlk ab [Pz ap, ah, I aj, .map (some ae), .map (some ag)] 180, cRo aq, cMap encG I ae ak, cMap I B ag al]) H rfl rfl rfl Sz174 rfl rfl rfl rfl rfl rfl ?_
 intro cp H
 refine sA (I ax) rfl <| s_nil <| W.seq <| sQ rfl <| sM (I ax) rfl <| sC ax 0 (ax != 0) rfl rfl rfl <| s_nil ?_
 refine W.cond (ax != 0) rfl (fun aS => ?_) (fun aS => ?_)
 ·replace hM := M.e_t hM aS
  simp only [qz1, qz2, qz3, qz4, qz5, qz6, ne_eq, qz7] at aS
  refine sQ rfl <| sM (I ax) rfl <| sA (.slice none 0 0) rfl <| sA (I ax) rfl <| s_nil ?_
  refine W.ret ?_
  have aD := M.e_pure hM
  obtain ⟨aG, H⟩ := H.emptyE
  replace H : St w cp [cOwn (α := Raw 0) 34 (.slice none 0 0) ([]), cRo aG, cBlk aa [Pz ab] 174, cBlk ab [Pz ap, ah, I aj, .map (some ae), .map (some ag)] 180, cRo aq, cMap encG I ae ak, cMap I B ag al] R := H.nilOwn (α := Raw 0) 34
  have cq : RepR (α := List Int) (n := 0) aG.cells [] [] := .nil
  exact ⟨_, resE_tmp2 rfl, ⟨([]), ax, (.slice none 0 0), [], aG, aD, rfl, (H.pick [0, 1] (by decide) rfl), cq⟩⟩
 replace hM := M.e_f hM aS
 simp only [qz1, qz2, qz3, qz4, qz5, qz6, ne_eq, qz7] at aS
 refine W.skip <| sQ rfl <| s_val (x_mf (fs := []) (cs := [Pz aa]) rfl rfl) ?_
 refine t_alloc (cs := [.nilFunc]) H Al183 rfl ?_
 intro ai dN H
 refine t_st (k := 0) (b := ai) (off := 0) (cs := [.nilFunc]) (vs := [.func (.func 128) #[] #[Pz aa]]) (cs' := [.func (.func 128) #[] #[Pz aa]]) (v := .func (.func 128) #[] #[Pz aa]) (L' := [cBlk ai [.func (.func 128) #[] #[Pz aa]] 183, cBlk aa [Pz ab] 174, cBlk ab [Pz ap, ah, I aj, .map (some ae), .map (some ag)] 180, cRo aq, cMap encG I ae ak, cMap I B ag al]) H rfl rfl rfl Sz183 rfl rfl rfl rfl rfl rfl ?_
 intro dO H
 refine s_nil <| sQ rfl <| sM aJ rfl ?_
 have dP := (aE).len_le
 refine s_val (x_lenS T22.und rfl aE) ?_
 obtain ⟨dQ, hM⟩ := M.e_gd hM
 refine t_mk (α := Int) T34 (0 : Int) rfl (n := (w_.length : Int)) H rfl rfl (by omega) (by omega) (by omega) ?_
 intro a7 cr H
 replace H : St w cr [cOwn (α := Int) 3 a7 (List.replicate (w_.length) (0 : Int)), cBlk ai [.func (.func 128) #[] #[Pz aa]] 183, cBlk aa [Pz ab] 174, cBlk ab [Pz ap, ah, I aj, .map (some ae), .map (some ag)] 180, cRo aq, cMap encG I ae ak, cMap I B ag al] R := H
 refine sA a7 rfl <| s_nil <| W.seq <| sQ rfl <| sM a7 rfl ?_
 have dR := ((ownSl (H.get (k := 0) rfl))).len_le
 refine s_val (x_lenS T34.und rfl (ownSl (H.get (k := 0) rfl))) <| sM (I 0) rfl <| s_nil <| W.block ?_
 obtain ⟨ct, bg, cu⟩ := M.e_bind hM
 obtain ⟨aL, bg⟩ := M.e_iter bg
 refine W.loop (fun m σ W => ∃ (l : List Int) (s : Nat) (ac : Value) (ρ : Env), σ = upds ρ [(1, ah), (2, I work), (8, Pz aa), (10, Pz ai), (11, ac), (35, I ((List.replicate (w_.length) (0 : Int)).length : Int)), (36, I (s : Int))] /\ M.iterN (zaq w_) m (l, s) = some ct /\ St w W [cOwn (α := Int) 3 ac l, cBlk ai [.func (.func 128) #[] #[Pz aa]] 183, cBlk aa [Pz ab] 174, cBlk ab [Pz ap, ah, I aj, .map (some ae), .map (some ag)] 180, cRo aq, cMap encG I ae ak, cMap I B ag al] R) ?_ ?_
 ·exact ⟨_, List.replicate (w_.length) (0 : Int), 0, a7, _, upds_of _ _ ⟨rfl, rfl, rfl, rfl, rfl, rfl, rfl, trivial⟩, bg, H⟩
 rintro dS σ cv ⟨l, s, ac, ρ, rfl, bG, H⟩
 obtain ⟨cw, cx, dT, hM, bH⟩ := M.e_iterN bG
 simp only [zaq] at hM
 clear bG
 refine sQ rfl <| sC (s : Int) ((List.replicate (w_.length) (0 : Int)).length : Int) (decide ((s : Int) < ((List.replicate (w_.length) (0 : Int)).length : Int))) rfl rfl rfl <| s_nil <| W.seq ?_
 refine W.cond (decide ((s : Int) < ((List.replicate (w_.length) (0 : Int)).length : Int))) rfl (fun aT => ?_) (fun aT => ?_)
 ·replace hM := M.e_t hM aT
  simp only [qz1, qz2, qz3, qz4, qz5, qz6, ne_eq, qz7] at aT
  refine W.skip <| W.seq <| W.block <| sQ rfl <| sM (I (s : Int)) rfl <| sA (I (s : Int)) rfl <| s_nil <| W.region rfl <| sM ac rfl <| sM (I (s : Int)) rfl <| sM (I (s : Int)) rfl ?_
  obtain ⟨dU, hM⟩ := M.e_gd hM
  refine s_val (x_ix (a := ac) (b := I (s : Int)) (v := vat ac 1 (Int.toNat (s : Int))) rfl rfl (Sl.ix (α := Int) T34.und T34.size (ownSl (H.get (k := 0) rfl)) (by omega) (by omega))) ?_
  refine t_ost (k := 0) (i := (s : Int)) (l := l) (l' := l.set s (s : Int)) (val := I (s : Int)) (L' := [cOwn (α := Int) 3 ac (l.set s (s : Int)), cBlk ai [.func (.func 128) #[] #[Pz aa]] 183, cBlk aa [Pz ab] 174, cBlk ab [Pz ap, ah, I aj, .map (some ae), .map (some ag)] 180, cRo aq, cMap encG I ae ak, cMap I B ag al]) H rfl Sz3 (by omega) (by omega) (s : Int) rfl rfl rfl rfl rfl ?_
  intro dV H
  refine s_nil <| W.region rfl <| sR (s : Int) 1 ((s : Int) + 1) rfl rfl rfl (by omega) <| sM (I ((s : Int) + 1)) rfl <| s_nil ?_
  exact ⟨cw, cx, l.set s (s : Int), s + 1, ac, _, upds_of _ _ ⟨rfl, rfl, rfl, rfl, rfl, rfl, rfl, trivial⟩, M.e_inl hM bH, H⟩
 replace hM := M.e_f hM aT
 simp only [qz1, qz2, qz3, qz4, qz5, qz6, ne_eq, qz7] at aT
 refine W.exit ?_
 have cy := M.e_inr hM bH
 subst cy
 replace hM := cu
 try dsimp only at hM
 refine sQ rfl <| sA (.slice none 0 0) rfl <| s_nil <| W.seq <| sQ rfl <| sM ah rfl ?_
 have dW := (aw).len_le
 refine s_val (x_lenS T34.und rfl aw) <| sM (I 0) rfl <| s_nil <| W.block ?_
 obtain ⟨aH, H⟩ := H.emptyE
 replace H : St w cv [cOwn (α := Raw 0) 34 (.slice none 0 0) ([]), cRo aH, cOwn (α := Int) 3 ac l, cBlk ai [.func (.func 128) #[] #[Pz aa]] 183, cBlk aa [Pz ab] 174, cBlk ab [Pz ap, ah, I aj, .map (some ae), .map (some ag)] 180, cRo aq, cMap encG I ae ak, cMap I B ag al] R := H.nilOwn (α := Raw 0) 34
 have cz : RepR (α := List Int) (n := 0) aH.cells [] [] := .nil
 obtain ⟨cA, bh, cB⟩ := M.e_bind hM
 obtain ⟨aL, bh⟩ := M.e_iter bh
 refine W.loop (fun m σ W => ∃ (s2 : Nat) (az : List (List Int)) (av : Value) (aA : List (Raw 0)) (B_l12 : Base) (ρ : Env), σ = upds ρ [(2, I work), (8, Pz aa), (10, Pz ai), (11, ac), (13, av), (44, ah), (45, I (revised.length : Int)), (46, I (s2 : Int))] /\ M.iterN (zax w_ revised work aj ak al l) m (s2, az) = some cA /\ St w W [cOwn (α := Raw 0) 34 av aA, cRo B_l12, cOwn (α := Int) 3 ac l, cBlk ai [.func (.func 128) #[] #[Pz aa]] 183, cBlk aa [Pz ab] 174, cBlk ab [Pz ap, ah, I aj, .map (some ae), .map (some ag)] 180, cRo aq, cMap encG I ae ak, cMap I B ag al] R /\ RepR (α := List Int) B_l12.cells aA az) ?_ ?_
 ·exact ⟨_, 0, [], (.slice none 0 0), [], aH, _, upds_of _ _ ⟨rfl, rfl, rfl, rfl, rfl, rfl, rfl, rfl, trivial⟩, bh, H, cz⟩
 rintro dX σ dY ⟨s2, az, av, aA, B_l12, ρ, rfl, bI, H, aP⟩
 obtain ⟨cC, cD, dZ, hM, bJ⟩ := M.e_iterN bI
 simp only [zax] at hM
 clear bI
 refine sQ rfl <| sC (s2 : Int) (revised.length : Int) (decide ((s2 : Int) < (revised.length : Int))) rfl rfl rfl <| s_nil <| W.seq ?_
 refine W.cond (decide ((s2 : Int) < (revised.length : Int))) rfl (fun aU => ?_) (fun aU => ?_)
 ·replace hM := M.e_t hM aU
  simp only [qz1, qz2, qz3, qz4, qz5, qz6, ne_eq, qz7] at aU
  refine W.skip <| W.seq <| W.block <| sQ rfl ?_
  obtain ⟨d3, hM⟩ := M.e_gd hM
  refine s_val (x_ix (a := ah) (b := I (s2 : Int)) (v := vat ah 1 (Int.toNat (s2 : Int))) rfl rfl (Sl.ix (α := Int) T34.und T34.size aw (by omega) (by omega))) <| s_val (x_ld (p := vat ah 1 (Int.toNat (s2 : Int))) (v := I (revised.getD s2 0)) rfl (ld_sc Sc3 (At.mono (Int_at aw (i := (s2 : Int)) (by omega) (by omega)) (aK.at H)))) <| sA (I (revised.getD s2 0)) rfl <| s_nil <| sQ rfl <| sM ac rfl ?_
  have d4 := ((ownSl (H.get (k := 2) rfl))).len_le
  refine s_val (x_lenS T34.und rfl (ownSl (H.get (k := 2) rfl))) <| sM (I 0) rfl <| s_nil <| W.block ?_
  obtain ⟨cE, bi, cF⟩ := M.e_bind hM
  obtain ⟨aL, bi⟩ := M.e_iter bi
  refine W.loop (fun m σ W => ∃ (s4 : Nat) (aB : List (List Int)) (ao : Value) (am : List (Raw 0)) (B_l10 : Base) (ρ : Env), σ = upds ρ [(2, I work), (8, Pz aa), (10, Pz ai), (11, ac), (13, ao), (15, I (revised.getD s2 0)), (44, ah), (45, I (revised.length : Int)), (46, I (s2 : Int)), (50, ac), (51, I (l.length : Int)), (52, I (s4 : Int))] /\ M.iterN (zaY w_ revised work aj ak al l s2) m (s4, aB) = some cE /\ St w W [cOwn (α := Raw 0) 34 ao am, cRo B_l10, cOwn (α := Int) 3 ac l, cBlk ai [.func (.func 128) #[] #[Pz aa]] 183, cBlk aa [Pz ab] 174, cBlk ab [Pz ap, ah, I aj, .map (some ae), .map (some ag)] 180, cRo aq, cMap encG I ae ak, cMap I B ag al] R /\ RepR (α := List Int) B_l10.cells am aB) ?_ ?_
  ·exact ⟨_, 0, az, av, aA, B_l12, _, upds_of _ _ ⟨rfl, rfl, rfl, rfl, rfl, rfl, rfl, rfl, rfl, rfl, rfl, rfl, trivial⟩, bi, H, aP⟩
  rintro d5 σ d6 ⟨s4, aB, ao, am, B_l10, ρ, rfl, bK, H, aF⟩
  obtain ⟨bL, bM, d7, hM, bj⟩ := M.e_iterN bK
  simp only [zaY] at hM
  clear bK
  refine sQ rfl <| sC (s4 : Int) (l.length : Int) (decide ((s4 : Int) < (l.length : Int))) rfl rfl rfl <| s_nil <| W.seq ?_
  refine W.cond (decide ((s4 : Int) < (l.length : Int))) rfl (fun aV => ?_) (fun aV => ?_)
  ·replace hM := M.e_t hM aV
   simp only [qz1, qz2, qz3, qz4, qz5, qz6, ne_eq, qz7] at aV
   refine W.skip <| W.seq <| W.block <| sQ rfl ?_
   obtain ⟨d8, hM⟩ := M.e_gd hM
   refine s_val (x_ix (a := ac) (b := I (s4 : Int)) (v := vat ac 1 (Int.toNat (s4 : Int))) rfl rfl (Sl.ix (α := Int) T34.und T34.size (ownSl (H.get (k := 2) rfl)) (by omega) (by omega))) <| s_val (x_ld (p := vat ac 1 (Int.toNat (s4 : Int))) (v := I (l.getD s4 0)) rfl (ld_sc Sc3 (At.mono (Int_at (ownSl (H.get (k := 2) rfl)) (i := (s4 : Int)) (by omega) (by omega)) (ownLe _ (H.get (k := 2) rfl))))) <| sA (I (l.getD s4 0)) rfl <| s_nil <| W.seq <| sQ rfl <| s_val (x_ld (p := Pz aa) (v := Pz ab) rfl (ldb_sc Sc174 (H.blk (k := 4) rfl) rfl)) <| sM (I (l.getD s4 0)) rfl ?_
   obtain ⟨d9, cG, hM⟩ := M.e_bind hM
   refine s_call cf127 [Pz ab, I (l.getD s4 0)] rfl (zaX w_ revised aj ak al (l.getD s4 0) (a5.app _) aE (Has.ro (k := 6) rfl ba) (aK.app _) aw (Has.here (k := 7) rfl) (Has.here (k := 8) rfl) (Has.here (k := 5) rfl) cG _ (St.give (T := [cOwn (α := Raw 0) 34 ao am, cRo B_l10, cOwn (α := Int) 3 ac l, cBlk ai [.func (.func 128) #[] #[Pz aa]] 183, cBlk aa [Pz ab] 174, cBlk ab [Pz ap, ah, I aj, .map (some ae), .map (some ag)] 180, cRo aq, cMap encG I ae ak, cMap I B ag al]) H rfl)) ?_
   rintro vq cH ⟨r2, cI, hvq, ay⟩
   subst cI
   subst vq
   try dsimp only at hM
   replace H : St w cH [cOwn (α := Raw 0) 34 ao am, cRo B_l10, cOwn (α := Int) 3 ac l, cBlk ai [.func (.func 128) #[] #[Pz aa]] 183, cBlk aa [Pz ab] 174, cBlk ab [Pz ap, ah, I aj, .map (some ae), .map (some ag)] 180, cRo aq, cMap encG I ae ak, cMap I B ag al] R := H.back ay rfl
   clear ay
   refine s_val (x_not (b := r2) rfl) <| sM (B (!r2)) rfl <| g_val (!(!r2)) (gy_f rfl) (fun hg => x_ld (p := Pz ai) (v := .func (.func 128) #[] #[Pz aa]) rfl (ldb_sc Sc183 (H.blk (k := 3) rfl) rfl)) <| g_val (!(!r2)) (gy_f rfl) (fun hg => x_mv (v := I (revised.getD s2 0)) rfl) <| g_val (!(!r2)) (gy_f rfl) (fun hg => x_mv (v := I (l.getD s4 0)) rfl) ?_
   obtain ⟨r3, cJ, hM⟩ := M.e_bind hM
   refine t_gcallv (cap := [Pz aa]) (!(!r2)) (gy_f rfl) cf128 (fun hg => (gd_of (c := !(!r2)) hg (.func (.func 128) #[] #[Pz aa]))) (B r3) (fun _ => [I (revised.getD s2 0), I (l.getD s4 0)]) (fun hg => lst2 (gd_of (c := !(!r2)) hg (I (revised.getD s2 0))) (gd_of (c := !(!r2)) hg (I (l.getD s4 0)))) H (fun hg => (zbS (revised.getD s2 0) (l.getD s4 0) w_ revised aj ak al (a5.app _) aE (Has.ro (k := 6) rfl ba) (aK.app _) aw (Has.here (k := 7) rfl) (Has.here (k := 8) rfl) (Has.here (k := 5) rfl) (Has.here (k := 4) rfl) (M.e_opt cJ hg) _ (H.give (A := []) rfl)).mono fun v_ w_ ⟨y_, aD, cK, H_⟩ => by subst aD; exact ⟨cK, H.via H_⟩) ?_
   intro ec H
   refine g_val (!(!r2)) (gy_f rfl) (fun hg => x_not (b := r3) (gd_of (c := !(!r2)) hg (B r3))) <| s_val (x_por (b := !r2) (r := !r3) rfl rfl (fun hb => gd_of (c := !(!r2)) (by first | exact hb | (rw [hb]; rfl) | simp_all) (B (!r3)))) <| s_nil ?_
   refine W.cond ((!r2) || (!r3)) rfl (fun bk => ?_) (fun bk => ?_)
   ·replace hM := M.e_t hM bk
    refine W.exit ?_
    refine W.region rfl <| sR (s4 : Int) 1 ((s4 : Int) + 1) rfl rfl rfl (by omega) <| sM (I ((s4 : Int) + 1)) rfl <| s_nil ?_
    exact ⟨bL, bM, s4 + 1, aB, ao, am, B_l10, _, upds_of _ _ ⟨rfl, rfl, rfl, rfl, rfl, rfl, rfl, rfl, rfl, rfl, rfl, rfl, trivial⟩, M.e_inl hM bj, H, aF⟩
   replace hM := M.e_f hM bk
   refine W.skip <| sQ rfl <| sM (I (revised.getD s2 0)) rfl ?_
   refine t_bs (α := Int) T34 [I (revised.getD s2 0)] [(revised.getD s2 0 : Int)] H rfl (.cons rfl (Flat.rep_enc _ (revised.getD s2 0 : Int)) <| .nil) rfl rfl rfl ?_
   intro bl ed H
   refine sA bl rfl <| s_nil <| W.seq <| sQ rfl <| sM (I (l.getD s4 0)) rfl ?_
   refine t_alloc (cs := [I 0]) H Al3 rfl ?_
   intro bm ee H
   refine t_st (k := 0) (b := bm) (off := 0) (cs := [I 0]) (vs := [I (l.getD s4 0)]) (cs' := [I (l.getD s4 0)]) (v := I (l.getD s4 0)) (L' := [cBlk bm [I (l.getD s4 0)] 3, cOwn (α := Int) 3 bl ([(revised.getD s2 0 : Int)]), cOwn (α := Raw 0) 34 ao am, cRo B_l10, cOwn (α := Int) 3 ac l, cBlk ai [.func (.func 128) #[] #[Pz aa]] 183, cBlk aa [Pz ab] 174, cBlk ab [Pz ap, ah, I aj, .map (some ae), .map (some ag)] 180, cRo aq, cMap encG I ae ak, cMap I B ag al]) H rfl rfl rfl Sz3 rfl rfl rfl rfl rfl rfl ?_
   intro ef H
   refine s_nil <| W.block ?_
   obtain ⟨cL, bn, cM⟩ := M.e_bind hM
   obtain ⟨aL, bn⟩ := M.e_iter bn
   refine W.loop (fun m σ W => ∃ (au : Nat) (l4 : List Int) (s3 : Int) (aW : Value) (ρ : Env), σ = upds ρ [(2, I work), (8, Pz aa), (10, Pz ai), (11, ac), (13, ao), (15, I (revised.getD s2 0)), (18, aW), (19, Pz au), (44, ah), (45, I (revised.length : Int)), (46, I (s2 : Int)), (50, ac), (51, I (l.length : Int)), (52, I (s4 : Int)), (61, gd (!(!r2)) (.func (.func 128) #[] #[Pz aa])), (62, gd (!(!r2)) (I (revised.getD s2 0))), (63, gd (!(!r2)) (I (l.getD s4 0))), (64, gd (!(!r2)) (B r3)), (65, gd (!(!r2)) (B (!r3)))] /\ M.iterN (zaS w_ revised work aj ak al l) m (l4, s3) = some cL /\ St w W [cBlk au [I s3] 3, cOwn (α := Int) 3 aW l4, cOwn (α := Raw 0) 34 ao am, cRo B_l10, cOwn (α := Int) 3 ac l, cBlk ai [.func (.func 128) #[] #[Pz aa]] 183, cBlk aa [Pz ab] 174, cBlk ab [Pz ap, ah, I aj, .map (some ae), .map (some ag)] 180, cRo aq, cMap encG I ae ak, cMap I B ag al] R) ?_ ?_
   ·exact ⟨_, bm, [(revised.getD s2 0 : Int)], l.getD s4 0, bl, _, upds_of _ _ ⟨rfl, rfl, rfl, rfl, rfl, rfl, rfl, rfl, rfl, rfl, rfl, rfl, rfl, rfl, rfl, rfl, rfl, rfl, rfl, trivial⟩, bn, H⟩
   rintro eg σ eh ⟨au, l4, s3, aW, ρ, rfl, bN, H⟩
   obtain ⟨cN, cO, ei, hM, bO⟩ := M.e_iterN bN
   simp only [zaS] at hM
   clear bN
   refine W.seq <| sQ rfl <| s_val (x_ld (p := Pz au) (v := I s3) rfl (ldb_sc Sc3 (H.blk (k := 0) rfl) rfl)) <| sM (I work) rfl <| sC s3 work (s3 != work) rfl rfl rfl <| s_nil ?_
   refine W.cond (s3 != work) rfl (fun aX => ?_) (fun aX => ?_)
   ·replace hM := M.e_t hM aX
    simp only [qz1, qz2, qz3, qz4, qz5, qz6, ne_eq, qz7] at aX
    refine W.skip <| W.seq <| W.block <| sQ rfl <| sM aW rfl <| s_val (x_ld (p := Pz au) (v := I s3) rfl (ldb_sc Sc3 (H.blk (k := 0) rfl) rfl)) ?_
    refine t_bs (α := Int) T34 [I s3] [(s3 : Int)] H rfl (.cons rfl (Flat.rep_enc _ (s3 : Int)) <| .nil) rfl rfl rfl ?_
    intro aM ej H
    obtain ⟨ek, hM⟩ := M.e_gd hM
    refine t_app (α := Int) (k := 2) (l := l4) (l2 := [(s3 : Int)]) (l' := l4 ++ ([(s3 : Int)])) (vy := aM) T34 rfl H rfl rfl rfl (ownSl (H.get (k := 0) rfl)) (ownLe _ (H.get (k := 0) rfl)) (rfl) (by first | omega | (simp only [List.length_nil] at *; omega)) ?_
    intro aI cP H
    replace H : St w cP [cOwn (α := Int) 3 aM ([(s3 : Int)]), cBlk au [I s3] 3, cOwn (α := Int) 3 aI (l4 ++ ([(s3 : Int)])), cOwn (α := Raw 0) 34 ao am, cRo B_l10, cOwn (α := Int) 3 ac l, cBlk ai [.func (.func 128) #[] #[Pz aa]] 183, cBlk aa [Pz ab] 174, cBlk ab [Pz ap, ah, I aj, .map (some ae), .map (some ag)] 180, cRo aq, cMap encG I ae ak, cMap I B ag al] R := H
    refine sA aI rfl <| s_nil <| W.region rfl <| sM ac rfl <| s_val (x_mf (fs := []) (cs := [Pz ai, Pz au]) rfl rfl) ?_
    obtain ⟨el, cQ, hM⟩ := M.e_bind hM
    refine s_call cf102 [ac, .func (.func 129) #[] #[Pz ai, Pz au]] rfl (zbY l (fun bo => za8 bo w_ revised aj ak al s3) (Reads.of (k := 5) rfl ownLe) (ownSl (H.get (k := 5) rfl)) ⟨129, [Pz ai, Pz au], rfl, cf129, fun bP em en cR bo eo cS ep cT cU => by obtain rfl := Arg.int cT; exact (zb9 bo w_ revised aj ak al s3 (Reads.app (a5.app _) _) aE (Has.app (Has.ro (k := 9) rfl ba) _) (Reads.app (aK.app _) _) aw (Has.app (Has.here (k := 10) rfl) _) (Has.app (Has.here (k := 11) rfl) _) (Has.app (Has.here (k := 8) rfl) _) (Has.app (Has.here (k := 7) rfl) _) (Has.app (Has.here (k := 6) rfl) _) (Has.app (Has.here (k := 1) rfl) _) cU bP (St.refl cS)).mono fun cR bP ⟨eq, cV, cW, cX⟩ => by subst cV; exact ⟨cW, cX⟩⟩ cQ _ (St.give (T := [cOwn (α := Int) 3 aM ([(s3 : Int)]), cBlk au [I s3] 3, cOwn (α := Int) 3 aI (l4 ++ ([(s3 : Int)])), cOwn (α := Raw 0) 34 ao am, cRo B_l10, cOwn (α := Int) 3 ac l, cBlk ai [.func (.func 128) #[] #[Pz aa]] 183, cBlk aa [Pz ab] 174, cBlk ab [Pz ap, ah, I aj, .map (some ae), .map (some ag)] 180, cRo aq, cMap encG I ae ak, cMap I B ag al]) H rfl)) ?_
    rintro vq cY ⟨r4, cZ, hvq, ay⟩
    subst cZ
    subst vq
    try dsimp only at hM
    replace H : St w cY [cOwn (α := Int) 3 aM ([(s3 : Int)]), cBlk au [I s3] 3, cOwn (α := Int) 3 aI (l4 ++ ([(s3 : Int)])), cOwn (α := Raw 0) 34 ao am, cRo B_l10, cOwn (α := Int) 3 ac l, cBlk ai [.func (.func 128) #[] #[Pz aa]] 183, cBlk aa [Pz ab] 174, cBlk ab [Pz ap, ah, I aj, .map (some ae), .map (some ag)] 180, cRo aq, cMap encG I ae ak, cMap I B ag al] R := H.back ay rfl
    clear ay
    refine t_st (k := 1) (b := au) (off := 0) (cs := [I s3]) (vs := [I r4]) (cs' := [I r4]) (v := I r4) (L' := [cOwn (α := Int) 3 aM ([(s3 : Int)]), cBlk au [I r4] 3, cOwn (α := Int) 3 aI (l4 ++ ([(s3 : Int)])), cOwn (α := Raw 0) 34 ao am, cRo B_l10, cOwn (α := Int) 3 ac l, cBlk ai [.func (.func 128) #[] #[Pz aa]] 183, cBlk aa [Pz ab] 174, cBlk ab [Pz ap, ah, I aj, .map (some ae), .map (some ag)] 180, cRo aq, cMap encG I ae ak, cMap I B ag al]) H rfl rfl rfl Sz3 rfl rfl rfl rfl rfl rfl ?_
    intro er H
    refine s_nil <| sQ rfl <| s_val (x_ld (p := Pz au) (v := I r4) rfl (ldb_sc Sc3 (H.blk (k := 1) rfl) rfl)) <| s_nil <| W.region rfl ?_
    refine t_alloc (cs := [I 0]) H Al3 rfl ?_
    intro bp eu H
    refine t_st (k := 0) (b := bp) (off := 0) (cs := [I 0]) (vs := [I r4]) (cs' := [I r4]) (v := I r4) (L' := [cBlk bp [I r4] 3, cOwn (α := Int) 3 aM ([(s3 : Int)]), cBlk au [I r4] 3, cOwn (α := Int) 3 aI (l4 ++ ([(s3 : Int)])), cOwn (α := Raw 0) 34 ao am, cRo B_l10, cOwn (α := Int) 3 ac l, cBlk ai [.func (.func 128) #[] #[Pz aa]] 183, cBlk aa [Pz ab] 174, cBlk ab [Pz ap, ah, I aj, .map (some ae), .map (some ag)] 180, cRo aq, cMap encG I ae ak, cMap I B ag al]) H rfl rfl rfl Sz3 rfl rfl rfl rfl rfl rfl ?_
    intro ew H
    refine s_nil ?_
    exact ⟨cN, cO, bp, l4 ++ ([(s3 : Int)]), r4, aI, _, upds_of _ _ ⟨rfl, rfl, rfl, rfl, rfl, rfl, rfl, rfl, rfl, rfl, rfl, rfl, rfl, rfl, rfl, rfl, rfl, rfl, rfl, trivial⟩, M.e_inl hM bO, (H.pick [0, 3, 4, 5, 6, 7, 8, 9, 10, 11, 12] (by decide) rfl)⟩
   replace hM := M.e_f hM aX
   simp only [qz1, qz2, qz3, qz4, qz5, qz6, ne_eq, qz7] at aX
   refine W.exit ?_
   have da := M.e_inr hM bO
   subst da
   replace hM := cM
   try dsimp only at hM
   refine W.region rfl <| sM ao rfl <| sM aW rfl <| sM (I work) rfl ?_
   refine t_bs (α := Int) T34 [I work] [(work : Int)] H rfl (.cons rfl (Flat.rep_enc _ (work : Int)) <| .nil) rfl rfl rfl ?_
   intro aY ey H
   obtain ⟨ez, hM⟩ := M.e_gd hM
   refine t_app (α := Int) (k := 2) (l := l4) (l2 := [(work : Int)]) (l' := l4 ++ ([(work : Int)])) (vy := aY) T34 rfl H rfl rfl rfl (ownSl (H.get (k := 0) rfl)) (ownLe _ (H.get (k := 0) rfl)) (rfl) (by first | omega | (simp only [List.length_nil] at *; omega)) ?_
   intro a8 bQ H
   replace H : St w bQ [cOwn (α := Int) 3 aY ([(work : Int)]), cBlk au [I s3] 3, cOwn (α := Int) 3 a8 (l4 ++ ([(work : Int)])), cOwn (α := Raw 0) 34 ao am, cRo B_l10, cOwn (α := Int) 3 ac l, cBlk ai [.func (.func 128) #[] #[Pz aa]] 183, cBlk aa [Pz ab] 174, cBlk ab [Pz ap, ah, I aj, .map (some ae), .map (some ag)] 180, cRo aq, cMap encG I ae ak, cMap I B ag al] R := H
   obtain ⟨bq, H⟩ := H.emptyE
   obtain ⟨br, H, db⟩ := H.freezeE (k := 3) rfl
   replace H : St w bQ [cRo bq, cOwn (α := Int) 3 aY ([(work : Int)]), cBlk au [I s3] 3, cRo br, cOwn (α := Raw 0) 34 ao am, cRo B_l10, cOwn (α := Int) 3 ac l, cBlk ai [.func (.func 128) #[] #[Pz aa]] 183, cBlk aa [Pz ab] 174, cBlk ab [Pz ap, ah, I aj, .map (some ae), .map (some ag)] 180, cRo aq, cMap encG I ae ak, cMap I B ag al] R := H
   have aZ := db
   obtain ⟨bt, H, eA, dc⟩ := H.joinE (i := 0) (j := 3) rfl rfl
   replace aZ := aZ.mono dc
   obtain ⟨aC, bR⟩ : ∃ r : Raw 0, r.cs = [a8] := ⟨Raw.of [a8] rfl (by simp only [List.all_cons, List.all_nil, Bool.true_and, Bool.and_true, Sl.oc aZ]; try rfl), rfl⟩
   have dd : RepR (α := List Int) bt.cells [aC] [l4 ++ ([(work : Int)])] := .cons (by rw [bR]; exact ⟨_, rfl, aZ⟩) <| .nil
   refine t_bs (α := Raw 0) T73 [a8] [aC] H rfl (.cons (by rw [show (Flat.enc aC : List Value) = aC.cs from rfl, bR]; exact Sl.cells aZ) (Flat.rep_enc _ _) <| .nil) rfl rfl rfl ?_
   intro bu de H
   replace H : St w de [cOwn (α := Raw 0) 34 bu ([aC]), cRo bt, cRo bq, cOwn (α := Int) 3 aY ([(work : Int)]), cBlk au [I s3] 3, cRo br, cOwn (α := Raw 0) 34 ao am, cRo B_l10, cOwn (α := Int) 3 ac l, cBlk ai [.func (.func 128) #[] #[Pz aa]] 183, cBlk aa [Pz ab] 174, cBlk ab [Pz ap, ah, I aj, .map (some ae), .map (some ag)] 180, cRo aq, cMap encG I ae ak, cMap I B ag al] R := H
   obtain ⟨eB, hM⟩ := M.e_gd hM
   have a9 := dd
   obtain ⟨bS, H, dg, dh⟩ := H.joinE (i := 7) (j := 1) rfl rfl
   replace aF := aF.mono dg
   replace a9 := a9.mono dh
   have di := aF.app a9
   refine t_app (α := Raw 0) (k := 7) (l := am) (l2 := [aC]) (l' := am ++ ([aC])) (vy := bu) T73 rfl H rfl rfl rfl (ownSl (H.get (k := 1) rfl)) (ownLe _ (H.get (k := 1) rfl)) (rfl) (by have a_ := aF.len; have b_ := a9.len; simp only [List.length_nil] at *; first | omega | (rw [a_, b_]; omega)) ?_
   intro bv dj H
   replace H : St w dj [cRo bS, cOwn (α := Raw 0) 34 bu ([aC]), cRo bt, cRo bq, cOwn (α := Int) 3 aY ([(work : Int)]), cBlk au [I s3] 3, cRo br, cOwn (α := Raw 0) 34 bv (am ++ ([aC])), cRo B_l10, cOwn (α := Int) 3 ac l, cBlk ai [.func (.func 128) #[] #[Pz aa]] 183, cBlk aa [Pz ab] 174, cBlk ab [Pz ap, ah, I aj, .map (some ae), .map (some ag)] 180, cRo aq, cMap encG I ae ak, cMap I B ag al] R := H
   refine sA bv rfl <| s_nil <| W.region rfl <| sR (s4 : Int) 1 ((s4 : Int) + 1) rfl rfl rfl (by omega) <| sM (I ((s4 : Int) + 1)) rfl <| s_nil ?_
   exact ⟨bL, bM, s4 + 1, aB ++ ([l4 ++ ([(work : Int)])]), bv, am ++ ([aC]), bS, _, upds_of _ _ ⟨rfl, rfl, rfl, rfl, rfl, rfl, rfl, rfl, rfl, rfl, rfl, rfl, trivial⟩, M.e_inl hM bj, (H.pick [7, 0, 9, 10, 11, 12, 13, 14, 15] (by decide) rfl), di⟩
  replace hM := M.e_f hM aV
  simp only [qz1, qz2, qz3, qz4, qz5, qz6, ne_eq, qz7] at aV
  refine W.exit ?_
  have dk := M.e_inr hM bj
  subst dk
  replace hM := cF
  try dsimp only at hM
  refine W.region rfl <| sR (s2 : Int) 1 ((s2 : Int) + 1) rfl rfl rfl (by omega) <| sM (I ((s2 : Int) + 1)) rfl <| s_nil ?_
  exact ⟨cC, cD, s2 + 1, aB, ao, am, B_l10, _, upds_of _ _ ⟨rfl, rfl, rfl, rfl, rfl, rfl, rfl, rfl, trivial⟩, M.e_inl hM bJ, H, aF⟩
 replace hM := M.e_f hM aU
 simp only [qz1, qz2, qz3, qz4, qz5, qz6, ne_eq, qz7] at aU
 refine W.exit ?_
 have dl := M.e_inr hM bJ
 subst dl
 replace hM := cB
 try dsimp only at hM
 refine sQ rfl <| sM av rfl <| sA av rfl <| sA (I 0) rfl <| s_nil ?_
 refine W.ret ?_
 have aD := M.e_pure hM
 exact ⟨_, resE_tmp2 rfl, ⟨az, 0, av, aA, B_l12, aD, rfl, (H.pick [0, 1] (by decide) rfl), aP⟩⟩

end Go.Proofs.Ytndobgodeicloaa
end
