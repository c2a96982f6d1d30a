/- Part 3 of the texts on which the proof rests. Conditions: none. -/
import Derived.Test.YtndobgodeicloaaZD2
set_option linter.unusedVariables false
set_option linter.unusedSimpArgs false
set_option linter.unusedSectionVars false
section
set_option maxRecDepth 100000
set_option maxHeartbeats 16000000
namespace Go.Proofs.Ytndobgodeicloaa
open Go Go.Nm
def zab : M (List Work) :=
  M.pure ([(⟨([]), (1 : Int), (5 : Int)⟩ : Work), (⟨([]), (1 : Int), (6 : Int)⟩ : Work), (⟨([(0 : Int), (1 : Int)]), (1 : Int), (10 : Int)⟩ : Work), (⟨([(1 : Int)]), (1 : Int), (30 : Int)⟩ : Work), (⟨([(2 : Int), (3 : Int)]), (1 : Int), (20 : Int)⟩ : Work), (⟨([(4 : Int)]), (1 : Int), (1 : Int)⟩ : Work)])
theorem zad {R : List Chunk}    {r : (List Work)} (hM : (zab).Ends r) (w : World) (H : St w w [] R) : Ret Try.prog 79 #[] w fun v w' => ∃ (y0 : List Work) (u0 : Value) (rr1 : List (Raw 2)) (aF : Base), y0 = r /\ v = u0 /\ St w w' [cOwn (α := Raw 2) 60 u0 rr1, cRo aF] R /\ RepR (α := Work) aF.cells rr1 y0 := by
 refine ret_of_W Try.func79 rfl rfl rfl ?_
 refine sQ rfl <| sA (.slice none 0 0) rfl <| s_nil <| sQ rfl <| s_val (x_bld (ps := [(1, I 1), (2, I 5)]) (zs := [.slice none 0 0, I 0, I 0]) (L' := [.slice none 0 0, I 1, I 5]) rfl Try.underlying60 Al60 rfl (Bd60 Try.underlying60) (.cons (cs := [I 1]) rfl rfl rfl rfl rfl <| .cons (cs := [I 5]) rfl rfl rfl rfl rfl <| .nil)) <| s_val (x_bld (ps := [(1, I 1), (2, I 6)]) (zs := [.slice none 0 0, I 0, I 0]) (L' := [.slice none 0 0, I 1, I 6]) rfl Try.underlying60 Al60 rfl (Bd60 Try.underlying60) (.cons (cs := [I 1]) rfl rfl rfl rfl rfl <| .cons (cs := [I 6]) rfl rfl rfl rfl rfl <| .nil)) ?_
 refine t_bs (α := Int) T34 [I 0, I 1] [(0 : Int), (1 : Int)] H rfl (.cons rfl (Flat.rep_enc _ (0 : Int)) <| .cons rfl (Flat.rep_enc _ (1 : Int)) <| .nil) rfl rfl rfl ?_
 intro ai a6 H
 refine s_val (x_bld (ps := [(0, ai), (1, I 1), (2, I 10)]) (zs := [.slice none 0 0, I 0, I 0]) (L' := [ai, I 1, I 10]) rfl Try.underlying60 Al60 rfl (Bd60 Try.underlying60) (.cons (cs := [ai]) (Sl.cells (ownSl (H.get (k := 0) rfl))) rfl rfl rfl rfl <| .cons (cs := [I 1]) rfl rfl rfl rfl rfl <| .cons (cs := [I 10]) rfl rfl rfl rfl rfl <| .nil)) ?_
 refine t_bs (α := Int) T34 [I 1] [(1 : Int)] H rfl (.cons rfl (Flat.rep_enc _ (1 : Int)) <| .nil) rfl rfl rfl ?_
 intro ah a7 H
 refine s_val (x_bld (ps := [(0, ah), (1, I 1), (2, I 30)]) (zs := [.slice none 0 0, I 0, I 0]) (L' := [ah, I 1, I 30]) rfl Try.underlying60 Al60 rfl (Bd60 Try.underlying60) (.cons (cs := [ah]) (Sl.cells (ownSl (H.get (k := 0) rfl))) rfl rfl rfl rfl <| .cons (cs := [I 1]) rfl rfl rfl rfl rfl <| .cons (cs := [I 30]) rfl rfl rfl rfl rfl <| .nil)) ?_
 refine t_bs (α := Int) T34 [I 2, I 3] [(2 : Int), (3 : Int)] H rfl (.cons rfl (Flat.rep_enc _ (2 : Int)) <| .cons rfl (Flat.rep_enc _ (3 : Int)) <| .nil) rfl rfl rfl ?_
 intro ae a8 H
 refine s_val (x_bld (ps := [(0, ae), (1, I 1), (2, I 20)]) (zs := [.slice none 0 0, I 0, I 0]) (L' := [ae, I 1, I 20]) rfl Try.underlying60 Al60 rfl (Bd60 Try.underlying60) (.cons (cs := [ae]) (Sl.cells (ownSl (H.get (k := 0) rfl))) rfl rfl rfl rfl <| .cons (cs := [I 1]) rfl rfl rfl rfl rfl <| .cons (cs := [I 20]) rfl rfl rfl rfl rfl <| .nil)) ?_
 refine t_bs (α := Int) T34 [I 4] [(4 : Int)] H rfl (.cons rfl (Flat.rep_enc _ (4 : Int)) <| .nil) rfl rfl rfl ?_
 intro ac aw H
 refine s_val (x_bld (ps := [(0, ac), (1, I 1), (2, I 1)]) (zs := [.slice none 0 0, I 0, I 0]) (L' := [ac, I 1, I 1]) rfl Try.underlying60 Al60 rfl (Bd60 Try.underlying60) (.cons (cs := [ac]) (Sl.cells (ownSl (H.get (k := 0) rfl))) rfl rfl rfl rfl <| .cons (cs := [I 1]) rfl rfl rfl rfl rfl <| .cons (cs := [I 1]) rfl rfl rfl rfl rfl <| .nil)) ?_
 obtain ⟨au, H⟩ := H.emptyE
 obtain ⟨av, H, aP⟩ := H.freezeE (k := 4) rfl
 replace H : St w aw [cRo au, cOwn (α := Int) 3 ac ([(4 : Int)]), cOwn (α := Int) 3 ae ([(2 : Int), (3 : Int)]), cOwn (α := Int) 3 ah ([(1 : Int)]), cRo av] R := H
 have aa := aP
 obtain ⟨ax, H, a9, aQ⟩ := H.joinE (i := 0) (j := 4) rfl rfl
 replace aa := aa.mono aQ
 obtain ⟨ay, H, aR⟩ := H.freezeE (k := 4) rfl
 replace H : St w aw [cRo ax, cRo au, cOwn (α := Int) 3 ac ([(4 : Int)]), cOwn (α := Int) 3 ae ([(2 : Int), (3 : Int)]), cRo ay, cRo av] R := H
 have ag := aR
 obtain ⟨aA, H, aS, aT⟩ := H.joinE (i := 0) (j := 4) rfl rfl
 replace aa := aa.mono aS
 replace ag := ag.mono aT
 obtain ⟨aB, H, aU⟩ := H.freezeE (k := 4) rfl
 replace H : St w aw [cRo aA, cRo ax, cRo au, cOwn (α := Int) 3 ac ([(4 : Int)]), cRo aB, cRo ay, cRo av] R := H
 have aj := aU
 obtain ⟨aG, H, aH, aV⟩ := H.joinE (i := 0) (j := 4) rfl rfl
 replace aa := aa.mono aH
 replace ag := ag.mono aH
 replace aj := aj.mono aV
 obtain ⟨aI, H, aW⟩ := H.freezeE (k := 4) rfl
 replace H : St w aw [cRo aG, cRo aA, cRo ax, cRo au, cRo aI, cRo aB, cRo ay, cRo av] R := H
 have az := aW
 obtain ⟨aC, H, aD, aX⟩ := H.joinE (i := 0) (j := 4) rfl rfl
 replace aa := aa.mono aD
 replace ag := ag.mono aD
 replace aj := aj.mono aD
 replace az := az.mono aX
 obtain ⟨ak, aJ⟩ : ∃ r : Raw 2, r.cs = [.slice none 0 0, I 1, I 5] := ⟨Raw.of [.slice none 0 0, I 1, I 5] rfl rfl, rfl⟩
 obtain ⟨al, aK⟩ : ∃ r : Raw 2, r.cs = [.slice none 0 0, I 1, I 6] := ⟨Raw.of [.slice none 0 0, I 1, I 6] rfl rfl, rfl⟩
 obtain ⟨am, aL⟩ : ∃ r : Raw 2, r.cs = [ai, I 1, I 10] := ⟨Raw.of [ai, I 1, I 10] rfl (by simp only [List.all_cons, List.all_nil, Bool.true_and, Bool.and_true, Sl.oc aa]; try rfl), rfl⟩
 obtain ⟨ao, aM⟩ : ∃ r : Raw 2, r.cs = [ah, I 1, I 30] := ⟨Raw.of [ah, I 1, I 30] rfl (by simp only [List.all_cons, List.all_nil, Bool.true_and, Bool.and_true, Sl.oc ag]; try rfl), rfl⟩
 obtain ⟨ap, aN⟩ : ∃ r : Raw 2, r.cs = [ae, I 1, I 20] := ⟨Raw.of [ae, I 1, I 20] rfl (by simp only [List.all_cons, List.all_nil, Bool.true_and, Bool.and_true, Sl.oc aj]; try rfl), rfl⟩
 obtain ⟨aq, aO⟩ : ∃ r : Raw 2, r.cs = [ac, I 1, I 1] := ⟨Raw.of [ac, I 1, I 1] rfl (by simp only [List.all_cons, List.all_nil, Bool.true_and, Bool.and_true, Sl.oc az]; try rfl), rfl⟩
 have aY : RepR (α := Work) aC.cells [ak, al, am, ao, ap, aq] [(⟨([]), (1 : Int), (5 : Int)⟩ : Work), (⟨([]), (1 : Int), (6 : Int)⟩ : Work), (⟨([(0 : Int), (1 : Int)]), (1 : Int), (10 : Int)⟩ : Work), (⟨([(1 : Int)]), (1 : Int), (30 : Int)⟩ : Work), (⟨([(2 : Int), (3 : Int)]), (1 : Int), (20 : Int)⟩ : Work), (⟨([(4 : Int)]), (1 : Int), (1 : Int)⟩ : Work)] := .cons (by rw [aJ]; exact ⟨_, rfl, (Sl.nil _)⟩) <| .cons (by rw [aK]; exact ⟨_, rfl, (Sl.nil _)⟩) <| .cons (by rw [aL]; exact ⟨_, rfl, aa⟩) <| .cons (by rw [aM]; exact ⟨_, rfl, ag⟩) <| .cons (by rw [aN]; exact ⟨_, rfl, aj⟩) <| .cons (by rw [aO]; exact ⟨_, rfl, az⟩) <| .nil
 refine t_bs (α := Raw 2) T22 [.agg #[.slice none 0 0, I 1, I 5], .agg #[.slice none 0 0, I 1, I 6], .agg #[ai, I 1, I 10], .agg #[ah, I 1, I 30], .agg #[ae, I 1, I 20], .agg #[ac, I 1, I 1]] [ak, al, am, ao, ap, aq] H rfl (.cons (by rw [show (Flat.enc ak : List Value) = ak.cs from rfl, aJ]; rfl) (Flat.rep_enc _ _) <| .cons (by rw [show (Flat.enc al : List Value) = al.cs from rfl, aK]; rfl) (Flat.rep_enc _ _) <| .cons (by rw [show (Flat.enc am : List Value) = am.cs from rfl, aL]; rfl) (Flat.rep_enc _ _) <| .cons (by rw [show (Flat.enc ao : List Value) = ao.cs from rfl, aM]; rfl) (Flat.rep_enc _ _) <| .cons (by rw [show (Flat.enc ap : List Value) = ap.cs from rfl, aN]; rfl) (Flat.rep_enc _ _) <| .cons (by rw [show (Flat.enc aq : List Value) = aq.cs from rfl, aO]; rfl) (Flat.rep_enc _ _) <| .nil) rfl rfl rfl ?_
 intro aE aZ H
 replace H : St w aZ [cOwn (α := Raw 2) 60 aE ([ak, al, am, ao, ap, aq]), cRo aC, cRo aG, cRo aA, cRo ax, cRo au, cRo aI, cRo aB, cRo ay, cRo av] R := H
 refine sA aE rfl <| s_nil ?_
 refine W.ret ?_
 have a5 := M.e_pure hM
 exact ⟨_, resE_tmp rfl, ⟨([(⟨([]), (1 : Int), (5 : Int)⟩ : Work), (⟨([]), (1 : Int), (6 : Int)⟩ : Work), (⟨([(0 : Int), (1 : Int)]), (1 : Int), (10 : Int)⟩ : Work), (⟨([(1 : Int)]), (1 : Int), (30 : Int)⟩ : Work), (⟨([(2 : Int), (3 : Int)]), (1 : Int), (20 : Int)⟩ : Work), (⟨([(4 : Int)]), (1 : Int), (1 : Int)⟩ : Work)]), aE, [ak, al, am, ao, ap, aq], aC, a5, rfl, (H.pick [0, 1] (by decide) rfl), aY⟩⟩

def zcj (s : List Note) (f : Note -> M Bool) : Nat -> M (Nat ⊕ (Int ⊕ Unit)) := fun s2 =>
  bif decide ((s2 : Int) < (s.length : Int)) then (
  M.grd (decide ((s2 : Int) < (s.length : Int))) <|
  M.bind (f (s.getD s2 default)) fun r2 =>
  bif r2 then (
  M.pure (.inr (.inl (s2 : Int))))
  else (
  M.pure (.inl (s2 + 1))))
  else (
  M.pure (.inr (.inr ())))
def zcB (s : List Note) (f : Note -> M Bool) : M Int :=
  M.bind (M.iter (zcj s f) 0) fun x_ => match x_ with
  | (.inl s3) => (
  M.pure s3)
  | (.inr (_ : Unit)) => (
  M.pure (-1))
theorem zdB {R : List Chunk} {al : Cells} {aa : Value} {ae : Value} (s : List Note) (f : Note -> M Bool) (ap : Reads R al) (ag : Sl al aa s) (aq : FnM Try.prog R ae f) {r : Int} (hM : (zcB s f).Ends r) (w : World) (H : St w w [] R) : Ret Try.prog 179 #[aa, ae] w fun v w' => ∃ (y0 : Int), y0 = r /\ v = I y0 /\ St w w' [] R := by
 refine ret_of_W Try.func179 rfl rfl rfl ?_
 refine sQ rfl <| sA (I 0) rfl <| s_nil <| W.seq <| sQ rfl <| sM aa rfl ?_
 have aA := (ag).len_le
 refine s_val (x_lenS T23.und rfl ag) <| sM (I 0) rfl <| s_nil <| W.block ?_
 obtain ⟨au, ah, am⟩ := M.e_bind hM
 obtain ⟨aB, ah⟩ := M.e_iter ah
 refine W.loop (fun m σ W => ∃ (s2 : Nat) (ρ : Env), σ = upds ρ [(0, aa), (1, ae), (7, I (s.length : Int)), (8, I (s2 : Int))] /\ M.iterN (zcj s f) m s2 = some au /\ St w W [] R) ?_ ?_
 ·exact ⟨_, 0, _, upds_of _ _ ⟨rfl, rfl, rfl, rfl, trivial⟩, ah, H⟩
 rintro aC σ aD ⟨s2, ρ, rfl, ao, H⟩
 obtain ⟨av, aw, aE, hM, ai⟩ := M.e_iterN ao
 simp only [zcj] at hM
 clear ao
 refine sQ rfl <| sC _ _ (decide ((s2 : Int) < (s.length : Int))) rfl rfl rfl <| s_nil <| W.seq ?_
 refine W.cond (decide ((s2 : Int) < (s.length : Int))) rfl (fun ac => ?_) (fun ac => ?_)
 ·replace hM := M.e_t hM ac
  simp only [qz1, qz2, qz3, qz4, qz5, qz6, ne_eq, qz7] at ac
  refine W.skip <| W.seq <| W.block <| sQ rfl <| sM (I (s2 : Int)) rfl <| sA (I (s2 : Int)) rfl <| s_nil <| sQ rfl <| sM ae rfl <| sM aa rfl ?_
  refine sM (I (s2 : Int)) rfl ?_
  obtain ⟨aF, hM⟩ := M.e_gd hM
  refine s_val (x_ix (v := vat aa 3 (Int.toNat (s2 : Int))) rfl rfl (Sl.ix (α := Note) T23.und T23.size ag (by omega) (by omega))) <| s_val (x_ld (v := .agg #[I ((s.getD s2 default).work), I ((s.getD s2 default).version), I ((s.getD s2 default).value)]) rfl (ld_ag Ag30 Sz30 (At.mono (Note_atA ag (i := (s2 : Int)) (by omega) (by omega)) (ap.at H)))) ?_
  obtain ⟨r2, ax, hM⟩ := M.e_bind hM
  refine t_callM H aq rfl rfl (s.getD s2 default) Reads.none ⟨_, rfl, rfl⟩ ax ?_
  intro aG H
  refine s_nil ?_
  refine W.cond r2 rfl (fun aj => ?_) (fun aj => ?_)
  ·replace hM := M.e_t hM aj
   refine sQ rfl <| sM (I (s2 : Int)) rfl <| sA (I (s2 : Int)) rfl <| s_nil ?_
   refine W.ret ?_
   have ay := M.e_inr hM ai
   subst ay
   replace hM := am
   try dsimp only at hM
   have ak := M.e_pure hM
   exact ⟨_, resE_tmp rfl, ⟨(s2 : Int), ak, rfl, H⟩⟩
  replace hM := M.e_f hM aj
  refine W.skip <| W.region rfl <| sR _ _ ((s2 : Int) + 1) rfl rfl rfl (by omega) <| sM (I ((s2 : Int) + 1)) rfl <| s_nil ?_
  exact ⟨av, aw, s2 + 1, _, upds_of _ _ ⟨rfl, rfl, rfl, rfl, trivial⟩, M.e_inl hM ai, H⟩
 replace hM := M.e_f hM ac
 simp only [qz1, qz2, qz3, qz4, qz5, qz6, ne_eq, qz7] at ac
 refine W.exit ?_
 have az := M.e_inr hM ai
 subst az
 replace hM := am
 try dsimp only at hM
 refine sQ rfl <| sA (I (-1)) rfl <| s_nil ?_
 refine W.ret ?_
 have ak := M.e_pure hM
 exact ⟨_, resE_tmp rfl, ⟨(-1), ak, rfl, H⟩⟩

def zcU (s : List Note) (f : Note -> M Bool) : M Bool :=
  M.bind (zcB s f) fun r2 =>
  M.pure (decide (0 <= r2))
theorem zdn {R : List Chunk} {ae : Cells} {aa : Value} {ac : Value} (s : List Note) (f : Note -> M Bool) (ah : Reads R ae) (ai : Sl ae aa s) (aj : FnM Try.prog R ac f) {r : Bool} (hM : (zcU s f).Ends r) (w : World) (H : St w w [] R) : Ret Try.prog 140 #[aa, ac] w fun v w' => ∃ (y0 : Bool), y0 = r /\ v = B y0 /\ St w w' [] R := by
 refine ret_of_W Try.func140 rfl rfl rfl ?_
 refine sQ rfl <| sA (B false) rfl <| s_nil <| sQ rfl <| sM aa rfl <| sM ac rfl ?_
 obtain ⟨ap, ak, hM⟩ := M.e_bind hM
 refine s_call cf179 [aa, ac] rfl (zdB s f (ah.app _) ai (aj.app _) ak _ (St.give (T := []) H rfl)) ?_
 rintro vq al ⟨r2, am, hvq, ag⟩
 subst am
 subst vq
 try dsimp only at hM
 replace H : St w al [] R := H.back ag rfl
 clear ag
 refine sC _ _ (decide (0 <= r2)) rfl rfl rfl <| sA (B (decide (0 <= r2))) rfl <| s_nil ?_
 refine W.ret ?_
 have ao := M.e_pure hM
 exact ⟨_, resE_tmp rfl, ⟨(decide (0 <= r2)), ao, rfl, H⟩⟩

def zck (x : Note) (aa : Note -> M Bool) : M Bool :=
  M.bind (aa x) fun r2 =>
  M.pure (!r2)
theorem zdK {R : List Chunk} {ac : Nat} {aa : Value} (x : Note) (ae : Note -> M Bool) (ag : FnM Try.prog R aa ae) (ah : Has R (cBlk ac [aa] 132)) {r : Bool} (hM : (zck x ae).Ends r) (w : World) (H : St w w [] R) : Ret Try.prog 141 #[.agg #[I x.work, I x.version, I x.value], Pz ac] w fun v w' => ∃ (y0 : Bool), y0 = r /\ v = B y0 /\ St w w' [] R := by
 refine ret_of_W Try.func141 rfl rfl rfl ?_
 refine sQ rfl ?_
 refine t_box (v := .agg #[I x.work, I x.version, I x.value]) (cs := [I x.work, I x.version, I x.value]) H rfl rfl ?_
 intro ak al H
 refine sA (B false) rfl <| s_nil <| sQ rfl <| s_val (x_ld (v := aa) rfl (ldb_sc Sc132 (ah.blk H) rfl)) <| s_val (x_ld (v := .agg #[I x.work, I x.version, I x.value]) rfl (ldb_ag (ds := [I x.work, I x.version, I x.value]) Ag30 Sz30 (H.blk (k := 0) rfl) rfl rfl)) ?_
 obtain ⟨r2, ai, hM⟩ := M.e_bind hM
 refine t_callM H ag rfl rfl x Reads.none ⟨_, rfl, rfl⟩ ai ?_
 intro am H
 refine s_val (x_not (b := r2) rfl) <| sA (B (!r2)) rfl <| s_nil ?_
 refine W.ret ?_
 have aj := M.e_pure hM
 exact ⟨_, resE_tmp rfl, ⟨(!r2), aj, rfl, (H.pick [] (by decide) rfl)⟩⟩

def zbY (so : Note -> M Bool) (l : List Note) : M Bool :=
  M.bind (zcU l (fun aa => zck aa so)) fun r2 =>
  M.pure (!r2)
theorem zcD {R : List Chunk} {aa : Value} {ah : Cells} {ae : Value} (so : Note -> M Bool) (l : List Note) (ai : FnM Try.prog R aa so) (al : Reads R ah) (am : Sl ah ae l) {r : Bool} (hM : (zbY so l).Ends r) (w : World) (H : St w w [] R) : Ret Try.prog 82 #[aa, ae] w fun v w' => ∃ (y0 : Bool), y0 = r /\ v = B y0 /\ St w w' [] R := by
 refine ret_of_W Try.func82 rfl rfl rfl ?_
 refine sQ rfl ?_
 refine t_box (v := aa) (cs := [aa]) H rfl (FnM.cells ai) ?_
 intro ac aC H
 refine sA (B false) rfl <| s_nil <| sQ rfl <| sM ae rfl <| s_val (x_mf (fs := []) (cs := [Pz ac]) rfl rfl) ?_
 obtain ⟨aD, ao, hM⟩ := M.e_bind hM
 refine s_call cf140 [ae, .func (.func 141) #[] #[Pz ac]] rfl (zdn l (fun ag => zck ag so) (al.app _) am ⟨141, [Pz ac], rfl, cf141, fun aj aE aF ap ag aG aq aH au av => by obtain rfl := Note_arg au; exact (zdK ag so (FnM.app (ai.app _) _) (Has.app (Has.here (k := 0) rfl) _) av aj (St.refl aq)).mono fun ap aj ⟨aI, aw, ax, ay⟩ => by subst aw; exact ⟨ax, ay⟩⟩ ao _ (St.give (T := [cBlk ac [aa] 132]) H rfl)) ?_
 rintro vq az ⟨r2, aA, hvq, ak⟩
 subst aA
 subst vq
 try dsimp only at hM
 replace H : St w az [cBlk ac [aa] 132] R := H.back ak rfl
 clear ak
 refine s_val (x_not (b := r2) rfl) <| sA (B (!r2)) rfl <| s_nil ?_
 refine W.ret ?_
 have aB := M.e_pure hM
 exact ⟨_, resE_tmp rfl, ⟨(!r2), aB, rfl, (H.pick [] (by decide) rfl)⟩⟩

def zb2 (n : Note) (aa : List Work) : M Bool :=
  M.grd ((!(inB n.work 0 ((aa.length : Int) - 1)) || (decide ((0 : Int) <= n.work) && decide (n.work < (aa.length : Int))))) <|
  M.pure ((inB n.work 0 ((aa.length : Int) - 1)) && ((((aa.getD (Int.toNat n.work) default).of).length : Int) == 0))
theorem zc3 {R : List Chunk} {am : Nat} {ao : Cells} {ag : Value} (n : Note) (aa : List Work) (aq : Reads R ao) (ai : Sl ao ag aa) (ap : Has R (cBlk am [ag] 22)) {r : Bool} (hM : (zb2 n aa).Ends r) (w : World) (H : St w w [] R) : Ret Try.prog 83 #[.agg #[I n.work, I n.version, I n.value], Pz am] w fun v w' => ∃ (y0 : Bool), y0 = r /\ v = B y0 /\ St w w' [] R := by
 refine ret_of_W Try.func83 rfl rfl rfl ?_
 refine sQ rfl ?_
 refine t_box (v := .agg #[I n.work, I n.version, I n.value]) (cs := [I n.work, I n.version, I n.value]) H rfl rfl ?_
 intro aj ax H
 refine sA (B false) rfl <| s_nil <| sQ rfl <| s_val (x_fa (v := Pz aj) rfl (fa_blk (o := 0) Fd30_0 Sz3)) <| s_val (x_ld (v := I n.work) rfl (ldb_sc Sc3 (H.blk (k := 0) rfl) rfl)) <| s_val (x_ld (v := ag) rfl (ldb_sc Sc22 (ap.blk H) rfl)) ?_
 have ay := (ai).len_le
 refine s_val (x_lenS T22.und rfl ai) <| sR _ _ ((aa.length : Int) - 1) rfl rfl rfl (by omega) ?_
 refine s_call cf84 [I n.work, I 0, I ((aa.length : Int) - 1)] rfl (in_any n.work 0 ((aa.length : Int) - 1) _) ?_
 rintro _ au ⟨rfl, ae⟩
 replace H : St w au [cBlk aj [I n.work, I n.version, I n.value] 30] R := H.ext ae
 clear ae
 refine sM (B (inB n.work 0 ((aa.length : Int) - 1))) rfl <| g_val (inB n.work 0 ((aa.length : Int) - 1)) (gy_t rfl) (fun hg => x_ld (v := ag) rfl (ldb_sc Sc22 (ap.blk H) rfl)) <| g_val (inB n.work 0 ((aa.length : Int) - 1)) (gy_t rfl) (fun hg => x_fa (v := Pz aj) rfl (fa_blk (o := 0) Fd30_0 Sz3)) <| g_val (inB n.work 0 ((aa.length : Int) - 1)) (gy_t rfl) (fun hg => x_ld (v := I n.work) (gd_of hg (Pz aj)) (ldb_sc Sc3 (H.blk (k := 0) rfl) rfl)) ?_
 obtain ⟨ah, hM⟩ := M.e_grd hM
 replace ah := M.imp_of ah
 simp only [Bool.and_eq_true, decide_eq_true_eq] at ah
 refine g_val (inB n.work 0 ((aa.length : Int) - 1)) (gy_t rfl) (fun hg => x_ix (v := vat ag 3 (Int.toNat n.work)) (gd_of hg (ag)) (gd_of hg (I n.work)) (Sl.ix (α := Work) T22.und T22.size ai (by have ac := ah.resolve_left (by rw [hg]; decide); first | exact ac | exact ac.1 | exact ac.2 | omega | (have ae := hg; simp at ae; omega)) (by have ac := ah.resolve_left (by rw [hg]; decide); first | exact ac | exact ac.1 | exact ac.2 | omega | (have ae := hg; simp at ae; omega)))) <| g_val (inB n.work 0 ((aa.length : Int) - 1)) (gy_t rfl) (fun hg => x_fa (v := fat (vat ag 3 (Int.toNat n.work)) 0) (gd_of hg (vat ag 3 (Int.toNat n.work))) (fa_pl Fd60_0 Sz34 (Sl.pl (i := n.work) ai (by have ac := ah.resolve_left (by rw [hg]; decide); first | exact ac | exact ac.1 | exact ac.2 | omega | (have ae := hg; simp at ae; omega)) (by have ac := ah.resolve_left (by rw [hg]; decide); first | exact ac | exact ac.1 | exact ac.2 | omega | (have ae := hg; simp at ae; omega))))) ?_
 obtain ⟨ak, av, al⟩ := gd_ex (c := inB n.work 0 ((aa.length : Int) - 1)) fun hg => Work_at0 ai (i := n.work) (by have ac := ah.resolve_left (by rw [hg]; decide); first | exact ac | exact ac.1 | exact ac.2 | omega | (have ae := hg; simp at ae; omega)) (by have ac := ah.resolve_left (by rw [hg]; decide); first | exact ac | exact ac.1 | exact ac.2 | omega | (have ae := hg; simp at ae; omega))
 replace al : (inB n.work 0 ((aa.length : Int) - 1)) = true -> Sl _ ak (aa.getD (Int.toNat n.work) default).of := al
 refine g_val (inB n.work 0 ((aa.length : Int) - 1)) (gy_t rfl) (fun hg => x_ld (v := ak) (gd_of hg (fat (vat ag 3 (Int.toNat n.work)) 0)) (ld_sc Sc34 (At.mono (av hg) (aq.at H)))) <| g_val (inB n.work 0 ((aa.length : Int) - 1)) (gy_t rfl) (fun hg => x_lenS T34.und (gd_of hg (ak)) (al hg)) <| g_val (inB n.work 0 ((aa.length : Int) - 1)) (gy_t rfl) (fun hg => x_cmp (kd := .i64) (r := (((aa.getD (Int.toNat n.work) default).of).length : Int) == 0) (gd_of hg (I (((aa.getD (Int.toNat n.work) default).of).length : Int))) rfl rfl) <| s_val (x_pand (b := inB n.work 0 ((aa.length : Int) - 1)) (r := (((aa.getD (Int.toNat n.work) default).of).length : Int) == 0) rfl (fun hb => gd_of (c := inB n.work 0 ((aa.length : Int) - 1)) (by first | exact hb | (rw [hb]; rfl) | simp_all) (B ((((aa.getD (Int.toNat n.work) default).of).length : Int) == 0))) rfl) <| sA (B ((inB n.work 0 ((aa.length : Int) - 1)) && ((((aa.getD (Int.toNat n.work) default).of).length : Int) == 0))) rfl <| s_nil ?_
 refine W.ret ?_
 have aw := M.e_pure hM
 exact ⟨_, resE_tmp rfl, ⟨((inB n.work 0 ((aa.length : Int) - 1)) && ((((aa.getD (Int.toNat n.work) default).of).length : Int) == 0)), aw, rfl, (H.pick [] (by decide) rfl)⟩⟩

def zb4 (n : Note) : M Bool :=
  M.pure ((inB n.version 0 1000000) && (inB n.value 0 1000002))
theorem zc0 {R : List Chunk}  (n : Note)  {r : Bool} (hM : (zb4 n).Ends r) (w : World) (H : St w w [] R) : Ret Try.prog 85 #[.agg #[I n.work, I n.version, I n.value]] w fun v w' => ∃ (y0 : Bool), y0 = r /\ v = B y0 /\ St w w' [] R := by
 refine ret_of_W Try.func85 rfl rfl rfl ?_
 refine sQ rfl ?_
 refine t_box (v := .agg #[I n.work, I n.version, I n.value]) (cs := [I n.work, I n.version, I n.value]) H rfl rfl ?_
 intro aa ai H
 refine sA (B false) rfl <| s_nil <| sQ rfl <| s_val (x_fa (v := Oz aa 1) rfl (fa_blk (o := 0) Fd30_1 Sz3)) <| s_val (x_ld (v := I n.version) rfl (ldb_sc Sc3 (H.blk (k := 0) rfl) rfl)) ?_
 refine s_call cf84 [I n.version, I 0, I 1000000] rfl (in_any n.version 0 1000000 _) ?_
 rintro _ ae ⟨rfl, ac⟩
 replace H : St w ae [cBlk aa [I n.work, I n.version, I n.value] 30] R := H.ext ac
 clear ac
 refine sM (B (inB n.version 0 1000000)) rfl <| g_val (inB n.version 0 1000000) (gy_t rfl) (fun hg => x_fa (v := Oz aa 2) rfl (fa_blk (o := 0) Fd30_2 Sz3)) <| g_val (inB n.version 0 1000000) (gy_t rfl) (fun hg => x_ld (v := I n.value) (gd_of hg (Oz aa 2)) (ldb_sc Sc3 (H.blk (k := 0) rfl) rfl)) ?_
 refine t_gcall (inB n.version 0 1000000) (gy_t rfl) cf84 (B (inB n.value 0 1000002)) (fun _ => [I n.value, I 0, I 1000002]) (fun hg => lst3 (gd_of hg (I n.value)) rfl rfl) H (fun hg => Ret.mono (in_any n.value 0 1000002 _) fun v_ w_ ⟨ag, ac⟩ => ⟨ag, H.ext ac⟩) ?_
 intro aj H
 refine s_val (x_pand (b := inB n.version 0 1000000) (r := inB n.value 0 1000002) rfl (fun hb => gd_of (c := inB n.version 0 1000000) (by first | exact hb | (rw [hb]; rfl) | simp_all) (B (inB n.value 0 1000002))) rfl) <| sA (B ((inB n.version 0 1000000) && (inB n.value 0 1000002))) rfl <| s_nil ?_
 refine W.ret ?_
 have ah := M.e_pure hM
 exact ⟨_, resE_tmp rfl, ⟨((inB n.version 0 1000000) && (inB n.value 0 1000002)), ah, rfl, (H.pick [] (by decide) rfl)⟩⟩

def zaf (s : List Int) (f : Int -> M Bool) : Nat -> M (Nat ⊕ (Int ⊕ Unit)) := fun s2 =>
  bif decide ((s2 : Int) < (s.length : Int)) then (
  M.grd (decide ((s2 : Int) < (s.length : Int))) <|
  M.bind (f (s.getD s2 0)) fun r2 =>
  bif r2 then (
  M.pure (.inr (.inl (s2 : Int))))
  else (
  M.pure (.inl (s2 + 1))))
  else (
  M.pure (.inr (.inr ())))
def zav (s : List Int) (f : Int -> M Bool) : M Int :=
  M.bind (M.iter (zaf s f) 0) fun x_ => match x_ with
  | (.inl s3) => (
  M.pure s3)
  | (.inr (_ : Unit)) => (
  M.pure (-1))
theorem zbh {R : List Chunk} {al : Cells} {aa : Value} {ae : Value} (s : List Int) (f : Int -> M Bool) (ap : Reads R al) (ag : Sl al aa s) (aq : FnM Try.prog R ae f) {r : Int} (hM : (zav s f).Ends r) (w : World) (H : St w w [] R) : Ret Try.prog 102 #[aa, ae] w fun v w' => ∃ (y0 : Int), y0 = r /\ v = I y0 /\ St w w' [] R := by
 refine ret_of_W Try.func102 rfl rfl rfl ?_
 refine sQ rfl <| sA (I 0) rfl <| s_nil <| W.seq <| sQ rfl <| sM aa rfl ?_
 have aA := (ag).len_le
 refine s_val (x_lenS T34.und rfl ag) <| sM (I 0) rfl <| s_nil <| W.block ?_
 obtain ⟨au, ah, am⟩ := M.e_bind hM
 obtain ⟨aB, ah⟩ := M.e_iter ah
 refine W.loop (fun m σ W => ∃ (s2 : Nat) (ρ : Env), σ = upds ρ [(0, aa), (1, ae), (7, I (s.length : Int)), (8, I (s2 : Int))] /\ M.iterN (zaf s f) m s2 = some au /\ St w W [] R) ?_ ?_
 ·exact ⟨_, 0, _, upds_of _ _ ⟨rfl, rfl, rfl, rfl, trivial⟩, ah, H⟩
 rintro aC σ aD ⟨s2, ρ, rfl, ao, H⟩
 obtain ⟨av, aw, aE, hM, ai⟩ := M.e_iterN ao
 simp only [zaf] at hM
 clear ao
 refine sQ rfl <| sC _ _ (decide ((s2 : Int) < (s.length : Int))) rfl rfl rfl <| s_nil <| W.seq ?_
 refine W.cond (decide ((s2 : Int) < (s.length : Int))) rfl (fun ac => ?_) (fun ac => ?_)
 ·replace hM := M.e_t hM ac
  simp only [qz1, qz2, qz3, qz4, qz5, qz6, ne_eq, qz7] at ac
  refine W.skip <| W.seq <| W.block <| sQ rfl <| sM (I (s2 : Int)) rfl <| sA (I (s2 : Int)) rfl <| s_nil <| sQ rfl <| sM ae rfl <| sM aa rfl ?_
  refine sM (I (s2 : Int)) rfl ?_
  obtain ⟨aF, hM⟩ := M.e_gd hM
  refine s_val (x_ix (v := vat aa 1 (Int.toNat (s2 : Int))) rfl rfl (Sl.ix (α := Int) T34.und T34.size ag (by omega) (by omega))) <| s_val (x_ld (v := I (s.getD s2 0)) rfl (ld_sc Sc3 (At.mono (Int_at ag (i := (s2 : Int)) (by omega) (by omega)) (ap.at H)))) ?_
  obtain ⟨r2, ax, hM⟩ := M.e_bind hM
  refine t_callM H aq rfl rfl (s.getD s2 0) Reads.none (Arg.mkI (fun _ => none) _) ax ?_
  intro aG H
  refine s_nil ?_
  refine W.cond r2 rfl (fun aj => ?_) (fun aj => ?_)
  ·replace hM := M.e_t hM aj
   refine sQ rfl <| sM (I (s2 : Int)) rfl <| sA (I (s2 : Int)) rfl <| s_nil ?_
   refine W.ret ?_
   have ay := M.e_inr hM ai
   subst ay
   replace hM := am
   try dsimp only at hM
   have ak := M.e_pure hM
   exact ⟨_, resE_tmp rfl, ⟨(s2 : Int), ak, rfl, H⟩⟩
  replace hM := M.e_f hM aj
  refine W.skip <| W.region rfl <| sR _ _ ((s2 : Int) + 1) rfl rfl rfl (by omega) <| sM (I ((s2 : Int) + 1)) rfl <| s_nil ?_
  exact ⟨av, aw, s2 + 1, _, upds_of _ _ ⟨rfl, rfl, rfl, rfl, trivial⟩, M.e_inl hM ai, H⟩
 replace hM := M.e_f hM ac
 simp only [qz1, qz2, qz3, qz4, qz5, qz6, ne_eq, qz7] at ac
 refine W.exit ?_
 have az := M.e_inr hM ai
 subst az
 replace hM := am
 try dsimp only at hM
 refine sQ rfl <| sA (I (-1)) rfl <| s_nil ?_
 refine W.ret ?_
 have ak := M.e_pure hM
 exact ⟨_, resE_tmp rfl, ⟨(-1), ak, rfl, H⟩⟩

def zaw (s : List Int) (f : Int -> M Bool) : M Bool :=
  M.bind (zav s f) fun r2 =>
  M.pure (decide (0 <= r2))
theorem zb3 {R : List Chunk} {ae : Cells} {aa : Value} {ac : Value} (s : List Int) (f : Int -> M Bool) (ah : Reads R ae) (ai : Sl ae aa s) (aj : FnM Try.prog R ac f) {r : Bool} (hM : (zaw s f).Ends r) (w : World) (H : St w w [] R) : Ret Try.prog 48 #[aa, ac] w fun v w' => ∃ (y0 : Bool), y0 = r /\ v = B y0 /\ St w w' [] R := by
 refine ret_of_W Try.func48 rfl rfl rfl ?_
 refine sQ rfl <| sA (B false) rfl <| s_nil <| sQ rfl <| sM aa rfl <| sM ac rfl ?_
 obtain ⟨ap, ak, hM⟩ := M.e_bind hM
 refine s_call cf102 [aa, ac] rfl (zbh s f (ah.app _) ai (aj.app _) ak _ (St.give (T := []) H rfl)) ?_
 rintro vq al ⟨r2, am, hvq, ag⟩
 subst am
 subst vq
 try dsimp only at hM
 replace H : St w al [] R := H.back ag rfl
 clear ag
 refine sC _ _ (decide (0 <= r2)) rfl rfl rfl <| sA (B (decide (0 <= r2))) rfl <| s_nil ?_
 refine W.ret ?_
 have ao := M.e_pure hM
 exact ⟨_, resE_tmp rfl, ⟨(decide (0 <= r2)), ao, rfl, H⟩⟩

def zaI (x : Int) (aa : Int -> M Bool) : M Bool :=
  M.bind (aa x) fun r2 =>
  M.pure (!r2)
theorem zdE {R : List Chunk} {ac : Nat} {aa : Value} (x : Int) (ae : Int -> M Bool) (ag : FnM Try.prog R aa ae) (ah : Has R (cBlk ac [aa] 75)) {r : Bool} (hM : (zaI x ae).Ends r) (w : World) (H : St w w [] R) : Ret Try.prog 143 #[I x, Pz ac] w fun v w' => ∃ (y0 : Bool), y0 = r /\ v = B y0 /\ St w w' [] R := by
 refine ret_of_W Try.func143 rfl rfl rfl ?_
 refine sQ rfl <| sA (B false) rfl <| s_nil <| sQ rfl <| s_val (x_ld (v := aa) rfl (ldb_sc Sc75 (ah.blk H) rfl)) <| sM (I x) rfl ?_
 obtain ⟨r2, ai, hM⟩ := M.e_bind hM
 refine t_callM H ag rfl rfl x Reads.none (Arg.mkI (fun _ => none) _) ai ?_
 intro ak H
 refine s_val (x_not (b := r2) rfl) <| sA (B (!r2)) rfl <| s_nil ?_
 refine W.ret ?_
 have aj := M.e_pure hM
 exact ⟨_, resE_tmp rfl, ⟨(!r2), aj, rfl, H⟩⟩

def zbg (so : Int -> M Bool) (l : List Int) : M Bool :=
  M.bind (zaw l (fun aa => zaI aa so)) fun r2 =>
  M.pure (!r2)
theorem zcp {R : List Chunk} {aa : Value} {ah : Cells} {ae : Value} (so : Int -> M Bool) (l : List Int) (ai : FnM Try.prog R aa so) (al : Reads R ah) (am : Sl ah ae l) {r : Bool} (hM : (zbg so l).Ends r) (w : World) (H : St w w [] R) : Ret Try.prog 87 #[aa, ae] w fun v w' => ∃ (y0 : Bool), y0 = r /\ v = B y0 /\ St w w' [] R := by
 refine ret_of_W Try.func87 rfl rfl rfl ?_
 refine sQ rfl ?_
 refine t_box (v := aa) (cs := [aa]) H rfl (FnM.cells ai) ?_
 intro ac aC H
 refine sA (B false) rfl <| s_nil <| sQ rfl <| sM ae rfl <| s_val (x_mf (fs := []) (cs := [Pz ac]) rfl rfl) ?_
 obtain ⟨aD, ao, hM⟩ := M.e_bind hM
 refine s_call cf48 [ae, .func (.func 143) #[] #[Pz ac]] rfl (zb3 l (fun ag => zaI ag so) (al.app _) am ⟨143, [Pz ac], rfl, cf143, fun aj aE aF ap ag aG aq aH au av => by obtain rfl := Arg.int au; exact (zdE ag so (FnM.app (ai.app _) _) (Has.app (Has.here (k := 0) rfl) _) av aj (St.refl aq)).mono fun ap aj ⟨aI, aw, ax, ay⟩ => by subst aw; exact ⟨ax, ay⟩⟩ ao _ (St.give (T := [cBlk ac [aa] 75]) H rfl)) ?_
 rintro vq az ⟨r2, aA, hvq, ak⟩
 subst aA
 subst vq
 try dsimp only at hM
 replace H : St w az [cBlk ac [aa] 75] R := H.back ak rfl
 clear ak
 refine s_val (x_not (b := r2) rfl) <| sA (B (!r2)) rfl <| s_nil ?_
 refine W.ret ?_
 have aB := M.e_pure hM
 exact ⟨_, resE_tmp rfl, ⟨(!r2), aB, rfl, (H.pick [] (by decide) rfl)⟩⟩

def zbT (k : Int) (aa : List Int) : M Bool :=
  M.grd (decide ((0 : Int) <= k) && decide (k < (aa.length : Int))) <|
  M.pure ((aa.getD (Int.toNat k) 0) != (-1))
theorem zdA {R : List Chunk} {ae : Nat} {ag : Cells} {ac : Value} (k : Int) (aa : List Int) (ai : Reads R ag) (ah : Sl ag ac aa) (aj : Has R (cBlk ae [ac] 34)) {r : Bool} (hM : (zbT k aa).Ends r) (w : World) (H : St w w [] R) : Ret Try.prog 88 #[I k, Pz ae] w fun v w' => ∃ (y0 : Bool), y0 = r /\ v = B y0 /\ St w w' [] R := by
 refine ret_of_W Try.func88 rfl rfl rfl ?_
 refine sQ rfl <| sA (B false) rfl <| s_nil <| sQ rfl <| s_val (x_ld (v := ac) rfl (ldb_sc Sc34 (aj.blk H) rfl)) <| sM (I k) rfl ?_
 obtain ⟨al, hM⟩ := M.e_gd hM
 refine s_val (x_ix (v := vat ac 1 (Int.toNat k)) rfl rfl (Sl.ix (α := Int) T34.und T34.size ah (by omega) (by omega))) <| s_val (x_ld (v := I (aa.getD (Int.toNat k) 0)) rfl (ld_sc Sc3 (At.mono (Int_at ah (i := k) (by omega) (by omega)) (ai.at H)))) <| sC _ _ ((aa.getD (Int.toNat k) 0) != (-1)) rfl rfl rfl <| sA (B ((aa.getD (Int.toNat k) 0) != (-1))) rfl <| s_nil ?_
 refine W.ret ?_
 have ak := M.e_pure hM
 exact ⟨_, resE_tmp rfl, ⟨((aa.getD (Int.toNat k) 0) != (-1)), ak, rfl, H⟩⟩

def zcs (l : List Note) (s2 : Nat) : Nat -> M (Nat ⊕ (Unit ⊕ Unit)) := fun s =>
  bif decide ((s : Int) < ((l.take s2).length : Int)) then (
  M.grd (decide ((s : Int) < ((l.take s2).length : Int))) <|
  bif ((((((l.take s2).getD s default).work) == ((l.getD s2 default).work)) && ((((l.take s2).getD s default).version) == ((l.getD s2 default).version))) && (!(decide (((l.take s2).getD s default) = (l.getD s2 default))))) then (
  M.pure (.inr (.inl ())))
  else (
  M.pure (.inl (s + 1))))
  else (
  M.pure (.inr (.inr ())))
def zbW (l : List Note) : ((Int -> Option Note) × Nat) -> M (((Int -> Option Note) × Nat) ⊕ ((Int -> Option Note) ⊕ (Int -> Option Note))) := fun (mp, s2) =>
  bif decide ((s2 : Int) < (l.length : Int)) then (
  M.grd (decide ((s2 : Int) < (l.length : Int))) <|
  M.bind (M.iter (zcs l s2) 0) fun x_ => match x_ with
  | (.inl (_ : Unit)) => (
  M.pure (.inr (.inl mp)))
  | (.inr (_ : Unit)) => (
  bif ((!((mp ((l.getD s2 default).work : Int)).isSome)) || (decide ((((mp ((l.getD s2 default).work : Int)).getD default).version) < ((l.getD s2 default).version)))) then (
  M.pure (.inl (updF mp ((l.getD s2 default).work : Int) (l.getD s2 default), s2 + 1)))
  else (
  M.pure (.inl (mp, s2 + 1)))))
  else (
  M.pure (.inr (.inr mp)))
def zbX (w_ : List Work) (s4 : Nat) (l2 : List Int) : (Int × Nat) -> M ((Int × Nat) ⊕ Int) := fun (sum, s3) =>
  bif decide ((s3 : Int) < (((w_.getD (Int.toNat ((orderP w_).getD s4 0)) default).of).length : Int)) then (
  M.grd (decide ((s3 : Int) < (((w_.getD (Int.toNat ((orderP w_).getD s4 0)) default).of).length : Int))) <|
  M.grd (decide ((0 : Int) <= (((w_.getD (Int.toNat ((orderP w_).getD s4 0)) default).of).getD s3 0)) && decide ((((w_.getD (Int.toNat ((orderP w_).getD s4 0)) default).of).getD s3 0) < (l2.length : Int))) <|
  M.grd (decide ((-9223372036854775808 : Int) <= (((s3 : Int) + 1) * (l2.getD (Int.toNat (((w_.getD (Int.toNat ((orderP w_).getD s4 0)) default).of).getD s3 0)) 0))) && decide ((((s3 : Int) + 1) * (l2.getD (Int.toNat (((w_.getD (Int.toNat ((orderP w_).getD s4 0)) default).of).getD s3 0)) 0)) <= (9223372036854775807 : Int))) <|
  M.grd (decide ((-9223372036854775808 : Int) <= (sum + (((s3 : Int) + 1) * (l2.getD (Int.toNat (((w_.getD (Int.toNat ((orderP w_).getD s4 0)) default).of).getD s3 0)) 0)))) && decide ((sum + (((s3 : Int) + 1) * (l2.getD (Int.toNat (((w_.getD (Int.toNat ((orderP w_).getD s4 0)) default).of).getD s3 0)) 0))) <= (9223372036854775807 : Int))) <|
  M.pure (.inl (sum + (((s3 : Int) + 1) * (l2.getD (Int.toNat (((w_.getD (Int.toNat ((orderP w_).getD s4 0)) default).of).getD s3 0)) 0)), s3 + 1)))
  else (
  M.pure (.inr sum))
def zbL (w_ : List Work) (s4 : Nat) (l2 : List Int) : M (((List Int) × Nat) ⊕ ((List Int) × (List Int))) :=
  M.grd (decide ((0 : Int) <= ((orderP w_).getD s4 0)) && decide (((orderP w_).getD s4 0) < (w_.length : Int))) <|
  M.bind (M.opt (!((((w_.getD (Int.toNat ((orderP w_).getD s4 0)) default).of).length : Int) == 0)) (zbg (fun aa => zbT aa l2) ((w_.getD (Int.toNat ((orderP w_).getD s4 0)) default).of)) false) fun r4 =>
  bif (((((w_.getD (Int.toNat ((orderP w_).getD s4 0)) default).of).length : Int) == 0) || (!r4)) then (
  M.pure (.inl (l2, s4 + 1)))
  else (
  M.bind (M.iter (zbX w_ s4 l2) ((w_.getD (Int.toNat ((orderP w_).getD s4 0)) default).base, 0)) fun sum2 =>
  M.grd (decide ((0 : Int) <= sum2) && decide ((0 : Int) < 1000003)) <|
  M.grd (decide ((0 : Int) <= ((orderP w_).getD s4 0)) && decide (((orderP w_).getD s4 0) < (l2.length : Int))) <|
  M.pure (.inl (l2.set (Int.toNat ((orderP w_).getD s4 0)) (sum2 % 1000003 : Int), s4 + 1)))
def zb5 (w_ : List Work) (aa : Int -> Option Note) : ((List Int) × Nat) -> M (((List Int) × Nat) ⊕ ((List Int) × (List Int))) := fun (l3, s4) =>
  bif decide ((s4 : Int) < ((orderP w_).length : Int)) then (
  M.grd (decide ((s4 : Int) < ((orderP w_).length : Int))) <|
  bif (aa ((orderP w_).getD s4 0 : Int)).isSome then (
  M.grd (decide ((0 : Int) <= ((orderP w_).getD s4 0)) && decide (((orderP w_).getD s4 0) < (l3.length : Int))) <|
  zbL w_ s4 (l3.set (Int.toNat ((orderP w_).getD s4 0)) (((aa ((orderP w_).getD s4 0 : Int)).getD default).value : Int)))
  else (
  zbL w_ s4 l3))
  else (
  M.pure (.inr (l3, l3)))
def zcc (w_ : List Work) (l : List Note) : M ((List Int) × Int) :=
  bif (openedE w_ == 0) then (
  bif decide (200 < (l.length : Int)) then (
  M.pure (([]), 3))
  else (
  M.bind (zbY (fun aa => zb2 aa w_) l) fun r2 =>
  bif !r2 then (
  M.pure (([]), 2))
  else (
  M.bind (zbY (fun aa => zb4 aa) l) fun r3 =>
  bif !r3 then (
  M.pure (([]), 4))
  else (
  M.bind (M.iter (zbW l) ((fun _ => none), 0)) fun x_ => match x_ with
  | (.inl ae) => (
  M.pure (([]), 10))
  | (.inr ac) => (
  M.grd (decide (1 <= (w_.length : Int)) && decide ((w_.length : Int) <= 1000)) <|
  M.bind (M.iter (zb5 w_ ac) (List.replicate (w_.length) (-1 : Int), 0)) fun (l4, l5) =>
  M.pure (l5, 0))))))
  else (
  bif (openedE w_) != 0 then (
  M.pure (([]), (openedE w_)))
  else (
  M.fail))
theorem zcW {R : List Chunk} {bo : Cells} {aa : Value} {bp : Cells} {ak : Value} (w_ : List Work) (l : List Note) (ax : Reads R bo) (ah : Sl bo aa w_) (aV : Reads R bp) (av : Sl bp ak l) {r : ((List Int) × Int)} (hM : (zcc w_ l).Ends r) (w : World) (H : St w w [] R) : Ret Try.prog 21 #[aa, ak] w fun v w' => ∃ (y0 : List Int) (y1 : Int) (u0 : Value), (y0, y1) = r /\ v = .tuple #[u0, I y1] /\ St w w' [cOwn (α := Int) 3 u0 y0] R := by
 refine ret_of_W Try.func21 rfl rfl rfl ?_
 refine sQ rfl ?_
 refine t_box (v := aa) (cs := [aa]) H rfl (Sl.cells ah) ?_
 intro ac cr H
 refine sA (.slice none 0 0) rfl <| sA (I 0) rfl <| s_nil <| sQ rfl <| s_val (x_ld (v := aa) rfl (ldb_sc Sc22 (H.blk (k := 0) rfl) rfl)) ?_
 refine s_call cf81 [aa] rfl (opened_any _ (ah.mono (ax.at H))) ?_
 rintro _ aW (⟨a7, rfl, ai⟩ | ⟨a7, aD, ao, rfl, bq, aA⟩)
 ·replace hM := M.e_f hM (by simpa using a7)
  replace H : St w aW [cBlk ac [aa] 22] R := H.ext ai
  clear ai
  refine sM (.tuple #[.pointer none, .slice none 0 0, I (openedE w_)]) rfl <| sX [.pointer none, .slice none 0 0, I (openedE w_)] (.pointer none) rfl rfl <| sX [.pointer none, .slice none 0 0, I (openedE w_)] (.slice none 0 0) rfl rfl <| sX [.pointer none, .slice none 0 0, I (openedE w_)] (I (openedE w_)) rfl rfl <| sA (.pointer none) rfl <| sA (.slice none 0 0) rfl <| sA (I (openedE w_)) rfl <| s_nil <| W.seq <| W.block <| sQ rfl ?_
  refine sM (I (openedE w_)) rfl <| sC _ _ ((openedE w_) != 0) rfl rfl rfl <| sA (B ((openedE w_) != 0)) rfl <| s_nil ?_
  refine W.cond ((openedE w_) != 0) rfl (fun aX => ?_) (fun aX => ?_)
  ·replace hM := M.e_t hM aX
   simp only [qz1, qz2, qz3, qz4, qz5, qz6, ne_eq, qz7] at aX
   refine sQ rfl <| sM (I (openedE w_)) rfl <| sA (.slice none 0 0) rfl <| sA (I (openedE w_)) rfl <| s_nil ?_
   refine W.ret ?_
   have ap := M.e_pure hM
   replace H : St w aW [cOwn (α := Int) 3 (.slice none 0 0) ([]), cBlk ac [aa] 22] R := H.nilOwn (α := Int) 3
   exact ⟨_, resE_tmp2 rfl, ⟨([]), (openedE w_), (.slice none 0 0), ap, rfl, (H.pick [0] (by decide) rfl)⟩⟩
  replace hM := M.e_f hM aX
  exact (M.e_fail hM).elim
 replace hM := M.e_t hM (by simpa using a7)
 obtain ⟨ag, ay, aA, ct⟩ := H.freshNB bq aA
 replace H : St w aW [cRo ag, cBlk ac [aa] 22] R := ay
 clear ay bq
 have cu := aA.len_le
 refine sM (.tuple #[Pz aD, ao, I 0]) rfl <| sX [Pz aD, ao, I 0] (Pz aD) rfl rfl <| sX [Pz aD, ao, I 0] ao rfl rfl <| sX [Pz aD, ao, I 0] (I 0) rfl rfl <| sA (Pz aD) rfl <| sA ao rfl <| sA (I 0) rfl <| s_nil <| W.seq <| W.block <| sQ rfl ?_
 refine sM (I 0) rfl <| sC _ _ ((0 : Int) != 0) rfl rfl rfl <| sA (B ((0 : Int) != 0)) rfl <| s_nil ?_
 refine W.cond ((0 : Int) != 0) rfl (fun br => ?_) (fun br => ?_)
 ·skip
  exact absurd br (by decide)
 skip
 refine sQ rfl <| sM ak rfl ?_
 have cv := (av).len_le
 refine s_val (x_lenS T23.und rfl av) <| sC _ _ (decide (200 < (l.length : Int))) rfl rfl rfl <| sA (B (decide (200 < (l.length : Int)))) rfl <| s_nil ?_
 refine W.cond (decide (200 < (l.length : Int))) rfl (fun aG => ?_) (fun aG => ?_)
 ·replace hM := M.e_t hM aG
  simp only [qz1, qz2, qz3, qz4, qz5, qz6, ne_eq, qz7] at aG
  refine sQ rfl <| sA (.slice none 0 0) rfl <| sA (I 3) rfl <| s_nil ?_
  refine W.ret ?_
  have ap := M.e_pure hM
  replace H : St w aW [cOwn (α := Int) 3 (.slice none 0 0) ([]), cRo ag, cBlk ac [aa] 22] R := H.nilOwn (α := Int) 3
  exact ⟨_, resE_tmp2 rfl, ⟨([]), 3, (.slice none 0 0), ap, rfl, (H.pick [0] (by decide) rfl)⟩⟩
 replace hM := M.e_f hM aG
 simp only [qz1, qz2, qz3, qz4, qz5, qz6, ne_eq, qz7] at aG
 refine sQ rfl <| s_val (x_mf (fs := []) (cs := [Pz ac]) rfl rfl) <| sM ak rfl ?_
 obtain ⟨cw, bO, hM⟩ := M.e_bind hM
 refine s_call cf82 [.func (.func 83) #[] #[Pz ac], ak] rfl (zcD (fun au => zb2 au w_) l ⟨83, [Pz ac], rfl, cf83, fun az bt bu aH au bv aI bw aJ aK => by obtain rfl := Note_arg aJ; exact (zc3 au w_ (Reads.app (ax.app _) _) ah (Has.app (Has.here (k := 1) rfl) _) aK az (St.refl aI)).mono fun aH az ⟨bx, aL, aM, aN⟩ => by subst aL; exact ⟨aM, aN⟩⟩ (aV.app _) av bO _ (St.give (T := [cRo ag, cBlk ac [aa] 22]) H rfl)) ?_
 rintro vq bz ⟨r2, bP, hvq, ay⟩
 subst bP
 subst vq
 try dsimp only at hM
 replace H : St w bz [cRo ag, cBlk ac [aa] 22] R := H.back ay rfl
 clear ay
 refine s_val (x_not (b := r2) rfl) <| sA (B (!r2)) rfl <| s_nil ?_
 refine W.cond (!r2) rfl (fun a8 => ?_) (fun a8 => ?_)
 ·replace hM := M.e_t hM a8
  refine sQ rfl <| sA (.slice none 0 0) rfl <| sA (I 2) rfl <| s_nil ?_
  refine W.ret ?_
  have ap := M.e_pure hM
  replace H : St w bz [cOwn (α := Int) 3 (.slice none 0 0) ([]), cRo ag, cBlk ac [aa] 22] R := H.nilOwn (α := Int) 3
  exact ⟨_, resE_tmp2 rfl, ⟨([]), 2, (.slice none 0 0), ap, rfl, (H.pick [0] (by decide) rfl)⟩⟩
 replace hM := M.e_f hM a8
 refine sQ rfl <| sM ak rfl ?_
 obtain ⟨cx, bQ, hM⟩ := M.e_bind hM
 refine s_call cf82 [.func (.func 85) #[] #[], ak] rfl (zcD (fun au => zb4 au) l ⟨85, [], rfl, cf85, fun az bt bu aH au bv aI bw aJ aK => by obtain rfl := Note_arg aJ; exact (zc0 au aK az (St.refl aI)).mono fun aH az ⟨bx, aL, aM, aN⟩ => by subst aL; exact ⟨aM, aN⟩⟩ (aV.app _) av bQ _ (St.give (T := [cRo ag, cBlk ac [aa] 22]) H rfl)) ?_
 rintro vq bA ⟨r3, bR, hvq, ay⟩
 subst bR
 subst vq
 try dsimp only at hM
 replace H : St w bA [cRo ag, cBlk ac [aa] 22] R := H.back ay rfl
 clear ay
 refine s_val (x_not (b := r3) rfl) <| sA (B (!r3)) rfl <| s_nil ?_
 refine W.cond (!r3) rfl (fun a9 => ?_) (fun a9 => ?_)
 ·replace hM := M.e_t hM a9
  refine sQ rfl <| sA (.slice none 0 0) rfl <| sA (I 4) rfl <| s_nil ?_
  refine W.ret ?_
  have ap := M.e_pure hM
  replace H : St w bA [cOwn (α := Int) 3 (.slice none 0 0) ([]), cRo ag, cBlk ac [aa] 22] R := H.nilOwn (α := Int) 3
  exact ⟨_, resE_tmp2 rfl, ⟨([]), 4, (.slice none 0 0), ap, rfl, (H.pick [0] (by decide) rfl)⟩⟩
 replace hM := M.e_f hM a9
 refine W.skip <| sQ rfl ?_
 refine t_mkmap (κ := Int) (ν := Note) I encN H ?_
 intro ae cy H
 refine sA (.map (some ae)) rfl <| s_nil <| W.seq <| sQ rfl <| sM ak rfl ?_
 have cz := (av).len_le
 refine s_val (x_lenS T23.und rfl av) <| sM (I 0) rfl <| s_nil <| W.block ?_
 obtain ⟨bS, ba, bB⟩ := M.e_bind hM
 obtain ⟨bb, ba⟩ := M.e_iter ba
 refine W.loop (fun m σ W => ∃ (mp : Int -> Option Note) (s2 : Nat) (ρ : Env), σ = upds ρ [(1, ak), (2, Pz ac), (7, ao), (9, .map (some ae)), (48, ak), (49, I (l.length : Int)), (50, I (s2 : Int))] /\ M.iterN (zbW l) m (mp, s2) = some bS /\ St w W [cMap I encN ae mp, cRo ag, cBlk ac [aa] 22] R) ?_ ?_
 ·exact ⟨_, (fun _ => none), 0, _, upds_of _ _ ⟨rfl, rfl, rfl, rfl, rfl, rfl, rfl, trivial⟩, ba, H⟩
 rintro cA σ cB ⟨mp, s2, ρ, rfl, bC, H⟩
 obtain ⟨bD, bE, cC, hM, aY⟩ := M.e_iterN bC
 simp only [zbW] at hM
 clear bC
 refine sQ rfl <| sC _ _ (decide ((s2 : Int) < (l.length : Int))) rfl rfl rfl <| s_nil <| W.seq ?_
 refine W.cond (decide ((s2 : Int) < (l.length : Int))) rfl (fun aO => ?_) (fun aO => ?_)
 ·replace hM := M.e_t hM aO
  simp only [qz1, qz2, qz3, qz4, qz5, qz6, ne_eq, qz7] at aO
  refine W.skip <| W.seq <| W.block <| sQ rfl <| sM (I (s2 : Int)) rfl ?_
  obtain ⟨cD, hM⟩ := M.e_gd hM
  refine s_val (x_ix (v := vat ak 3 (Int.toNat (s2 : Int))) rfl rfl (Sl.ix (α := Note) T23.und T23.size av (by omega) (by omega))) <| s_val (x_ld (v := .agg #[I ((l.getD s2 default).work), I ((l.getD s2 default).version), I ((l.getD s2 default).value)]) rfl (ld_ag Ag30 Sz30 (At.mono (Note_atA av (i := (s2 : Int)) (by omega) (by omega)) (aV.at H)))) ?_
  refine t_alloc (cs := [I 0, I 0, I 0]) H Al30 rfl ?_
  intro al cE H
  refine sA (I (s2 : Int)) rfl ?_
  refine t_st (k := 0) (b := al) (off := 0) (cs := [I 0, I 0, I 0]) (vs := [I ((l.getD s2 default).work), I ((l.getD s2 default).version), I ((l.getD s2 default).value)]) (cs' := [I ((l.getD s2 default).work), I ((l.getD s2 default).version), I ((l.getD s2 default).value)]) (v := .agg #[I ((l.getD s2 default).work), I ((l.getD s2 default).version), I ((l.getD s2 default).value)]) (L' := [cBlk al [I ((l.getD s2 default).work), I ((l.getD s2 default).version), I ((l.getD s2 default).value)] 30, cMap I encN ae mp, cRo ag, cBlk ac [aa] 22]) H rfl rfl rfl Sz30 rfl rfl rfl rfl rfl rfl ?_
  intro cF H
  refine s_nil <| W.seq <| sQ rfl <| sM ak rfl <| sM (I (s2 : Int)) rfl ?_
  obtain ⟨aZ, bT, aE⟩ := sl_hi T23.und T23.size av (j := (s2 : Int)) (by omega) (by omega)
  replace aE : Sl _ aZ (l.take s2) := aE
  refine s_val (x_sl (v := ak) (u := aZ) (lo' := none) (hi' := some (I (s2 : Int))) (mx' := none) rfl rfl rfl rfl (bT _)) ?_
  have cG := (aE).len_le
  refine s_val (x_lenS T23.und rfl aE) <| sM (I 0) rfl <| s_nil <| W.block ?_
  obtain ⟨bU, bc, bF⟩ := M.e_bind hM
  obtain ⟨bb, bc⟩ := M.e_iter bc
  refine W.loop (fun m σ W => ∃ (s : Nat) (ρ : Env), σ = upds ρ [(1, ak), (2, Pz ac), (7, ao), (9, .map (some ae)), (11, Pz al), (48, ak), (49, I (l.length : Int)), (50, I (s2 : Int)), (57, aZ), (58, I ((l.take s2).length : Int)), (59, I (s : Int))] /\ M.iterN (zcs l s2) m s = some bU /\ St w W [cBlk al [I ((l.getD s2 default).work), I ((l.getD s2 default).version), I ((l.getD s2 default).value)] 30, cMap I encN ae mp, cRo ag, cBlk ac [aa] 22] R) ?_ ?_
  ·exact ⟨_, 0, _, upds_of _ _ ⟨rfl, rfl, rfl, rfl, rfl, rfl, rfl, rfl, rfl, rfl, rfl, trivial⟩, bc, H⟩
  rintro cH σ cI ⟨s, ρ, rfl, bG, H⟩
  obtain ⟨bV, bW, cJ, hM, bf⟩ := M.e_iterN bG
  simp only [zcs] at hM
  clear bG
  refine sQ rfl <| sC _ _ (decide ((s : Int) < ((l.take s2).length : Int))) rfl rfl rfl <| s_nil <| W.seq ?_
  refine W.cond (decide ((s : Int) < ((l.take s2).length : Int))) rfl (fun aP => ?_) (fun aP => ?_)
  ·replace hM := M.e_t hM aP
   simp only [qz1, qz2, qz3, qz4, qz5, qz6, ne_eq, qz7] at aP
   refine W.skip <| W.seq <| W.block <| sQ rfl ?_
   obtain ⟨cK, hM⟩ := M.e_gd hM
   refine s_val (x_ix (v := vat aZ 3 (Int.toNat (s : Int))) rfl rfl (Sl.ix (α := Note) T23.und T23.size aE (by omega) (by omega))) <| s_val (x_ld (v := .agg #[I (((l.take s2).getD s default).work), I (((l.take s2).getD s default).version), I (((l.take s2).getD s default).value)]) rfl (ld_ag Ag30 Sz30 (At.mono (Note_atA aE (i := (s : Int)) (by omega) (by omega)) (aV.at H)))) ?_
   refine t_alloc (cs := [I 0, I 0, I 0]) H Al30 rfl ?_
   intro aF cL H
   refine t_st (k := 0) (b := aF) (off := 0) (cs := [I 0, I 0, I 0]) (vs := [I (((l.take s2).getD s default).work), I (((l.take s2).getD s default).version), I (((l.take s2).getD s default).value)]) (cs' := [I (((l.take s2).getD s default).work), I (((l.take s2).getD s default).version), I (((l.take s2).getD s default).value)]) (v := .agg #[I (((l.take s2).getD s default).work), I (((l.take s2).getD s default).version), I (((l.take s2).getD s default).value)]) (L' := [cBlk aF [I (((l.take s2).getD s default).work), I (((l.take s2).getD s default).version), I (((l.take s2).getD s default).value)] 30, cBlk al [I ((l.getD s2 default).work), I ((l.getD s2 default).version), I ((l.getD s2 default).value)] 30, cMap I encN ae mp, cRo ag, cBlk ac [aa] 22]) H rfl rfl rfl Sz30 rfl rfl rfl rfl rfl rfl ?_
   intro bX H
   refine s_nil <| sQ rfl <| s_val (x_fa (v := Pz aF) rfl (fa_blk (o := 0) Fd30_0 Sz3)) <| s_val (x_ld (v := I (((l.take s2).getD s default).work)) rfl (ldb_sc Sc3 (H.blk (k := 0) rfl) rfl)) <| s_val (x_fa (v := Pz al) rfl (fa_blk (o := 0) Fd30_0 Sz3)) <| s_val (x_ld (v := I ((l.getD s2 default).work)) rfl (ldb_sc Sc3 (H.blk (k := 1) rfl) rfl)) <| sC _ _ ((((l.take s2).getD s default).work) == ((l.getD s2 default).work)) rfl rfl rfl <| sM (B ((((l.take s2).getD s default).work) == ((l.getD s2 default).work))) rfl <| g_val ((((l.take s2).getD s default).work) == ((l.getD s2 default).work)) (gy_t rfl) (fun hg => x_fa (v := Oz aF 1) rfl (fa_blk (o := 0) Fd30_1 Sz3)) <| g_val ((((l.take s2).getD s default).work) == ((l.getD s2 default).work)) (gy_t rfl) (fun hg => x_ld (v := I (((l.take s2).getD s default).version)) (gd_of hg (Oz aF 1)) (ldb_sc Sc3 (H.blk (k := 0) rfl) rfl)) <| g_val ((((l.take s2).getD s default).work) == ((l.getD s2 default).work)) (gy_t rfl) (fun hg => x_fa (v := Oz al 1) rfl (fa_blk (o := 0) Fd30_1 Sz3)) ?_
   refine g_val ((((l.take s2).getD s default).work) == ((l.getD s2 default).work)) (gy_t rfl) (fun hg => x_ld (v := I ((l.getD s2 default).version)) (gd_of hg (Oz al 1)) (ldb_sc Sc3 (H.blk (k := 1) rfl) rfl)) <| g_val ((((l.take s2).getD s default).work) == ((l.getD s2 default).work)) (gy_t rfl) (fun hg => x_cmp (kd := .i64) (r := (((l.take s2).getD s default).version) == ((l.getD s2 default).version)) (gd_of hg (I (((l.take s2).getD s default).version))) (gd_of hg (I ((l.getD s2 default).version))) rfl) <| s_val (x_pand (b := (((l.take s2).getD s default).work) == ((l.getD s2 default).work)) (r := (((l.take s2).getD s default).version) == ((l.getD s2 default).version)) rfl (fun hb => gd_of (c := (((l.take s2).getD s default).work) == ((l.getD s2 default).work)) (by first | exact hb | (rw [hb]; rfl) | simp_all) (B ((((l.take s2).getD s default).version) == ((l.getD s2 default).version)))) rfl) <| sM (B (((((l.take s2).getD s default).work) == ((l.getD s2 default).work)) && ((((l.take s2).getD s default).version) == ((l.getD s2 default).version)))) rfl <| g_val (((((l.take s2).getD s default).work) == ((l.getD s2 default).work)) && ((((l.take s2).getD s default).version) == ((l.getD s2 default).version))) (gy_t rfl) (fun hg => x_ld (v := .agg #[I (((l.take s2).getD s default).work), I (((l.take s2).getD s default).version), I (((l.take s2).getD s default).value)]) rfl (ldb_ag (ds := [I (((l.take s2).getD s default).work), I (((l.take s2).getD s default).version), I (((l.take s2).getD s default).value)]) Ag30 Sz30 (H.blk (k := 0) rfl) rfl rfl)) <| g_val (((((l.take s2).getD s default).work) == ((l.getD s2 default).work)) && ((((l.take s2).getD s default).version) == ((l.getD s2 default).version))) (gy_t rfl) (fun hg => x_ld (v := .agg #[I ((l.getD s2 default).work), I ((l.getD s2 default).version), I ((l.getD s2 default).value)]) rfl (ldb_ag (ds := [I ((l.getD s2 default).work), I ((l.getD s2 default).version), I ((l.getD s2 default).value)]) Ag30 Sz30 (H.blk (k := 1) rfl) rfl rfl)) <| g_val (((((l.take s2).getD s default).work) == ((l.getD s2 default).work)) && ((((l.take s2).getD s default).version) == ((l.getD s2 default).version))) (gy_t rfl) (fun hg => x_neS (eqN ((l.take s2).getD s default) (l.getD s2 default) _) gdN (gd_of hg (.agg #[I (((l.take s2).getD s default).work), I (((l.take s2).getD s default).version), I (((l.take s2).getD s default).value)])) (gd_of hg (.agg #[I ((l.getD s2 default).work), I ((l.getD s2 default).version), I ((l.getD s2 default).value)]))) <| s_val (x_pand (b := (((((l.take s2).getD s default).work) == ((l.getD s2 default).work)) && ((((l.take s2).getD s default).version) == ((l.getD s2 default).version)))) (r := !(decide (((l.take s2).getD s default) = (l.getD s2 default)))) rfl (fun hb => gd_of (c := (((((l.take s2).getD s default).work) == ((l.getD s2 default).work)) && ((((l.take s2).getD s default).version) == ((l.getD s2 default).version)))) (by first | exact hb | (rw [hb]; rfl) | simp_all) (B (!(decide (((l.take s2).getD s default) = (l.getD s2 default)))))) rfl) <| s_nil ?_
   refine W.cond ((((((l.take s2).getD s default).work) == ((l.getD s2 default).work)) && ((((l.take s2).getD s default).version) == ((l.getD s2 default).version))) && (!(decide (((l.take s2).getD s default) = (l.getD s2 default))))) rfl (fun bg => ?_) (fun bg => ?_)
   ·replace hM := M.e_t hM bg
    refine sQ rfl <| sA (.slice none 0 0) rfl <| sA (I 10) rfl <| s_nil ?_
    refine W.ret ?_
    have bY := M.e_inr hM bf
    subst bY
    replace hM := bF
    try dsimp only at hM
    have bZ := M.e_inr hM aY
    subst bZ
    replace hM := bB
    try dsimp only at hM
    have ap := M.e_pure hM
    replace H : St w bX [cOwn (α := Int) 3 (.slice none 0 0) ([]), cBlk aF [I (((l.take s2).getD s default).work), I (((l.take s2).getD s default).version), I (((l.take s2).getD s default).value)] 30, cBlk al [I ((l.getD s2 default).work), I ((l.getD s2 default).version), I ((l.getD s2 default).value)] 30, cMap I encN ae mp, cRo ag, cBlk ac [aa] 22] R := H.nilOwn (α := Int) 3
    exact ⟨_, resE_tmp2 rfl, ⟨([]), 10, (.slice none 0 0), ap, rfl, (H.pick [0] (by decide) rfl)⟩⟩
   replace hM := M.e_f hM bg
   refine W.skip <| W.region rfl <| sR _ _ ((s : Int) + 1) rfl rfl rfl (by omega) <| sM (I ((s : Int) + 1)) rfl <| s_nil ?_
   exact ⟨bV, bW, s + 1, _, upds_of _ _ ⟨rfl, rfl, rfl, rfl, rfl, rfl, rfl, rfl, rfl, rfl, rfl, trivial⟩, M.e_inl hM bf, (H.pick [1, 2, 3, 4] (by decide) rfl)⟩
  replace hM := M.e_f hM aP
  simp only [qz1, qz2, qz3, qz4, qz5, qz6, ne_eq, qz7] at aP
  refine W.exit ?_
  have b6 := M.e_inr hM bf
  subst b6
  replace hM := bF
  try dsimp only at hM
  refine sQ rfl <| sM (.map (some ae)) rfl <| s_val (x_fa (v := Pz al) rfl (fa_blk (o := 0) Fd30_0 Sz3)) <| s_val (x_ld (v := I ((l.getD s2 default).work)) rfl (ldb_sc Sc3 (H.blk (k := 0) rfl) rfl)) <| s_val (q_look (kenc := I) (venc := encN) (f := mp) (k := ((l.getD s2 default).work : Int)) (v := .tuple #[.agg #[I (((mp ((l.getD s2 default).work : Int)).getD default).work), I (((mp ((l.getD s2 default).work : Int)).getD default).version), I (((mp ((l.getD s2 default).work : Int)).getD default).value)], B ((mp ((l.getD s2 default).work : Int)).isSome)]) keyInt Try.underlying133 Al30 rfl rfl (H.get (k := 1) rfl) true (by rw [if_pos rfl, note_val])) <| sM (.tuple #[.agg #[I (((mp ((l.getD s2 default).work : Int)).getD default).work), I (((mp ((l.getD s2 default).work : Int)).getD default).version), I (((mp ((l.getD s2 default).work : Int)).getD default).value)], B ((mp ((l.getD s2 default).work : Int)).isSome)]) rfl <| sX [.agg #[I (((mp ((l.getD s2 default).work : Int)).getD default).work), I (((mp ((l.getD s2 default).work : Int)).getD default).version), I (((mp ((l.getD s2 default).work : Int)).getD default).value)], B ((mp ((l.getD s2 default).work : Int)).isSome)] (.agg #[I (((mp ((l.getD s2 default).work : Int)).getD default).work), I (((mp ((l.getD s2 default).work : Int)).getD default).version), I (((mp ((l.getD s2 default).work : Int)).getD default).value)]) rfl rfl <| sX [.agg #[I (((mp ((l.getD s2 default).work : Int)).getD default).work), I (((mp ((l.getD s2 default).work : Int)).getD default).version), I (((mp ((l.getD s2 default).work : Int)).getD default).value)], B ((mp ((l.getD s2 default).work : Int)).isSome)] (B ((mp ((l.getD s2 default).work : Int)).isSome)) rfl rfl ?_
  refine t_alloc (cs := [I 0, I 0, I 0]) H Al30 rfl ?_
  intro aQ cM H
  refine t_st (k := 0) (b := aQ) (off := 0) (cs := [I 0, I 0, I 0]) (vs := [I (((mp ((l.getD s2 default).work : Int)).getD default).work), I (((mp ((l.getD s2 default).work : Int)).getD default).version), I (((mp ((l.getD s2 default).work : Int)).getD default).value)]) (cs' := [I (((mp ((l.getD s2 default).work : Int)).getD default).work), I (((mp ((l.getD s2 default).work : Int)).getD default).version), I (((mp ((l.getD s2 default).work : Int)).getD default).value)]) (v := .agg #[I (((mp ((l.getD s2 default).work : Int)).getD default).work), I (((mp ((l.getD s2 default).work : Int)).getD default).version), I (((mp ((l.getD s2 default).work : Int)).getD default).value)]) (L' := [cBlk aQ [I (((mp ((l.getD s2 default).work : Int)).getD default).work), I (((mp ((l.getD s2 default).work : Int)).getD default).version), I (((mp ((l.getD s2 default).work : Int)).getD default).value)] 30, cBlk al [I ((l.getD s2 default).work), I ((l.getD s2 default).version), I ((l.getD s2 default).value)] 30, cMap I encN ae mp, cRo ag, cBlk ac [aa] 22]) H rfl rfl rfl Sz30 rfl rfl rfl rfl rfl rfl ?_
  intro cN H
  refine sA (B ((mp ((l.getD s2 default).work : Int)).isSome)) rfl <| s_nil <| sQ rfl <| sM (B ((mp ((l.getD s2 default).work : Int)).isSome)) rfl <| s_val (x_not (b := (mp ((l.getD s2 default).work : Int)).isSome) rfl) <| sM (B (!((mp ((l.getD s2 default).work : Int)).isSome))) rfl <| g_val (!(!((mp ((l.getD s2 default).work : Int)).isSome))) (gy_f rfl) (fun hg => x_fa (v := Oz al 1) rfl (fa_blk (o := 0) Fd30_1 Sz3)) <| g_val (!(!((mp ((l.getD s2 default).work : Int)).isSome))) (gy_f rfl) (fun hg => x_ld (v := I ((l.getD s2 default).version)) (gd_of hg (Oz al 1)) (ldb_sc Sc3 (H.blk (k := 1) rfl) rfl)) <| g_val (!(!((mp ((l.getD s2 default).work : Int)).isSome))) (gy_f rfl) (fun hg => x_fa (v := Oz aQ 1) rfl (fa_blk (o := 0) Fd30_1 Sz3)) <| g_val (!(!((mp ((l.getD s2 default).work : Int)).isSome))) (gy_f rfl) (fun hg => x_ld (v := I (((mp ((l.getD s2 default).work : Int)).getD default).version)) (gd_of hg (Oz aQ 1)) (ldb_sc Sc3 (H.blk (k := 0) rfl) rfl)) <| g_val (!(!((mp ((l.getD s2 default).work : Int)).isSome))) (gy_f rfl) (fun hg => x_cmp (kd := .i64) (r := decide ((((mp ((l.getD s2 default).work : Int)).getD default).version) < ((l.getD s2 default).version))) (gd_of hg (I ((l.getD s2 default).version))) (gd_of hg (I (((mp ((l.getD s2 default).work : Int)).getD default).version))) rfl) ?_
  refine s_val (x_por (b := !((mp ((l.getD s2 default).work : Int)).isSome)) (r := decide ((((mp ((l.getD s2 default).work : Int)).getD default).version) < ((l.getD s2 default).version))) rfl rfl (fun hb => gd_of (c := !(!((mp ((l.getD s2 default).work : Int)).isSome))) (by first | exact hb | (rw [hb]; rfl) | simp_all) (B (decide ((((mp ((l.getD s2 default).work : Int)).getD default).version) < ((l.getD s2 default).version)))))) <| s_nil ?_
  refine W.cond ((!((mp ((l.getD s2 default).work : Int)).isSome)) || (decide ((((mp ((l.getD s2 default).work : Int)).getD default).version) < ((l.getD s2 default).version)))) rfl (fun bh => ?_) (fun bh => ?_)
  ·replace hM := M.e_t hM bh
   refine W.region rfl <| sM (.map (some ae)) rfl <| s_val (x_fa (v := Pz al) rfl (fa_blk (o := 0) Fd30_0 Sz3)) <| s_val (x_ld (v := I ((l.getD s2 default).work)) rfl (ldb_sc Sc3 (H.blk (k := 1) rfl) rfl)) <| s_val (x_ld (v := .agg #[I ((l.getD s2 default).work), I ((l.getD s2 default).version), I ((l.getD s2 default).value)]) rfl (ldb_ag (ds := [I ((l.getD s2 default).work), I ((l.getD s2 default).version), I ((l.getD s2 default).value)]) Ag30 Sz30 (H.blk (k := 1) rfl) rfl rfl)) ?_
   refine t_mapu (i := 2) (kenc := I) (venc := encN) (f := mp) (k := ((l.getD s2 default).work : Int)) (v := (l.getD s2 default)) (L' := [cBlk aQ [I (((mp ((l.getD s2 default).work : Int)).getD default).work), I (((mp ((l.getD s2 default).work : Int)).getD default).version), I (((mp ((l.getD s2 default).work : Int)).getD default).value)] 30, cBlk al [I ((l.getD s2 default).work), I ((l.getD s2 default).version), I ((l.getD s2 default).value)] 30, cMap I encN ae (updF mp ((l.getD s2 default).work : Int) (l.getD s2 default)), cRo ag, cBlk ac [aa] 22]) keyInt Try.underlying133 H rfl rfl rfl rfl rfl ?_
   intro cO H
   refine s_nil <| W.region rfl <| sR _ _ ((s2 : Int) + 1) rfl rfl rfl (by omega) <| sM (I ((s2 : Int) + 1)) rfl <| s_nil ?_
   exact ⟨bD, bE, updF mp ((l.getD s2 default).work : Int) (l.getD s2 default), s2 + 1, _, upds_of _ _ ⟨rfl, rfl, rfl, rfl, rfl, rfl, rfl, trivial⟩, M.e_inl hM aY, (H.pick [2, 3, 4] (by decide) rfl)⟩
  replace hM := M.e_f hM bh
  refine W.skip <| W.region rfl <| sR _ _ ((s2 : Int) + 1) rfl rfl rfl (by omega) <| sM (I ((s2 : Int) + 1)) rfl <| s_nil ?_
  exact ⟨bD, bE, mp, s2 + 1, _, upds_of _ _ ⟨rfl, rfl, rfl, rfl, rfl, rfl, rfl, trivial⟩, M.e_inl hM aY, (H.pick [2, 3, 4] (by decide) rfl)⟩
 replace hM := M.e_f hM aO
 simp only [qz1, qz2, qz3, qz4, qz5, qz6, ne_eq, qz7] at aO
 refine W.exit ?_
 have b9 := M.e_inr hM aY
 subst b9
 replace hM := bB
 try dsimp only at hM
 refine sQ rfl ?_
 refine t_bs (α := Int) T34 [I (-1)] [(-1 : Int)] H rfl (.cons rfl (Flat.rep_enc _ (-1 : Int)) <| .nil) rfl rfl rfl ?_
 intro aw cP H
 refine s_val (x_ld (v := aa) rfl (ldb_sc Sc22 (H.blk (k := 3) rfl) rfl)) ?_
 have cQ := (ah).len_le
 refine s_val (x_lenS T22.und rfl ah) ?_
 obtain ⟨cR, hM⟩ := M.e_gd hM
 refine s_call cf86 [aw, I (w_.length : Int)] rfl (repeat_int _ ((ownSl (H.get (k := 0) rfl)).mono (ownLe _ (H.get (k := 0) rfl))) (by omega) (by omega)) ?_
 rintro aB ca ⟨bH, ai⟩
 replace H : St w ca [cOwn (α := Int) 3 aB (List.replicate (w_.length) (-1 : Int)), cOwn (α := Int) 3 aw ([(-1 : Int)]), cMap I encN ae mp, cRo ag, cBlk ac [aa] 22] R := H.ownOf ai bH
 clear ai bH
 refine t_alloc (cs := [.slice none 0 0]) H Al34 rfl ?_
 intro aj cS H
 refine t_st (k := 0) (b := aj) (off := 0) (cs := [.slice none 0 0]) (vs := [aB]) (cs' := [aB]) (v := aB) (L' := [cBlk aj [aB] 34, cOwn (α := Int) 3 aB (List.replicate (w_.length) (-1 : Int)), cOwn (α := Int) 3 aw ([(-1 : Int)]), cMap I encN ae mp, cRo ag, cBlk ac [aa] 22]) H rfl rfl rfl Sz34 (Sl.cells (ownSl (H.get (k := 1) rfl))) rfl rfl (by simp only [List.all_cons, List.all_nil, Bool.true_and, Bool.and_true, Sl.oc (ownSl (H.get (k := 1) rfl))]; try rfl) rfl rfl ?_
 intro cT H
 refine s_nil <| W.seq <| sQ rfl <| sM ao rfl ?_
 have cU := (aA).len_le
 refine s_val (x_lenS T34.und rfl aA) <| sM (I 0) rfl <| s_nil <| W.block ?_
 obtain ⟨cb, bi, cc⟩ := M.e_bind hM
 obtain ⟨bb, bi⟩ := M.e_iter bi
 refine W.loop (fun m σ W => ∃ (l3 : List Int) (s4 : Nat) (am : Value) (ρ : Env), σ = upds ρ [(2, Pz ac), (9, .map (some ae)), (16, Pz aj), (106, ao), (107, I ((orderP w_).length : Int)), (108, I (s4 : Int))] /\ M.iterN (zb5 w_ mp) m (l3, s4) = some cb /\ St w W [cBlk aj [am] 34, cOwn (α := Int) 3 am l3, cOwn (α := Int) 3 aw ([(-1 : Int)]), cMap I encN ae mp, cRo ag, cBlk ac [aa] 22] R) ?_ ?_
 ·exact ⟨_, List.replicate (w_.length) (-1 : Int), 0, aB, _, upds_of _ _ ⟨rfl, rfl, rfl, rfl, rfl, rfl, trivial⟩, bi, H⟩
 rintro cV σ cW ⟨l3, s4, am, ρ, rfl, bI, H⟩
 obtain ⟨bJ, bK, cd, hM, bj⟩ := M.e_iterN bI
 simp only [zb5] at hM
 clear bI
 refine sQ rfl <| sC _ _ (decide ((s4 : Int) < ((orderP w_).length : Int))) rfl rfl rfl <| s_nil <| W.seq ?_
 refine W.cond (decide ((s4 : Int) < ((orderP w_).length : Int))) rfl (fun aR => ?_) (fun aR => ?_)
 ·replace hM := M.e_t hM aR
  simp only [qz1, qz2, qz3, qz4, qz5, qz6, ne_eq, qz7] at aR
  refine W.skip <| W.seq <| W.block <| sQ rfl ?_
  obtain ⟨cX, hM⟩ := M.e_gd hM
  refine s_val (x_ix (v := vat ao 1 (Int.toNat (s4 : Int))) rfl rfl (Sl.ix (α := Int) T34.und T34.size aA (by omega) (by omega))) <| s_val (x_ld (v := I ((orderP w_).getD s4 0)) rfl (ld_sc Sc3 (At.mono (Int_at aA (i := (s4 : Int)) (by omega) (by omega)) (roLe _ (H.get (k := 4) rfl))))) <| sA (I ((orderP w_).getD s4 0)) rfl <| s_nil ?_
  refine W.seqJ (fun σ W => ∃ (l2 : List Int) (aq : Value) (ρ : Env), σ = upds ρ [(2, Pz ac), (9, .map (some ae)), (16, Pz aj), (18, I ((orderP w_).getD s4 0)), (106, ao), (107, I ((orderP w_).length : Int)), (108, I (s4 : Int))] /\ (zbL w_ s4 l2).Ends cd /\ St w W [cBlk aj [aq] 34, cOwn (α := Int) 3 aq l2, cOwn (α := Int) 3 aw ([(-1 : Int)]), cMap I encN ae mp, cRo ag, cBlk ac [aa] 22] R) ?_ ?_
  ·skip
   refine sQ rfl <| sM (.map (some ae)) rfl <| sM (I ((orderP w_).getD s4 0)) rfl <| s_val (q_look (kenc := I) (venc := encN) (f := mp) (k := ((orderP w_).getD s4 0 : Int)) (v := .tuple #[.agg #[I (((mp ((orderP w_).getD s4 0 : Int)).getD default).work), I (((mp ((orderP w_).getD s4 0 : Int)).getD default).version), I (((mp ((orderP w_).getD s4 0 : Int)).getD default).value)], B ((mp ((orderP w_).getD s4 0 : Int)).isSome)]) keyInt Try.underlying133 Al30 rfl rfl (H.get (k := 3) rfl) true (by rw [if_pos rfl, note_val])) <| sM (.tuple #[.agg #[I (((mp ((orderP w_).getD s4 0 : Int)).getD default).work), I (((mp ((orderP w_).getD s4 0 : Int)).getD default).version), I (((mp ((orderP w_).getD s4 0 : Int)).getD default).value)], B ((mp ((orderP w_).getD s4 0 : Int)).isSome)]) rfl <| sX [.agg #[I (((mp ((orderP w_).getD s4 0 : Int)).getD default).work), I (((mp ((orderP w_).getD s4 0 : Int)).getD default).version), I (((mp ((orderP w_).getD s4 0 : Int)).getD default).value)], B ((mp ((orderP w_).getD s4 0 : Int)).isSome)] (.agg #[I (((mp ((orderP w_).getD s4 0 : Int)).getD default).work), I (((mp ((orderP w_).getD s4 0 : Int)).getD default).version), I (((mp ((orderP w_).getD s4 0 : Int)).getD default).value)]) rfl rfl <| sX [.agg #[I (((mp ((orderP w_).getD s4 0 : Int)).getD default).work), I (((mp ((orderP w_).getD s4 0 : Int)).getD default).version), I (((mp ((orderP w_).getD s4 0 : Int)).getD default).value)], B ((mp ((orderP w_).getD s4 0 : Int)).isSome)] (B ((mp ((orderP w_).getD s4 0 : Int)).isSome)) rfl rfl ?_
   refine t_alloc (cs := [I 0, I 0, I 0]) H Al30 rfl ?_
   intro a5 cY H
   refine t_st (k := 0) (b := a5) (off := 0) (cs := [I 0, I 0, I 0]) (vs := [I (((mp ((orderP w_).getD s4 0 : Int)).getD default).work), I (((mp ((orderP w_).getD s4 0 : Int)).getD default).version), I (((mp ((orderP w_).getD s4 0 : Int)).getD default).value)]) (cs' := [I (((mp ((orderP w_).getD s4 0 : Int)).getD default).work), I (((mp ((orderP w_).getD s4 0 : Int)).getD default).version), I (((mp ((orderP w_).getD s4 0 : Int)).getD default).value)]) (v := .agg #[I (((mp ((orderP w_).getD s4 0 : Int)).getD default).work), I (((mp ((orderP w_).getD s4 0 : Int)).getD default).version), I (((mp ((orderP w_).getD s4 0 : Int)).getD default).value)]) (L' := [cBlk a5 [I (((mp ((orderP w_).getD s4 0 : Int)).getD default).work), I (((mp ((orderP w_).getD s4 0 : Int)).getD default).version), I (((mp ((orderP w_).getD s4 0 : Int)).getD default).value)] 30, cBlk aj [am] 34, cOwn (α := Int) 3 am l3, cOwn (α := Int) 3 aw ([(-1 : Int)]), cMap I encN ae mp, cRo ag, cBlk ac [aa] 22]) H rfl rfl rfl Sz30 rfl rfl rfl rfl rfl rfl ?_
   intro cZ H
   refine sA (B ((mp ((orderP w_).getD s4 0 : Int)).isSome)) rfl <| s_nil <| sQ rfl <| sM (B ((mp ((orderP w_).getD s4 0 : Int)).isSome)) rfl <| s_nil ?_
   refine W.cond ((mp ((orderP w_).getD s4 0 : Int)).isSome) rfl (fun bk => ?_) (fun bk => ?_)
   ·replace hM := M.e_t hM bk
    refine W.region rfl <| s_val (x_ld (v := am) rfl (ldb_sc Sc34 (H.blk (k := 1) rfl) rfl)) <| sM (I ((orderP w_).getD s4 0)) rfl <| s_val (x_fa (v := Oz a5 2) rfl (fa_blk (o := 0) Fd30_2 Sz3)) <| s_val (x_ld (v := I (((mp ((orderP w_).getD s4 0 : Int)).getD default).value)) rfl (ldb_sc Sc3 (H.blk (k := 0) rfl) rfl)) ?_
    obtain ⟨da, hM⟩ := M.e_gd hM
    refine s_val (x_ix (v := vat am 1 (Int.toNat ((orderP w_).getD s4 0))) rfl rfl (Sl.ix (α := Int) T34.und T34.size (ownSl (H.get (k := 2) rfl)) (by omega) (by omega))) ?_
    refine t_ost (k := 2) (i := (orderP w_).getD s4 0) (l := l3) (l' := l3.set (Int.toNat ((orderP w_).getD s4 0)) (((mp ((orderP w_).getD s4 0 : Int)).getD default).value : Int)) (val := I (((mp ((orderP w_).getD s4 0 : Int)).getD default).value)) (L' := [cBlk a5 [I (((mp ((orderP w_).getD s4 0 : Int)).getD default).work), I (((mp ((orderP w_).getD s4 0 : Int)).getD default).version), I (((mp ((orderP w_).getD s4 0 : Int)).getD default).value)] 30, cBlk aj [am] 34, cOwn (α := Int) 3 am (l3.set (Int.toNat ((orderP w_).getD s4 0)) (((mp ((orderP w_).getD s4 0 : Int)).getD default).value : Int)), cOwn (α := Int) 3 aw ([(-1 : Int)]), cMap I encN ae mp, cRo ag, cBlk ac [aa] 22]) H rfl Sz3 (by omega) (by omega) (((mp ((orderP w_).getD s4 0 : Int)).getD default).value : Int) rfl rfl rfl rfl rfl ?_
    intro db H
    refine s_nil ?_
    exact ⟨l3.set (Int.toNat ((orderP w_).getD s4 0)) (((mp ((orderP w_).getD s4 0 : Int)).getD default).value : Int), am, _, upds_of _ _ ⟨rfl, rfl, rfl, rfl, rfl, rfl, rfl, trivial⟩, hM, (H.pick [1, 2, 3, 4, 5, 6] (by decide) rfl)⟩
   replace hM := M.e_f hM bk
   refine W.skip ?_
   exact ⟨l3, am, _, upds_of _ _ ⟨rfl, rfl, rfl, rfl, rfl, rfl, rfl, trivial⟩, hM, (H.pick [1, 2, 3, 4, 5, 6] (by decide) rfl)⟩
  rintro _ dc ⟨l2, aq, ρ, rfl, hM, H⟩
  unfold zbL at hM
  refine W.seq <| sQ rfl <| s_val (x_ld (v := aa) rfl (ldb_sc Sc22 (H.blk (k := 5) rfl) rfl)) <| sM (I ((orderP w_).getD s4 0)) rfl ?_
  obtain ⟨dd, hM⟩ := M.e_gd hM
  refine s_val (x_ix (v := vat aa 3 (Int.toNat ((orderP w_).getD s4 0))) rfl rfl (Sl.ix (α := Work) T22.und T22.size ah (by omega) (by omega))) <| s_val (x_fa (v := fat (vat aa 3 (Int.toNat ((orderP w_).getD s4 0))) 0) rfl (fa_pl Fd60_0 Sz34 (Sl.pl (i := (orderP w_).getD s4 0) ah (by omega) (by omega)))) ?_
  obtain ⟨bL, ce, aS⟩ := Work_at0 ah (i := (orderP w_).getD s4 0) (by omega) (by omega)
  replace aS : Sl _ bL (w_.getD (Int.toNat ((orderP w_).getD s4 0)) default).of := aS
  have de := aS.len_le
  refine s_val (x_ld (v := bL) rfl (ld_sc Sc34 (At.mono (ce) (ax.at H)))) ?_
  have dg := (aS).len_le
  refine s_val (x_lenS T34.und rfl aS) <| sC _ _ ((((w_.getD (Int.toNat ((orderP w_).getD s4 0)) default).of).length : Int) == 0) rfl rfl rfl <| sM (B ((((w_.getD (Int.toNat ((orderP w_).getD s4 0)) default).of).length : Int) == 0)) rfl <| g_val (!((((w_.getD (Int.toNat ((orderP w_).getD s4 0)) default).of).length : Int) == 0)) (gy_f rfl) (fun hg => x_mf (fs := []) (cs := [Pz aj]) rfl rfl) <| g_val (!((((w_.getD (Int.toNat ((orderP w_).getD s4 0)) default).of).length : Int) == 0)) (gy_f rfl) (fun hg => x_ld (v := aa) rfl (ldb_sc Sc22 (H.blk (k := 5) rfl) rfl)) <| g_val (!((((w_.getD (Int.toNat ((orderP w_).getD s4 0)) default).of).length : Int) == 0)) (gy_f rfl) (fun hg => x_mv (v := I ((orderP w_).getD s4 0)) rfl) <| g_val (!((((w_.getD (Int.toNat ((orderP w_).getD s4 0)) default).of).length : Int) == 0)) (gy_f rfl) (fun hg => x_ix (v := vat aa 3 (Int.toNat ((orderP w_).getD s4 0))) (gd_of hg (aa)) (gd_of hg (I ((orderP w_).getD s4 0))) (Sl.ix (α := Work) T22.und T22.size ah (by first | omega | (have ai := hg; simp at ai; omega)) (by first | omega | (have ai := hg; simp at ai; omega)))) <| g_val (!((((w_.getD (Int.toNat ((orderP w_).getD s4 0)) default).of).length : Int) == 0)) (gy_f rfl) (fun hg => x_fa (v := fat (vat aa 3 (Int.toNat ((orderP w_).getD s4 0))) 0) (gd_of hg (vat aa 3 (Int.toNat ((orderP w_).getD s4 0)))) (fa_pl Fd60_0 Sz34 (Sl.pl (i := (orderP w_).getD s4 0) ah (by first | omega | (have ai := hg; simp at ai; omega)) (by first | omega | (have ai := hg; simp at ai; omega))))) ?_
  obtain ⟨aT, cf, bl⟩ := gd_ex (c := !((((w_.getD (Int.toNat ((orderP w_).getD s4 0)) default).of).length : Int) == 0)) fun hg => Work_at0 ah (i := (orderP w_).getD s4 0) (by first | omega | (have ai := hg; simp at ai; omega)) (by first | omega | (have ai := hg; simp at ai; omega))
  replace bl : (!((((w_.getD (Int.toNat ((orderP w_).getD s4 0)) default).of).length : Int) == 0)) = true -> Sl _ aT (w_.getD (Int.toNat ((orderP w_).getD s4 0)) default).of := bl
  refine g_val (!((((w_.getD (Int.toNat ((orderP w_).getD s4 0)) default).of).length : Int) == 0)) (gy_f rfl) (fun hg => x_ld (v := aT) (gd_of hg (fat (vat aa 3 (Int.toNat ((orderP w_).getD s4 0))) 0)) (ld_sc Sc34 (At.mono (cf hg) (ax.at H)))) ?_
  obtain ⟨r4, cg, hM⟩ := M.e_bind hM
  refine t_gcall (!((((w_.getD (Int.toNat ((orderP w_).getD s4 0)) default).of).length : Int) == 0)) (gy_f rfl) cf87 (B r4) (fun _ => [.func (.func 88) #[] #[Pz aj], aT]) (fun hg => lst2 (gd_of hg (.func (.func 88) #[] #[Pz aj])) (gd_of hg (aT))) H (fun hg => (zcp (fun au => zbT au l2) ((w_.getD (Int.toNat ((orderP w_).getD s4 0)) default).of) ⟨88, [Pz aj], rfl, cf88, fun az bt bu aH au bv aI bw aJ aK => by obtain rfl := Arg.int aJ; exact (zdA au l2 (Reads.app (Reads.of (k := 1) rfl ownLe) _) (ownSl (H.get (k := 1) rfl)) (Has.app (Has.here (k := 0) rfl) _) aK az (St.refl aI)).mono fun aH az ⟨bx, aL, aM, aN⟩ => by subst aL; exact ⟨aM, aN⟩⟩ (ax.app _) (bl hg) (M.e_opt cg hg) _ (H.give (A := []) rfl)).mono fun v_ w_ ⟨y_, ap, ci, H_⟩ => by subst ap; exact ⟨ci, H.via H_⟩) ?_
  intro dh H
  refine g_val (!((((w_.getD (Int.toNat ((orderP w_).getD s4 0)) default).of).length : Int) == 0)) (gy_f rfl) (fun hg => x_not (b := r4) (gd_of hg (B r4))) <| s_val (x_por (b := (((w_.getD (Int.toNat ((orderP w_).getD s4 0)) default).of).length : Int) == 0) (r := !r4) rfl rfl (fun hb => gd_of (c := !((((w_.getD (Int.toNat ((orderP w_).getD s4 0)) default).of).length : Int) == 0)) (by first | exact hb | (rw [hb]; rfl) | simp_all) (B (!r4)))) <| s_nil ?_
  refine W.cond (((((w_.getD (Int.toNat ((orderP w_).getD s4 0)) default).of).length : Int) == 0) || (!r4)) rfl (fun bm => ?_) (fun bm => ?_)
  ·replace hM := M.e_t hM bm
   refine W.exit ?_
   refine W.region rfl <| sR _ _ ((s4 : Int) + 1) rfl rfl rfl (by omega) <| sM (I ((s4 : Int) + 1)) rfl <| s_nil ?_
   exact ⟨bJ, bK, l2, s4 + 1, aq, _, upds_of _ _ ⟨rfl, rfl, rfl, rfl, rfl, rfl, trivial⟩, M.e_inl hM bj, H⟩
  replace hM := M.e_f hM bm
  refine W.skip <| sQ rfl <| s_val (x_ld (v := aa) rfl (ldb_sc Sc22 (H.blk (k := 5) rfl) rfl)) <| sM (I ((orderP w_).getD s4 0)) rfl <| s_val (x_ix (v := vat aa 3 (Int.toNat ((orderP w_).getD s4 0))) rfl rfl (Sl.ix (α := Work) T22.und T22.size ah (by omega) (by omega))) <| s_val (x_fa (v := fat (vat aa 3 (Int.toNat ((orderP w_).getD s4 0))) 1) rfl (fa_pl Fd60_1 Sz3 (Sl.pl (i := (orderP w_).getD s4 0) ah (by omega) (by omega)))) <| s_val (x_ld (v := I ((w_.getD (Int.toNat ((orderP w_).getD s4 0)) default).base)) rfl (ld_sc Sc3 (At.mono (Work_at1 ah (i := (orderP w_).getD s4 0) (by omega) (by omega)) (ax.at H)))) <| sA (I ((w_.getD (Int.toNat ((orderP w_).getD s4 0)) default).base)) rfl <| s_nil <| W.seq <| W.seq ?_
  refine W.region rfl <| s_val (x_ld (v := aa) rfl (ldb_sc Sc22 (H.blk (k := 5) rfl) rfl)) <| sM (I ((orderP w_).getD s4 0)) rfl <| s_val (x_ix (v := vat aa 3 (Int.toNat ((orderP w_).getD s4 0))) rfl rfl (Sl.ix (α := Work) T22.und T22.size ah (by omega) (by omega))) <| s_val (x_fa (v := fat (vat aa 3 (Int.toNat ((orderP w_).getD s4 0))) 0) rfl (fa_pl Fd60_0 Sz34 (Sl.pl (i := (orderP w_).getD s4 0) ah (by omega) (by omega)))) ?_
  obtain ⟨a6, cj, aC⟩ := Work_at0 ah (i := (orderP w_).getD s4 0) (by omega) (by omega)
  replace aC : Sl _ a6 (w_.getD (Int.toNat ((orderP w_).getD s4 0)) default).of := aC
  have di := aC.len_le
  refine s_val (x_ld (v := a6) rfl (ld_sc Sc34 (At.mono (cj) (ax.at H)))) ?_
  have dj := (aC).len_le
  refine s_val (x_lenS T34.und rfl aC) <| sM (I 0) rfl <| s_nil <| W.block ?_
  obtain ⟨ck, bn, cm⟩ := M.e_bind hM
  obtain ⟨bb, bn⟩ := M.e_iter bn
  refine W.loop (fun m σ W => ∃ (sum : Int) (s3 : Nat) (ρ : Env), σ = upds ρ [(2, Pz ac), (9, .map (some ae)), (16, Pz aj), (18, I ((orderP w_).getD s4 0)), (21, I sum), (106, ao), (107, I ((orderP w_).length : Int)), (108, I (s4 : Int)), (132, gd (!((((w_.getD (Int.toNat ((orderP w_).getD s4 0)) default).of).length : Int) == 0)) (.func (.func 88) #[] #[Pz aj])), (133, gd (!((((w_.getD (Int.toNat ((orderP w_).getD s4 0)) default).of).length : Int) == 0)) aa), (134, gd (!((((w_.getD (Int.toNat ((orderP w_).getD s4 0)) default).of).length : Int) == 0)) (I ((orderP w_).getD s4 0))), (135, gd (!((((w_.getD (Int.toNat ((orderP w_).getD s4 0)) default).of).length : Int) == 0)) (vat aa 3 (Int.toNat ((orderP w_).getD s4 0)))), (136, gd (!((((w_.getD (Int.toNat ((orderP w_).getD s4 0)) default).of).length : Int) == 0)) (fat (vat aa 3 (Int.toNat ((orderP w_).getD s4 0))) 0)), (137, gd (!((((w_.getD (Int.toNat ((orderP w_).getD s4 0)) default).of).length : Int) == 0)) aT), (138, gd (!((((w_.getD (Int.toNat ((orderP w_).getD s4 0)) default).of).length : Int) == 0)) (B r4)), (139, gd (!((((w_.getD (Int.toNat ((orderP w_).getD s4 0)) default).of).length : Int) == 0)) (B (!r4))), (150, a6), (151, I (((w_.getD (Int.toNat ((orderP w_).getD s4 0)) default).of).length : Int)), (152, I (s3 : Int))] /\ M.iterN (zbX w_ s4 l2) m (sum, s3) = some ck /\ St w W [cBlk aj [aq] 34, cOwn (α := Int) 3 aq l2, cOwn (α := Int) 3 aw ([(-1 : Int)]), cMap I encN ae mp, cRo ag, cBlk ac [aa] 22] R) ?_ ?_
  ·exact ⟨_, (w_.getD (Int.toNat ((orderP w_).getD s4 0)) default).base, 0, _, upds_of _ _ ⟨rfl, rfl, rfl, rfl, rfl, rfl, rfl, rfl, rfl, rfl, rfl, rfl, rfl, rfl, rfl, rfl, rfl, rfl, rfl, trivial⟩, bn, H⟩
  rintro dk σ dl ⟨sum, s3, ρ, rfl, bM, H⟩
  obtain ⟨cn, co, dm, hM, bN⟩ := M.e_iterN bM
  simp only [zbX] at hM
  clear bM
  refine sQ rfl <| sC _ _ (decide ((s3 : Int) < (((w_.getD (Int.toNat ((orderP w_).getD s4 0)) default).of).length : Int))) rfl rfl rfl <| s_nil <| W.seq ?_
  refine W.cond (decide ((s3 : Int) < (((w_.getD (Int.toNat ((orderP w_).getD s4 0)) default).of).length : Int))) rfl (fun aU => ?_) (fun aU => ?_)
  ·replace hM := M.e_t hM aU
   simp only [qz1, qz2, qz3, qz4, qz5, qz6, ne_eq, qz7] at aU
   refine W.skip <| W.seq <| W.block <| sQ rfl <| sM (I (s3 : Int)) rfl ?_
   obtain ⟨dp, hM⟩ := M.e_gd hM
   refine s_val (x_ix (v := vat a6 1 (Int.toNat (s3 : Int))) rfl rfl (Sl.ix (α := Int) T34.und T34.size aC (by omega) (by omega))) <| s_val (x_ld (v := I (((w_.getD (Int.toNat ((orderP w_).getD s4 0)) default).of).getD s3 0)) rfl (ld_sc Sc3 (At.mono (Int_at aC (i := (s3 : Int)) (by omega) (by omega)) (ax.at H)))) <| sA (I (s3 : Int)) rfl <| sA (I (((w_.getD (Int.toNat ((orderP w_).getD s4 0)) default).of).getD s3 0)) rfl <| s_nil <| W.region rfl <| sM (I sum) rfl <| sM (I (s3 : Int)) rfl <| sR _ _ ((s3 : Int) + 1) rfl rfl rfl (by omega) <| s_val (x_ld (v := aq) rfl (ldb_sc Sc34 (H.blk (k := 0) rfl) rfl)) <| sM (I (((w_.getD (Int.toNat ((orderP w_).getD s4 0)) default).of).getD s3 0)) rfl ?_
   obtain ⟨dq, hM⟩ := M.e_gd hM
   refine s_val (x_ix (v := vat aq 1 (Int.toNat (((w_.getD (Int.toNat ((orderP w_).getD s4 0)) default).of).getD s3 0))) rfl rfl (Sl.ix (α := Int) T34.und T34.size (ownSl (H.get (k := 1) rfl)) (by omega) (by omega))) <| s_val (x_ld (v := I (l2.getD (Int.toNat (((w_.getD (Int.toNat ((orderP w_).getD s4 0)) default).of).getD s3 0)) 0)) rfl (ld_sc Sc3 (At.mono (Int_at (ownSl (H.get (k := 1) rfl)) (i := ((w_.getD (Int.toNat ((orderP w_).getD s4 0)) default).of).getD s3 0) (by omega) (by omega)) (ownLe _ (H.get (k := 1) rfl))))) ?_
   obtain ⟨dr, hM⟩ := M.e_gd hM
   refine sR _ _ (((s3 : Int) + 1) * (l2.getD (Int.toNat (((w_.getD (Int.toNat ((orderP w_).getD s4 0)) default).of).getD s3 0)) 0)) rfl rfl rfl (by omega) ?_
   obtain ⟨dt, hM⟩ := M.e_gd hM
   refine sR _ _ (sum + (((s3 : Int) + 1) * (l2.getD (Int.toNat (((w_.getD (Int.toNat ((orderP w_).getD s4 0)) default).of).getD s3 0)) 0))) rfl rfl rfl (by omega) <| sA (I (sum + (((s3 : Int) + 1) * (l2.getD (Int.toNat (((w_.getD (Int.toNat ((orderP w_).getD s4 0)) default).of).getD s3 0)) 0)))) rfl <| s_nil <| W.region rfl <| sR _ _ ((s3 : Int) + 1) rfl rfl rfl (by omega) <| sM (I ((s3 : Int) + 1)) rfl <| s_nil ?_
   exact ⟨cn, co, sum + (((s3 : Int) + 1) * (l2.getD (Int.toNat (((w_.getD (Int.toNat ((orderP w_).getD s4 0)) default).of).getD s3 0)) 0)), s3 + 1, _, upds_of _ _ ⟨rfl, rfl, rfl, rfl, rfl, rfl, rfl, rfl, rfl, rfl, rfl, rfl, rfl, rfl, rfl, rfl, rfl, rfl, rfl, trivial⟩, M.e_inl hM bN, H⟩
  replace hM := M.e_f hM aU
  simp only [qz1, qz2, qz3, qz4, qz5, qz6, ne_eq, qz7] at aU
  refine W.exit ?_
  have cp := M.e_inr hM bN
  subst cp
  replace hM := cm
  try dsimp only at hM
  refine W.region rfl <| s_val (x_ld (v := aq) rfl (ldb_sc Sc34 (H.blk (k := 0) rfl) rfl)) <| sM (I ((orderP w_).getD s4 0)) rfl <| sM (I sum) rfl ?_
  obtain ⟨du, hM⟩ := M.e_gd hM
  refine s_val (x_rem' (a := sum) (b := 1000003) rfl rfl (by omega)) ?_
  obtain ⟨dv, hM⟩ := M.e_gd hM
  refine s_val (x_ix (v := vat aq 1 (Int.toNat ((orderP w_).getD s4 0))) rfl rfl (Sl.ix (α := Int) T34.und T34.size (ownSl (H.get (k := 1) rfl)) (by omega) (by omega))) ?_
  refine t_ost (k := 1) (i := (orderP w_).getD s4 0) (l := l2) (l' := l2.set (Int.toNat ((orderP w_).getD s4 0)) (sum % 1000003 : Int)) (val := I (sum % 1000003)) (L' := [cBlk aj [aq] 34, cOwn (α := Int) 3 aq (l2.set (Int.toNat ((orderP w_).getD s4 0)) (sum % 1000003 : Int)), cOwn (α := Int) 3 aw ([(-1 : Int)]), cMap I encN ae mp, cRo ag, cBlk ac [aa] 22]) H rfl Sz3 (by omega) (by omega) (sum % 1000003 : Int) rfl rfl rfl rfl rfl ?_
  intro dw H
  refine s_nil <| W.region rfl <| sR _ _ ((s4 : Int) + 1) rfl rfl rfl (by omega) <| sM (I ((s4 : Int) + 1)) rfl <| s_nil ?_
  exact ⟨bJ, bK, l2.set (Int.toNat ((orderP w_).getD s4 0)) (sum % 1000003 : Int), s4 + 1, aq, _, upds_of _ _ ⟨rfl, rfl, rfl, rfl, rfl, rfl, trivial⟩, M.e_inl hM bj, H⟩
 replace hM := M.e_f hM aR
 simp only [qz1, qz2, qz3, qz4, qz5, qz6, ne_eq, qz7] at aR
 refine W.exit ?_
 have cq := M.e_inr hM bj
 subst cq
 replace hM := cc
 try dsimp only at hM
 refine sQ rfl <| s_val (x_ld (v := am) rfl (ldb_sc Sc34 (H.blk (k := 0) rfl) rfl)) <| sA am rfl <| sA (I 0) rfl <| s_nil ?_
 refine W.ret ?_
 have ap := M.e_pure hM
 exact ⟨_, resE_tmp2 rfl, ⟨l3, 0, am, ap, rfl, (H.pick [1] (by decide) rfl)⟩⟩

def zb1 (w_ : List Work) (order : List Int) (s2 : Nat) (l : List Int) : (Int × Nat) -> M ((Int × Nat) ⊕ Int) := fun (begin, s) =>
  bif decide ((s : Int) < (((w_.getD (Int.toNat (order.getD s2 0)) default).of).length : Int)) then (
  M.grd (decide ((s : Int) < (((w_.getD (Int.toNat (order.getD s2 0)) default).of).length : Int))) <|
  M.grd (decide ((0 : Int) <= (((w_.getD (Int.toNat (order.getD s2 0)) default).of).getD s 0)) && decide ((((w_.getD (Int.toNat (order.getD s2 0)) default).of).getD s 0) < (l.length : Int))) <|
  M.pure (.inl (max begin (l.getD (Int.toNat (((w_.getD (Int.toNat (order.getD s2 0)) default).of).getD s 0)) 0), s + 1)))
  else (
  M.pure (.inr begin))
def zcm (w_ : List Work) (order : List Int) (stale : List Bool) : (Nat × (List Int)) -> M ((Nat × (List Int)) ⊕ ((List Int) × (List Int))) := fun (s2, l) =>
  bif decide ((s2 : Int) < (order.length : Int)) then (
  M.grd (decide ((s2 : Int) < (order.length : Int))) <|
  M.grd (decide ((0 : Int) <= (order.getD s2 0)) && decide ((order.getD s2 0) < (30 : Int))) <|
  bif !(stale.getD (Int.toNat (order.getD s2 0)) false) then (
  M.pure (.inl (s2 + 1, l)))
  else (
  M.grd (decide ((0 : Int) <= (order.getD s2 0)) && decide ((order.getD s2 0) < (w_.length : Int))) <|
  M.bind (M.iter (zb1 w_ order s2 l) (0, 0)) fun begin2 =>
  M.grd (decide ((-9223372036854775808 : Int) <= (begin2 + ((w_.getD (Int.toNat (order.getD s2 0)) default).minutes))) && decide ((begin2 + ((w_.getD (Int.toNat (order.getD s2 0)) default).minutes)) <= (9223372036854775807 : Int))) <|
  M.grd (decide ((0 : Int) <= (order.getD s2 0)) && decide ((order.getD s2 0) < (l.length : Int))) <|
  M.pure (.inl (s2 + 1, l.set (Int.toNat (order.getD s2 0)) (begin2 + ((w_.getD (Int.toNat (order.getD s2 0)) default).minutes) : Int)))))
  else (
  M.pure (.inr (l, l)))
def zcC (w_ : List Work) (order : List Int) (stale : List Bool) : M (List Int) :=
  M.grd (decide (1 <= (w_.length : Int)) && decide ((w_.length : Int) <= 1000)) <|
  M.bind (M.iter (zcm w_ order stale) (0, List.replicate (w_.length) (-1 : Int))) fun (l2, l3) =>
  M.pure l3
theorem zdD {R : List Chunk} {ay : Cells} {ac : Value} {az : Cells} {ai : Value} (w_ : List Work) (order : List Int) (stale : List Bool) (ap : Reads R ay) (ae : Sl ay ac w_) (aH : Reads R az) (am : Sl az ai order) (aI : stale.length = 30) {r : (List Int)} (hM : (zcC w_ order stale).Ends r) (w : World) (H : St w w [] R) : Ret Try.prog 99 #[ac, ai, .agg (encB stale).toArray] w fun v w' => ∃ (y0 : List Int) (u0 : Value), y0 = r /\ v = u0 /\ St w w' [cOwn (α := Int) 3 u0 y0] R := by
 refine ret_of_W Try.func99 rfl rfl rfl ?_
 refine sQ rfl ?_
 refine t_box (v := .agg (encB stale).toArray) (cs := encB stale) H rfl rfl ?_
 intro ag aV H
 refine sA (.slice none 0 0) rfl <| s_nil <| sQ rfl ?_
 refine t_bs (α := Int) T34 [I (-1)] [(-1 : Int)] H rfl (.cons rfl (Flat.rep_enc _ (-1 : Int)) <| .nil) rfl rfl rfl ?_
 intro aj aW H
 refine sM ac rfl ?_
 have aX := (ae).len_le
 refine s_val (x_lenS T22.und rfl ae) ?_
 obtain ⟨aY, hM⟩ := M.e_gd hM
 refine s_call cf86 [aj, I (w_.length : Int)] rfl (repeat_int _ ((ownSl (H.get (k := 0) rfl)).mono (ownLe _ (H.get (k := 0) rfl))) (by omega) (by omega)) ?_
 rintro aq aJ ⟨aA, aB⟩
 replace H : St w aJ [cOwn (α := Int) 3 aq (List.replicate (w_.length) (-1 : Int)), cOwn (α := Int) 3 aj ([(-1 : Int)]), cBlk ag (encB stale) 141] R := H.ownOf aB aA
 clear aB aA
 refine sA aq rfl <| s_nil <| W.seq <| sQ rfl <| sM ai rfl ?_
 have aZ := (am).len_le
 refine s_val (x_lenS T34.und rfl am) <| sM (I 0) rfl <| s_nil <| W.block ?_
 obtain ⟨aK, au, aL⟩ := M.e_bind hM
 obtain ⟨aM, au⟩ := M.e_iter au
 refine W.loop (fun m σ W => ∃ (s2 : Nat) (l : List Int) (aa : Value) (ρ : Env), σ = upds ρ [(0, ac), (5, Pz ag), (7, aa), (17, ai), (18, I (order.length : Int)), (19, I (s2 : Int))] /\ M.iterN (zcm w_ order stale) m (s2, l) = some aK /\ St w W [cOwn (α := Int) 3 aa l, cOwn (α := Int) 3 aj ([(-1 : Int)]), cBlk ag (encB stale) 141] R) ?_ ?_
 ·exact ⟨_, 0, List.replicate (w_.length) (-1 : Int), aq, _, upds_of _ _ ⟨rfl, rfl, rfl, rfl, rfl, rfl, trivial⟩, au, H⟩
 rintro a5 σ a6 ⟨s2, l, aa, ρ, rfl, aC, H⟩
 obtain ⟨aD, aE, a7, hM, av⟩ := M.e_iterN aC
 simp only [zcm] at hM
 clear aC
 refine sQ rfl <| sC _ _ (decide ((s2 : Int) < (order.length : Int))) rfl rfl rfl <| s_nil <| W.seq ?_
 refine W.cond (decide ((s2 : Int) < (order.length : Int))) rfl (fun ak => ?_) (fun ak => ?_)
 ·replace hM := M.e_t hM ak
  simp only [qz1, qz2, qz3, qz4, qz5, qz6, ne_eq, qz7] at ak
  refine W.skip <| W.seq <| W.block <| sQ rfl ?_
  obtain ⟨a8, hM⟩ := M.e_gd hM
  refine s_val (x_ix (v := vat ai 1 (Int.toNat (s2 : Int))) rfl rfl (Sl.ix (α := Int) T34.und T34.size am (by omega) (by omega))) <| s_val (x_ld (v := I (order.getD s2 0)) rfl (ld_sc Sc3 (At.mono (Int_at am (i := (s2 : Int)) (by omega) (by omega)) (aH.at H)))) <| sA (I (order.getD s2 0)) rfl <| s_nil <| W.seq <| sQ rfl <| sM (I (order.getD s2 0)) rfl ?_
  obtain ⟨a9, hM⟩ := M.e_gd hM
  refine s_val (x_ix (v := .pointer (some ⟨ag, 0 + Int.toNat (order.getD s2 0), none⟩)) rfl rfl (run_indexArr Try.underlying141 Sz4 (by omega) (by omega))) <| s_val (x_ld (v := B (stale.getD (Int.toNat (order.getD s2 0)) false)) rfl (ldArr Sc4 (H.blk (k := 2) rfl) (by omega) (by have ba := aI; omega))) <| s_val (x_not (b := stale.getD (Int.toNat (order.getD s2 0)) false) rfl) <| s_nil ?_
  refine W.cond (!(stale.getD (Int.toNat (order.getD s2 0)) false)) rfl (fun aw => ?_) (fun aw => ?_)
  ·replace hM := M.e_t hM aw
   refine W.exit ?_
   refine W.region rfl <| sR _ _ ((s2 : Int) + 1) rfl rfl rfl (by omega) <| sM (I ((s2 : Int) + 1)) rfl <| s_nil ?_
   exact ⟨aD, aE, s2 + 1, l, aa, _, upds_of _ _ ⟨rfl, rfl, rfl, rfl, rfl, rfl, trivial⟩, M.e_inl hM av, H⟩
  replace hM := M.e_f hM aw
  refine W.skip <| sQ rfl <| sA (I 0) rfl <| s_nil <| W.seq <| sQ rfl <| sM ac rfl <| sM (I (order.getD s2 0)) rfl ?_
  obtain ⟨bb, hM⟩ := M.e_gd hM
  refine s_val (x_ix (v := vat ac 3 (Int.toNat (order.getD s2 0))) rfl rfl (Sl.ix (α := Work) T22.und T22.size ae (by omega) (by omega))) <| s_val (x_fa (v := fat (vat ac 3 (Int.toNat (order.getD s2 0))) 0) rfl (fa_pl Fd60_0 Sz34 (Sl.pl (i := order.getD s2 0) ae (by omega) (by omega)))) ?_
  obtain ⟨ao, aN, ah⟩ := Work_at0 ae (i := order.getD s2 0) (by omega) (by omega)
  replace ah : Sl _ ao (w_.getD (Int.toNat (order.getD s2 0)) default).of := ah
  have bc := ah.len_le
  refine s_val (x_ld (v := ao) rfl (ld_sc Sc34 (At.mono (aN) (ap.at H)))) ?_
  have bf := (ah).len_le
  refine s_val (x_lenS T34.und rfl ah) <| sM (I 0) rfl <| s_nil <| W.block ?_
  obtain ⟨aO, ax, aP⟩ := M.e_bind hM
  obtain ⟨aM, ax⟩ := M.e_iter ax
  refine W.loop (fun m σ W => ∃ (begin : Int) (s : Nat) (ρ : Env), σ = upds ρ [(0, ac), (5, Pz ag), (7, aa), (9, I (order.getD s2 0)), (10, I begin), (17, ai), (18, I (order.length : Int)), (19, I (s2 : Int)), (31, ao), (32, I (((w_.getD (Int.toNat (order.getD s2 0)) default).of).length : Int)), (33, I (s : Int))] /\ M.iterN (zb1 w_ order s2 l) m (begin, s) = some aO /\ St w W [cOwn (α := Int) 3 aa l, cOwn (α := Int) 3 aj ([(-1 : Int)]), cBlk ag (encB stale) 141] R) ?_ ?_
  ·exact ⟨_, 0, 0, _, upds_of _ _ ⟨rfl, rfl, rfl, rfl, rfl, rfl, rfl, rfl, rfl, rfl, rfl, trivial⟩, ax, H⟩
  rintro bg σ bh ⟨begin, s, ρ, rfl, aF, H⟩
  obtain ⟨aQ, aR, bi, hM, aG⟩ := M.e_iterN aF
  simp only [zb1] at hM
  clear aF
  refine sQ rfl <| sC _ _ (decide ((s : Int) < (((w_.getD (Int.toNat (order.getD s2 0)) default).of).length : Int))) rfl rfl rfl <| s_nil <| W.seq ?_
  refine W.cond (decide ((s : Int) < (((w_.getD (Int.toNat (order.getD s2 0)) default).of).length : Int))) rfl (fun al => ?_) (fun al => ?_)
  ·replace hM := M.e_t hM al
   simp only [qz1, qz2, qz3, qz4, qz5, qz6, ne_eq, qz7] at al
   refine W.skip <| W.seq <| W.block <| sQ rfl ?_
   obtain ⟨bj, hM⟩ := M.e_gd hM
   refine s_val (x_ix (v := vat ao 1 (Int.toNat (s : Int))) rfl rfl (Sl.ix (α := Int) T34.und T34.size ah (by omega) (by omega))) <| s_val (x_ld (v := I (((w_.getD (Int.toNat (order.getD s2 0)) default).of).getD s 0)) rfl (ld_sc Sc3 (At.mono (Int_at ah (i := (s : Int)) (by omega) (by omega)) (ap.at H)))) <| sA (I (((w_.getD (Int.toNat (order.getD s2 0)) default).of).getD s 0)) rfl <| s_nil <| W.region rfl <| sM (I begin) rfl <| sM aa rfl <| sM (I (((w_.getD (Int.toNat (order.getD s2 0)) default).of).getD s 0)) rfl ?_
   obtain ⟨bk, hM⟩ := M.e_gd hM
   refine s_val (x_ix (v := vat aa 1 (Int.toNat (((w_.getD (Int.toNat (order.getD s2 0)) default).of).getD s 0))) rfl rfl (Sl.ix (α := Int) T34.und T34.size (ownSl (H.get (k := 0) rfl)) (by omega) (by omega))) <| s_val (x_ld (v := I (l.getD (Int.toNat (((w_.getD (Int.toNat (order.getD s2 0)) default).of).getD s 0)) 0)) rfl (ld_sc Sc3 (At.mono (Int_at (ownSl (H.get (k := 0) rfl)) (i := ((w_.getD (Int.toNat (order.getD s2 0)) default).of).getD s 0) (by omega) (by omega)) (ownLe _ (H.get (k := 0) rfl))))) <| s_val (x_max (kd := .i64) (a := begin) (b := l.getD (Int.toNat (((w_.getD (Int.toNat (order.getD s2 0)) default).of).getD s 0)) 0) rfl rfl) <| sA (I (max begin (l.getD (Int.toNat (((w_.getD (Int.toNat (order.getD s2 0)) default).of).getD s 0)) 0))) rfl <| s_nil <| W.region rfl <| sR _ _ ((s : Int) + 1) rfl rfl rfl (by omega) <| sM (I ((s : Int) + 1)) rfl <| s_nil ?_
   exact ⟨aQ, aR, max begin (l.getD (Int.toNat (((w_.getD (Int.toNat (order.getD s2 0)) default).of).getD s 0)) 0), s + 1, _, upds_of _ _ ⟨rfl, rfl, rfl, rfl, rfl, rfl, rfl, rfl, rfl, rfl, rfl, trivial⟩, M.e_inl hM aG, H⟩
  replace hM := M.e_f hM al
  simp only [qz1, qz2, qz3, qz4, qz5, qz6, ne_eq, qz7] at al
  refine W.exit ?_
  have aS := M.e_inr hM aG
  subst aS
  replace hM := aP
  try dsimp only at hM
  refine W.region rfl <| sM aa rfl <| sM (I (order.getD s2 0)) rfl <| sM (I begin) rfl <| sM ac rfl <| sM (I (order.getD s2 0)) rfl <| s_val (x_ix (v := vat ac 3 (Int.toNat (order.getD s2 0))) rfl rfl (Sl.ix (α := Work) T22.und T22.size ae (by omega) (by omega))) <| s_val (x_fa (v := fat (vat ac 3 (Int.toNat (order.getD s2 0))) 2) rfl (fa_pl Fd60_2 Sz3 (Sl.pl (i := order.getD s2 0) ae (by omega) (by omega)))) <| s_val (x_ld (v := I ((w_.getD (Int.toNat (order.getD s2 0)) default).minutes)) rfl (ld_sc Sc3 (At.mono (Work_at2 ae (i := order.getD s2 0) (by omega) (by omega)) (ap.at H)))) ?_
  obtain ⟨bl, hM⟩ := M.e_gd hM
  refine sR _ _ (begin + ((w_.getD (Int.toNat (order.getD s2 0)) default).minutes)) rfl rfl rfl (by omega) ?_
  obtain ⟨bm, hM⟩ := M.e_gd hM
  refine s_val (x_ix (v := vat aa 1 (Int.toNat (order.getD s2 0))) rfl rfl (Sl.ix (α := Int) T34.und T34.size (ownSl (H.get (k := 0) rfl)) (by omega) (by omega))) ?_
  refine t_ost (k := 0) (i := order.getD s2 0) (l := l) (l' := l.set (Int.toNat (order.getD s2 0)) (begin + ((w_.getD (Int.toNat (order.getD s2 0)) default).minutes) : Int)) (val := I (begin + ((w_.getD (Int.toNat (order.getD s2 0)) default).minutes))) (L' := [cOwn (α := Int) 3 aa (l.set (Int.toNat (order.getD s2 0)) (begin + ((w_.getD (Int.toNat (order.getD s2 0)) default).minutes) : Int)), cOwn (α := Int) 3 aj ([(-1 : Int)]), cBlk ag (encB stale) 141]) H rfl Sz3 (by omega) (by omega) (begin + ((w_.getD (Int.toNat (order.getD s2 0)) default).minutes) : Int) rfl rfl rfl rfl rfl ?_
  intro bn H
  refine s_nil <| W.region rfl <| sR _ _ ((s2 : Int) + 1) rfl rfl rfl (by omega) <| sM (I ((s2 : Int) + 1)) rfl <| s_nil ?_
  exact ⟨aD, aE, s2 + 1, l.set (Int.toNat (order.getD s2 0)) (begin + ((w_.getD (Int.toNat (order.getD s2 0)) default).minutes) : Int), aa, _, upds_of _ _ ⟨rfl, rfl, rfl, rfl, rfl, rfl, trivial⟩, M.e_inl hM av, H⟩
 replace hM := M.e_f hM ak
 simp only [qz1, qz2, qz3, qz4, qz5, qz6, ne_eq, qz7] at ak
 refine W.exit ?_
 have aT := M.e_inr hM av
 subst aT
 replace hM := aL
 try dsimp only at hM
 refine sQ rfl <| sM aa rfl <| sA aa rfl <| s_nil ?_
 refine W.ret ?_
 have aU := M.e_pure hM
 exact ⟨_, resE_tmp rfl, ⟨l, aa, aU, rfl, (H.pick [0] (by decide) rfl)⟩⟩

def zb8 (x : List Int) : (Int × Nat) -> M ((Int × Nat) ⊕ Int) := fun (m2, i) =>
  bif decide ((i : Int) < (x.length : Int)) then (
  M.grd (decide ((i : Int) < (x.length : Int))) <|
  M.pure (.inl (max m2 (x.getD i 0), i + 1)))
  else (
  M.pure (.inr m2))
def zcF (x : List Int) : M Int :=
  bif decide ((x.length : Int) < 1) then (
  M.fail)
  else (
  M.grd (decide (0 < (x.length : Int))) <|
  M.bind (M.iter (zb8 x) (x.getD 0 0, 1)) fun m3 =>
  M.pure m3)
theorem zcN {R : List Chunk} {ai : Cells} {aa : Value} (x : List Int) (aj : Reads R ai) (ac : Sl ai aa x) {r : Int} (hM : (zcF x).Ends r) (w : World) (H : St w w [] R) : Ret Try.prog 101 #[aa] w fun v w' => ∃ (y0 : Int), y0 = r /\ v = I y0 /\ St w w' [] R := by
 refine ret_of_W Try.func101 rfl rfl rfl ?_
 refine sQ rfl <| sA (I 0) rfl <| s_nil <| W.seq <| sQ rfl <| sM aa rfl ?_
 have aw := (ac).len_le
 refine s_val (x_lenS T34.und rfl ac) <| sC _ _ (decide ((x.length : Int) < 1)) rfl rfl rfl <| s_nil ?_
 refine W.cond (decide ((x.length : Int) < 1)) rfl (fun ae => ?_) (fun ae => ?_)
 ·replace hM := M.e_t hM ae
  simp only [qz1, qz2, qz3, qz4, qz5, qz6, ne_eq, qz7] at ae
  refine W.region rfl ?_
  exact (M.e_fail hM).elim
 replace hM := M.e_f hM ae
 simp only [qz1, qz2, qz3, qz4, qz5, qz6, ne_eq, qz7] at ae
 refine W.skip <| sQ rfl <| sM aa rfl ?_
 obtain ⟨ax, hM⟩ := M.e_gd hM
 refine s_val (x_ix (v := vat aa 1 (Int.toNat 0)) rfl rfl (Sl.ix (α := Int) T34.und T34.size ac (by omega) (by omega))) <| s_val (x_ld (v := I (x.getD 0 0)) rfl (ld_sc Sc3 (At.mono (Int_at ac (i := 0) (by omega) (by omega)) (aj.at H)))) <| sA (I (x.getD 0 0)) rfl <| s_nil <| W.seq <| sQ rfl <| sA (I 1) rfl <| s_nil <| W.block ?_
 obtain ⟨am, ah, ao⟩ := M.e_bind hM
 obtain ⟨ay, ah⟩ := M.e_iter ah
 refine W.loop (fun m σ W => ∃ (m2 : Int) (i : Nat) (ρ : Env), σ = upds ρ [(0, aa), (3, I m2), (4, I (i : Int))] /\ M.iterN (zb8 x) m (m2, i) = some am /\ St w W [] R) ?_ ?_
 ·exact ⟨_, x.getD 0 0, 1, _, upds_of _ _ ⟨rfl, rfl, rfl, trivial⟩, ah, H⟩
 rintro az σ aA ⟨m2, i, ρ, rfl, ak, H⟩
 obtain ⟨ap, aq, aB, hM, al⟩ := M.e_iterN ak
 simp only [zb8] at hM
 clear ak
 refine W.seq <| sQ rfl <| sM (I (i : Int)) rfl <| sM aa rfl ?_
 have aC := (ac).len_le
 refine s_val (x_lenS T34.und rfl ac) <| sC _ _ (decide ((i : Int) < (x.length : Int))) rfl rfl rfl <| s_nil ?_
 refine W.cond (decide ((i : Int) < (x.length : Int))) rfl (fun ag => ?_) (fun ag => ?_)
 ·replace hM := M.e_t hM ag
  simp only [qz1, qz2, qz3, qz4, qz5, qz6, ne_eq, qz7] at ag
  refine W.skip <| W.seq <| W.block <| W.region rfl <| sM (I m2) rfl <| sM aa rfl <| sM (I (i : Int)) rfl ?_
  obtain ⟨aD, hM⟩ := M.e_gd hM
  refine s_val (x_ix (v := vat aa 1 (Int.toNat (i : Int))) rfl rfl (Sl.ix (α := Int) T34.und T34.size ac (by omega) (by omega))) <| s_val (x_ld (v := I (x.getD i 0)) rfl (ld_sc Sc3 (At.mono (Int_at ac (i := (i : Int)) (by omega) (by omega)) (aj.at H)))) <| s_val (x_max (kd := .i64) (a := m2) (b := x.getD i 0) rfl rfl) <| sA (I (max m2 (x.getD i 0))) rfl <| s_nil <| W.region rfl <| sM (I (i : Int)) rfl <| sR _ _ ((i : Int) + 1) rfl rfl rfl (by omega) <| sA (I ((i : Int) + 1)) rfl <| s_nil ?_
  exact ⟨ap, aq, max m2 (x.getD i 0), i + 1, _, upds_of _ _ ⟨rfl, rfl, rfl, trivial⟩, M.e_inl hM al, H⟩
 replace hM := M.e_f hM ag
 simp only [qz1, qz2, qz3, qz4, qz5, qz6, ne_eq, qz7] at ag
 refine W.exit ?_
 have au := M.e_inr hM al
 subst au
 replace hM := ao
 try dsimp only at hM
 refine sQ rfl <| sM (I m2) rfl <| sA (I m2) rfl <| s_nil ?_
 refine W.ret ?_
 have av := M.e_pure hM
 exact ⟨_, resE_tmp rfl, ⟨m2, av, rfl, H⟩⟩

def zbu (k : Int) (ac : List Int) (aa : Int) (ae : List Work) : M Bool :=
  M.grd (decide ((0 : Int) <= k) && decide (k < (ac.length : Int))) <|
  M.grd (decide ((0 : Int) <= aa) && decide (aa < (ac.length : Int))) <|
  M.grd (decide ((0 : Int) <= aa) && decide (aa < (ae.length : Int))) <|
  M.grd (decide ((-9223372036854775808 : Int) <= ((ac.getD (Int.toNat aa) 0) - ((ae.getD (Int.toNat aa) default).minutes))) && decide (((ac.getD (Int.toNat aa) 0) - ((ae.getD (Int.toNat aa) default).minutes)) <= (9223372036854775807 : Int))) <|
  M.pure ((ac.getD (Int.toNat k) 0) == ((ac.getD (Int.toNat aa) 0) - ((ae.getD (Int.toNat aa) default).minutes)))
theorem zcf {R : List Chunk} {ak : Nat} {al : Cells} {ag : Value} {am : Nat} {ao : Nat} {ap : Cells} {ah : Value} (k : Int) (ac : List Int) (aa : Int) (ae : List Work) (aq : Reads R al) (ai : Sl al ag ac) (au : Has R (cBlk ak [ag] 34)) (av : Has R (cBlk am [I aa] 3)) (ax : Reads R ap) (aj : Sl ap ah ae) (ay : Has R (cBlk ao [ah] 22)) {r : Bool} (hM : (zbu k ac aa ae).Ends r) (w : World) (H : St w w [] R) : Ret Try.prog 103 #[I k, Pz ak, Pz am, Pz ao] w fun v w' => ∃ (y0 : Bool), y0 = r /\ v = B y0 /\ St w w' [] R := by
 refine ret_of_W Try.func103 rfl rfl rfl ?_
 refine sQ rfl <| sA (B false) rfl <| s_nil <| W.seq ?_
 refine W.draw (fun W => St w W [] R) [(0, true), (1, true), (2, true), (3, true), (4, true), (5, true), (6, true), (7, true), (8, true), (9, true), (10, true), (11, true), (12, true), (13, true), (14, true), (15, true)] mixed (by decide +kernel) rfl ?_
 intro az aw
 replace H : St w az [] R := H.ext aw
 clear aw
 refine ⟨(H.pick [] (by decide) rfl), ?_⟩
 refine d_q rfl (fun w' H => x_ld (v := ag) rfl (ldb_sc Sc34 (au.blk H) rfl)) ?_
 refine d_q rfl (fun w' H => x_mv (v := I k) rfl) ?_
 obtain ⟨aB, hM⟩ := M.e_gd hM
 refine d_q rfl (fun w' H => x_ix (v := vat ag 1 (Int.toNat k)) rfl rfl (Sl.ix (α := Int) T34.und T34.size ai (by omega) (by omega))) ?_
 refine d_q rfl (fun w' H => x_ld (v := I (ac.getD (Int.toNat k) 0)) rfl (ld_sc Sc3 (At.mono (Int_at ai (i := k) (by omega) (by omega)) (aq.at H)))) ?_
 refine d_q rfl (fun w' H => x_ld (v := ag) rfl (ldb_sc Sc34 (au.blk H) rfl)) ?_
 refine d_q rfl (fun w' H => x_ld (v := I aa) rfl (ldb_sc Sc3 (av.blk H) rfl)) ?_
 obtain ⟨aC, hM⟩ := M.e_gd hM
 refine d_q rfl (fun w' H => x_ix (v := vat ag 1 (Int.toNat aa)) rfl rfl (Sl.ix (α := Int) T34.und T34.size ai (by omega) (by omega))) ?_
 refine d_q rfl (fun w' H => x_ld (v := I (ac.getD (Int.toNat aa) 0)) rfl (ld_sc Sc3 (At.mono (Int_at ai (i := aa) (by omega) (by omega)) (aq.at H)))) ?_
 refine d_q rfl (fun w' H => x_ld (v := ah) rfl (ldb_sc Sc22 (ay.blk H) rfl)) ?_
 refine d_q rfl (fun w' H => x_ld (v := I aa) rfl (ldb_sc Sc3 (av.blk H) rfl)) ?_
 obtain ⟨aD, hM⟩ := M.e_gd hM
 refine d_q rfl (fun w' H => x_ix (v := vat ah 3 (Int.toNat aa)) rfl rfl (Sl.ix (α := Work) T22.und T22.size aj (by omega) (by omega))) ?_
 refine d_q rfl (fun w' H => x_fa (v := fat (vat ah 3 (Int.toNat aa)) 2) rfl (fa_pl Fd60_2 Sz3 (Sl.pl (i := aa) aj (by omega) (by omega)))) ?_
 refine d_q rfl (fun w' H => x_ld (v := I ((ae.getD (Int.toNat aa) default).minutes)) rfl (ld_sc Sc3 (At.mono (Work_at2 aj (i := aa) (by omega) (by omega)) (ax.at H)))) ?_
 obtain ⟨aE, hM⟩ := M.e_gd hM
 refine d_q rfl (fun w' H => x_ari (r := (ac.getD (Int.toNat aa) 0) - ((ae.getD (Int.toNat aa) default).minutes)) rfl rfl rfl (by omega)) ?_
 refine d_q rfl (fun w' H => x_cmp (kd := .i64) (r := (ac.getD (Int.toNat k) 0) == ((ac.getD (Int.toNat aa) 0) - ((ae.getD (Int.toNat aa) default).minutes))) rfl rfl rfl) ?_
 refine d_q rfl (fun w' H => x_as (v := B ((ac.getD (Int.toNat k) 0) == ((ac.getD (Int.toNat aa) 0) - ((ae.getD (Int.toNat aa) default).minutes)))) rfl) ?_
 refine d_nil ?_
 refine W.ret ?_
 have aA := M.e_pure hM
 exact ⟨_, resE_tmp rfl, ⟨((ac.getD (Int.toNat k) 0) == ((ac.getD (Int.toNat aa) 0) - ((ae.getD (Int.toNat aa) default).minutes))), aA, rfl, H⟩⟩

def zaB (w_ : List Work) (r2 : List Int) : (Int × (List Int)) -> M ((Int × (List Int)) ⊕ ((List Int) × (List Int) × Int)) := fun (s, l) =>
  M.grd (decide ((0 : Int) <= s) && decide (s < (r2.length : Int))) <|
  M.grd (decide ((0 : Int) <= s) && decide (s < (w_.length : Int))) <|
  bif decide (((w_.getD (Int.toNat s) default).minutes) < (r2.getD (Int.toNat s) 0)) then (
  M.bind (zav ((w_.getD (Int.toNat s) default).of) (fun aa => zbu aa r2 s w_)) fun r4 =>
  M.grd (decide ((0 : Int) <= r4) && decide (r4 < (((w_.getD (Int.toNat s) default).of).length : Int))) <|
  M.grd (decide ((l.length + ([(((w_.getD (Int.toNat s) default).of).getD (Int.toNat r4) 0 : Int)]).length) * 8 <= 140737488355328)) <|
  M.pure (.inl (((w_.getD (Int.toNat s) default).of).getD (Int.toNat r4) 0, l ++ ([(((w_.getD (Int.toNat s) default).of).getD (Int.toNat r4) 0 : Int)]))))
  else (
  M.pure (.inr (l, l, s)))
def zcR (w_ : List Work) (revised : List Int) : M ((List Int) × Int) :=
  bif (askedE w_ revised == 0) then (
  bif (revised.length : Int) == 0 then (
  M.pure (([]), 5))
  else (
  M.bind (zcC w_ (orderP w_) (staleL w_ revised)) fun r2 =>
  M.bind (zcF r2) fun r3 =>
  M.bind (M.iter (zaB w_ r2) (idxI r2 r3, [(idxI r2 r3 : Int)])) fun (l2, l3, s2) =>
  M.pure (l3.reverse, 0)))
  else (
  bif (askedE w_ revised) != 0 then (
  M.pure (([]), (askedE w_ revised)))
  else (
  M.fail))
theorem zc4 {R : List Chunk} {bg : Cells} {ac : Value} {bh : Cells} {aA : Value} (w_ : List Work) (revised : List Int) (ao : Reads R bg) (al : Sl bg ac w_) (bF : Reads R bh) (aU : Sl bh aA revised) {r : ((List Int) × Int)} (hM : (zcR w_ revised).Ends r) (w : World) (H : St w w [] R) : Ret Try.prog 38 #[ac, aA] w fun v w' => ∃ (y0 : List Int) (y1 : Int) (u0 : Value), (y0, y1) = r /\ v = .tuple #[u0, I y1] /\ St w w' [cOwn (α := Int) 3 u0 y0] R := by
 refine ret_of_W Try.func38 rfl rfl rfl ?_
 refine sQ rfl ?_
 refine t_box (v := ac) (cs := [ac]) H rfl (Sl.cells al) ?_
 intro ae cJ H
 refine sA (.slice none 0 0) rfl <| sA (I 0) rfl <| s_nil <| sQ rfl <| s_val (x_ld (v := ac) rfl (ldb_sc Sc22 (H.blk (k := 0) rfl) rfl)) <| sM aA rfl ?_
 refine s_call cf92 [ac, aA] rfl (asked_any _ (al.mono (ao.at H)) (aU.mono (bF.at H))) ?_
 rintro _ bi (⟨aV, rfl, am⟩ | ⟨aV, az, au, rfl, bj, aP⟩)
 ·replace hM := M.e_f hM (by simpa using aV)
  replace H : St w bi [cBlk ae [ac] 22] R := H.ext am
  clear am
  refine sM (.tuple #[.pointer none, .slice none 0 0, .agg (encB (List.replicate 30 false)).toArray, I (askedE w_ revised)]) rfl <| sX [.pointer none, .slice none 0 0, .agg (encB (List.replicate 30 false)).toArray, I (askedE w_ revised)] (.pointer none) rfl rfl <| sX [.pointer none, .slice none 0 0, .agg (encB (List.replicate 30 false)).toArray, I (askedE w_ revised)] (.slice none 0 0) rfl rfl <| sX [.pointer none, .slice none 0 0, .agg (encB (List.replicate 30 false)).toArray, I (askedE w_ revised)] (.agg (encB (List.replicate 30 false)).toArray) rfl rfl <| sX [.pointer none, .slice none 0 0, .agg (encB (List.replicate 30 false)).toArray, I (askedE w_ revised)] (I (askedE w_ revised)) rfl rfl ?_
  refine t_alloc (cs := encB (List.replicate 30 false)) H Al141 rfl ?_
  intro aj cK H
  have aW : (List.replicate 30 false).length = 30 := by simp
  refine sA (.pointer none) rfl <| sA (.slice none 0 0) rfl ?_
  refine t_stArrA (k := 0) (b := aj) (l := List.replicate 30 false) (l' := List.replicate 30 false) (L' := [cBlk aj (encB (List.replicate 30 false)) 141, cBlk ae [ac] 22]) H rfl rfl rfl Sz141 aW (List.length_replicate) rfl ?_
  intro bG H
  refine sA (I (askedE w_ revised)) rfl <| s_nil <| W.seq <| W.block <| sQ rfl <| sM (I (askedE w_ revised)) rfl <| sC _ _ ((askedE w_ revised) != 0) rfl rfl rfl <| sA (B ((askedE w_ revised) != 0)) rfl <| s_nil ?_
  refine W.cond ((askedE w_ revised) != 0) rfl (fun aQ => ?_) (fun aQ => ?_)
  ·replace hM := M.e_t hM aQ
   simp only [qz1, qz2, qz3, qz4, qz5, qz6, ne_eq, qz7] at aQ
   refine sQ rfl <| sM (I (askedE w_ revised)) rfl <| sA (.slice none 0 0) rfl <| sA (I (askedE w_ revised)) rfl <| s_nil ?_
   refine W.ret ?_
   have av := M.e_pure hM
   replace H : St w bG [cOwn (α := Int) 3 (.slice none 0 0) ([]), cBlk aj (encB (List.replicate 30 false)) 141, cBlk ae [ac] 22] R := H.nilOwn (α := Int) 3
   exact ⟨_, resE_tmp2 rfl, ⟨([]), (askedE w_ revised), (.slice none 0 0), av, rfl, (H.pick [0] (by decide) rfl)⟩⟩
  replace hM := M.e_f hM aQ
  exact (M.e_fail hM).elim
 replace hM := M.e_t hM (by simpa using aV)
 obtain ⟨ak, ap, aP, cL⟩ := H.freshNB bj aP
 replace H : St w bi [cRo ak, cBlk ae [ac] 22] R := ap
 clear ap bj
 have cM := aP.len_le
 refine sM (.tuple #[Pz az, au, .agg (encB (staleL w_ revised)).toArray, I 0]) rfl <| sX [Pz az, au, .agg (encB (staleL w_ revised)).toArray, I 0] (Pz az) rfl rfl <| sX [Pz az, au, .agg (encB (staleL w_ revised)).toArray, I 0] au rfl rfl <| sX [Pz az, au, .agg (encB (staleL w_ revised)).toArray, I 0] (.agg (encB (staleL w_ revised)).toArray) rfl rfl <| sX [Pz az, au, .agg (encB (staleL w_ revised)).toArray, I 0] (I 0) rfl rfl ?_
 refine t_alloc (cs := encB (List.replicate 30 false)) H Al141 rfl ?_
 intro aj cN H
 have aW : (List.replicate 30 false).length = 30 := by simp
 refine sA (Pz az) rfl <| sA au rfl ?_
 refine t_stArrA (k := 0) (b := aj) (l := List.replicate 30 false) (l' := staleL w_ revised) (L' := [cBlk aj (encB (staleL w_ revised)) 141, cRo ak, cBlk ae [ac] 22]) H rfl rfl rfl Sz141 aW (staleL_len _ _) rfl ?_
 intro bH H
 refine sA (I 0) rfl <| s_nil <| W.seq <| W.block <| sQ rfl <| sM (I 0) rfl <| sC _ _ ((0 : Int) != 0) rfl rfl rfl <| sA (B ((0 : Int) != 0)) rfl <| s_nil ?_
 refine W.cond ((0 : Int) != 0) rfl (fun bk => ?_) (fun bk => ?_)
 ·skip
  exact absurd bk (by decide)
 skip
 refine sQ rfl <| sM aA rfl ?_
 have cO := (aU).len_le
 refine s_val (x_lenS T34.und rfl aU) <| sC _ _ ((revised.length : Int) == 0) rfl rfl rfl <| sA (B ((revised.length : Int) == 0)) rfl <| s_nil ?_
 refine W.cond ((revised.length : Int) == 0) rfl (fun aB => ?_) (fun aB => ?_)
 ·replace hM := M.e_t hM aB
  simp only [qz1, qz2, qz3, qz4, qz5, qz6, ne_eq, qz7] at aB
  refine sQ rfl <| sA (.slice none 0 0) rfl <| sA (I 5) rfl <| s_nil ?_
  refine W.ret ?_
  have av := M.e_pure hM
  replace H : St w bH [cOwn (α := Int) 3 (.slice none 0 0) ([]), cBlk aj (encB (staleL w_ revised)) 141, cRo ak, cBlk ae [ac] 22] R := H.nilOwn (α := Int) 3
  exact ⟨_, resE_tmp2 rfl, ⟨([]), 5, (.slice none 0 0), av, rfl, (H.pick [0] (by decide) rfl)⟩⟩
 replace hM := M.e_f hM aB
 simp only [qz1, qz2, qz3, qz4, qz5, qz6, ne_eq, qz7] at aB
 refine W.skip <| sQ rfl <| s_val (x_ld (v := ac) rfl (ldb_sc Sc22 (H.blk (k := 2) rfl) rfl)) <| sM au rfl <| s_val (x_ld (v := .agg (encB (staleL w_ revised)).toArray) rfl (ldArrA Ag141 Sz141 (staleL_len _ _) (H.blk (k := 0) rfl))) ?_
 obtain ⟨cP, bI, hM⟩ := M.e_bind hM
 refine s_call cf99 [ac, au, .agg (encB (staleL w_ revised)).toArray] rfl (zdD w_ (orderP w_) (staleL w_ revised) (ao.app _) al (Reads.of (k := 1) rfl roLe) aP (staleL_len _ _) bI _ (St.give (T := [cBlk aj (encB (staleL w_ revised)) 141, cRo ak, cBlk ae [ac] 22]) H rfl)) ?_
 rintro vq bJ ⟨r2, aa, bK, hvq, ap⟩
 subst bK
 subst vq
 try dsimp only at hM
 replace H : St w bJ [cOwn (α := Int) 3 aa r2, cBlk aj (encB (staleL w_ revised)) 141, cRo ak, cBlk ae [ac] 22] R := H.back ap rfl
 clear ap
 refine t_alloc (cs := [.slice none 0 0]) H Al34 rfl ?_
 intro ah cQ H
 refine t_st (k := 0) (b := ah) (off := 0) (cs := [.slice none 0 0]) (vs := [aa]) (cs' := [aa]) (v := aa) (L' := [cBlk ah [aa] 34, cOwn (α := Int) 3 aa r2, cBlk aj (encB (staleL w_ revised)) 141, cRo ak, cBlk ae [ac] 22]) H rfl rfl rfl Sz34 (Sl.cells (ownSl (H.get (k := 1) rfl))) rfl rfl (by simp only [List.all_cons, List.all_nil, Bool.true_and, Bool.and_true, Sl.oc (ownSl (H.get (k := 1) rfl))]; try rfl) rfl rfl ?_
 intro cR H
 refine s_nil <| W.seq ?_
 refine W.drawT (fun W => St w W [cBlk ah [aa] 34, cOwn (α := Int) 3 aa r2, cBlk aj (encB (staleL w_ revised)) 141, cRo ak, cBlk ae [ac] 22] R) (.q 0 (.q 1 (.l2 2 (.l2 3 (.l 4 (.l 5 .nil)) 4 (.l 3 (.l 5 .nil))) 4 (.l 2 (.l 3 (.l 5 .nil)))))) mixed (by decide +kernel) rfl ?_
 intro bL am
 replace H : St w bL [cBlk ah [aa] 34, cOwn (α := Int) 3 aa r2, cBlk aj (encB (staleL w_ revised)) 141, cRo ak, cBlk ae [ac] 22] R := H.ext am
 clear am
 refine ⟨(H.pick [0, 1, 2, 3, 4] (by decide) rfl), ?_⟩
 refine t_q rfl (fun w' H => x_ld (v := aa) rfl (ldb_sc Sc34 (H.blk (k := 0) rfl) rfl)) ?_
 refine t_q rfl (fun w' H => x_ld (v := aa) rfl (ldb_sc Sc34 (H.blk (k := 0) rfl) rfl)) ?_
 refine t_l2 rfl rfl ?_ ?_
 ·skip
  obtain ⟨cS, bM, hM⟩ := M.e_bind hM
  refine s_call cf101 [aa] rfl (zcN r2 (Reads.of (k := 1) rfl ownLe) (ownSl (H.get (k := 1) rfl)) bM _ (St.give (T := [cBlk ah [aa] 34, cOwn (α := Int) 3 aa r2, cBlk aj (encB (staleL w_ revised)) 141, cRo ak, cBlk ae [ac] 22]) H rfl)) ?_
  rintro vq bN ⟨r3, bO, hvq, ap⟩
  subst bO
  subst vq
  try dsimp only at hM
  replace H : St w bN [cBlk ah [aa] 34, cOwn (α := Int) 3 aa r2, cBlk aj (encB (staleL w_ revised)) 141, cRo ak, cBlk ae [ac] 22] R := H.back ap rfl
  clear ap
  refine s_nil ⟨(H.pick [0, 1, 2, 3, 4] (by decide) rfl), ?_⟩
  refine t_l2 rfl rfl ?_ ?_
  ·skip
   refine s_call cf100 [aa, I r3] rfl (index_int r3 _ ((ownSl (H.get (k := 1) rfl)).mono (ownLe _ (H.get (k := 1) rfl)))) ?_
   rintro _ bP ⟨rfl, am⟩
   replace H : St w bP [cBlk ah [aa] 34, cOwn (α := Int) 3 aa r2, cBlk aj (encB (staleL w_ revised)) 141, cRo ak, cBlk ae [ac] 22] R := H.ext am
   clear am
   refine s_nil ⟨(H.pick [0, 1, 2, 3, 4] (by decide) rfl), ?_⟩
   refine t_l rfl ?_
   refine t_alloc (cs := [I 0]) H Al3 rfl ?_
   intro ag cT H
   refine s_nil ⟨(H.pick [1, 2, 3, 4, 5] (by decide) rfl), ?_⟩
   refine t_l rfl ?_
   refine t_st (k := 0) (b := ag) (off := 0) (cs := [I 0]) (vs := [I (idxI r2 r3)]) (cs' := [I (idxI r2 r3)]) (v := I (idxI r2 r3)) (L' := [cBlk ag [I (idxI r2 r3)] 3, cBlk ah [aa] 34, cOwn (α := Int) 3 aa r2, cBlk aj (encB (staleL w_ revised)) 141, cRo ak, cBlk ae [ac] 22]) H rfl rfl rfl Sz3 rfl rfl rfl rfl rfl rfl ?_
   intro cU H
   refine s_nil ⟨(H.pick [1, 2, 3, 4, 5] (by decide) rfl), ?_⟩
   refine t_nil ?_
   refine sQ rfl <| s_val (x_ld (v := I (idxI r2 r3)) rfl (ldb_sc Sc3 (H.blk (k := 0) rfl) rfl)) ?_
   refine t_bs (α := Int) T34 [I (idxI r2 r3)] [(idxI r2 r3 : Int)] H rfl (.cons rfl (Flat.rep_enc _ (idxI r2 r3 : Int)) <| .nil) rfl rfl rfl ?_
   intro bl cV H
   refine sA bl rfl <| s_nil <| W.seq <| W.block ?_
   obtain ⟨bQ, aX, bR⟩ := M.e_bind hM
   obtain ⟨bm, aX⟩ := M.e_iter aX
   refine W.loop (fun m σ W => ∃ (s : Int) (l : List Int) (ai : Value) (ρ : Env), σ = upds ρ [(2, Pz ae), (10, Pz ah), (11, Pz ag), (12, ai)] /\ M.iterN (zaB w_ r2) m (s, l) = some bQ /\ St w W [cOwn (α := Int) 3 ai l, cBlk ag [I s] 3, cBlk ah [aa] 34, cOwn (α := Int) 3 aa r2, cBlk aj (encB (staleL w_ revised)) 141, cRo ak, cBlk ae [ac] 22] R) ?_ ?_
   ·exact ⟨_, idxI r2 r3, [(idxI r2 r3 : Int)], bl, _, upds_of _ _ ⟨rfl, rfl, rfl, rfl, trivial⟩, aX, H⟩
   rintro cW σ cX ⟨s, l, ai, ρ, rfl, bn, H⟩
   obtain ⟨bS, bT, cY, hM, bo⟩ := M.e_iterN bn
   simp only [zaB] at hM
   clear bn
   refine W.seq <| W.seq ?_
   refine W.draw (fun W => St w W [cOwn (α := Int) 3 ai l, cBlk ag [I s] 3, cBlk ah [aa] 34, cOwn (α := Int) 3 aa r2, cBlk aj (encB (staleL w_ revised)) 141, cRo ak, cBlk ae [ac] 22] R) [(0, true), (1, true), (2, true), (3, true), (4, true), (5, true), (6, true), (7, true), (8, true), (9, true)] mixed (by decide +kernel) rfl ?_
   intro bU am
   replace H : St w bU [cOwn (α := Int) 3 ai l, cBlk ag [I s] 3, cBlk ah [aa] 34, cOwn (α := Int) 3 aa r2, cBlk aj (encB (staleL w_ revised)) 141, cRo ak, cBlk ae [ac] 22] R := H.ext am
   clear am
   refine ⟨(H.pick [0, 1, 2, 3, 4, 5, 6] (by decide) rfl), ?_⟩
   refine d_q rfl (fun w' H => x_ld (v := aa) rfl (ldb_sc Sc34 (H.blk (k := 2) rfl) rfl)) ?_
   refine d_q rfl (fun w' H => x_ld (v := I s) rfl (ldb_sc Sc3 (H.blk (k := 1) rfl) rfl)) ?_
   obtain ⟨cZ, hM⟩ := M.e_gd hM
   refine d_q rfl (fun w' H => x_ix (v := vat aa 1 (Int.toNat s)) rfl rfl (Sl.ix (α := Int) T34.und T34.size (ownSl (H.get (k := 3) rfl)) (by omega) (by omega))) ?_
   refine d_q rfl (fun w' H => x_ld (v := I (r2.getD (Int.toNat s) 0)) rfl (ld_sc Sc3 (At.mono (Int_at (ownSl (H.get (k := 3) rfl)) (i := s) (by omega) (by omega)) (ownLe _ (H.get (k := 3) rfl))))) ?_
   refine d_q rfl (fun w' H => x_ld (v := ac) rfl (ldb_sc Sc22 (H.blk (k := 6) rfl) rfl)) ?_
   refine d_q rfl (fun w' H => x_ld (v := I s) rfl (ldb_sc Sc3 (H.blk (k := 1) rfl) rfl)) ?_
   obtain ⟨da, hM⟩ := M.e_gd hM
   refine d_q rfl (fun w' H => x_ix (v := vat ac 3 (Int.toNat s)) rfl rfl (Sl.ix (α := Work) T22.und T22.size al (by omega) (by omega))) ?_
   refine d_q rfl (fun w' H => x_fa (v := fat (vat ac 3 (Int.toNat s)) 2) rfl (fa_pl Fd60_2 Sz3 (Sl.pl (i := s) al (by omega) (by omega)))) ?_
   refine d_q rfl (fun w' H => x_ld (v := I ((w_.getD (Int.toNat s) default).minutes)) rfl (ld_sc Sc3 (At.mono (Work_at2 al (i := s) (by omega) (by omega)) (ao.at H)))) ?_
   refine d_q rfl (fun w' H => x_cmp (kd := .i64) (r := decide (((w_.getD (Int.toNat s) default).minutes) < (r2.getD (Int.toNat s) 0))) rfl rfl rfl) ?_
   refine d_nil ?_
   refine W.cond (decide (((w_.getD (Int.toNat s) default).minutes) < (r2.getD (Int.toNat s) 0))) rfl (fun aC => ?_) (fun aC => ?_)
   ·replace hM := M.e_t hM aC
    simp only [qz1, qz2, qz3, qz4, qz5, qz6, ne_eq, qz7] at aC
    refine W.skip <| W.block <| sQ rfl <| s_val (x_ld (v := ac) rfl (ldb_sc Sc22 (H.blk (k := 6) rfl) rfl)) <| s_val (x_ld (v := I s) rfl (ldb_sc Sc3 (H.blk (k := 1) rfl) rfl)) <| s_val (x_ix (v := vat ac 3 (Int.toNat s)) rfl rfl (Sl.ix (α := Work) T22.und T22.size al (by omega) (by omega))) <| s_val (x_fa (v := fat (vat ac 3 (Int.toNat s)) 0) rfl (fa_pl Fd60_0 Sz34 (Sl.pl (i := s) al (by omega) (by omega)))) ?_
    obtain ⟨aY, bV, aR⟩ := Work_at0 al (i := s) (by omega) (by omega)
    replace aR : Sl _ aY (w_.getD (Int.toNat s) default).of := aR
    have db := aR.len_le
    refine s_val (x_ld (v := aY) rfl (ld_sc Sc34 (At.mono (bV) (ao.at H)))) <| s_val (x_mf (fs := []) (cs := [Pz ah, Pz ag, Pz ae]) rfl rfl) ?_
    obtain ⟨dc, bW, hM⟩ := M.e_bind hM
    refine s_call cf102 [aY, .func (.func 103) #[] #[Pz ah, Pz ag, Pz ae]] rfl (zbh ((w_.getD (Int.toNat s) default).of) (fun aq => zbu aq r2 s w_) (ao.app _) aR ⟨103, [Pz ah, Pz ag, Pz ae], rfl, cf103, fun aw bp bq aD aq br aE bt aF aG => by obtain rfl := Arg.int aF; exact (zcf aq r2 s w_ (Reads.app (Reads.of (k := 3) rfl ownLe) _) (ownSl (H.get (k := 3) rfl)) (Has.app (Has.here (k := 2) rfl) _) (Has.app (Has.here (k := 1) rfl) _) (Reads.app (ao.app _) _) al (Has.app (Has.here (k := 6) rfl) _) aG aw (St.refl aE)).mono fun aD aw ⟨bu, aH, aI, aJ⟩ => by subst aH; exact ⟨aI, aJ⟩⟩ bW _ (St.give (T := [cOwn (α := Int) 3 ai l, cBlk ag [I s] 3, cBlk ah [aa] 34, cOwn (α := Int) 3 aa r2, cBlk aj (encB (staleL w_ revised)) 141, cRo ak, cBlk ae [ac] 22]) H rfl)) ?_
    rintro vq bX ⟨r4, bY, hvq, ap⟩
    subst bY
    subst vq
    try dsimp only at hM
    replace H : St w bX [cOwn (α := Int) 3 ai l, cBlk ag [I s] 3, cBlk ah [aa] 34, cOwn (α := Int) 3 aa r2, cBlk aj (encB (staleL w_ revised)) 141, cRo ak, cBlk ae [ac] 22] R := H.back ap rfl
    clear ap
    refine sA (I r4) rfl <| s_nil <| sQ rfl <| s_val (x_ld (v := ac) rfl (ldb_sc Sc22 (H.blk (k := 6) rfl) rfl)) <| s_val (x_ld (v := I s) rfl (ldb_sc Sc3 (H.blk (k := 1) rfl) rfl)) <| s_val (x_ix (v := vat ac 3 (Int.toNat s)) rfl rfl (Sl.ix (α := Work) T22.und T22.size al (by omega) (by omega))) <| s_val (x_fa (v := fat (vat ac 3 (Int.toNat s)) 0) rfl (fa_pl Fd60_0 Sz34 (Sl.pl (i := s) al (by omega) (by omega)))) ?_
    obtain ⟨aZ, bZ, aK⟩ := Work_at0 al (i := s) (by omega) (by omega)
    replace aK : Sl _ aZ (w_.getD (Int.toNat s) default).of := aK
    have dd := aK.len_le
    refine s_val (x_ld (v := aZ) rfl (ld_sc Sc34 (At.mono (bZ) (ao.at H)))) <| sM (I r4) rfl ?_
    obtain ⟨de, hM⟩ := M.e_gd hM
    refine s_val (x_ix (v := vat aZ 1 (Int.toNat r4)) rfl rfl (Sl.ix (α := Int) T34.und T34.size aK (by omega) (by omega))) <| s_val (x_ld (v := I (((w_.getD (Int.toNat s) default).of).getD (Int.toNat r4) 0)) rfl (ld_sc Sc3 (At.mono (Int_at aK (i := r4) (by omega) (by omega)) (ao.at H)))) ?_
    refine t_st (k := 1) (b := ag) (off := 0) (cs := [I s]) (vs := [I (((w_.getD (Int.toNat s) default).of).getD (Int.toNat r4) 0)]) (cs' := [I (((w_.getD (Int.toNat s) default).of).getD (Int.toNat r4) 0)]) (v := I (((w_.getD (Int.toNat s) default).of).getD (Int.toNat r4) 0)) (L' := [cOwn (α := Int) 3 ai l, cBlk ag [I (((w_.getD (Int.toNat s) default).of).getD (Int.toNat r4) 0)] 3, cBlk ah [aa] 34, cOwn (α := Int) 3 aa r2, cBlk aj (encB (staleL w_ revised)) 141, cRo ak, cBlk ae [ac] 22]) H rfl rfl rfl Sz3 rfl rfl rfl rfl rfl rfl ?_
    intro dg H
    refine s_nil <| W.region rfl <| sM ai rfl <| s_val (x_ld (v := I (((w_.getD (Int.toNat s) default).of).getD (Int.toNat r4) 0)) rfl (ldb_sc Sc3 (H.blk (k := 1) rfl) rfl)) ?_
    refine t_bs (α := Int) T34 [I (((w_.getD (Int.toNat s) default).of).getD (Int.toNat r4) 0)] [(((w_.getD (Int.toNat s) default).of).getD (Int.toNat r4) 0 : Int)] H rfl (.cons rfl (Flat.rep_enc _ (((w_.getD (Int.toNat s) default).of).getD (Int.toNat r4) 0 : Int)) <| .nil) rfl rfl rfl ?_
    intro bv dh H
    obtain ⟨di, hM⟩ := M.e_gd hM
    refine t_app (α := Int) (k := 1) (l := l) (l2 := [(((w_.getD (Int.toNat s) default).of).getD (Int.toNat r4) 0 : Int)]) (l' := l ++ ([(((w_.getD (Int.toNat s) default).of).getD (Int.toNat r4) 0 : Int)])) (vy := bv) T34 rfl H rfl rfl rfl (ownSl (H.get (k := 0) rfl)) (ownLe _ (H.get (k := 0) rfl)) (rfl) (by first | omega | (simp only [List.length_nil] at *; omega)) ?_
    intro a5 b6 H
    replace H : St w b6 [cOwn (α := Int) 3 bv ([(((w_.getD (Int.toNat s) default).of).getD (Int.toNat r4) 0 : Int)]), cOwn (α := Int) 3 a5 (l ++ ([(((w_.getD (Int.toNat s) default).of).getD (Int.toNat r4) 0 : Int)])), cBlk ag [I (((w_.getD (Int.toNat s) default).of).getD (Int.toNat r4) 0)] 3, cBlk ah [aa] 34, cOwn (α := Int) 3 aa r2, cBlk aj (encB (staleL w_ revised)) 141, cRo ak, cBlk ae [ac] 22] R := H
    refine sA a5 rfl <| s_nil ?_
    exact ⟨bS, bT, ((w_.getD (Int.toNat s) default).of).getD (Int.toNat r4) 0, l ++ ([(((w_.getD (Int.toNat s) default).of).getD (Int.toNat r4) 0 : Int)]), a5, _, upds_of _ _ ⟨rfl, rfl, rfl, rfl, trivial⟩, M.e_inl hM bo, (H.pick [1, 2, 3, 4, 5, 6, 7] (by decide) rfl)⟩
   replace hM := M.e_f hM aC
   simp only [qz1, qz2, qz3, qz4, qz5, qz6, ne_eq, qz7] at aC
   refine W.exit ?_
   have b9 := M.e_inr hM bo
   subst b9
   replace hM := bR
   try dsimp only at hM
   refine sQ rfl <| sM ai rfl ?_
   refine s_call cf104 [ai] rfl (reverse_any (H.get (k := 0) rfl)) ?_
   rintro _ ca ⟨rfl, ax, ay⟩
   replace H : St w ca [cOwn (α := Int) 3 ai l.reverse, cBlk ag [I s] 3, cBlk ah [aa] 34, cOwn (α := Int) 3 aa r2, cBlk aj (encB (staleL w_ revised)) 141, cRo ak, cBlk ae [ac] 22] R := H.own (k := 0) rfl ax ay (fun b_ _ h_ => h_) rfl
   clear ax ay
   refine s_nil <| sQ rfl <| sM ai rfl <| sA ai rfl <| sA (I 0) rfl <| s_nil ?_
   refine W.ret ?_
   have av := M.e_pure hM
   exact ⟨_, resE_tmp2 rfl, ⟨l.reverse, 0, ai, av, rfl, (H.pick [0] (by decide) rfl)⟩⟩
  skip
  refine t_alloc (cs := [I 0]) H Al3 rfl ?_
  intro ag dj H
  refine s_nil ⟨(H.pick [1, 2, 3, 4, 5] (by decide) rfl), ?_⟩
  refine t_l rfl ?_
  refine s_call cf100 [aa, I r3] rfl (index_int r3 _ ((ownSl (H.get (k := 2) rfl)).mono (ownLe _ (H.get (k := 2) rfl)))) ?_
  rintro _ cb ⟨rfl, am⟩
  replace H : St w cb [cBlk ag [I 0] 3, cBlk ah [aa] 34, cOwn (α := Int) 3 aa r2, cBlk aj (encB (staleL w_ revised)) 141, cRo ak, cBlk ae [ac] 22] R := H.ext am
  clear am
  refine s_nil ⟨(H.pick [1, 2, 3, 4, 5] (by decide) rfl), ?_⟩
  refine t_l rfl ?_
  refine t_st (k := 0) (b := ag) (off := 0) (cs := [I 0]) (vs := [I (idxI r2 r3)]) (cs' := [I (idxI r2 r3)]) (v := I (idxI r2 r3)) (L' := [cBlk ag [I (idxI r2 r3)] 3, cBlk ah [aa] 34, cOwn (α := Int) 3 aa r2, cBlk aj (encB (staleL w_ revised)) 141, cRo ak, cBlk ae [ac] 22]) H rfl rfl rfl Sz3 rfl rfl rfl rfl rfl rfl ?_
  intro dk H
  refine s_nil ⟨(H.pick [1, 2, 3, 4, 5] (by decide) rfl), ?_⟩
  refine t_nil ?_
  refine sQ rfl <| s_val (x_ld (v := I (idxI r2 r3)) rfl (ldb_sc Sc3 (H.blk (k := 0) rfl) rfl)) ?_
  refine t_bs (α := Int) T34 [I (idxI r2 r3)] [(idxI r2 r3 : Int)] H rfl (.cons rfl (Flat.rep_enc _ (idxI r2 r3 : Int)) <| .nil) rfl rfl rfl ?_
  intro bw dl H
  refine sA bw rfl <| s_nil <| W.seq <| W.block ?_
  obtain ⟨cc, a6, cd⟩ := M.e_bind hM
  obtain ⟨bm, a6⟩ := M.e_iter a6
  refine W.loop (fun m σ W => ∃ (s : Int) (l : List Int) (ai : Value) (ρ : Env), σ = upds ρ [(2, Pz ae), (10, Pz ah), (11, Pz ag), (12, ai)] /\ M.iterN (zaB w_ r2) m (s, l) = some cc /\ St w W [cOwn (α := Int) 3 ai l, cBlk ag [I s] 3, cBlk ah [aa] 34, cOwn (α := Int) 3 aa r2, cBlk aj (encB (staleL w_ revised)) 141, cRo ak, cBlk ae [ac] 22] R) ?_ ?_
  ·exact ⟨_, idxI r2 r3, [(idxI r2 r3 : Int)], bw, _, upds_of _ _ ⟨rfl, rfl, rfl, rfl, trivial⟩, a6, H⟩
  rintro dm σ dp ⟨s, l, ai, ρ, rfl, bx, H⟩
  obtain ⟨ce, cf, dq, hM, bz⟩ := M.e_iterN bx
  simp only [zaB] at hM
  clear bx
  refine W.seq <| W.seq ?_
  refine W.draw (fun W => St w W [cOwn (α := Int) 3 ai l, cBlk ag [I s] 3, cBlk ah [aa] 34, cOwn (α := Int) 3 aa r2, cBlk aj (encB (staleL w_ revised)) 141, cRo ak, cBlk ae [ac] 22] R) [(0, true), (1, true), (2, true), (3, true), (4, true), (5, true), (6, true), (7, true), (8, true), (9, true)] mixed (by decide +kernel) rfl ?_
  intro cg am
  replace H : St w cg [cOwn (α := Int) 3 ai l, cBlk ag [I s] 3, cBlk ah [aa] 34, cOwn (α := Int) 3 aa r2, cBlk aj (encB (staleL w_ revised)) 141, cRo ak, cBlk ae [ac] 22] R := H.ext am
  clear am
  refine ⟨(H.pick [0, 1, 2, 3, 4, 5, 6] (by decide) rfl), ?_⟩
  refine d_q rfl (fun w' H => x_ld (v := aa) rfl (ldb_sc Sc34 (H.blk (k := 2) rfl) rfl)) ?_
  refine d_q rfl (fun w' H => x_ld (v := I s) rfl (ldb_sc Sc3 (H.blk (k := 1) rfl) rfl)) ?_
  obtain ⟨dr, hM⟩ := M.e_gd hM
  refine d_q rfl (fun w' H => x_ix (v := vat aa 1 (Int.toNat s)) rfl rfl (Sl.ix (α := Int) T34.und T34.size (ownSl (H.get (k := 3) rfl)) (by omega) (by omega))) ?_
  refine d_q rfl (fun w' H => x_ld (v := I (r2.getD (Int.toNat s) 0)) rfl (ld_sc Sc3 (At.mono (Int_at (ownSl (H.get (k := 3) rfl)) (i := s) (by omega) (by omega)) (ownLe _ (H.get (k := 3) rfl))))) ?_
  refine d_q rfl (fun w' H => x_ld (v := ac) rfl (ldb_sc Sc22 (H.blk (k := 6) rfl) rfl)) ?_
  refine d_q rfl (fun w' H => x_ld (v := I s) rfl (ldb_sc Sc3 (H.blk (k := 1) rfl) rfl)) ?_
  obtain ⟨dt, hM⟩ := M.e_gd hM
  refine d_q rfl (fun w' H => x_ix (v := vat ac 3 (Int.toNat s)) rfl rfl (Sl.ix (α := Work) T22.und T22.size al (by omega) (by omega))) ?_
  refine d_q rfl (fun w' H => x_fa (v := fat (vat ac 3 (Int.toNat s)) 2) rfl (fa_pl Fd60_2 Sz3 (Sl.pl (i := s) al (by omega) (by omega)))) ?_
  refine d_q rfl (fun w' H => x_ld (v := I ((w_.getD (Int.toNat s) default).minutes)) rfl (ld_sc Sc3 (At.mono (Work_at2 al (i := s) (by omega) (by omega)) (ao.at H)))) ?_
  refine d_q rfl (fun w' H => x_cmp (kd := .i64) (r := decide (((w_.getD (Int.toNat s) default).minutes) < (r2.getD (Int.toNat s) 0))) rfl rfl rfl) ?_
  refine d_nil ?_
  refine W.cond (decide (((w_.getD (Int.toNat s) default).minutes) < (r2.getD (Int.toNat s) 0))) rfl (fun aL => ?_) (fun aL => ?_)
  ·replace hM := M.e_t hM aL
   simp only [qz1, qz2, qz3, qz4, qz5, qz6, ne_eq, qz7] at aL
   refine W.skip <| W.block <| sQ rfl <| s_val (x_ld (v := ac) rfl (ldb_sc Sc22 (H.blk (k := 6) rfl) rfl)) <| s_val (x_ld (v := I s) rfl (ldb_sc Sc3 (H.blk (k := 1) rfl) rfl)) <| s_val (x_ix (v := vat ac 3 (Int.toNat s)) rfl rfl (Sl.ix (α := Work) T22.und T22.size al (by omega) (by omega))) <| s_val (x_fa (v := fat (vat ac 3 (Int.toNat s)) 0) rfl (fa_pl Fd60_0 Sz34 (Sl.pl (i := s) al (by omega) (by omega)))) ?_
   obtain ⟨a7, ci, aS⟩ := Work_at0 al (i := s) (by omega) (by omega)
   replace aS : Sl _ a7 (w_.getD (Int.toNat s) default).of := aS
   have du := aS.len_le
   refine s_val (x_ld (v := a7) rfl (ld_sc Sc34 (At.mono (ci) (ao.at H)))) <| s_val (x_mf (fs := []) (cs := [Pz ah, Pz ag, Pz ae]) rfl rfl) ?_
   obtain ⟨dv, cj, hM⟩ := M.e_bind hM
   refine s_call cf102 [a7, .func (.func 103) #[] #[Pz ah, Pz ag, Pz ae]] rfl (zbh ((w_.getD (Int.toNat s) default).of) (fun aq => zbu aq r2 s w_) (ao.app _) aS ⟨103, [Pz ah, Pz ag, Pz ae], rfl, cf103, fun aw bp bq aD aq br aE bt aF aG => by obtain rfl := Arg.int aF; exact (zcf aq r2 s w_ (Reads.app (Reads.of (k := 3) rfl ownLe) _) (ownSl (H.get (k := 3) rfl)) (Has.app (Has.here (k := 2) rfl) _) (Has.app (Has.here (k := 1) rfl) _) (Reads.app (ao.app _) _) al (Has.app (Has.here (k := 6) rfl) _) aG aw (St.refl aE)).mono fun aD aw ⟨bu, aH, aI, aJ⟩ => by subst aH; exact ⟨aI, aJ⟩⟩ cj _ (St.give (T := [cOwn (α := Int) 3 ai l, cBlk ag [I s] 3, cBlk ah [aa] 34, cOwn (α := Int) 3 aa r2, cBlk aj (encB (staleL w_ revised)) 141, cRo ak, cBlk ae [ac] 22]) H rfl)) ?_
   rintro vq ck ⟨r4, cm, hvq, ap⟩
   subst cm
   subst vq
   try dsimp only at hM
   replace H : St w ck [cOwn (α := Int) 3 ai l, cBlk ag [I s] 3, cBlk ah [aa] 34, cOwn (α := Int) 3 aa r2, cBlk aj (encB (staleL w_ revised)) 141, cRo ak, cBlk ae [ac] 22] R := H.back ap rfl
   clear ap
   refine sA (I r4) rfl <| s_nil <| sQ rfl <| s_val (x_ld (v := ac) rfl (ldb_sc Sc22 (H.blk (k := 6) rfl) rfl)) <| s_val (x_ld (v := I s) rfl (ldb_sc Sc3 (H.blk (k := 1) rfl) rfl)) <| s_val (x_ix (v := vat ac 3 (Int.toNat s)) rfl rfl (Sl.ix (α := Work) T22.und T22.size al (by omega) (by omega))) <| s_val (x_fa (v := fat (vat ac 3 (Int.toNat s)) 0) rfl (fa_pl Fd60_0 Sz34 (Sl.pl (i := s) al (by omega) (by omega)))) ?_
   obtain ⟨a8, cn, aM⟩ := Work_at0 al (i := s) (by omega) (by omega)
   replace aM : Sl _ a8 (w_.getD (Int.toNat s) default).of := aM
   have dw := aM.len_le
   refine s_val (x_ld (v := a8) rfl (ld_sc Sc34 (At.mono (cn) (ao.at H)))) <| sM (I r4) rfl ?_
   obtain ⟨dx, hM⟩ := M.e_gd hM
   refine s_val (x_ix (v := vat a8 1 (Int.toNat r4)) rfl rfl (Sl.ix (α := Int) T34.und T34.size aM (by omega) (by omega))) <| s_val (x_ld (v := I (((w_.getD (Int.toNat s) default).of).getD (Int.toNat r4) 0)) rfl (ld_sc Sc3 (At.mono (Int_at aM (i := r4) (by omega) (by omega)) (ao.at H)))) ?_
   refine t_st (k := 1) (b := ag) (off := 0) (cs := [I s]) (vs := [I (((w_.getD (Int.toNat s) default).of).getD (Int.toNat r4) 0)]) (cs' := [I (((w_.getD (Int.toNat s) default).of).getD (Int.toNat r4) 0)]) (v := I (((w_.getD (Int.toNat s) default).of).getD (Int.toNat r4) 0)) (L' := [cOwn (α := Int) 3 ai l, cBlk ag [I (((w_.getD (Int.toNat s) default).of).getD (Int.toNat r4) 0)] 3, cBlk ah [aa] 34, cOwn (α := Int) 3 aa r2, cBlk aj (encB (staleL w_ revised)) 141, cRo ak, cBlk ae [ac] 22]) H rfl rfl rfl Sz3 rfl rfl rfl rfl rfl rfl ?_
   intro dy H
   refine s_nil <| W.region rfl <| sM ai rfl <| s_val (x_ld (v := I (((w_.getD (Int.toNat s) default).of).getD (Int.toNat r4) 0)) rfl (ldb_sc Sc3 (H.blk (k := 1) rfl) rfl)) ?_
   refine t_bs (α := Int) T34 [I (((w_.getD (Int.toNat s) default).of).getD (Int.toNat r4) 0)] [(((w_.getD (Int.toNat s) default).of).getD (Int.toNat r4) 0 : Int)] H rfl (.cons rfl (Flat.rep_enc _ (((w_.getD (Int.toNat s) default).of).getD (Int.toNat r4) 0 : Int)) <| .nil) rfl rfl rfl ?_
   intro bA dz H
   obtain ⟨dA, hM⟩ := M.e_gd hM
   refine t_app (α := Int) (k := 1) (l := l) (l2 := [(((w_.getD (Int.toNat s) default).of).getD (Int.toNat r4) 0 : Int)]) (l' := l ++ ([(((w_.getD (Int.toNat s) default).of).getD (Int.toNat r4) 0 : Int)])) (vy := bA) T34 rfl H rfl rfl rfl (ownSl (H.get (k := 0) rfl)) (ownLe _ (H.get (k := 0) rfl)) (rfl) (by first | omega | (simp only [List.length_nil] at *; omega)) ?_
   intro a9 co H
   replace H : St w co [cOwn (α := Int) 3 bA ([(((w_.getD (Int.toNat s) default).of).getD (Int.toNat r4) 0 : Int)]), cOwn (α := Int) 3 a9 (l ++ ([(((w_.getD (Int.toNat s) default).of).getD (Int.toNat r4) 0 : Int)])), cBlk ag [I (((w_.getD (Int.toNat s) default).of).getD (Int.toNat r4) 0)] 3, cBlk ah [aa] 34, cOwn (α := Int) 3 aa r2, cBlk aj (encB (staleL w_ revised)) 141, cRo ak, cBlk ae [ac] 22] R := H
   refine sA a9 rfl <| s_nil ?_
   exact ⟨ce, cf, ((w_.getD (Int.toNat s) default).of).getD (Int.toNat r4) 0, l ++ ([(((w_.getD (Int.toNat s) default).of).getD (Int.toNat r4) 0 : Int)]), a9, _, upds_of _ _ ⟨rfl, rfl, rfl, rfl, trivial⟩, M.e_inl hM bz, (H.pick [1, 2, 3, 4, 5, 6, 7] (by decide) rfl)⟩
  replace hM := M.e_f hM aL
  simp only [qz1, qz2, qz3, qz4, qz5, qz6, ne_eq, qz7] at aL
  refine W.exit ?_
  have cp := M.e_inr hM bz
  subst cp
  replace hM := cd
  try dsimp only at hM
  refine sQ rfl <| sM ai rfl ?_
  refine s_call cf104 [ai] rfl (reverse_any (H.get (k := 0) rfl)) ?_
  rintro _ cq ⟨rfl, ax, ay⟩
  replace H : St w cq [cOwn (α := Int) 3 ai l.reverse, cBlk ag [I s] 3, cBlk ah [aa] 34, cOwn (α := Int) 3 aa r2, cBlk aj (encB (staleL w_ revised)) 141, cRo ak, cBlk ae [ac] 22] R := H.own (k := 0) rfl ax ay (fun b_ _ h_ => h_) rfl
  clear ax ay
  refine s_nil <| sQ rfl <| sM ai rfl <| sA ai rfl <| sA (I 0) rfl <| s_nil ?_
  refine W.ret ?_
  have av := M.e_pure hM
  exact ⟨_, resE_tmp2 rfl, ⟨l.reverse, 0, ai, av, rfl, (H.pick [0] (by decide) rfl)⟩⟩
 skip
 refine t_alloc (cs := [I 0]) H Al3 rfl ?_
 intro ag dB H
 refine s_nil ⟨(H.pick [1, 2, 3, 4, 5] (by decide) rfl), ?_⟩
 refine t_l rfl ?_
 obtain ⟨dC, cr, hM⟩ := M.e_bind hM
 refine s_call cf101 [aa] rfl (zcN r2 (Reads.of (k := 2) rfl ownLe) (ownSl (H.get (k := 2) rfl)) cr _ (St.give (T := [cBlk ag [I 0] 3, cBlk ah [aa] 34, cOwn (α := Int) 3 aa r2, cBlk aj (encB (staleL w_ revised)) 141, cRo ak, cBlk ae [ac] 22]) H rfl)) ?_
 rintro vq ct ⟨r3, cu, hvq, ap⟩
 subst cu
 subst vq
 try dsimp only at hM
 replace H : St w ct [cBlk ag [I 0] 3, cBlk ah [aa] 34, cOwn (α := Int) 3 aa r2, cBlk aj (encB (staleL w_ revised)) 141, cRo ak, cBlk ae [ac] 22] R := H.back ap rfl
 clear ap
 refine s_nil ⟨(H.pick [1, 2, 3, 4, 5] (by decide) rfl), ?_⟩
 refine t_l rfl ?_
 refine s_call cf100 [aa, I r3] rfl (index_int r3 _ ((ownSl (H.get (k := 2) rfl)).mono (ownLe _ (H.get (k := 2) rfl)))) ?_
 rintro _ cv ⟨rfl, am⟩
 replace H : St w cv [cBlk ag [I 0] 3, cBlk ah [aa] 34, cOwn (α := Int) 3 aa r2, cBlk aj (encB (staleL w_ revised)) 141, cRo ak, cBlk ae [ac] 22] R := H.ext am
 clear am
 refine s_nil ⟨(H.pick [1, 2, 3, 4, 5] (by decide) rfl), ?_⟩
 refine t_l rfl ?_
 refine t_st (k := 0) (b := ag) (off := 0) (cs := [I 0]) (vs := [I (idxI r2 r3)]) (cs' := [I (idxI r2 r3)]) (v := I (idxI r2 r3)) (L' := [cBlk ag [I (idxI r2 r3)] 3, cBlk ah [aa] 34, cOwn (α := Int) 3 aa r2, cBlk aj (encB (staleL w_ revised)) 141, cRo ak, cBlk ae [ac] 22]) H rfl rfl rfl Sz3 rfl rfl rfl rfl rfl rfl ?_
 intro dD H
 refine s_nil ⟨(H.pick [1, 2, 3, 4, 5] (by decide) rfl), ?_⟩
 refine t_nil ?_
 refine sQ rfl <| s_val (x_ld (v := I (idxI r2 r3)) rfl (ldb_sc Sc3 (H.blk (k := 0) rfl) rfl)) ?_
 refine t_bs (α := Int) T34 [I (idxI r2 r3)] [(idxI r2 r3 : Int)] H rfl (.cons rfl (Flat.rep_enc _ (idxI r2 r3 : Int)) <| .nil) rfl rfl rfl ?_
 intro bB dE H
 refine sA bB rfl <| s_nil <| W.seq <| W.block ?_
 obtain ⟨cw, ba, cx⟩ := M.e_bind hM
 obtain ⟨bm, ba⟩ := M.e_iter ba
 refine W.loop (fun m σ W => ∃ (s : Int) (l : List Int) (ai : Value) (ρ : Env), σ = upds ρ [(2, Pz ae), (10, Pz ah), (11, Pz ag), (12, ai)] /\ M.iterN (zaB w_ r2) m (s, l) = some cw /\ St w W [cOwn (α := Int) 3 ai l, cBlk ag [I s] 3, cBlk ah [aa] 34, cOwn (α := Int) 3 aa r2, cBlk aj (encB (staleL w_ revised)) 141, cRo ak, cBlk ae [ac] 22] R) ?_ ?_
 ·exact ⟨_, idxI r2 r3, [(idxI r2 r3 : Int)], bB, _, upds_of _ _ ⟨rfl, rfl, rfl, rfl, trivial⟩, ba, H⟩
 rintro dF σ dG ⟨s, l, ai, ρ, rfl, bC, H⟩
 obtain ⟨cy, cz, dH, hM, bD⟩ := M.e_iterN bC
 simp only [zaB] at hM
 clear bC
 refine W.seq <| W.seq ?_
 refine W.draw (fun W => St w W [cOwn (α := Int) 3 ai l, cBlk ag [I s] 3, cBlk ah [aa] 34, cOwn (α := Int) 3 aa r2, cBlk aj (encB (staleL w_ revised)) 141, cRo ak, cBlk ae [ac] 22] R) [(0, true), (1, true), (2, true), (3, true), (4, true), (5, true), (6, true), (7, true), (8, true), (9, true)] mixed (by decide +kernel) rfl ?_
 intro cA am
 replace H : St w cA [cOwn (α := Int) 3 ai l, cBlk ag [I s] 3, cBlk ah [aa] 34, cOwn (α := Int) 3 aa r2, cBlk aj (encB (staleL w_ revised)) 141, cRo ak, cBlk ae [ac] 22] R := H.ext am
 clear am
 refine ⟨(H.pick [0, 1, 2, 3, 4, 5, 6] (by decide) rfl), ?_⟩
 refine d_q rfl (fun w' H => x_ld (v := aa) rfl (ldb_sc Sc34 (H.blk (k := 2) rfl) rfl)) ?_
 refine d_q rfl (fun w' H => x_ld (v := I s) rfl (ldb_sc Sc3 (H.blk (k := 1) rfl) rfl)) ?_
 obtain ⟨dI, hM⟩ := M.e_gd hM
 refine d_q rfl (fun w' H => x_ix (v := vat aa 1 (Int.toNat s)) rfl rfl (Sl.ix (α := Int) T34.und T34.size (ownSl (H.get (k := 3) rfl)) (by omega) (by omega))) ?_
 refine d_q rfl (fun w' H => x_ld (v := I (r2.getD (Int.toNat s) 0)) rfl (ld_sc Sc3 (At.mono (Int_at (ownSl (H.get (k := 3) rfl)) (i := s) (by omega) (by omega)) (ownLe _ (H.get (k := 3) rfl))))) ?_
 refine d_q rfl (fun w' H => x_ld (v := ac) rfl (ldb_sc Sc22 (H.blk (k := 6) rfl) rfl)) ?_
 refine d_q rfl (fun w' H => x_ld (v := I s) rfl (ldb_sc Sc3 (H.blk (k := 1) rfl) rfl)) ?_
 obtain ⟨dJ, hM⟩ := M.e_gd hM
 refine d_q rfl (fun w' H => x_ix (v := vat ac 3 (Int.toNat s)) rfl rfl (Sl.ix (α := Work) T22.und T22.size al (by omega) (by omega))) ?_
 refine d_q rfl (fun w' H => x_fa (v := fat (vat ac 3 (Int.toNat s)) 2) rfl (fa_pl Fd60_2 Sz3 (Sl.pl (i := s) al (by omega) (by omega)))) ?_
 refine d_q rfl (fun w' H => x_ld (v := I ((w_.getD (Int.toNat s) default).minutes)) rfl (ld_sc Sc3 (At.mono (Work_at2 al (i := s) (by omega) (by omega)) (ao.at H)))) ?_
 refine d_q rfl (fun w' H => x_cmp (kd := .i64) (r := decide (((w_.getD (Int.toNat s) default).minutes) < (r2.getD (Int.toNat s) 0))) rfl rfl rfl) ?_
 refine d_nil ?_
 refine W.cond (decide (((w_.getD (Int.toNat s) default).minutes) < (r2.getD (Int.toNat s) 0))) rfl (fun aN => ?_) (fun aN => ?_)
 ·replace hM := M.e_t hM aN
  simp only [qz1, qz2, qz3, qz4, qz5, qz6, ne_eq, qz7] at aN
  refine W.skip <| W.block <| sQ rfl <| s_val (x_ld (v := ac) rfl (ldb_sc Sc22 (H.blk (k := 6) rfl) rfl)) <| s_val (x_ld (v := I s) rfl (ldb_sc Sc3 (H.blk (k := 1) rfl) rfl)) <| s_val (x_ix (v := vat ac 3 (Int.toNat s)) rfl rfl (Sl.ix (α := Work) T22.und T22.size al (by omega) (by omega))) <| s_val (x_fa (v := fat (vat ac 3 (Int.toNat s)) 0) rfl (fa_pl Fd60_0 Sz34 (Sl.pl (i := s) al (by omega) (by omega)))) ?_
  obtain ⟨bb, cB, aT⟩ := Work_at0 al (i := s) (by omega) (by omega)
  replace aT : Sl _ bb (w_.getD (Int.toNat s) default).of := aT
  have dK := aT.len_le
  refine s_val (x_ld (v := bb) rfl (ld_sc Sc34 (At.mono (cB) (ao.at H)))) <| s_val (x_mf (fs := []) (cs := [Pz ah, Pz ag, Pz ae]) rfl rfl) ?_
  obtain ⟨dL, cC, hM⟩ := M.e_bind hM
  refine s_call cf102 [bb, .func (.func 103) #[] #[Pz ah, Pz ag, Pz ae]] rfl (zbh ((w_.getD (Int.toNat s) default).of) (fun aq => zbu aq r2 s w_) (ao.app _) aT ⟨103, [Pz ah, Pz ag, Pz ae], rfl, cf103, fun aw bp bq aD aq br aE bt aF aG => by obtain rfl := Arg.int aF; exact (zcf aq r2 s w_ (Reads.app (Reads.of (k := 3) rfl ownLe) _) (ownSl (H.get (k := 3) rfl)) (Has.app (Has.here (k := 2) rfl) _) (Has.app (Has.here (k := 1) rfl) _) (Reads.app (ao.app _) _) al (Has.app (Has.here (k := 6) rfl) _) aG aw (St.refl aE)).mono fun aD aw ⟨bu, aH, aI, aJ⟩ => by subst aH; exact ⟨aI, aJ⟩⟩ cC _ (St.give (T := [cOwn (α := Int) 3 ai l, cBlk ag [I s] 3, cBlk ah [aa] 34, cOwn (α := Int) 3 aa r2, cBlk aj (encB (staleL w_ revised)) 141, cRo ak, cBlk ae [ac] 22]) H rfl)) ?_
  rintro vq cD ⟨r4, cE, hvq, ap⟩
  subst cE
  subst vq
  try dsimp only at hM
  replace H : St w cD [cOwn (α := Int) 3 ai l, cBlk ag [I s] 3, cBlk ah [aa] 34, cOwn (α := Int) 3 aa r2, cBlk aj (encB (staleL w_ revised)) 141, cRo ak, cBlk ae [ac] 22] R := H.back ap rfl
  clear ap
  refine sA (I r4) rfl <| s_nil <| sQ rfl <| s_val (x_ld (v := ac) rfl (ldb_sc Sc22 (H.blk (k := 6) rfl) rfl)) <| s_val (x_ld (v := I s) rfl (ldb_sc Sc3 (H.blk (k := 1) rfl) rfl)) <| s_val (x_ix (v := vat ac 3 (Int.toNat s)) rfl rfl (Sl.ix (α := Work) T22.und T22.size al (by omega) (by omega))) <| s_val (x_fa (v := fat (vat ac 3 (Int.toNat s)) 0) rfl (fa_pl Fd60_0 Sz34 (Sl.pl (i := s) al (by omega) (by omega)))) ?_
  obtain ⟨bc, cF, aO⟩ := Work_at0 al (i := s) (by omega) (by omega)
  replace aO : Sl _ bc (w_.getD (Int.toNat s) default).of := aO
  have dM := aO.len_le
  refine s_val (x_ld (v := bc) rfl (ld_sc Sc34 (At.mono (cF) (ao.at H)))) <| sM (I r4) rfl ?_
  obtain ⟨dN, hM⟩ := M.e_gd hM
  refine s_val (x_ix (v := vat bc 1 (Int.toNat r4)) rfl rfl (Sl.ix (α := Int) T34.und T34.size aO (by omega) (by omega))) <| s_val (x_ld (v := I (((w_.getD (Int.toNat s) default).of).getD (Int.toNat r4) 0)) rfl (ld_sc Sc3 (At.mono (Int_at aO (i := r4) (by omega) (by omega)) (ao.at H)))) ?_
  refine t_st (k := 1) (b := ag) (off := 0) (cs := [I s]) (vs := [I (((w_.getD (Int.toNat s) default).of).getD (Int.toNat r4) 0)]) (cs' := [I (((w_.getD (Int.toNat s) default).of).getD (Int.toNat r4) 0)]) (v := I (((w_.getD (Int.toNat s) default).of).getD (Int.toNat r4) 0)) (L' := [cOwn (α := Int) 3 ai l, cBlk ag [I (((w_.getD (Int.toNat s) default).of).getD (Int.toNat r4) 0)] 3, cBlk ah [aa] 34, cOwn (α := Int) 3 aa r2, cBlk aj (encB (staleL w_ revised)) 141, cRo ak, cBlk ae [ac] 22]) H rfl rfl rfl Sz3 rfl rfl rfl rfl rfl rfl ?_
  intro dO H
  refine s_nil <| W.region rfl <| sM ai rfl <| s_val (x_ld (v := I (((w_.getD (Int.toNat s) default).of).getD (Int.toNat r4) 0)) rfl (ldb_sc Sc3 (H.blk (k := 1) rfl) rfl)) ?_
  refine t_bs (α := Int) T34 [I (((w_.getD (Int.toNat s) default).of).getD (Int.toNat r4) 0)] [(((w_.getD (Int.toNat s) default).of).getD (Int.toNat r4) 0 : Int)] H rfl (.cons rfl (Flat.rep_enc _ (((w_.getD (Int.toNat s) default).of).getD (Int.toNat r4) 0 : Int)) <| .nil) rfl rfl rfl ?_
  intro bE dP H
  obtain ⟨dQ, hM⟩ := M.e_gd hM
  refine t_app (α := Int) (k := 1) (l := l) (l2 := [(((w_.getD (Int.toNat s) default).of).getD (Int.toNat r4) 0 : Int)]) (l' := l ++ ([(((w_.getD (Int.toNat s) default).of).getD (Int.toNat r4) 0 : Int)])) (vy := bE) T34 rfl H rfl rfl rfl (ownSl (H.get (k := 0) rfl)) (ownLe _ (H.get (k := 0) rfl)) (rfl) (by first | omega | (simp only [List.length_nil] at *; omega)) ?_
  intro bf cG H
  replace H : St w cG [cOwn (α := Int) 3 bE ([(((w_.getD (Int.toNat s) default).of).getD (Int.toNat r4) 0 : Int)]), cOwn (α := Int) 3 bf (l ++ ([(((w_.getD (Int.toNat s) default).of).getD (Int.toNat r4) 0 : Int)])), cBlk ag [I (((w_.getD (Int.toNat s) default).of).getD (Int.toNat r4) 0)] 3, cBlk ah [aa] 34, cOwn (α := Int) 3 aa r2, cBlk aj (encB (staleL w_ revised)) 141, cRo ak, cBlk ae [ac] 22] R := H
  refine sA bf rfl <| s_nil ?_
  exact ⟨cy, cz, ((w_.getD (Int.toNat s) default).of).getD (Int.toNat r4) 0, l ++ ([(((w_.getD (Int.toNat s) default).of).getD (Int.toNat r4) 0 : Int)]), bf, _, upds_of _ _ ⟨rfl, rfl, rfl, rfl, trivial⟩, M.e_inl hM bD, (H.pick [1, 2, 3, 4, 5, 6, 7] (by decide) rfl)⟩
 replace hM := M.e_f hM aN
 simp only [qz1, qz2, qz3, qz4, qz5, qz6, ne_eq, qz7] at aN
 refine W.exit ?_
 have cH := M.e_inr hM bD
 subst cH
 replace hM := cx
 try dsimp only at hM
 refine sQ rfl <| sM ai rfl ?_
 refine s_call cf104 [ai] rfl (reverse_any (H.get (k := 0) rfl)) ?_
 rintro _ cI ⟨rfl, ax, ay⟩
 replace H : St w cI [cOwn (α := Int) 3 ai l.reverse, cBlk ag [I s] 3, cBlk ah [aa] 34, cOwn (α := Int) 3 aa r2, cBlk aj (encB (staleL w_ revised)) 141, cRo ak, cBlk ae [ac] 22] R := H.own (k := 0) rfl ax ay (fun b_ _ h_ => h_) rfl
 clear ax ay
 refine s_nil <| sQ rfl <| sM ai rfl <| sA ai rfl <| sA (I 0) rfl <| s_nil ?_
 refine W.ret ?_
 have av := M.e_pure hM
 exact ⟨_, resE_tmp2 rfl, ⟨l.reverse, 0, ai, av, rfl, (H.pick [0] (by decide) rfl)⟩⟩

end Go.Proofs.Ytndobgodeicloaa
end
section
set_option maxRecDepth 100000
set_option maxHeartbeats 16000000
namespace Go.Proofs.Ytndobgodeicloaa
open Go Go.Nm
def zbF (aa : List Work) (one : Int) : M Int :=
  M.pure one
theorem zcu {R : List Chunk} {aa : Nat} {ag : Cells} {ah : Value} (ai : List Work) (one : Int) (ak : Reads R ag) (al : Sl ag ah ai) (am : Has R (cBlk aa [ah] 187)) {r : Int} (hM : (zbF ai one).Ends r) (w : World) (H : St w w [] R) : Ret Try.prog 98 #[Pz aa, I one] w fun v w' => ∃ (y0 : Int) (nb0 : Nat) (nb1 : Nat), y0 = r /\ v = .func (.func 148) #[] #[Pz nb0, Pz nb1] /\ St w w' [cBlk nb0 [Pz aa] 127, cBlk nb1 [I y0] 3] R := by
 refine ret_of_W Try.func98 rfl rfl rfl ?_
 refine sQ rfl ?_
 refine t_box (v := Pz aa) (cs := [Pz aa]) H rfl rfl ?_
 intro ac ao H
 refine t_box (v := I one) (cs := [I one]) H rfl rfl ?_
 intro ae ap H
 refine sA .nilFunc rfl <| s_nil <| sQ rfl <| s_val (x_mf (fs := []) (cs := [Pz ac, Pz ae]) rfl rfl) <| sA (.func (.func 148) #[] #[Pz ac, Pz ae]) rfl <| s_nil ?_
 refine W.ret ?_
 have aj := M.e_pure hM
 exact ⟨_, resE_tmp rfl, ⟨one, ac, ae, aj, rfl, (H.pick [1, 0] (by decide) rfl)⟩⟩

def za2 (aa : List Work) (work : Int) (other : Int) : M Bool :=
  M.grd (decide ((0 : Int) <= work) && decide (work < (aa.length : Int))) <|
  M.pure (((aa.getD (Int.toNat work) default).of).contains other)
theorem zcl {R : List Chunk} {aa : Nat} {aj : Cells} {ac : Value} (ae : List Work) (work : Int) (other : Int) (ak : Reads R aj) (ah : Sl aj ac ae) (am : Has R (cBlk aa [ac] 187)) {r : Bool} (hM : (za2 ae work other).Ends r) (w : World) (H : St w w [] R) : Ret Try.prog 149 #[Pz aa, I work, I other] w fun v w' => ∃ (y0 : Bool), y0 = r /\ v = B y0 /\ St w w' [] R := by
 refine ret_of_W Try.func149 rfl rfl rfl ?_
 refine sQ rfl <| sA (B false) rfl <| s_nil <| sQ rfl <| sM (Pz aa) rfl <| s_val (x_nc (a := ⟨aa, 0, none⟩) rfl) <| s_val (x_fa (v := Pz aa) rfl (fa_blk (o := 0) Fd187_0 Sz185)) <| s_val (x_fa (v := Pz aa) rfl (fa_blk (o := 0) Fd185_0 Sz22)) <| s_val (x_ld (v := ac) rfl (ldb_sc Sc22 (am.blk H) rfl)) <| sM (I work) rfl ?_
 obtain ⟨au, hM⟩ := M.e_gd hM
 refine s_val (x_ix (v := vat ac 3 (Int.toNat work)) rfl rfl (Sl.ix (α := Work) T22.und T22.size ah (by omega) (by omega))) <| s_val (x_fa (v := fat (vat ac 3 (Int.toNat work)) 0) rfl (fa_pl Fd60_0 Sz34 (Sl.pl (i := work) ah (by omega) (by omega)))) ?_
 obtain ⟨ai, ao, ag⟩ := Work_at0 ah (i := work) (by omega) (by omega)
 replace ag : Sl _ ai (ae.getD (Int.toNat work) default).of := ag
 have av := ag.len_le
 refine s_val (x_ld (v := ai) rfl (ld_sc Sc34 (At.mono (ao) (ak.at H)))) <| sM (I other) rfl ?_
 refine s_call cf45 [ai, I other] rfl (contains_int other _ (ag.mono (ak.at H))) ?_
 rintro _ ap ⟨rfl, al⟩
 replace H : St w ap [] R := H.ext al
 clear al
 refine sA (B (((ae.getD (Int.toNat work) default).of).contains other)) rfl <| s_nil ?_
 refine W.ret ?_
 have aq := M.e_pure hM
 exact ⟨_, resE_tmp rfl, ⟨(((ae.getD (Int.toNat work) default).of).contains other), aq, rfl, H⟩⟩

def zaH {T_ : Type} (ac : T_ -> Int -> M (Bool × T_)) (aa : List Work) (ae : Int) : (Nat × T_) -> M ((Nat × T_) ⊕ (T_ ⊕ T_)) := fun (s, t2) =>
  bif decide ((s : Int) < (aa.length : Int)) then (
  M.bind (za2 aa (s : Int) ae) fun r2 =>
  bif r2 then (
  M.bind (ac t2 (s : Int)) fun (go6, t9) =>
  bif (r2 && (!go6)) then (
  M.pure (.inr (.inl t9)))
  else (
  M.pure (.inl (s + 1, t9))))
  else (
  M.pure (.inl (s + 1, t2))))
  else (
  M.pure (.inr (.inr t2)))
def zaj {T_ : Type} (aa : T_ -> Int -> M (Bool × T_)) (t_ : T_) (ac : List Work) (ae : Int) : M T_ :=
  M.bind (M.iter (zaH aa ac ae) (0, t_)) fun x_ => match x_ with
  | (.inl t6) => (
  M.pure t6)
  | (.inr t7) => (
  M.pure t7)
theorem zcH {R : List Chunk} {T_ : Type} {Y_ : T_ -> List Chunk -> Prop} {ah : Value} {ak : List Chunk} {al : Nat} {aa : Nat} {ay : Cells} {am : Value} {ao : Nat} (ap : T_ -> Int -> M (Bool × T_)) (t_ : T_) (ac : List Work) (ae : Int) (aJ : YieldC Try.prog R arI Y_ ah ap) (aK : Y_ t_ ak) (aL : Reads R ay) (aq : Sl ay am ac) (az : Has R (cBlk aa [am] 187)) (aA : Has R (cBlk al [Pz aa] 127)) (aM : Has R (cBlk ao [I ae] 3)) {r : T_} (hM : (zaj ap t_ ac ae).Ends r) (w : World) (H : St w w [cAll ak] R) : Ret Try.prog 148 #[ah, Pz al, Pz ao] w fun v w' => ∃ (y0 : T_) (Ls0 : List Chunk), y0 = r /\ v = .tuple #[] /\ St w w' [cAll Ls0] R /\ Y_ y0 Ls0 := by
 refine ret_of_W Try.func148 rfl rfl rfl ?_
 refine sQ rfl <| s_val (x_ld (v := Pz aa) rfl (ldb_sc Sc127 (aA.blk H) rfl)) <| s_val (x_nc (a := ⟨aa, 0, none⟩) rfl) <| s_val (x_fa (v := Pz aa) rfl (fa_blk (o := 0) Fd187_0 Sz185)) <| s_val (x_fa (v := Pz aa) rfl (fa_blk (o := 0) Fd185_0 Sz22)) <| s_val (x_ld (v := am) rfl (ldb_sc Sc22 (az.blk H) rfl)) ?_
 have aV := (aq).len_le
 refine s_val (x_lenS T22.und rfl aq) <| sM (I 0) rfl <| s_nil <| W.block ?_
 obtain ⟨aN, au, aB⟩ := M.e_bind hM
 obtain ⟨aW, au⟩ := M.e_iter au
 refine W.loop (fun m σ W => ∃ (s : Nat) (t2 : T_) (Ls_t2 : List Chunk) (ρ : Env), σ = upds ρ [(0, ah), (1, Pz al), (2, Pz ao), (10, I (ac.length : Int)), (11, I (s : Int))] /\ M.iterN (zaH ap ac ae) m (s, t2) = some aN /\ St w W [cAll Ls_t2] R /\ Y_ t2 Ls_t2) ?_ ?_
 ·exact ⟨_, 0, t_, ak, _, upds_of _ _ ⟨rfl, rfl, rfl, rfl, rfl, trivial⟩, au, H, aK⟩
 rintro aX σ aY ⟨s, t2, Ls_t2, ρ, rfl, aC, H, hY_t2⟩
 obtain ⟨aD, aE, aZ, hM, aj⟩ := M.e_iterN aC
 simp only [zaH] at hM
 clear aC
 refine sQ rfl <| sC _ _ (decide ((s : Int) < (ac.length : Int))) rfl rfl rfl <| s_nil <| W.seq ?_
 refine W.cond (decide ((s : Int) < (ac.length : Int))) rfl (fun ai => ?_) (fun ai => ?_)
 ·replace hM := M.e_t hM ai
  simp only [qz1, qz2, qz3, qz4, qz5, qz6, ne_eq, qz7] at ai
  refine W.skip <| W.seq <| W.block <| sQ rfl <| sM (I (s : Int)) rfl <| sA (I (s : Int)) rfl <| s_nil <| sQ rfl <| s_val (x_ld (v := Pz aa) rfl (ldb_sc Sc127 (aA.blk H) rfl)) <| sM (I (s : Int)) rfl ?_
  refine s_val (x_ld (v := I ae) rfl (ldb_sc Sc3 (aM.blk H) rfl)) ?_
  obtain ⟨a5, aO, hM⟩ := M.e_bind hM
  refine s_call cf149 [Pz aa, I (s : Int), I ae] rfl (zcl ac (s : Int) ae (aL.app _) aq (az.app _) aO _ (St.give (T := [cAll Ls_t2]) H rfl)) ?_
  rintro vq aP ⟨r2, aQ, hvq, aF⟩
  subst aQ
  subst vq
  try dsimp only at hM
  replace H : St w aP [cAll Ls_t2] R := H.back aF rfl
  clear aF
  refine sM (B r2) rfl <| g_val r2 (gy_t rfl) (fun hg => x_mv (v := ah) rfl) <| g_val r2 (gy_t rfl) (fun hg => x_mv (v := I (s : Int)) rfl) ?_
  refine g_splitV r2 (B false) (gy_t rfl) (fun ag => ?_) (fun ag => ?_)
  ·replace hM := M.e_t hM ag
   obtain ⟨⟨go7, aG⟩, aR, hM⟩ := M.e_bind hM
   try dsimp only at hM
   refine t_yield (L := []) H aJ hY_t2 (by exact (gd_of (c := r2) ag (ah))) [I (s : Int)] (lst1 (gd_of (c := r2) ag (I (s : Int)))) (s : Int) Reads.none rfl aR ?_
   intro av aS aH H
   replace H : St w aS [cAll av] R := H
   refine g_val r2 (gy_t rfl) (fun hg => x_not (b := go7) rfl) <| s_val (x_pand (b := r2) (r := !go7) rfl (fun hb => gd_of (c := r2) (by first | exact hb | (rw [hb]; rfl) | simp_all) (B (!go7))) rfl) <| s_nil ?_
   refine W.cond (r2 && (!go7)) rfl (fun aw => ?_) (fun aw => ?_)
   ·replace hM := M.e_t hM aw
    refine W.ret ?_
    have aT := M.e_inr hM aj
    subst aT
    replace hM := aB
    try dsimp only at hM
    have ax := M.e_pure hM
    exact ⟨_, resE_tmp0 rfl, ⟨aG, av, ax, rfl, H, aH⟩⟩
   replace hM := M.e_f hM aw
   refine W.skip <| W.region rfl <| sR _ _ ((s : Int) + 1) rfl rfl rfl (by omega) <| sM (I ((s : Int) + 1)) rfl <| s_nil ?_
   exact ⟨aD, aE, s + 1, aG, av, _, upds_of _ _ ⟨rfl, rfl, rfl, rfl, rfl, trivial⟩, M.e_inl hM aj, H, aH⟩
  replace hM := M.e_f hM ag
  refine g_val (v := B false) r2 (gy_t rfl) (fun hg => Bool.noConfusion (ag.symm.trans hg)) <| s_val (x_pand0 (b := r2) rfl (fun hb => gd_of (c := r2) (by first | exact hb | (rw [hb]; rfl) | simp_all) (B false)) rfl) <| s_nil ?_
  refine W.cond false rfl (fun aI => ?_) (fun aI => ?_)
  ·skip
   exact absurd aI (by decide)
  skip
  refine W.skip <| W.region rfl <| sR _ _ ((s : Int) + 1) rfl rfl rfl (by omega) <| sM (I ((s : Int) + 1)) rfl <| s_nil ?_
  exact ⟨aD, aE, s + 1, t2, Ls_t2, _, upds_of _ _ ⟨rfl, rfl, rfl, rfl, rfl, trivial⟩, M.e_inl hM aj, H, hY_t2⟩
 replace hM := M.e_f hM ai
 simp only [qz1, qz2, qz3, qz4, qz5, qz6, ne_eq, qz7] at ai
 refine W.exit ?_
 have aU := M.e_inr hM aj
 subst aU
 replace hM := aB
 try dsimp only at hM
 have ax := M.e_pure hM
 exact ⟨_, resE_tmp0 rfl, ⟨t2, Ls_t2, ax, rfl, H, hY_t2⟩⟩
theorem zb0 {T_ : Type} {n_ : Nat} {y y' : T_ -> Int -> M (Bool × T_)} (h : ∀ s a, M.LeN n_ (y s a) (y' s a)) (t_ : T_) (aa : List Work) (ac : Int) : M.LeN n_ (zaj y t_ aa ac) (zaj y' t_ aa ac) := by
  simp only [zaj, zaH]
  repeat' (first | exact M.le_same _ _ | exact h _ _ | refine M.le_grd ?_ | refine M.le_if ?_ ?_ | refine M.le_bind ?_ (fun x => ?_) | refine M.le_opt ?_ | refine M.le_iter (fun x => ?_) _ | (rename_i x; cases x) | (rename_i x; obtain ⟨_, _⟩ := x))

def zbQ (i : Int) (aa : List Int) : M Bool :=
  M.pure (aa.contains i)
theorem zcM {R : List Chunk} {ae : Nat} {ag : Cells} {aa : Value} (i : Int) (ac : List Int) (ai : Reads R ag) (aj : Sl ag aa ac) (ak : Has R (cBlk ae [aa] 34)) {r : Bool} (hM : (zbQ i ac).Ends r) (w : World) (H : St w w [] R) : Ret Try.prog 97 #[I i, Pz ae] w fun v w' => ∃ (y0 : Bool), y0 = r /\ v = B y0 /\ St w w' [] R := by
 refine ret_of_W Try.func97 rfl rfl rfl ?_
 refine sQ rfl <| sA (B false) rfl <| s_nil <| sQ rfl <| s_val (x_ld (v := aa) rfl (ldb_sc Sc34 (ak.blk H) rfl)) <| sM (I i) rfl ?_
 refine s_call cf45 [aa, I i] rfl (contains_int i _ (aj.mono (ai.at H))) ?_
 rintro _ al ⟨rfl, ah⟩
 replace H : St w al [] R := H.ext ah
 clear ah
 refine sA (B (ac.contains i)) rfl <| s_nil ?_
 refine W.ret ?_
 have am := M.e_pure hM
 exact ⟨_, resE_tmp rfl, ⟨(ac.contains i), am, rfl, H⟩⟩

def zaS (fence : List Int) : Unit -> Int -> M (Unit ⊕ Unit) := fun (_ : Unit) x =>
  M.bind (zbQ x fence) fun r2 =>
  bif !r2 then (
  M.pure (.inr ()))
  else (
  M.pure (.inl ()))
def zcd (w_ : List Work) (fence : List Int) : Nat -> M (Nat ⊕ (Unit ⊕ Unit)) := fun s =>
  bif decide ((s : Int) < (fence.length : Int)) then (
  M.grd (decide ((s : Int) < (fence.length : Int))) <|
  M.bind (zbF w_ (fence.getD s 0)) fun aa =>
  M.bind (zaj (M.yl (zaS fence)) (.inl ()) w_ aa) fun x_ => match x_ with
  | .inl _ => (
  M.pure (.inl (s + 1)))
  | .inr _ => (
  M.pure (.inr (.inl ()))))
  else (
  M.pure (.inr (.inr ())))
def zbA (w_ : List Work) (revised : List Int) (fence : List Int) : M (Bool × Int) :=
  bif (askedE w_ revised == 0) then (
  bif (listedE w_.length fence) != 0 then (
  M.pure (false, (listedE w_.length fence)))
  else (
  M.bind (M.iter (zcd w_ fence) 0) fun x_ => match x_ with
  | (.inl (_ : Unit)) => (
  M.pure (false, 0))
  | (.inr (_ : Unit)) => (
  M.bind (zbg (fun aa => zbQ aa fence) revised) fun r3 =>
  M.pure (r3, 0))))
  else (
  bif (askedE w_ revised) == 0 then (
  M.fail)
  else (
  bif (askedE w_ revised) != 0 then (
  M.pure (false, (askedE w_ revised)))
  else (
  M.fail)))
theorem zcK {R : List Chunk} {aX : Cells} {aA : Value} {aY : Cells} {ax : Value} {aZ : Cells} {ag : Value} (w_ : List Work) (revised : List Int) (fence : List Int) (aB : Reads R aX) (aD : Sl aX aA w_) (aI : Reads R aY) (aM : Sl aY ax revised) (aC : Reads R aZ) (av : Sl aZ ag fence) {r : (Bool × Int)} (hM : (zbA w_ revised fence).Ends r) (w : World) (H : St w w [] R) : Ret Try.prog 34 #[aA, ax, ag] w fun v w' => ∃ (y0 : Bool) (y1 : Int), (y0, y1) = r /\ v = .tuple #[B y0, I y1] /\ St w w' [] R := by
 refine ret_of_WD Try.func34 rfl rfl rfl ?_
 replace H : St w w [cMk ([])] R := H.mk0
 have bV := aD.len_le
 have bW := aM.len_le
 have bX := av.len_le
 unfold zbA at hM
 refine WD.seq ?_
 refine WD.of ?_
 refine W.region rfl ?_
 refine t_box (v := ag) (cs := [ag]) H rfl (Sl.cells av) ?_
 intro aa bY H
 refine t_alloc (cs := [B false]) H Al4 rfl ?_
 intro ac bZ H
 refine t_alloc (cs := [I 0]) H Al35 rfl ?_
 intro ae b6 H
 refine s_nil ?_
 refine WD.seq ?_
 refine WD.of ?_
 refine W.region rfl <| sM aA rfl <| sM ax rfl ?_
 refine s_call cf92 [aA, ax] rfl (asked_any _ (aD.mono (aB.at H)) (aM.mono (aI.at H))) ?_
 rintro _ a5 (⟨aN, rfl, aE⟩ | ⟨aN, aj, ay, rfl, a6, aO⟩)
 ·replace hM := M.e_f hM (by simpa using aN)
  replace H : St w a5 [cBlk ae [I 0] 35, cBlk ac [B false] 4, cBlk aa [ag] 34, cMk ([])] R := H.ext aE
  clear aE
  refine sM (.tuple #[.pointer none, .slice none 0 0, .agg (encB (List.replicate 30 false)).toArray, I (askedE w_ revised)]) rfl <| sX [.pointer none, .slice none 0 0, .agg (encB (List.replicate 30 false)).toArray, I (askedE w_ revised)] (.pointer none) rfl rfl <| sX [.pointer none, .slice none 0 0, .agg (encB (List.replicate 30 false)).toArray, I (askedE w_ revised)] (.slice none 0 0) rfl rfl <| sX [.pointer none, .slice none 0 0, .agg (encB (List.replicate 30 false)).toArray, I (askedE w_ revised)] (.agg (encB (List.replicate 30 false)).toArray) rfl rfl <| sX [.pointer none, .slice none 0 0, .agg (encB (List.replicate 30 false)).toArray, I (askedE w_ revised)] (I (askedE w_ revised)) rfl rfl ?_
  refine t_alloc (cs := encB (List.replicate 30 false)) H Al141 rfl ?_
  intro ah b9 H
  have aP : (List.replicate 30 false).length = 30 := by simp
  refine sA (.pointer none) rfl <| sA (.slice none 0 0) rfl ?_
  refine t_stArrA (k := 0) (b := ah) (l := List.replicate 30 false) (l' := List.replicate 30 false) (L' := [cBlk ah (encB (List.replicate 30 false)) 141, cBlk ae [I 0] 35, cBlk ac [B false] 4, cBlk aa [ag] 34, cMk ([])]) H rfl rfl rfl Sz141 aP (List.length_replicate) rfl ?_
  intro ca H
  refine sA (I (askedE w_ revised)) rfl <| s_nil ?_
  refine WD.seq ?_
  refine WD.seq ?_
  refine WD.of ?_
  refine W.region rfl <| sM (I (askedE w_ revised)) rfl <| sC _ _ ((askedE w_ revised) == 0) rfl rfl rfl <| s_nil ?_
  refine WD.cond ((askedE w_ revised) == 0) rfl (fun aJ => ?_) (fun aJ => ?_)
  ·replace hM := M.e_t hM aJ
   exact (M.e_fail hM).elim
  replace hM := M.e_f hM aJ
  simp only [qz1, qz2, qz3, qz4, qz5, qz6, ne_eq, qz7] at aJ
  refine WD.of ?_
  refine W.skip ?_
  refine WD.seq ?_
  refine WD.seq ?_
  refine WD.of ?_
  refine W.region rfl <| sM (I (askedE w_ revised)) rfl <| sC _ _ ((askedE w_ revised) != 0) rfl rfl rfl <| s_nil ?_
  refine WD.cond ((askedE w_ revised) != 0) rfl (fun aK => ?_) (fun aK => ?_)
  ·replace hM := M.e_t hM aK
   simp only [qz1, qz2, qz3, qz4, qz5, qz6, ne_eq, qz7] at aK
   refine WD.seq ?_
   refine WD.of ?_
   refine W.region rfl <| sM (I (askedE w_ revised)) rfl ?_
   refine t_st (k := 2) (b := ac) (off := 0) (cs := [B false]) (vs := [B false]) (cs' := [B false]) (v := B false) (L' := [cBlk ah (encB (List.replicate 30 false)) 141, cBlk ae [I 0] 35, cBlk ac [B false] 4, cBlk aa [ag] 34, cMk ([])]) H rfl rfl rfl Sz4 rfl rfl rfl rfl rfl rfl ?_
   intro cb H
   refine t_st (k := 1) (b := ae) (off := 0) (cs := [I 0]) (vs := [I (askedE w_ revised)]) (cs' := [I (askedE w_ revised)]) (v := I (askedE w_ revised)) (L' := [cBlk ah (encB (List.replicate 30 false)) 141, cBlk ae [I (askedE w_ revised)] 35, cBlk ac [B false] 4, cBlk aa [ag] 34, cMk ([])]) H rfl rfl rfl Sz35 rfl rfl rfl rfl rfl rfl ?_
   intro cc H
   refine s_nil ?_
   refine WD.of ?_
   refine W.ret ?_
   refine bodyD_r (H.pick [4, 0, 1, 2, 3] (by decide) rfl) ?_
   intro bf H
   replace H : St w bf [cBlk ah (encB (List.replicate 30 false)) 141, cBlk ae [I (askedE w_ revised)] 35, cBlk ac [B false] 4, cBlk aa [ag] 34] R := H
   have bg := (H.blk (k := 2) rfl)
   have bh := (H.blk (k := 1) rfl)
   have az := M.e_pure hM
   exact ⟨_, (resE_ofn (vs := [B false, I (askedE w_ revised)]) rfl rfl (.cell (v := B false) rfl (run_loadVar_sc Sc4 bg rfl) <| .cell (v := I (askedE w_ revised)) rfl (run_loadVar_sc Sc35 bh rfl) <| .nil)), ⟨false, (askedE w_ revised), az, rfl, (H.pick [] (by decide) rfl)⟩⟩
  replace hM := M.e_f hM aK
  exact (M.e_fail hM).elim
 replace hM := M.e_t hM (by simpa using aN)
 obtain ⟨ai, aq, aO, a7⟩ := H.freshNB a6 aO
 replace H : St w a5 [cRo ai, cBlk ae [I 0] 35, cBlk ac [B false] 4, cBlk aa [ag] 34, cMk ([])] R := aq
 clear aq a6
 have cd := aO.len_le
 refine sM (.tuple #[Pz aj, ay, .agg (encB (staleL w_ revised)).toArray, I 0]) rfl <| sX [Pz aj, ay, .agg (encB (staleL w_ revised)).toArray, I 0] (Pz aj) rfl rfl <| sX [Pz aj, ay, .agg (encB (staleL w_ revised)).toArray, I 0] ay rfl rfl <| sX [Pz aj, ay, .agg (encB (staleL w_ revised)).toArray, I 0] (.agg (encB (staleL w_ revised)).toArray) rfl rfl <| sX [Pz aj, ay, .agg (encB (staleL w_ revised)).toArray, I 0] (I 0) rfl rfl ?_
 refine t_alloc (cs := encB (List.replicate 30 false)) H Al141 rfl ?_
 intro ah ce H
 have aP : (List.replicate 30 false).length = 30 := by simp
 refine sA (Pz aj) rfl <| sA ay rfl ?_
 refine t_stArrA (k := 0) (b := ah) (l := List.replicate 30 false) (l' := staleL w_ revised) (L' := [cBlk ah (encB (staleL w_ revised)) 141, cRo ai, cBlk ae [I 0] 35, cBlk ac [B false] 4, cBlk aa [ag] 34, cMk ([])]) H rfl rfl rfl Sz141 aP (staleL_len _ _) rfl ?_
 intro cf H
 refine sA (I 0) rfl <| s_nil ?_
 refine WD.seq ?_
 refine WD.seq ?_
 refine WD.of ?_
 refine W.region rfl <| sM (I 0) rfl <| sC _ _ ((0 : Int) == 0) rfl rfl rfl <| s_nil ?_
 refine WD.cond ((0 : Int) == 0) rfl (fun a8 => ?_) (fun a8 => ?_)
 ·skip
  refine WD.of ?_
  refine W.region rfl <| sM aA rfl <| s_val (x_ld (v := ag) rfl (ldb_sc Sc34 (H.blk (k := 4) rfl) rfl)) ?_
  refine s_call cf96 [aA, ag] rfl (listed_any _ (aD.mono (aB.at H)) (av.mono (aC.at H))) ?_
  rintro _ bi ⟨rfl, aE⟩
  replace H : St w bi [cBlk ah (encB (staleL w_ revised)) 141, cRo ai, cBlk ae [I 0] 35, cBlk ac [B false] 4, cBlk aa [ag] 34, cMk ([])] R := H.ext aE
  clear aE
  refine sA (I (listedE w_.length fence)) rfl <| s_nil ?_
  refine WD.seq ?_
  refine WD.seq ?_
  refine WD.of ?_
  refine W.region rfl <| sM (I (listedE w_.length fence)) rfl <| sC _ _ ((listedE w_.length fence) != 0) rfl rfl rfl <| s_nil ?_
  refine WD.cond ((listedE w_.length fence) != 0) rfl (fun aF => ?_) (fun aF => ?_)
  ·replace hM := M.e_t hM aF
   simp only [qz1, qz2, qz3, qz4, qz5, qz6, ne_eq, qz7] at aF
   refine WD.seq ?_
   refine WD.of ?_
   refine W.region rfl <| sM (I (listedE w_.length fence)) rfl ?_
   refine t_st (k := 3) (b := ac) (off := 0) (cs := [B false]) (vs := [B false]) (cs' := [B false]) (v := B false) (L' := [cBlk ah (encB (staleL w_ revised)) 141, cRo ai, cBlk ae [I 0] 35, cBlk ac [B false] 4, cBlk aa [ag] 34, cMk ([])]) H rfl rfl rfl Sz4 rfl rfl rfl rfl rfl rfl ?_
   intro cg H
   refine t_st (k := 2) (b := ae) (off := 0) (cs := [I 0]) (vs := [I (listedE w_.length fence)]) (cs' := [I (listedE w_.length fence)]) (v := I (listedE w_.length fence)) (L' := [cBlk ah (encB (staleL w_ revised)) 141, cRo ai, cBlk ae [I (listedE w_.length fence)] 35, cBlk ac [B false] 4, cBlk aa [ag] 34, cMk ([])]) H rfl rfl rfl Sz35 rfl rfl rfl rfl rfl rfl ?_
   intro ci H
   refine s_nil ?_
   refine WD.of ?_
   refine W.ret ?_
   refine bodyD_r (H.pick [5, 0, 1, 2, 3, 4] (by decide) rfl) ?_
   intro bj H
   replace H : St w bj [cBlk ah (encB (staleL w_ revised)) 141, cRo ai, cBlk ae [I (listedE w_.length fence)] 35, cBlk ac [B false] 4, cBlk aa [ag] 34] R := H
   have bk := (H.blk (k := 3) rfl)
   have bl := (H.blk (k := 2) rfl)
   have az := M.e_pure hM
   exact ⟨_, (resE_ofn (vs := [B false, I (listedE w_.length fence)]) rfl rfl (.cell (v := B false) rfl (run_loadVar_sc Sc4 bk rfl) <| .cell (v := I (listedE w_.length fence)) rfl (run_loadVar_sc Sc35 bl rfl) <| .nil)), ⟨false, (listedE w_.length fence), az, rfl, (H.pick [] (by decide) rfl)⟩⟩
  replace hM := M.e_f hM aF
  simp only [qz1, qz2, qz3, qz4, qz5, qz6, ne_eq, qz7] at aF
  refine WD.of ?_
  refine W.skip ?_
  refine WD.seq ?_
  refine WD.of ?_
  refine W.region rfl <| s_val (x_mf (fs := []) (cs := [Pz aa]) rfl rfl) ?_
  refine t_alloc (cs := [.nilFunc]) H Al75 rfl ?_
  intro ak cj H
  refine t_st (k := 0) (b := ak) (off := 0) (cs := [.nilFunc]) (vs := [.func (.func 97) #[] #[Pz aa]]) (cs' := [.func (.func 97) #[] #[Pz aa]]) (v := .func (.func 97) #[] #[Pz aa]) (L' := [cBlk ak [.func (.func 97) #[] #[Pz aa]] 75, cBlk ah (encB (staleL w_ revised)) 141, cRo ai, cBlk ae [I 0] 35, cBlk ac [B false] 4, cBlk aa [ag] 34, cMk ([])]) H rfl rfl rfl Sz75 rfl rfl rfl rfl rfl rfl ?_
  intro ck H
  refine s_nil ?_
  refine WD.seq ?_
  refine WD.seq ?_
  refine WD.of ?_
  refine W.region rfl <| s_val (x_ld (v := ag) rfl (ldb_sc Sc34 (H.blk (k := 5) rfl) rfl)) ?_
  have cm := (av).len_le
  refine s_val (x_lenS T34.und rfl av) <| sM (I 0) rfl <| s_nil ?_
  refine WD.block ?_
  obtain ⟨bm, aQ, a9⟩ := M.e_bind hM
  obtain ⟨cn, aQ⟩ := M.e_iter aQ
  refine WD.loop (fun m al σ W => ∃ (s : Nat) (ρ : Env), σ = upds ρ [(1, ax), (6, Pz ac), (7, Pz ae), (8, Pz aj), (12, Pz ak), (33, ag), (34, I (fence.length : Int)), (35, I (s : Int))] /\ M.iterN (zcd w_ fence) m s = some bm /\ St w W [cBlk ak [.func (.func 97) #[] #[Pz aa]] 75, cBlk ah (encB (staleL w_ revised)) 141, cRo ai, cBlk ae [I 0] 35, cBlk ac [B false] 4, cBlk aa [ag] 34, cMk al] R) ?_ ?_
  ·exact ⟨_, 0, _, upds_of _ _ ⟨rfl, rfl, rfl, rfl, rfl, rfl, rfl, rfl, trivial⟩, aQ, H⟩
  rintro co al σ cp ⟨s, ρ, rfl, ba, H⟩
  obtain ⟨bn, bo, cq, hM, aR⟩ := M.e_iterN ba
  simp only [zcd] at hM
  clear ba
  refine WD.seq ?_
  refine WD.of ?_
  refine W.region rfl <| sC _ _ (decide ((s : Int) < (fence.length : Int))) rfl rfl rfl <| s_nil ?_
  refine WD.seq ?_
  refine WD.cond (decide ((s : Int) < (fence.length : Int))) rfl (fun aG => ?_) (fun aG => ?_)
  ·replace hM := M.e_t hM aG
   simp only [qz1, qz2, qz3, qz4, qz5, qz6, ne_eq, qz7] at aG
   refine WD.of ?_
   refine W.skip ?_
   refine WD.seq ?_
   refine WD.block ?_
   refine WD.seq ?_
   refine WD.of ?_
   refine W.region rfl ?_
   obtain ⟨cr, hM⟩ := M.e_gd hM
   refine s_val (x_ix (v := vat ag 1 (Int.toNat (s : Int))) rfl rfl (Sl.ix (α := Int) T34.und T34.size av (by omega) (by omega))) <| s_val (x_ld (v := I (fence.getD s 0)) rfl (ld_sc Sc3 (At.mono (Int_at av (i := (s : Int)) (by omega) (by omega)) (aC.at H)))) <| sA (I (fence.getD s 0)) rfl <| s_nil ?_
   refine WD.seq ?_
   refine WD.of ?_
   refine W.region rfl <| sM (Pz aj) rfl <| sM (I (fence.getD s 0)) rfl ?_
   obtain ⟨ct, bp, hM⟩ := M.e_bind hM
   refine s_call cf98 [Pz aj, I (fence.getD s 0)] rfl (zcu w_ (fence.getD s 0) (aB.app _) aD (Has.ro (k := 2) rfl a7) bp _ (St.give (T := [cBlk ak [.func (.func 97) #[] #[Pz aa]] 75, cBlk ah (encB (staleL w_ revised)) 141, cRo ai, cBlk ae [I 0] 35, cBlk ac [B false] 4, cBlk aa [ag] 34, cMk al]) H rfl)) ?_
   rintro vq bq ⟨am, ao, ap, br, hvq, aq⟩
   subst br
   subst vq
   try dsimp only at hM
   replace H : St w bq [cBlk ao [Pz aj] 127, cBlk ap [I am] 3, cBlk ak [.func (.func 97) #[] #[Pz aa]] 75, cBlk ah (encB (staleL w_ revised)) 141, cRo ai, cBlk ae [I 0] 35, cBlk ac [B false] 4, cBlk aa [ag] 34, cMk al] R := H.back aq rfl
   clear aq
   refine s_nil ?_
   refine WD.block ?_
   obtain ⟨cu, bt, hM⟩ := M.e_bind hM
   refine WD.range (L := [cBlk ae [I 0] 35, cBlk ac [B false] 4, cBlk ao [Pz aj] 127, cBlk ap [I am] 3, cBlk ak [.func (.func 97) #[] #[Pz aa]] 75, cBlk ah (encB (staleL w_ revised)) 141, cRo ai, cBlk aa [ag] 34]) [Pz ao, Pz ap] (H.pick [8, 5, 6, 0, 1, 2, 3, 4, 7] (by decide) rfl) rfl cf148 ?_
   intro aH au aL bu aS H
   have hYC : YieldC Try.prog ([cMk (au :: al), cBlk ao [Pz aj] 127, cBlk ap [I am] 3, cBlk ak [.func (.func 97) #[] #[Pz aa]] 75, cBlk ah (encB (staleL w_ revised)) 141, cRo ai, cBlk aa [ag] 34] ++ R) arI (yJ aH aL (fun _ aw => aw = [cBlk ae [I 0] 35, cBlk ac [B false] 4]) (fun _ aw => aw = [cBlk ae [I 0] 35, cBlk ac [B false] 4]) (fun _ => .ret)) (.func (.yield aH) #[] #[]) (M.yl (zaS fence)) := by
    refine YieldC.mk aS (fun _ aw => aw = [cBlk ae [I 0] 35, cBlk ac [B false] 4]) (fun _ aw => aw = [cBlk ae [I 0] 35, cBlk ac [B false] 4]) (fun _ => .ret) (zaS fence) (by rintro _ _ h_; obtain ⟨rfl⟩ := h_; rfl) (by rintro _ _ h_; (obtain ⟨rfl⟩ := h_; rfl)) rfl (arI_len rfl) ?_
    intro C_ cv x W_ bv
    obtain rfl := bv
    refine W.region rfl <| sA (I x) rfl <| s_nil ?_
    refine ⟨rfl, rfl, ?_⟩
    intro w R aT aw s_ r bw hM H
    skip
    obtain ⟨rfl⟩ := bw
    replace aB := aB.sub aT
    replace aI := aI.sub aT
    replace aC := aC.sub aT
    replace hM : (zaS fence () x).Ends r := hM
    simp only [zaS] at hM
    replace H : St w w [cBlk ae [I 0] 35, cBlk ac [B false] 4, cBlk ao [Pz aj] 127, cBlk ap [I am] 3, cBlk ak [.func (.func 97) #[] #[Pz aa]] 75, cBlk ah (encB (staleL w_ revised)) 141, cRo ai, cBlk aa [ag] 34, cMk (au :: al)] R := H.pick [0, 1, 3, 4, 5, 6, 7, 8, 2] (by decide) rfl
    refine W.block <| sQ rfl <| s_val (x_ld (v := .func (.func 97) #[] #[Pz aa]) rfl (ldb_sc Sc75 (H.blk (k := 4) rfl) rfl)) <| sM (I x) rfl ?_
    obtain ⟨cw, bx, hM⟩ := M.e_bind hM
    refine s_callv (f := 97) rfl cf97 [I x] rfl (zcM x fence (aC.app _) av (Has.here (k := 7) rfl) bx _ (St.give (T := [cBlk ae [I 0] 35, cBlk ac [B false] 4, cBlk ao [Pz aj] 127, cBlk ap [I am] 3, cBlk ak [.func (.func 97) #[] #[Pz aa]] 75, cBlk ah (encB (staleL w_ revised)) 141, cRo ai, cBlk aa [ag] 34, cMk (au :: al)]) H rfl)) ?_
    rintro vq bz ⟨r2, bA, hvq, aq⟩
    subst bA
    subst vq
    try dsimp only at hM
    replace H : St w bz [cBlk ae [I 0] 35, cBlk ac [B false] 4, cBlk ao [Pz aj] 127, cBlk ap [I am] 3, cBlk ak [.func (.func 97) #[] #[Pz aa]] 75, cBlk ah (encB (staleL w_ revised)) 141, cRo ai, cBlk aa [ag] 34, cMk (au :: al)] R := H.back aq rfl
    clear aq
    refine s_val (x_not (b := r2) rfl) <| s_nil ?_
    refine W.cond (!r2) rfl (fun aU => ?_) (fun aU => ?_)
    ·replace hM := M.e_t hM aU
     refine sQ rfl ?_
     refine t_st (k := 1) (b := ac) (off := 0) (cs := [B false]) (vs := [B false]) (cs' := [B false]) (v := B false) (L' := [cBlk ae [I 0] 35, cBlk ac [B false] 4, cBlk ao [Pz aj] 127, cBlk ap [I am] 3, cBlk ak [.func (.func 97) #[] #[Pz aa]] 75, cBlk ah (encB (staleL w_ revised)) 141, cRo ai, cBlk aa [ag] 34, cMk (au :: al)]) H rfl rfl rfl Sz4 rfl rfl rfl rfl rfl rfl ?_
     intro cx H
     refine t_st (k := 0) (b := ae) (off := 0) (cs := [I 0]) (vs := [I 0]) (cs' := [I 0]) (v := I 0) (L' := [cBlk ae [I 0] 35, cBlk ac [B false] 4, cBlk ao [Pz aj] 127, cBlk ap [I am] 3, cBlk ak [.func (.func 97) #[] #[Pz aa]] 75, cBlk ah (encB (staleL w_ revised)) 141, cRo ai, cBlk aa [ag] 34, cMk (au :: al)]) H rfl rfl rfl Sz35 rfl rfl rfl rfl rfl rfl ?_
     intro cy H
     refine s_nil ?_
     refine W.ret ?_
     exact ⟨(), [cBlk ae [I 0] 35, cBlk ac [B false] 4], (M.e_pure hM).symm, rfl, H.pick [0, 1, 8, 2, 3, 4, 5, 6, 7] (by decide) rfl, rfl⟩
    replace hM := M.e_f hM aU
    refine W.skip ?_
    exact ⟨(), [cBlk ae [I 0] 35, cBlk ac [B false] 4], (M.e_pure hM).symm, rfl, H.pick [0, 1, 8, 2, 3, 4, 5, 6, 7] (by decide) rfl⟩
   replace H : St w bu (cAll (cObj aH (.loop aL) :: [cBlk ae [I 0] 35, cBlk ac [B false] 4]) :: [cMk (au :: al), cBlk ao [Pz aj] 127, cBlk ap [I am] 3, cBlk ak [.func (.func 97) #[] #[Pz aa]] 75, cBlk ah (encB (staleL w_ revised)) 141, cRo ai, cBlk aa [ag] 34]) R := St.bundleB (A := cObj aH (.loop aL) :: [cBlk ae [I 0] 35, cBlk ac [B false] 4]) (T := [cMk (au :: al), cBlk ao [Pz aj] 127, cBlk ap [I am] 3, cBlk ak [.func (.func 97) #[] #[Pz aa]] 75, cBlk ah (encB (staleL w_ revised)) 141, cRo ai, cBlk aa [ag] 34]) rfl (H.pick [0, 2, 3, 1, 4, 5, 6, 7, 8, 9] (by decide) rfl)
   refine (zcH (M.yl (zaS fence)) (.inl ()) w_ am hYC ⟨_, rfl, rfl⟩ (aB.app _) aD (Has.ro (k := 5) rfl a7) (Has.here (k := 1) rfl) (Has.here (k := 2) rfl) bt _ (St.give (A := [cAll (cObj aH (.loop aL) :: [cBlk ae [I 0] 35, cBlk ac [B false] 4])]) (T := [cMk (au :: al), cBlk ao [Pz aj] 127, cBlk ap [I am] 3, cBlk ak [.func (.func 97) #[] #[Pz aa]] 75, cBlk ah (encB (staleL w_ revised)) 141, cRo ai, cBlk aa [ag] 34]) H rfl)).mono ?_
   rintro vq cz ⟨bB, cA, bC, hvq, aq, bb⟩
   subst bC
   replace H := H.back aq rfl
   clear aq hYC
   rcases bB with _ | _
   ·try dsimp only at hM
    obtain ⟨_, rfl, rfl⟩ := bb
    refine ⟨_, [cBlk ae [I 0] 35, cBlk ac [B false] 4, cBlk ao [Pz aj] 127, cBlk ap [I am] 3, cBlk ak [.func (.func 97) #[] #[Pz aa]] 75, cBlk ah (encB (staleL w_ revised)) 141, cRo ai, cBlk aa [ag] 34], H.unbundle.pick [0, 3, 1, 2, 4, 5, 6, 7, 8, 9] (by decide) rfl, aS.nb, ?_⟩
    intro aV H
    rw [aS.pd]
    replace H : St w aV [cMk (au :: al), cBlk ae [I 0] 35, cBlk ac [B false] 4, cBlk ao [Pz aj] 127, cBlk ap [I am] 3, cBlk ak [.func (.func 97) #[] #[Pz aa]] 75, cBlk ah (encB (staleL w_ revised)) 141, cRo ai, cBlk aa [ag] 34] R := H
    try simp only []
    refine WD.of ?_
    refine W.region rfl <| sR _ _ ((s : Int) + 1) rfl rfl rfl (by omega) <| sM (I ((s : Int) + 1)) rfl <| s_nil ?_
    exact ⟨bn, bo, s + 1, _, upds_of _ _ ⟨rfl, rfl, rfl, rfl, rfl, rfl, rfl, rfl, trivial⟩, M.e_inl hM aR, (H.pick [5, 6, 7, 1, 2, 8, 0] (by decide) rfl)⟩
   try dsimp only at hM
   obtain ⟨_, rfl, rfl⟩ := bb
   refine ⟨_, [cBlk ae [I 0] 35, cBlk ac [B false] 4, cBlk ao [Pz aj] 127, cBlk ap [I am] 3, cBlk ak [.func (.func 97) #[] #[Pz aa]] 75, cBlk ah (encB (staleL w_ revised)) 141, cRo ai, cBlk aa [ag] 34], H.unbundle.pick [0, 3, 1, 2, 4, 5, 6, 7, 8, 9] (by decide) rfl, nofun, ?_⟩
   intro aV H
   show WD _ _ _ (.ret) _ _ _
   refine WD.of ?_
   refine W.ret ?_
   replace H : St w aV [cMk (au :: al), cBlk ae [I 0] 35, cBlk ac [B false] 4, cBlk ao [Pz aj] 127, cBlk ap [I am] 3, cBlk ak [.func (.func 97) #[] #[Pz aa]] 75, cBlk ah (encB (staleL w_ revised)) 141, cRo ai, cBlk aa [ag] 34] R := H
   have bD := M.e_inr hM aR
   subst bD
   replace hM := a9
   try dsimp only at hM
   refine bodyD_r (H.pick [0, 1, 2, 3, 4, 5, 6, 7, 8] (by decide) rfl) ?_
   intro bE H
   replace H : St w bE [cBlk ae [I 0] 35, cBlk ac [B false] 4, cBlk ao [Pz aj] 127, cBlk ap [I am] 3, cBlk ak [.func (.func 97) #[] #[Pz aa]] 75, cBlk ah (encB (staleL w_ revised)) 141, cRo ai, cBlk aa [ag] 34] R := H
   have bF := (H.blk (k := 1) rfl)
   have bG := (H.blk (k := 0) rfl)
   have az := M.e_pure hM
   exact ⟨_, (resE_ofn (vs := [B false, I 0]) rfl rfl (.cell (v := B false) rfl (run_loadVar_sc Sc4 bF rfl) <| .cell (v := I 0) rfl (run_loadVar_sc Sc35 bG rfl) <| .nil)), ⟨false, 0, az, rfl, (H.pick [] (by decide) rfl)⟩⟩
  replace hM := M.e_f hM aG
  simp only [qz1, qz2, qz3, qz4, qz5, qz6, ne_eq, qz7] at aG
  refine WD.of ?_
  refine W.exit ?_
  have bH := M.e_inr hM aR
  subst bH
  replace hM := a9
  try dsimp only at hM
  refine WD.seq ?_
  refine WD.of ?_
  refine W.region rfl <| s_val (x_ld (v := .func (.func 97) #[] #[Pz aa]) rfl (ldb_sc Sc75 (H.blk (k := 0) rfl) rfl)) <| sM ax rfl ?_
  obtain ⟨cB, bI, hM⟩ := M.e_bind hM
  refine s_call cf87 [.func (.func 97) #[] #[Pz aa], ax] rfl (zcp (fun aW => zbQ aW fence) revised ⟨97, [Pz aa], rfl, cf97, fun bc cC cD bJ aW cE bK cF bL bM => by obtain rfl := Arg.int bL; exact (zcM aW fence (Reads.app (aC.app _) _) av (Has.app (Has.here (k := 5) rfl) _) bM bc (St.refl bK)).mono fun bJ bc ⟨cG, bN, bO, bP⟩ => by subst bN; exact ⟨bO, bP⟩⟩ (aI.app _) aM bI _ (St.give (T := [cBlk ak [.func (.func 97) #[] #[Pz aa]] 75, cBlk ah (encB (staleL w_ revised)) 141, cRo ai, cBlk ae [I 0] 35, cBlk ac [B false] 4, cBlk aa [ag] 34, cMk al]) H rfl)) ?_
  rintro vq bQ ⟨r3, bR, hvq, aq⟩
  subst bR
  subst vq
  try dsimp only at hM
  replace H : St w bQ [cBlk ak [.func (.func 97) #[] #[Pz aa]] 75, cBlk ah (encB (staleL w_ revised)) 141, cRo ai, cBlk ae [I 0] 35, cBlk ac [B false] 4, cBlk aa [ag] 34, cMk al] R := H.back aq rfl
  clear aq
  refine t_st (k := 4) (b := ac) (off := 0) (cs := [B false]) (vs := [B r3]) (cs' := [B r3]) (v := B r3) (L' := [cBlk ak [.func (.func 97) #[] #[Pz aa]] 75, cBlk ah (encB (staleL w_ revised)) 141, cRo ai, cBlk ae [I 0] 35, cBlk ac [B r3] 4, cBlk aa [ag] 34, cMk al]) H rfl rfl rfl Sz4 rfl rfl rfl rfl rfl rfl ?_
  intro cH H
  refine t_st (k := 3) (b := ae) (off := 0) (cs := [I 0]) (vs := [I 0]) (cs' := [I 0]) (v := I 0) (L' := [cBlk ak [.func (.func 97) #[] #[Pz aa]] 75, cBlk ah (encB (staleL w_ revised)) 141, cRo ai, cBlk ae [I 0] 35, cBlk ac [B r3] 4, cBlk aa [ag] 34, cMk al]) H rfl rfl rfl Sz35 rfl rfl rfl rfl rfl rfl ?_
  intro cI H
  refine s_nil ?_
  refine WD.of ?_
  refine W.ret ?_
  refine bodyD_r (H.pick [6, 0, 1, 2, 3, 4, 5] (by decide) rfl) ?_
  intro bS H
  replace H : St w bS [cBlk ak [.func (.func 97) #[] #[Pz aa]] 75, cBlk ah (encB (staleL w_ revised)) 141, cRo ai, cBlk ae [I 0] 35, cBlk ac [B r3] 4, cBlk aa [ag] 34] R := H
  have bT := (H.blk (k := 4) rfl)
  have bU := (H.blk (k := 3) rfl)
  have az := M.e_pure hM
  exact ⟨_, (resE_ofn (vs := [B r3, I 0]) rfl rfl (.cell (v := B r3) rfl (run_loadVar_sc Sc4 bT rfl) <| .cell (v := I 0) rfl (run_loadVar_sc Sc35 bU rfl) <| .nil)), ⟨r3, 0, az, rfl, (H.pick [] (by decide) rfl)⟩⟩
 skip
 exact absurd a8 (by decide)

def zap (w_ : List Work) (revised : List Int) (work : Int) : M (Int ⊕ Int) :=
  bif (askedE w_ revised == 0) then (
  bif !(inB work 0 ((w_.length : Int) - 1)) then (
  M.pure (.inl 2))
  else (
  bif revised.contains work then (
  M.pure (.inl 8))
  else (
  M.pure (.inr 0))))
  else (
  bif (askedE w_ revised) != 0 then (
  M.pure (.inl (askedE w_ revised)))
  else (
  M.fail))
theorem zco {R : List Chunk} {aw : Cells} {ai : Value} {ax : Cells} {aj : Value} (w_ : List Work) (revised : List Int) (work : Int) (aF : Reads R aw) (am : Sl aw ai w_) (ay : Reads R ax) (az : Sl ax aj revised) {r : (Int ⊕ Int)} (hM : (zap w_ revised work).Ends r) (w : World) (H : St w w [] R) : Ret Try.prog 116 #[ai, aj, I work] w fun v w' => (∃ (y0 : Int), (.inl y0) = r /\ v = .tuple #[.pointer none, I y0] /\ St w w' [] R) ∨ (∃ (y0 : Int) (nb0 : Nat) (aA : Base), (.inr y0) = r /\ v = .tuple #[Pz nb0, I y0] /\ St w w' [cRo aA] R /\ (∀ W, (cRo aA).ok W -> W.heap[nb0]? = some (.cells [ai].toArray 187 (0, 0)))) := by
 refine ret_of_W Try.func116 rfl rfl rfl ?_
 refine sQ rfl <| sA (.pointer none) rfl <| sA (I 0) rfl <| s_nil <| sQ rfl <| sM ai rfl <| sM aj rfl ?_
 refine s_call cf92 [ai, aj] rfl (asked_any _ (am.mono (aF.at H)) (az.mono (ay.at H))) ?_
 rintro _ aB (⟨ao, rfl, ac⟩ | ⟨ao, aa, ae, rfl, aC, ap⟩)
 ·replace hM := M.e_f hM (by simpa using ao)
  replace H : St w aB [] R := H.ext ac
  clear ac
  refine sM (.tuple #[.pointer none, .slice none 0 0, .agg (encB (List.replicate 30 false)).toArray, I (askedE w_ revised)]) rfl <| sX [.pointer none, .slice none 0 0, .agg (encB (List.replicate 30 false)).toArray, I (askedE w_ revised)] (.pointer none) rfl rfl <| sX [.pointer none, .slice none 0 0, .agg (encB (List.replicate 30 false)).toArray, I (askedE w_ revised)] (.slice none 0 0) rfl rfl <| sX [.pointer none, .slice none 0 0, .agg (encB (List.replicate 30 false)).toArray, I (askedE w_ revised)] (.agg (encB (List.replicate 30 false)).toArray) rfl rfl <| sX [.pointer none, .slice none 0 0, .agg (encB (List.replicate 30 false)).toArray, I (askedE w_ revised)] (I (askedE w_ revised)) rfl rfl ?_
  refine t_alloc (cs := encB (List.replicate 30 false)) H Al141 rfl ?_
  intro ag aJ H
  have aq : (List.replicate 30 false).length = 30 := by simp
  refine sA (.pointer none) rfl <| sA (.slice none 0 0) rfl ?_
  refine t_stArrA (k := 0) (b := ag) (l := List.replicate 30 false) (l' := List.replicate 30 false) (L' := [cBlk ag (encB (List.replicate 30 false)) 141]) H rfl rfl rfl Sz141 aq (List.length_replicate) rfl ?_
  intro aK H
  refine sA (I (askedE w_ revised)) rfl <| s_nil <| W.seq <| W.block <| sQ rfl <| sM (I (askedE w_ revised)) rfl <| sC _ _ ((askedE w_ revised) != 0) rfl rfl rfl <| sA (B ((askedE w_ revised) != 0)) rfl <| s_nil ?_
  refine W.cond ((askedE w_ revised) != 0) rfl (fun al => ?_) (fun al => ?_)
  ·replace hM := M.e_t hM al
   simp only [qz1, qz2, qz3, qz4, qz5, qz6, ne_eq, qz7] at al
   refine sQ rfl <| sM (I (askedE w_ revised)) rfl <| sA (.pointer none) rfl <| sA (I (askedE w_ revised)) rfl <| s_nil ?_
   refine W.ret ?_
   have ah := M.e_pure hM
   exact ⟨_, resE_tmp2 rfl, .inl (⟨(askedE w_ revised), ah, rfl, (H.pick [] (by decide) rfl)⟩)⟩
  replace hM := M.e_f hM al
  exact (M.e_fail hM).elim
 replace hM := M.e_t hM (by simpa using ao)
 obtain ⟨ak, aD, ap, aG⟩ := H.freshNB aC ap
 replace H : St w aB [cRo ak] R := aD
 clear aD aC
 have aL := ap.len_le
 refine sM (.tuple #[Pz aa, ae, .agg (encB (staleL w_ revised)).toArray, I 0]) rfl <| sX [Pz aa, ae, .agg (encB (staleL w_ revised)).toArray, I 0] (Pz aa) rfl rfl <| sX [Pz aa, ae, .agg (encB (staleL w_ revised)).toArray, I 0] ae rfl rfl <| sX [Pz aa, ae, .agg (encB (staleL w_ revised)).toArray, I 0] (.agg (encB (staleL w_ revised)).toArray) rfl rfl <| sX [Pz aa, ae, .agg (encB (staleL w_ revised)).toArray, I 0] (I 0) rfl rfl ?_
 refine t_alloc (cs := encB (List.replicate 30 false)) H Al141 rfl ?_
 intro ag aM H
 have aq : (List.replicate 30 false).length = 30 := by simp
 refine sA (Pz aa) rfl <| sA ae rfl ?_
 refine t_stArrA (k := 0) (b := ag) (l := List.replicate 30 false) (l' := staleL w_ revised) (L' := [cBlk ag (encB (staleL w_ revised)) 141, cRo ak]) H rfl rfl rfl Sz141 aq (staleL_len _ _) rfl ?_
 intro aN H
 refine sA (I 0) rfl <| s_nil <| W.seq <| W.block <| sQ rfl <| sM (I 0) rfl <| sC _ _ ((0 : Int) != 0) rfl rfl rfl <| sA (B ((0 : Int) != 0)) rfl <| s_nil ?_
 refine W.cond ((0 : Int) != 0) rfl (fun aE => ?_) (fun aE => ?_)
 ·skip
  exact absurd aE (by decide)
 skip
 refine sQ rfl <| sM (I work) rfl <| sM ai rfl ?_
 have aO := (am).len_le
 refine s_val (x_lenS T22.und rfl am) <| sR _ _ ((w_.length : Int) - 1) rfl rfl rfl (by omega) ?_
 refine s_call cf84 [I work, I 0, I ((w_.length : Int) - 1)] rfl (in_any work 0 ((w_.length : Int) - 1) _) ?_
 rintro _ aH ⟨rfl, ac⟩
 replace H : St w aH [cBlk ag (encB (staleL w_ revised)) 141, cRo ak] R := H.ext ac
 clear ac
 refine s_val (x_not (b := inB work 0 ((w_.length : Int) - 1)) rfl) <| sA (B (!(inB work 0 ((w_.length : Int) - 1)))) rfl <| s_nil ?_
 refine W.cond (!(inB work 0 ((w_.length : Int) - 1))) rfl (fun au => ?_) (fun au => ?_)
 ·replace hM := M.e_t hM au
  refine sQ rfl <| sA (.pointer none) rfl <| sA (I 2) rfl <| s_nil ?_
  refine W.ret ?_
  have ah := M.e_pure hM
  exact ⟨_, resE_tmp2 rfl, .inl (⟨2, ah, rfl, (H.pick [] (by decide) rfl)⟩)⟩
 replace hM := M.e_f hM au
 refine sQ rfl <| sM aj rfl <| sM (I work) rfl ?_
 refine s_call cf45 [aj, I work] rfl (contains_int work _ (az.mono (ay.at H))) ?_
 rintro _ aI ⟨rfl, ac⟩
 replace H : St w aI [cBlk ag (encB (staleL w_ revised)) 141, cRo ak] R := H.ext ac
 clear ac
 refine sA (B (revised.contains work)) rfl <| s_nil ?_
 refine W.cond (revised.contains work) rfl (fun av => ?_) (fun av => ?_)
 ·replace hM := M.e_t hM av
  refine sQ rfl <| sA (.pointer none) rfl <| sA (I 8) rfl <| s_nil ?_
  refine W.ret ?_
  have ah := M.e_pure hM
  exact ⟨_, resE_tmp2 rfl, .inl (⟨8, ah, rfl, (H.pick [] (by decide) rfl)⟩)⟩
 replace hM := M.e_f hM av
 refine W.skip <| sQ rfl <| sM (Pz aa) rfl <| sA (Pz aa) rfl <| sA (I 0) rfl <| s_nil ?_
 refine W.ret ?_
 have ah := M.e_pure hM
 exact ⟨_, resE_tmp2 rfl, .inr (⟨0, aa, ak, ah, rfl, (H.pick [1] (by decide) rfl), aG⟩)⟩

def zba (i : Int) (aa : List Work) (ac : Int) : M Bool :=
  M.bind (za2 aa ac i) fun r2 =>
  M.pure r2
theorem zdc {R : List Chunk} {ag : Nat} {ac : Nat} {ah : Cells} {ai : Value} {aj : Nat} (i : Int) (ae : List Work) (aa : Int) (al : Reads R ah) (am : Sl ah ai ae) (ao : Has R (cBlk ac [ai] 187)) (ap : Has R (cBlk ag [Pz ac] 127)) (aq : Has R (cBlk aj [I aa] 3)) {r : Bool} (hM : (zba i ae aa).Ends r) (w : World) (H : St w w [] R) : Ret Try.prog 159 #[I i, Pz ag, Pz aj] w fun v w' => ∃ (y0 : Bool), y0 = r /\ v = B y0 /\ St w w' [] R := by
 refine ret_of_W Try.func159 rfl rfl rfl ?_
 refine sQ rfl <| sA (B false) rfl <| s_nil <| sQ rfl <| s_val (x_ld (v := Pz ac) rfl (ldb_sc Sc127 (ap.blk H) rfl)) <| s_val (x_ld (v := I aa) rfl (ldb_sc Sc3 (aq.blk H) rfl)) <| sM (I i) rfl ?_
 obtain ⟨ay, au, hM⟩ := M.e_bind hM
 refine s_call cf149 [Pz ac, I aa, I i] rfl (zcl ae aa i (al.app _) am (ao.app _) au _ (St.give (T := []) H rfl)) ?_
 rintro vq av ⟨r2, aw, hvq, ak⟩
 subst aw
 subst vq
 try dsimp only at hM
 replace H : St w av [] R := H.back ak rfl
 clear ak
 refine sA (B r2) rfl <| s_nil ?_
 refine W.ret ?_
 have ax := M.e_pure hM
 exact ⟨_, resE_tmp rfl, ⟨r2, ax, rfl, H⟩⟩

def zag (ac : List Work) (aa : List Int) (n_work : Int) (ae : Gate -> Option Int) (ag : Int -> Option Bool) (i : Int) : M Bool :=
  M.pure ((i != n_work) && (!(aa.contains i)))
theorem zbN {R : List Chunk} {aa : Nat} {ag : Nat} {ah : Cells} {ai : Value} {aj : Cells} {ae : Value} {ak : Nat} {al : Nat} (am : List Work) (ac : List Int) (n_work : Int) (ao : Gate -> Option Int) (ap : Int -> Option Bool) (i : Int) (az : Reads R ah) (aA : Sl ah ai am) (aB : Has R (cBlk ag [ai] 187)) (au : Reads R aj) (av : Sl aj ae ac) (aC : Has R (cMap encG I ak ao)) (aD : Has R (cMap I B al ap)) (aq : Has R (cBlk aa [Pz ag, ae, I n_work, .map (some ak), .map (some al)] 180)) {r : Bool} (hM : (zag am ac n_work ao ap i).Ends r) (w : World) (H : St w w [] R) : Ret Try.prog 127 #[Pz aa, I i] w fun v w' => ∃ (y0 : Bool), y0 = r /\ v = B y0 /\ St w w' [] R := by
 refine ret_of_W Try.func127 rfl rfl rfl ?_
 refine sQ rfl <| sA (B false) rfl <| s_nil <| sQ rfl <| sM (I i) rfl <| sM (Pz aa) rfl <| s_val (x_nc (a := ⟨aa, 0, none⟩) rfl) <| s_val (x_fa (v := Oz aa 2) rfl (fa_blk (o := 0) Fd180_2 Sz3)) <| s_val (x_ld (v := I n_work) rfl (ldb_sc Sc3 (aq.blk H) rfl)) <| sC _ _ (i != n_work) rfl rfl rfl ?_
 refine sM (B (i != n_work)) rfl <| g_val (i != n_work) (gy_t rfl) (fun hg => x_mv (v := Pz aa) rfl) <| g_val (i != n_work) (gy_t rfl) (fun hg => x_nc (a := ⟨aa, 0, none⟩) (gd_of hg (Pz aa))) <| g_val (i != n_work) (gy_t rfl) (fun hg => x_fa (v := Oz aa 1) (gd_of hg (Pz aa)) (fa_blk (o := 0) Fd180_1 Sz34)) <| g_val (i != n_work) (gy_t rfl) (fun hg => x_ld (v := ae) (gd_of hg (Oz aa 1)) (ldb_sc Sc34 (aq.blk H) rfl)) <| g_val (i != n_work) (gy_t rfl) (fun hg => x_mv (v := I i) rfl) ?_
 refine t_gcall (i != n_work) (gy_t rfl) cf45 (B (ac.contains i)) (fun _ => [ae, I i]) (fun hg => lst2 (gd_of hg (ae)) (gd_of hg (I i))) H (fun hg => Ret.mono (contains_int i _ (av.mono (au.at H))) fun v_ w_ ⟨aw, ax⟩ => ⟨aw, H.ext ax⟩) ?_
 intro aE H
 refine g_val (i != n_work) (gy_t rfl) (fun hg => x_not (b := ac.contains i) (gd_of hg (B (ac.contains i)))) <| s_val (x_pand (b := i != n_work) (r := !(ac.contains i)) rfl (fun hb => gd_of (c := i != n_work) (by first | exact hb | (rw [hb]; rfl) | simp_all) (B (!(ac.contains i)))) rfl) <| sA (B ((i != n_work) && (!(ac.contains i)))) rfl <| s_nil ?_
 refine W.ret ?_
 have ay := M.e_pure hM
 exact ⟨_, resE_tmp rfl, ⟨((i != n_work) && (!(ac.contains i))), ay, rfl, H⟩⟩

def zar (ag : List Work) (ai : List Int) (n_work : Int) (aa : Int) (aj : ((List Work) × (List Int) × Int × (Gate -> Option Int) × (Int -> Option Bool) × Int) -> M (Bool × (Gate -> Option Int) × (Int -> Option Bool))) : ((Gate -> Option Int) × (Int -> Option Bool) × Nat) -> M (((Gate -> Option Int) × (Int -> Option Bool) × Nat) ⊕ (((Gate -> Option Int) × (Int -> Option Bool)) ⊕ ((Gate -> Option Int) × (Int -> Option Bool)))) := fun (mp, ae, s) =>
  bif decide ((s : Int) < (2 * (ag.length : Int))) then (
  bif ((decide (0 < ((mp (⟨(aa : Int), (s : Int)⟩ : Gate)).getD 0))) && (!((ae (s : Int)).getD false))) then (
  M.bind (aj (ag, ai, n_work, mp, ae, (s : Int))) fun (r8, ac, ah) =>
  bif (((decide (0 < ((mp (⟨(aa : Int), (s : Int)⟩ : Gate)).getD 0))) && (!((ae (s : Int)).getD false))) && r8) then (
  M.grd (decide ((-9223372036854775808 : Int) <= (((ac (⟨(aa : Int), (s : Int)⟩ : Gate)).getD 0) - 1)) && decide ((((ac (⟨(aa : Int), (s : Int)⟩ : Gate)).getD 0) - 1) <= (9223372036854775807 : Int))) <|
  M.grd (decide ((-9223372036854775808 : Int) <= ((((updF ac (⟨(aa : Int), (s : Int)⟩ : Gate) (((ac (⟨(aa : Int), (s : Int)⟩ : Gate)).getD 0) - 1 : Int)) (⟨(s : Int), (aa : Int)⟩ : Gate)).getD 0) + 1)) && decide (((((updF ac (⟨(aa : Int), (s : Int)⟩ : Gate) (((ac (⟨(aa : Int), (s : Int)⟩ : Gate)).getD 0) - 1 : Int)) (⟨(s : Int), (aa : Int)⟩ : Gate)).getD 0) + 1) <= (9223372036854775807 : Int))) <|
  M.pure (.inr (.inl (updF (updF ac (⟨(aa : Int), (s : Int)⟩ : Gate) (((ac (⟨(aa : Int), (s : Int)⟩ : Gate)).getD 0) - 1 : Int)) (⟨(s : Int), (aa : Int)⟩ : Gate) ((((updF ac (⟨(aa : Int), (s : Int)⟩ : Gate) (((ac (⟨(aa : Int), (s : Int)⟩ : Gate)).getD 0) - 1 : Int)) (⟨(s : Int), (aa : Int)⟩ : Gate)).getD 0) + 1 : Int), ah))))
  else (
  M.grd (decide ((-9223372036854775808 : Int) <= ((s : Int) + 1)) && decide (((s : Int) + 1) <= (9223372036854775807 : Int))) <|
  M.pure (.inl (ac, ah, s + 1))))
  else (
  M.grd (decide ((-9223372036854775808 : Int) <= ((s : Int) + 1)) && decide (((s : Int) + 1) <= (9223372036854775807 : Int))) <|
  M.pure (.inl (mp, ae, s + 1))))
  else (
  M.pure (.inr (.inr (mp, ae))))
def zai (ah : ((List Work) × (List Int) × Int × (Gate -> Option Int) × (Int -> Option Bool) × Int) -> M (Bool × (Gate -> Option Int) × (Int -> Option Bool))) : ((List Work) × (List Int) × Int × (Gate -> Option Int) × (Int -> Option Bool) × Int) -> M (Bool × (Gate -> Option Int) × (Int -> Option Bool)) := fun (aa, ai, n_work, ae, ag, ac) =>
  M.grd (decide ((-9223372036854775808 : Int) <= (2 * n_work)) && decide ((2 * n_work) <= (9223372036854775807 : Int))) <|
  bif ac == (2 * n_work) then (
  M.pure (true, ae, ag))
  else (
  M.grd (decide ((-9223372036854775808 : Int) <= (2 * (aa.length : Int))) && decide ((2 * (aa.length : Int)) <= (9223372036854775807 : Int))) <|
  M.bind (M.iter (zar aa ai n_work ac ah) (ae, updF ag (ac : Int) true, 0)) fun x_ => match x_ with
  | (.inl (aj, ak)) => (
  M.pure (true, aj, ak))
  | (.inr (al, am)) => (
  M.pure (false, al, am)))
theorem zcv : M.Mon zai := by
  intro n f g h a
  obtain ⟨aa, ac, n_work, ae, ag, ah⟩ := a
  simp only [zai, zar]
  repeat' (first | (with_reducible refine M.le_iter ?_ _; simp only [Prod.forall, zar]; intros) | with_reducible exact M.le_same _ _ | with_reducible exact h _ | with_reducible refine M.le_grd ?_ | with_reducible refine M.le_if ?_ ?_ | with_reducible refine M.le_bind ?_ (fun x => ?_) | with_reducible refine M.le_opt ?_ | with_reducible refine M.le_iter (fun x => ?_) _ | with_reducible refine zb0 (M.le_yl (fun s_ a_ => ?_)) _ _ _ | (rename_i x; cases x) | (rename_i x; obtain ⟨_, _⟩ := x) | refine M.le_grd ?_ | refine M.le_if ?_ ?_ | refine M.le_bind ?_ (fun x => ?_) | refine M.le_opt ?_ | refine M.le_iter (fun x => ?_) _ | refine zb0 (M.le_yl (fun s_ a_ => ?_)) _ _ _ | (rename_i x; cases x) | (rename_i x; obtain ⟨_, _⟩ := x))
def zbG (aa : List Work) (ac : List Int) (n_work : Int) (ae : Gate -> Option Int) (ag : Int -> Option Bool) (ah : Int) : M (Bool × (Gate -> Option Int) × (Int -> Option Bool)) := M.fix zai zcv (aa, ac, n_work, ae, ag, ah)
theorem zdI (n_ : Nat) : ∀ {R : List Chunk} {ae : Nat} {ao : Nat} {aD : Cells} {ax : Value} {aE : Cells} {aF : Value} {ah : Nat} {ag : Nat} (am : List Work) (aw : List Int) (n_work : Int) (au : Gate -> Option Int) (ap : Int -> Option Bool) (aa : Int) (aH : Reads R aD) (ay : Sl aD ax am) (aG : Has R (cBlk ao [ax] 187)) (aI : Reads R aE) (aJ : Sl aE aF aw) (ak : Has R (cBlk ae [Pz ao, aF, I n_work, .map (some ah), .map (some ag)] 180)) {r : (Bool × (Gate -> Option Int) × (Int -> Option Bool))} (hM : (M.fixN zai n_ (am, aw, n_work, au, ap, aa)).Ends r) (w : World) (H : St w w [cMap encG I ah au, cMap I B ag ap] R), Ret Try.prog 126 #[Pz ae, I aa] w fun v w' => ∃ (y0 : Bool) (y1 : Gate -> Option Int) (y2 : Int -> Option Bool), (y0, y1, y2) = r /\ v = B y0 /\ St w w' [cMap encG I ah y1, cMap I B ag y2] R := by
  induction n_ with
  | zero => intro R ae ao aD ax aE aF ah ag am aw n_work au ap aa aH ay aG aI aJ ak r hM w H; exact (M.e_fail hM).elim
  | succ n_ ih =>
    intro R ae ao aD ax aE aF ah ag am aw n_work au ap aa aH ay aG aI aJ ak r hM w H
    refine ret_of_W Try.func126 rfl rfl rfl ?_
    refine sQ rfl <| sA (B false) rfl <| s_nil <| W.seq <| sQ rfl <| sM (I aa) rfl <| sM (Pz ae) rfl <| s_val (x_nc (a := ⟨ae, 0, none⟩) rfl) <| s_val (x_fa (v := Oz ae 2) rfl (fa_blk (o := 0) Fd180_2 Sz3)) <| s_val (x_ld (v := I n_work) rfl (ldb_sc Sc3 (ak.blk H) rfl)) ?_
    obtain ⟨bm, hM⟩ := M.e_gd hM
    refine sR _ _ (2 * n_work) rfl rfl rfl (by omega) <| sC _ _ (aa == (2 * n_work)) rfl rfl rfl <| s_nil ?_
    refine W.cond (aa == (2 * n_work)) rfl (fun az => ?_) (fun az => ?_)
    ·replace hM := M.e_t hM az
     simp only [qz1, qz2, qz3, qz4, qz5, qz6, ne_eq, qz7] at az
     refine sQ rfl <| sA (B true) rfl <| s_nil ?_
     refine W.ret ?_
     have al := M.e_pure hM
     exact ⟨_, resE_tmp rfl, ⟨true, au, ap, al, rfl, H⟩⟩
    replace hM := M.e_f hM az
    simp only [qz1, qz2, qz3, qz4, qz5, qz6, ne_eq, qz7] at az
    refine W.skip <| sQ rfl <| sM (Pz ae) rfl <| s_val (x_nc (a := ⟨ae, 0, none⟩) rfl) <| s_val (x_fa (v := Oz ae 4) rfl (fa_blk (o := 0) Fd180_4 Sz178)) <| s_val (x_ld (v := .map (some ag)) rfl (ldb_sc Sc178 (ak.blk H) rfl)) <| sM (I aa) rfl ?_
    refine t_mapu (i := 1) (kenc := I) (venc := B) (f := ap) (k := (aa : Int)) (v := true) (L' := [cMap encG I ah au, cMap I B ag (updF ap (aa : Int) true)]) keyIntB Try.underlying178 H rfl rfl rfl rfl rfl ?_
    intro bn H
    refine s_nil <| W.seq <| sQ rfl <| sM (Pz ae) rfl <| s_val (x_nc (a := ⟨ae, 0, none⟩) rfl) <| s_val (x_fa (v := Pz ae) rfl (fa_blk (o := 0) Fd180_0 Sz127)) <| s_val (x_ld (v := Pz ao) rfl (ldb_sc Sc127 (ak.blk H) rfl)) <| s_val (x_nc (a := ⟨ao, 0, none⟩) rfl) <| s_val (x_fa (v := Pz ao) rfl (fa_blk (o := 0) Fd187_0 Sz185)) <| s_val (x_fa (v := Pz ao) rfl (fa_blk (o := 0) Fd185_0 Sz22)) <| s_val (x_ld (v := ax) rfl (ldb_sc Sc22 (aG.blk H) rfl)) ?_
    have bo := (ay).len_le
    refine s_val (x_lenS T22.und rfl ay) ?_
    obtain ⟨bp, hM⟩ := M.e_gd hM
    refine sR _ _ (2 * (am.length : Int)) rfl rfl rfl (by omega) <| sM (I 0) rfl <| s_nil <| W.block ?_
    obtain ⟨aX, aK, aA⟩ := M.e_bind hM
    obtain ⟨bq, aK⟩ := M.e_iter aK
    refine W.loop (fun m σ W => ∃ (mp : Gate -> Option Int) (aj : Int -> Option Bool) (s : Nat) (ρ : Env), σ = upds ρ [(0, Pz ae), (1, I aa), (27, I (2 * (am.length : Int))), (28, I (s : Int))] /\ M.iterN (zar am aw n_work aa (M.fixN zai n_)) m (mp, aj, s) = some aX /\ St w W [cMap encG I ah mp, cMap I B ag aj] R) ?_ ?_
    ·exact ⟨_, au, updF ap (aa : Int) true, 0, _, upds_of _ _ ⟨rfl, rfl, rfl, rfl, trivial⟩, aK, H⟩
    rintro br σ bt ⟨mp, aj, s, ρ, rfl, aS, H⟩
    obtain ⟨aT, aU, bu, hM, av⟩ := M.e_iterN aS
    simp only [zar] at hM
    clear aS
    refine sQ rfl <| sC _ _ (decide ((s : Int) < (2 * (am.length : Int)))) rfl rfl rfl <| s_nil <| W.seq ?_
    refine W.cond (decide ((s : Int) < (2 * (am.length : Int)))) rfl (fun aB => ?_) (fun aB => ?_)
    ·replace hM := M.e_t hM aB
     simp only [qz1, qz2, qz3, qz4, qz5, qz6, ne_eq, qz7] at aB
     refine W.skip <| W.seq <| W.block <| sQ rfl <| sM (I (s : Int)) rfl <| sA (I (s : Int)) rfl <| s_nil <| sQ rfl <| sM (Pz ae) rfl <| s_val (x_nc (a := ⟨ae, 0, none⟩) rfl) ?_
     refine s_val (x_fa (v := Oz ae 3) rfl (fa_blk (o := 0) Fd180_3 Sz177)) <| s_val (x_ld (v := .map (some ah)) rfl (ldb_sc Sc177 (ak.blk H) rfl)) <| sM (I aa) rfl <| sM (I (s : Int)) rfl <| s_val (x_bld (ps := [(0, I aa), (1, I (s : Int))]) (zs := [I 0, I 0]) (L' := [I aa, I (s : Int)]) rfl Try.underlying182 Al182 rfl (Bd182 Try.underlying182) (.cons (cs := [I aa]) rfl rfl rfl rfl rfl <| .cons (cs := [I (s : Int)]) rfl rfl rfl rfl rfl <| .nil)) <| s_val (q_look (kenc := encG) (venc := I) (f := mp) (k := (⟨(aa : Int), (s : Int)⟩ : Gate)) (v := I ((mp (⟨(aa : Int), (s : Int)⟩ : Gate)).getD 0)) keyGate Try.underlying177 Al3 rfl rfl (H.get (k := 0) rfl) false (by rw [if_neg (by decide), int_val])) <| sC _ _ (decide (0 < ((mp (⟨(aa : Int), (s : Int)⟩ : Gate)).getD 0))) rfl rfl rfl <| sM (B (decide (0 < ((mp (⟨(aa : Int), (s : Int)⟩ : Gate)).getD 0)))) rfl <| g_val (decide (0 < ((mp (⟨(aa : Int), (s : Int)⟩ : Gate)).getD 0))) (gy_t rfl) (fun hg => x_mv (v := Pz ae) rfl) <| g_val (decide (0 < ((mp (⟨(aa : Int), (s : Int)⟩ : Gate)).getD 0))) (gy_t rfl) (fun hg => x_nc (a := ⟨ae, 0, none⟩) (gd_of hg (Pz ae))) <| g_val (decide (0 < ((mp (⟨(aa : Int), (s : Int)⟩ : Gate)).getD 0))) (gy_t rfl) (fun hg => x_fa (v := Oz ae 4) (gd_of hg (Pz ae)) (fa_blk (o := 0) Fd180_4 Sz178)) <| g_val (decide (0 < ((mp (⟨(aa : Int), (s : Int)⟩ : Gate)).getD 0))) (gy_t rfl) (fun hg => x_ld (v := .map (some ag)) (gd_of hg (Oz ae 4)) (ldb_sc Sc178 (ak.blk H) rfl)) ?_
     refine g_val (decide (0 < ((mp (⟨(aa : Int), (s : Int)⟩ : Gate)).getD 0))) (gy_t rfl) (fun hg => x_mv (v := I (s : Int)) rfl) <| g_val (decide (0 < ((mp (⟨(aa : Int), (s : Int)⟩ : Gate)).getD 0))) (gy_t rfl) (fun hg => q_look (kenc := I) (venc := B) (f := aj) (k := (s : Int)) (v := B ((aj (s : Int)).getD false)) keyIntB Try.underlying178 Al4 (by exact (gd_of hg (.map (some ag)))) (by exact (gd_of hg (I (s : Int)))) (H.get (k := 1) rfl) false (by rw [if_neg (by decide), bool_val])) <| g_val (decide (0 < ((mp (⟨(aa : Int), (s : Int)⟩ : Gate)).getD 0))) (gy_t rfl) (fun hg => x_not (b := (aj (s : Int)).getD false) (gd_of hg (B ((aj (s : Int)).getD false)))) <| s_val (x_pand (b := decide (0 < ((mp (⟨(aa : Int), (s : Int)⟩ : Gate)).getD 0))) (r := !((aj (s : Int)).getD false)) rfl (fun hb => gd_of (c := decide (0 < ((mp (⟨(aa : Int), (s : Int)⟩ : Gate)).getD 0))) (by first | exact hb | (rw [hb]; rfl) | simp_all) (B (!((aj (s : Int)).getD false)))) rfl) <| sM (B ((decide (0 < ((mp (⟨(aa : Int), (s : Int)⟩ : Gate)).getD 0))) && (!((aj (s : Int)).getD false)))) rfl <| g_val ((decide (0 < ((mp (⟨(aa : Int), (s : Int)⟩ : Gate)).getD 0))) && (!((aj (s : Int)).getD false))) (gy_t rfl) (fun hg => x_mv (v := Pz ae) rfl) <| g_val ((decide (0 < ((mp (⟨(aa : Int), (s : Int)⟩ : Gate)).getD 0))) && (!((aj (s : Int)).getD false))) (gy_t rfl) (fun hg => x_mv (v := I (s : Int)) rfl) ?_
     refine g_splitV ((decide (0 < ((mp (⟨(aa : Int), (s : Int)⟩ : Gate)).getD 0))) && (!((aj (s : Int)).getD false))) (B false) (gy_t rfl) (fun aC => ?_) (fun aC => ?_)
     ·replace hM := M.e_t hM aC
      obtain ⟨bv, aY, hM⟩ := M.e_bind hM
      refine s_call cf126 [Pz ae, I (s : Int)] (lst2 (gd_of (c := ((decide (0 < ((mp (⟨(aa : Int), (s : Int)⟩ : Gate)).getD 0))) && (!((aj (s : Int)).getD false)))) aC (Pz ae)) (gd_of (c := ((decide (0 < ((mp (⟨(aa : Int), (s : Int)⟩ : Gate)).getD 0))) && (!((aj (s : Int)).getD false)))) aC (I (s : Int)))) (ih am aw n_work mp aj (s : Int) (aH.app _) ay (aG.app _) (aI.app _) aJ (ak.app _) aY _ (St.give (T := []) H rfl)) ?_
      rintro vq aZ ⟨r9, ac, ai, a5, hvq, aV⟩
      subst a5
      subst vq
      try dsimp only at hM
      replace H : St w aZ [cMap encG I ah ac, cMap I B ag ai] R := H.back aV rfl
      clear aV
      refine s_val (x_pand (b := ((decide (0 < ((mp (⟨(aa : Int), (s : Int)⟩ : Gate)).getD 0))) && (!((aj (s : Int)).getD false)))) (r := r9) rfl (fun _ => rfl) rfl) <| s_nil ?_
      refine W.cond (((decide (0 < ((mp (⟨(aa : Int), (s : Int)⟩ : Gate)).getD 0))) && (!((aj (s : Int)).getD false))) && r9) rfl (fun aL => ?_) (fun aL => ?_)
      ·replace hM := M.e_t hM aL
       refine W.seq ?_
       refine W.drawT (fun W => St w W [cMap I B ag ai] R) (.q 0 (.q 1 (.q 2 (.q 3 (.q 4 (.q 5 (.q 6 (.l2 7 (.q 8 (.l 9 (.q 10 (.l 11 .nil)))) 9 (.q 10 (.l 7 (.q 8 (.l 11 .nil)))))))))))) mixed (by decide +kernel) rfl ?_
       intro a6 aq
       replace H : St w a6 [cMap encG I ah ac, cMap I B ag ai] R := H.ext aq
       clear aq
       refine ⟨(H.pick [1] (by decide) rfl), ?_⟩
       refine t_q rfl (fun w' H => x_mv (v := Pz ae) rfl) ?_
       refine t_q rfl (fun w' H => x_nc (a := ⟨ae, 0, none⟩) rfl) ?_
       refine t_q rfl (fun w' H => x_fa (v := Oz ae 3) rfl (fa_blk (o := 0) Fd180_3 Sz177)) ?_
       refine t_q rfl (fun w' H => x_ld (v := .map (some ah)) rfl (ldb_sc Sc177 (ak.blk H) rfl)) ?_
       refine t_q rfl (fun w' H => x_mv (v := I aa) rfl) ?_
       refine t_q rfl (fun w' H => x_mv (v := I (s : Int)) rfl) ?_
       refine t_q rfl (fun w' H => x_bld (ps := [(0, I aa), (1, I (s : Int))]) (zs := [I 0, I 0]) (L' := [I aa, I (s : Int)]) rfl Try.underlying182 Al182 rfl (Bd182 Try.underlying182) (.cons (cs := [I aa]) rfl rfl rfl rfl rfl <| .cons (cs := [I (s : Int)]) rfl rfl rfl rfl rfl <| .nil)) ?_
       obtain ⟨bw, hM⟩ := M.e_gd hM
       refine t_l2 rfl rfl ?_ ?_
       ·skip
        refine s_val (q_look (kenc := encG) (venc := I) (f := ac) (k := (⟨(aa : Int), (s : Int)⟩ : Gate)) (v := I ((ac (⟨(aa : Int), (s : Int)⟩ : Gate)).getD 0)) keyGate Try.underlying177 Al3 rfl rfl (H.get (k := 0) rfl) false (by rw [if_neg (by decide), int_val])) ?_
        refine s_nil ⟨(H.pick [1] (by decide) rfl), ?_⟩
        refine t_q rfl (fun w' H => x_ari (r := ((ac (⟨(aa : Int), (s : Int)⟩ : Gate)).getD 0) - 1) rfl rfl rfl (by omega)) ?_
        refine t_l rfl ?_
        refine t_ment (i := 0) (kenc := encG) (venc := I) (f := ac) (k := (⟨(aa : Int), (s : Int)⟩ : Gate)) (z := 0) keyGate Try.underlying177 Al3 H rfl rfl rfl ?_
        intro aM a7 H
        replace H : St w a7 [cEnt encG I ah (updF ac (⟨(aa : Int), (s : Int)⟩ : Gate) ((ac (⟨(aa : Int), (s : Int)⟩ : Gate)).getD 0)) (⟨(aa : Int), (s : Int)⟩ : Gate) aM, cMap I B ag ai] R := H
        refine s_nil ⟨(H.pick [1] (by decide) rfl), ?_⟩
        refine t_q rfl (fun w' H => x_ext (vs := [I ((ac (⟨(aa : Int), (s : Int)⟩ : Gate)).getD 0), .int .i64 aM]) (v := .int .i64 aM) rfl rfl) ?_
        refine t_l rfl ?_
        refine t_enst (i := 0) (kenc := encG) (venc := I) (f0 := ac) (k := (⟨(aa : Int), (s : Int)⟩ : Gate)) (v := (((ac (⟨(aa : Int), (s : Int)⟩ : Gate)).getD 0) - 1 : Int)) (L' := [cMap encG I ah (updF ac (⟨(aa : Int), (s : Int)⟩ : Gate) (((ac (⟨(aa : Int), (s : Int)⟩ : Gate)).getD 0) - 1 : Int)), cMap I B ag ai]) H rfl rfl rfl rfl rfl ?_
        intro bx H
        refine s_nil ⟨(H.pick [1] (by decide) rfl), ?_⟩
        refine t_nil ?_
        refine W.seq ?_
        refine W.drawT (fun W => St w W [cMap I B ag ai] R) (.q 0 (.q 1 (.q 2 (.q 3 (.q 4 (.q 5 (.q 6 (.l2 7 (.q 8 (.l 9 (.q 10 (.l 11 .nil)))) 9 (.q 10 (.l 7 (.q 8 (.l 11 .nil)))))))))))) mixed (by decide +kernel) rfl ?_
        intro a8 aq
        replace H : St w a8 [cMap encG I ah (updF ac (⟨(aa : Int), (s : Int)⟩ : Gate) (((ac (⟨(aa : Int), (s : Int)⟩ : Gate)).getD 0) - 1 : Int)), cMap I B ag ai] R := H.ext aq
        clear aq
        refine ⟨(H.pick [1] (by decide) rfl), ?_⟩
        refine t_q rfl (fun w' H => x_mv (v := Pz ae) rfl) ?_
        refine t_q rfl (fun w' H => x_nc (a := ⟨ae, 0, none⟩) rfl) ?_
        refine t_q rfl (fun w' H => x_fa (v := Oz ae 3) rfl (fa_blk (o := 0) Fd180_3 Sz177)) ?_
        refine t_q rfl (fun w' H => x_ld (v := .map (some ah)) rfl (ldb_sc Sc177 (ak.blk H) rfl)) ?_
        refine t_q rfl (fun w' H => x_mv (v := I (s : Int)) rfl) ?_
        refine t_q rfl (fun w' H => x_mv (v := I aa) rfl) ?_
        refine t_q rfl (fun w' H => x_bld (ps := [(0, I (s : Int)), (1, I aa)]) (zs := [I 0, I 0]) (L' := [I (s : Int), I aa]) rfl Try.underlying182 Al182 rfl (Bd182 Try.underlying182) (.cons (cs := [I (s : Int)]) rfl rfl rfl rfl rfl <| .cons (cs := [I aa]) rfl rfl rfl rfl rfl <| .nil)) ?_
        obtain ⟨bz, hM⟩ := M.e_gd hM
        refine t_l2 rfl rfl ?_ ?_
        ·skip
         refine s_val (q_look (kenc := encG) (venc := I) (f := updF ac (⟨(aa : Int), (s : Int)⟩ : Gate) (((ac (⟨(aa : Int), (s : Int)⟩ : Gate)).getD 0) - 1 : Int)) (k := (⟨(s : Int), (aa : Int)⟩ : Gate)) (v := I (((updF ac (⟨(aa : Int), (s : Int)⟩ : Gate) (((ac (⟨(aa : Int), (s : Int)⟩ : Gate)).getD 0) - 1 : Int)) (⟨(s : Int), (aa : Int)⟩ : Gate)).getD 0)) keyGate Try.underlying177 Al3 rfl rfl (H.get (k := 0) rfl) false (by rw [if_neg (by decide), int_val])) ?_
         refine s_nil ⟨(H.pick [1] (by decide) rfl), ?_⟩
         refine t_q rfl (fun w' H => x_ari (r := (((updF ac (⟨(aa : Int), (s : Int)⟩ : Gate) (((ac (⟨(aa : Int), (s : Int)⟩ : Gate)).getD 0) - 1 : Int)) (⟨(s : Int), (aa : Int)⟩ : Gate)).getD 0) + 1) rfl rfl rfl (by omega)) ?_
         refine t_l rfl ?_
         refine t_ment (i := 0) (kenc := encG) (venc := I) (f := updF ac (⟨(aa : Int), (s : Int)⟩ : Gate) (((ac (⟨(aa : Int), (s : Int)⟩ : Gate)).getD 0) - 1 : Int)) (k := (⟨(s : Int), (aa : Int)⟩ : Gate)) (z := 0) keyGate Try.underlying177 Al3 H rfl rfl rfl ?_
         intro aN a9 H
         replace H : St w a9 [cEnt encG I ah (updF (updF ac (⟨(aa : Int), (s : Int)⟩ : Gate) (((ac (⟨(aa : Int), (s : Int)⟩ : Gate)).getD 0) - 1 : Int)) (⟨(s : Int), (aa : Int)⟩ : Gate) (((updF ac (⟨(aa : Int), (s : Int)⟩ : Gate) (((ac (⟨(aa : Int), (s : Int)⟩ : Gate)).getD 0) - 1 : Int)) (⟨(s : Int), (aa : Int)⟩ : Gate)).getD 0)) (⟨(s : Int), (aa : Int)⟩ : Gate) aN, cMap I B ag ai] R := H
         refine s_nil ⟨(H.pick [1] (by decide) rfl), ?_⟩
         refine t_q rfl (fun w' H => x_ext (vs := [I (((updF ac (⟨(aa : Int), (s : Int)⟩ : Gate) (((ac (⟨(aa : Int), (s : Int)⟩ : Gate)).getD 0) - 1 : Int)) (⟨(s : Int), (aa : Int)⟩ : Gate)).getD 0), .int .i64 aN]) (v := .int .i64 aN) rfl rfl) ?_
         refine t_l rfl ?_
         refine t_enst (i := 0) (kenc := encG) (venc := I) (f0 := updF ac (⟨(aa : Int), (s : Int)⟩ : Gate) (((ac (⟨(aa : Int), (s : Int)⟩ : Gate)).getD 0) - 1 : Int)) (k := (⟨(s : Int), (aa : Int)⟩ : Gate)) (v := ((((updF ac (⟨(aa : Int), (s : Int)⟩ : Gate) (((ac (⟨(aa : Int), (s : Int)⟩ : Gate)).getD 0) - 1 : Int)) (⟨(s : Int), (aa : Int)⟩ : Gate)).getD 0) + 1 : Int)) (L' := [cMap encG I ah (updF (updF ac (⟨(aa : Int), (s : Int)⟩ : Gate) (((ac (⟨(aa : Int), (s : Int)⟩ : Gate)).getD 0) - 1 : Int)) (⟨(s : Int), (aa : Int)⟩ : Gate) ((((updF ac (⟨(aa : Int), (s : Int)⟩ : Gate) (((ac (⟨(aa : Int), (s : Int)⟩ : Gate)).getD 0) - 1 : Int)) (⟨(s : Int), (aa : Int)⟩ : Gate)).getD 0) + 1 : Int)), cMap I B ag ai]) H rfl rfl rfl rfl rfl ?_
         intro bA H
         refine s_nil ⟨(H.pick [1] (by decide) rfl), ?_⟩
         refine t_nil ?_
         refine sQ rfl <| sA (B true) rfl <| s_nil ?_
         refine W.ret ?_
         have ba := M.e_inr hM av
         subst ba
         replace hM := aA
         try dsimp only at hM
         have al := M.e_pure hM
         exact ⟨_, resE_tmp rfl, ⟨true, (updF (updF ac (⟨(aa : Int), (s : Int)⟩ : Gate) (((ac (⟨(aa : Int), (s : Int)⟩ : Gate)).getD 0) - 1 : Int)) (⟨(s : Int), (aa : Int)⟩ : Gate) ((((updF ac (⟨(aa : Int), (s : Int)⟩ : Gate) (((ac (⟨(aa : Int), (s : Int)⟩ : Gate)).getD 0) - 1 : Int)) (⟨(s : Int), (aa : Int)⟩ : Gate)).getD 0) + 1 : Int)), ai, al, rfl, H⟩⟩
        skip
        refine t_ment (i := 0) (kenc := encG) (venc := I) (f := updF ac (⟨(aa : Int), (s : Int)⟩ : Gate) (((ac (⟨(aa : Int), (s : Int)⟩ : Gate)).getD 0) - 1 : Int)) (k := (⟨(s : Int), (aa : Int)⟩ : Gate)) (z := 0) keyGate Try.underlying177 Al3 H rfl rfl rfl ?_
        intro aO bb H
        replace H : St w bb [cEnt encG I ah (updF (updF ac (⟨(aa : Int), (s : Int)⟩ : Gate) (((ac (⟨(aa : Int), (s : Int)⟩ : Gate)).getD 0) - 1 : Int)) (⟨(s : Int), (aa : Int)⟩ : Gate) (((updF ac (⟨(aa : Int), (s : Int)⟩ : Gate) (((ac (⟨(aa : Int), (s : Int)⟩ : Gate)).getD 0) - 1 : Int)) (⟨(s : Int), (aa : Int)⟩ : Gate)).getD 0)) (⟨(s : Int), (aa : Int)⟩ : Gate) aO, cMap I B ag ai] R := H
        refine s_nil ⟨(H.pick [1] (by decide) rfl), ?_⟩
        refine t_q rfl (fun w' H => x_ext (vs := [I (((updF ac (⟨(aa : Int), (s : Int)⟩ : Gate) (((ac (⟨(aa : Int), (s : Int)⟩ : Gate)).getD 0) - 1 : Int)) (⟨(s : Int), (aa : Int)⟩ : Gate)).getD 0), .int .i64 aO]) (v := .int .i64 aO) rfl rfl) ?_
        refine t_l rfl ?_
        refine s_val (q_look (kenc := encG) (venc := I) (f := updF (updF ac (⟨(aa : Int), (s : Int)⟩ : Gate) (((ac (⟨(aa : Int), (s : Int)⟩ : Gate)).getD 0) - 1 : Int)) (⟨(s : Int), (aa : Int)⟩ : Gate) (((updF ac (⟨(aa : Int), (s : Int)⟩ : Gate) (((ac (⟨(aa : Int), (s : Int)⟩ : Gate)).getD 0) - 1 : Int)) (⟨(s : Int), (aa : Int)⟩ : Gate)).getD 0)) (k := (⟨(s : Int), (aa : Int)⟩ : Gate)) (v := I (((updF ac (⟨(aa : Int), (s : Int)⟩ : Gate) (((ac (⟨(aa : Int), (s : Int)⟩ : Gate)).getD 0) - 1 : Int)) (⟨(s : Int), (aa : Int)⟩ : Gate)).getD 0)) keyGate Try.underlying177 Al3 rfl rfl (entMap (H.get (k := 0) rfl)) false (by rw [if_neg (by decide), int_val, updF_same])) ?_
        refine s_nil ⟨(H.pick [1] (by decide) rfl), ?_⟩
        refine t_q rfl (fun w' H => x_ari (r := (((updF ac (⟨(aa : Int), (s : Int)⟩ : Gate) (((ac (⟨(aa : Int), (s : Int)⟩ : Gate)).getD 0) - 1 : Int)) (⟨(s : Int), (aa : Int)⟩ : Gate)).getD 0) + 1) rfl rfl rfl (by omega)) ?_
        refine t_l rfl ?_
        refine t_enst (i := 0) (kenc := encG) (venc := I) (f0 := updF ac (⟨(aa : Int), (s : Int)⟩ : Gate) (((ac (⟨(aa : Int), (s : Int)⟩ : Gate)).getD 0) - 1 : Int)) (k := (⟨(s : Int), (aa : Int)⟩ : Gate)) (v := ((((updF ac (⟨(aa : Int), (s : Int)⟩ : Gate) (((ac (⟨(aa : Int), (s : Int)⟩ : Gate)).getD 0) - 1 : Int)) (⟨(s : Int), (aa : Int)⟩ : Gate)).getD 0) + 1 : Int)) (L' := [cMap encG I ah (updF (updF ac (⟨(aa : Int), (s : Int)⟩ : Gate) (((ac (⟨(aa : Int), (s : Int)⟩ : Gate)).getD 0) - 1 : Int)) (⟨(s : Int), (aa : Int)⟩ : Gate) ((((updF ac (⟨(aa : Int), (s : Int)⟩ : Gate) (((ac (⟨(aa : Int), (s : Int)⟩ : Gate)).getD 0) - 1 : Int)) (⟨(s : Int), (aa : Int)⟩ : Gate)).getD 0) + 1 : Int)), cMap I B ag ai]) H rfl rfl rfl rfl rfl ?_
        intro bB H
        refine s_nil ⟨(H.pick [1] (by decide) rfl), ?_⟩
        refine t_nil ?_
        refine sQ rfl <| sA (B true) rfl <| s_nil ?_
        refine W.ret ?_
        have bc := M.e_inr hM av
        subst bc
        replace hM := aA
        try dsimp only at hM
        have al := M.e_pure hM
        exact ⟨_, resE_tmp rfl, ⟨true, (updF (updF ac (⟨(aa : Int), (s : Int)⟩ : Gate) (((ac (⟨(aa : Int), (s : Int)⟩ : Gate)).getD 0) - 1 : Int)) (⟨(s : Int), (aa : Int)⟩ : Gate) ((((updF ac (⟨(aa : Int), (s : Int)⟩ : Gate) (((ac (⟨(aa : Int), (s : Int)⟩ : Gate)).getD 0) - 1 : Int)) (⟨(s : Int), (aa : Int)⟩ : Gate)).getD 0) + 1 : Int)), ai, al, rfl, H⟩⟩
       skip
       refine t_ment (i := 0) (kenc := encG) (venc := I) (f := ac) (k := (⟨(aa : Int), (s : Int)⟩ : Gate)) (z := 0) keyGate Try.underlying177 Al3 H rfl rfl rfl ?_
       intro aP bf H
       replace H : St w bf [cEnt encG I ah (updF ac (⟨(aa : Int), (s : Int)⟩ : Gate) ((ac (⟨(aa : Int), (s : Int)⟩ : Gate)).getD 0)) (⟨(aa : Int), (s : Int)⟩ : Gate) aP, cMap I B ag ai] R := H
       refine s_nil ⟨(H.pick [1] (by decide) rfl), ?_⟩
       refine t_q rfl (fun w' H => x_ext (vs := [I ((ac (⟨(aa : Int), (s : Int)⟩ : Gate)).getD 0), .int .i64 aP]) (v := .int .i64 aP) rfl rfl) ?_
       refine t_l rfl ?_
       refine s_val (q_look (kenc := encG) (venc := I) (f := updF ac (⟨(aa : Int), (s : Int)⟩ : Gate) ((ac (⟨(aa : Int), (s : Int)⟩ : Gate)).getD 0)) (k := (⟨(aa : Int), (s : Int)⟩ : Gate)) (v := I ((ac (⟨(aa : Int), (s : Int)⟩ : Gate)).getD 0)) keyGate Try.underlying177 Al3 rfl rfl (entMap (H.get (k := 0) rfl)) false (by rw [if_neg (by decide), int_val, updF_same])) ?_
       refine s_nil ⟨(H.pick [1] (by decide) rfl), ?_⟩
       refine t_q rfl (fun w' H => x_ari (r := ((ac (⟨(aa : Int), (s : Int)⟩ : Gate)).getD 0) - 1) rfl rfl rfl (by omega)) ?_
       refine t_l rfl ?_
       refine t_enst (i := 0) (kenc := encG) (venc := I) (f0 := ac) (k := (⟨(aa : Int), (s : Int)⟩ : Gate)) (v := (((ac (⟨(aa : Int), (s : Int)⟩ : Gate)).getD 0) - 1 : Int)) (L' := [cMap encG I ah (updF ac (⟨(aa : Int), (s : Int)⟩ : Gate) (((ac (⟨(aa : Int), (s : Int)⟩ : Gate)).getD 0) - 1 : Int)), cMap I B ag ai]) H rfl rfl rfl rfl rfl ?_
       intro bC H
       refine s_nil ⟨(H.pick [1] (by decide) rfl), ?_⟩
       refine t_nil ?_
       refine W.seq ?_
       refine W.drawT (fun W => St w W [cMap I B ag ai] R) (.q 0 (.q 1 (.q 2 (.q 3 (.q 4 (.q 5 (.q 6 (.l2 7 (.q 8 (.l 9 (.q 10 (.l 11 .nil)))) 9 (.q 10 (.l 7 (.q 8 (.l 11 .nil)))))))))))) mixed (by decide +kernel) rfl ?_
       intro bg aq
       replace H : St w bg [cMap encG I ah (updF ac (⟨(aa : Int), (s : Int)⟩ : Gate) (((ac (⟨(aa : Int), (s : Int)⟩ : Gate)).getD 0) - 1 : Int)), cMap I B ag ai] R := H.ext aq
       clear aq
       refine ⟨(H.pick [1] (by decide) rfl), ?_⟩
       refine t_q rfl (fun w' H => x_mv (v := Pz ae) rfl) ?_
       refine t_q rfl (fun w' H => x_nc (a := ⟨ae, 0, none⟩) rfl) ?_
       refine t_q rfl (fun w' H => x_fa (v := Oz ae 3) rfl (fa_blk (o := 0) Fd180_3 Sz177)) ?_
       refine t_q rfl (fun w' H => x_ld (v := .map (some ah)) rfl (ldb_sc Sc177 (ak.blk H) rfl)) ?_
       refine t_q rfl (fun w' H => x_mv (v := I (s : Int)) rfl) ?_
       refine t_q rfl (fun w' H => x_mv (v := I aa) rfl) ?_
       refine t_q rfl (fun w' H => x_bld (ps := [(0, I (s : Int)), (1, I aa)]) (zs := [I 0, I 0]) (L' := [I (s : Int), I aa]) rfl Try.underlying182 Al182 rfl (Bd182 Try.underlying182) (.cons (cs := [I (s : Int)]) rfl rfl rfl rfl rfl <| .cons (cs := [I aa]) rfl rfl rfl rfl rfl <| .nil)) ?_
       obtain ⟨bD, hM⟩ := M.e_gd hM
       refine t_l2 rfl rfl ?_ ?_
       ·skip
        refine s_val (q_look (kenc := encG) (venc := I) (f := updF ac (⟨(aa : Int), (s : Int)⟩ : Gate) (((ac (⟨(aa : Int), (s : Int)⟩ : Gate)).getD 0) - 1 : Int)) (k := (⟨(s : Int), (aa : Int)⟩ : Gate)) (v := I (((updF ac (⟨(aa : Int), (s : Int)⟩ : Gate) (((ac (⟨(aa : Int), (s : Int)⟩ : Gate)).getD 0) - 1 : Int)) (⟨(s : Int), (aa : Int)⟩ : Gate)).getD 0)) keyGate Try.underlying177 Al3 rfl rfl (H.get (k := 0) rfl) false (by rw [if_neg (by decide), int_val])) ?_
        refine s_nil ⟨(H.pick [1] (by decide) rfl), ?_⟩
        refine t_q rfl (fun w' H => x_ari (r := (((updF ac (⟨(aa : Int), (s : Int)⟩ : Gate) (((ac (⟨(aa : Int), (s : Int)⟩ : Gate)).getD 0) - 1 : Int)) (⟨(s : Int), (aa : Int)⟩ : Gate)).getD 0) + 1) rfl rfl rfl (by omega)) ?_
        refine t_l rfl ?_
        refine t_ment (i := 0) (kenc := encG) (venc := I) (f := updF ac (⟨(aa : Int), (s : Int)⟩ : Gate) (((ac (⟨(aa : Int), (s : Int)⟩ : Gate)).getD 0) - 1 : Int)) (k := (⟨(s : Int), (aa : Int)⟩ : Gate)) (z := 0) keyGate Try.underlying177 Al3 H rfl rfl rfl ?_
        intro aQ bh H
        replace H : St w bh [cEnt encG I ah (updF (updF ac (⟨(aa : Int), (s : Int)⟩ : Gate) (((ac (⟨(aa : Int), (s : Int)⟩ : Gate)).getD 0) - 1 : Int)) (⟨(s : Int), (aa : Int)⟩ : Gate) (((updF ac (⟨(aa : Int), (s : Int)⟩ : Gate) (((ac (⟨(aa : Int), (s : Int)⟩ : Gate)).getD 0) - 1 : Int)) (⟨(s : Int), (aa : Int)⟩ : Gate)).getD 0)) (⟨(s : Int), (aa : Int)⟩ : Gate) aQ, cMap I B ag ai] R := H
        refine s_nil ⟨(H.pick [1] (by decide) rfl), ?_⟩
        refine t_q rfl (fun w' H => x_ext (vs := [I (((updF ac (⟨(aa : Int), (s : Int)⟩ : Gate) (((ac (⟨(aa : Int), (s : Int)⟩ : Gate)).getD 0) - 1 : Int)) (⟨(s : Int), (aa : Int)⟩ : Gate)).getD 0), .int .i64 aQ]) (v := .int .i64 aQ) rfl rfl) ?_
        refine t_l rfl ?_
        refine t_enst (i := 0) (kenc := encG) (venc := I) (f0 := updF ac (⟨(aa : Int), (s : Int)⟩ : Gate) (((ac (⟨(aa : Int), (s : Int)⟩ : Gate)).getD 0) - 1 : Int)) (k := (⟨(s : Int), (aa : Int)⟩ : Gate)) (v := ((((updF ac (⟨(aa : Int), (s : Int)⟩ : Gate) (((ac (⟨(aa : Int), (s : Int)⟩ : Gate)).getD 0) - 1 : Int)) (⟨(s : Int), (aa : Int)⟩ : Gate)).getD 0) + 1 : Int)) (L' := [cMap encG I ah (updF (updF ac (⟨(aa : Int), (s : Int)⟩ : Gate) (((ac (⟨(aa : Int), (s : Int)⟩ : Gate)).getD 0) - 1 : Int)) (⟨(s : Int), (aa : Int)⟩ : Gate) ((((updF ac (⟨(aa : Int), (s : Int)⟩ : Gate) (((ac (⟨(aa : Int), (s : Int)⟩ : Gate)).getD 0) - 1 : Int)) (⟨(s : Int), (aa : Int)⟩ : Gate)).getD 0) + 1 : Int)), cMap I B ag ai]) H rfl rfl rfl rfl rfl ?_
        intro bE H
        refine s_nil ⟨(H.pick [1] (by decide) rfl), ?_⟩
        refine t_nil ?_
        refine sQ rfl <| sA (B true) rfl <| s_nil ?_
        refine W.ret ?_
        have bi := M.e_inr hM av
        subst bi
        replace hM := aA
        try dsimp only at hM
        have al := M.e_pure hM
        exact ⟨_, resE_tmp rfl, ⟨true, (updF (updF ac (⟨(aa : Int), (s : Int)⟩ : Gate) (((ac (⟨(aa : Int), (s : Int)⟩ : Gate)).getD 0) - 1 : Int)) (⟨(s : Int), (aa : Int)⟩ : Gate) ((((updF ac (⟨(aa : Int), (s : Int)⟩ : Gate) (((ac (⟨(aa : Int), (s : Int)⟩ : Gate)).getD 0) - 1 : Int)) (⟨(s : Int), (aa : Int)⟩ : Gate)).getD 0) + 1 : Int)), ai, al, rfl, H⟩⟩
       skip
       refine t_ment (i := 0) (kenc := encG) (venc := I) (f := updF ac (⟨(aa : Int), (s : Int)⟩ : Gate) (((ac (⟨(aa : Int), (s : Int)⟩ : Gate)).getD 0) - 1 : Int)) (k := (⟨(s : Int), (aa : Int)⟩ : Gate)) (z := 0) keyGate Try.underlying177 Al3 H rfl rfl rfl ?_
       intro aR bj H
       replace H : St w bj [cEnt encG I ah (updF (updF ac (⟨(aa : Int), (s : Int)⟩ : Gate) (((ac (⟨(aa : Int), (s : Int)⟩ : Gate)).getD 0) - 1 : Int)) (⟨(s : Int), (aa : Int)⟩ : Gate) (((updF ac (⟨(aa : Int), (s : Int)⟩ : Gate) (((ac (⟨(aa : Int), (s : Int)⟩ : Gate)).getD 0) - 1 : Int)) (⟨(s : Int), (aa : Int)⟩ : Gate)).getD 0)) (⟨(s : Int), (aa : Int)⟩ : Gate) aR, cMap I B ag ai] R := H
       refine s_nil ⟨(H.pick [1] (by decide) rfl), ?_⟩
       refine t_q rfl (fun w' H => x_ext (vs := [I (((updF ac (⟨(aa : Int), (s : Int)⟩ : Gate) (((ac (⟨(aa : Int), (s : Int)⟩ : Gate)).getD 0) - 1 : Int)) (⟨(s : Int), (aa : Int)⟩ : Gate)).getD 0), .int .i64 aR]) (v := .int .i64 aR) rfl rfl) ?_
       refine t_l rfl ?_
       refine s_val (q_look (kenc := encG) (venc := I) (f := updF (updF ac (⟨(aa : Int), (s : Int)⟩ : Gate) (((ac (⟨(aa : Int), (s : Int)⟩ : Gate)).getD 0) - 1 : Int)) (⟨(s : Int), (aa : Int)⟩ : Gate) (((updF ac (⟨(aa : Int), (s : Int)⟩ : Gate) (((ac (⟨(aa : Int), (s : Int)⟩ : Gate)).getD 0) - 1 : Int)) (⟨(s : Int), (aa : Int)⟩ : Gate)).getD 0)) (k := (⟨(s : Int), (aa : Int)⟩ : Gate)) (v := I (((updF ac (⟨(aa : Int), (s : Int)⟩ : Gate) (((ac (⟨(aa : Int), (s : Int)⟩ : Gate)).getD 0) - 1 : Int)) (⟨(s : Int), (aa : Int)⟩ : Gate)).getD 0)) keyGate Try.underlying177 Al3 rfl rfl (entMap (H.get (k := 0) rfl)) false (by rw [if_neg (by decide), int_val, updF_same])) ?_
       refine s_nil ⟨(H.pick [1] (by decide) rfl), ?_⟩
       refine t_q rfl (fun w' H => x_ari (r := (((updF ac (⟨(aa : Int), (s : Int)⟩ : Gate) (((ac (⟨(aa : Int), (s : Int)⟩ : Gate)).getD 0) - 1 : Int)) (⟨(s : Int), (aa : Int)⟩ : Gate)).getD 0) + 1) rfl rfl rfl (by omega)) ?_
       refine t_l rfl ?_
       refine t_enst (i := 0) (kenc := encG) (venc := I) (f0 := updF ac (⟨(aa : Int), (s : Int)⟩ : Gate) (((ac (⟨(aa : Int), (s : Int)⟩ : Gate)).getD 0) - 1 : Int)) (k := (⟨(s : Int), (aa : Int)⟩ : Gate)) (v := ((((updF ac (⟨(aa : Int), (s : Int)⟩ : Gate) (((ac (⟨(aa : Int), (s : Int)⟩ : Gate)).getD 0) - 1 : Int)) (⟨(s : Int), (aa : Int)⟩ : Gate)).getD 0) + 1 : Int)) (L' := [cMap encG I ah (updF (updF ac (⟨(aa : Int), (s : Int)⟩ : Gate) (((ac (⟨(aa : Int), (s : Int)⟩ : Gate)).getD 0) - 1 : Int)) (⟨(s : Int), (aa : Int)⟩ : Gate) ((((updF ac (⟨(aa : Int), (s : Int)⟩ : Gate) (((ac (⟨(aa : Int), (s : Int)⟩ : Gate)).getD 0) - 1 : Int)) (⟨(s : Int), (aa : Int)⟩ : Gate)).getD 0) + 1 : Int)), cMap I B ag ai]) H rfl rfl rfl rfl rfl ?_
       intro bF H
       refine s_nil ⟨(H.pick [1] (by decide) rfl), ?_⟩
       refine t_nil ?_
       refine sQ rfl <| sA (B true) rfl <| s_nil ?_
       refine W.ret ?_
       have bk := M.e_inr hM av
       subst bk
       replace hM := aA
       try dsimp only at hM
       have al := M.e_pure hM
       exact ⟨_, resE_tmp rfl, ⟨true, (updF (updF ac (⟨(aa : Int), (s : Int)⟩ : Gate) (((ac (⟨(aa : Int), (s : Int)⟩ : Gate)).getD 0) - 1 : Int)) (⟨(s : Int), (aa : Int)⟩ : Gate) ((((updF ac (⟨(aa : Int), (s : Int)⟩ : Gate) (((ac (⟨(aa : Int), (s : Int)⟩ : Gate)).getD 0) - 1 : Int)) (⟨(s : Int), (aa : Int)⟩ : Gate)).getD 0) + 1 : Int)), ai, al, rfl, H⟩⟩
      replace hM := M.e_f hM aL
      refine W.skip <| W.region rfl ?_
      obtain ⟨bG, hM⟩ := M.e_gd hM
      refine sR _ _ ((s : Int) + 1) rfl rfl rfl (by omega) <| sM (I ((s : Int) + 1)) rfl <| s_nil ?_
      exact ⟨aT, aU, ac, ai, s + 1, _, upds_of _ _ ⟨rfl, rfl, rfl, rfl, trivial⟩, M.e_inl hM av, H⟩
     replace hM := M.e_f hM aC
     refine s_val (x_pand0 (b := ((decide (0 < ((mp (⟨(aa : Int), (s : Int)⟩ : Gate)).getD 0))) && (!((aj (s : Int)).getD false)))) rfl (fun hb => gd_of (c := ((decide (0 < ((mp (⟨(aa : Int), (s : Int)⟩ : Gate)).getD 0))) && (!((aj (s : Int)).getD false)))) (by first | exact hb | (rw [hb]; rfl) | simp_all) (B false)) rfl) <| s_nil ?_
     refine W.cond false rfl (fun aW => ?_) (fun aW => ?_)
     ·skip
      exact absurd aW (by decide)
     skip
     refine W.skip <| W.region rfl ?_
     obtain ⟨bH, hM⟩ := M.e_gd hM
     refine sR _ _ ((s : Int) + 1) rfl rfl rfl (by omega) <| sM (I ((s : Int) + 1)) rfl <| s_nil ?_
     exact ⟨aT, aU, mp, aj, s + 1, _, upds_of _ _ ⟨rfl, rfl, rfl, rfl, trivial⟩, M.e_inl hM av, H⟩
    replace hM := M.e_f hM aB
    simp only [qz1, qz2, qz3, qz4, qz5, qz6, ne_eq, qz7] at aB
    refine W.exit ?_
    have bl := M.e_inr hM av
    subst bl
    replace hM := aA
    try dsimp only at hM
    refine sQ rfl <| sA (B false) rfl <| s_nil ?_
    refine W.ret ?_
    have al := M.e_pure hM
    exact ⟨_, resE_tmp rfl, ⟨false, mp, aj, al, rfl, H⟩⟩
theorem zcG {R : List Chunk} {ak : Nat} {al : Nat} {am : Cells} {ao : Value} {ap : Cells} {aq : Value} {aa : Nat} {ac : Nat} (ae : List Work) (ag : List Int) (n_work : Int) (ah : Gate -> Option Int) (ai : Int -> Option Bool) (aj : Int) (au : Reads R am) (av : Sl am ao ae) (aw : Has R (cBlk al [ao] 187)) (ax : Reads R ap) (ay : Sl ap aq ag) (az : Has R (cBlk ak [Pz al, aq, I n_work, .map (some aa), .map (some ac)] 180)) {r : (Bool × (Gate -> Option Int) × (Int -> Option Bool))} (hM : (zbG ae ag n_work ah ai aj).Ends r) (w : World) (H : St w w [cMap encG I aa ah, cMap I B ac ai] R) : Ret Try.prog 126 #[Pz ak, I aj] w fun v w' => ∃ (y0 : Bool) (y1 : Gate -> Option Int) (y2 : Int -> Option Bool), (y0, y1, y2) = r /\ v = B y0 /\ St w w' [cMap encG I aa y1, cMap I B ac y2] R := by
  obtain ⟨n_, hM⟩ := M.e_fix hM
  exact zdI n_ ae ag n_work ah ai aj au av aw ax ay az hM w H

def zax (aa : List Work) (revised : List Int) (work : Int) (s2 : Nat) : ((Gate -> Option Int) × Nat) -> M (((Gate -> Option Int) × Nat) ⊕ (Gate -> Option Int)) := fun (ac, s) =>
  bif decide ((s : Int) < (((aa.getD s2 default).of).length : Int)) then (
  M.grd (decide ((s : Int) < (((aa.getD s2 default).of).length : Int))) <|
  M.bind (M.opt (((((aa.getD s2 default).of).getD s 0) != work) && !((s2 : Int) == work)) (zag aa revised work ac (fun _ => none) (s2 : Int)) false) fun r3 =>
  bif (((((aa.getD s2 default).of).getD s 0) != work) && (((s2 : Int) == work) || r3)) then (
  M.grd (decide ((-9223372036854775808 : Int) <= (2 * (((aa.getD s2 default).of).getD s 0))) && decide ((2 * (((aa.getD s2 default).of).getD s 0)) <= (9223372036854775807 : Int))) <|
  M.grd (decide ((-9223372036854775808 : Int) <= ((2 * (((aa.getD s2 default).of).getD s 0)) + 1)) && decide (((2 * (((aa.getD s2 default).of).getD s 0)) + 1) <= (9223372036854775807 : Int))) <|
  M.grd (decide ((-9223372036854775808 : Int) <= (2 * (s2 : Int))) && decide ((2 * (s2 : Int)) <= (9223372036854775807 : Int))) <|
  M.pure (.inl (updF ac (⟨((2 * (((aa.getD s2 default).of).getD s 0)) + 1 : Int), 2 * (s2 : Int)⟩ : Gate) (30 : Int), s + 1)))
  else (
  M.pure (.inl (ac, s + 1))))
  else (
  M.pure (.inr ac))
def zaW (aa : List Work) (revised : List Int) (work : Int) (s2 : Nat) (mp : Gate -> Option Int) : M (((Gate -> Option Int) × Nat) ⊕ (Gate -> Option Int)) :=
  M.bind (M.iter (zax aa revised work s2) (mp, 0)) fun ac =>
  M.pure (.inl (ac, s2 + 1))
def zaK (aa : List Work) (revised : List Int) (work : Int) : ((Gate -> Option Int) × Nat) -> M (((Gate -> Option Int) × Nat) ⊕ (Gate -> Option Int)) := fun (ac, s2) =>
  bif decide ((s2 : Int) < (aa.length : Int)) then (
  M.grd (decide ((s2 : Int) < (aa.length : Int))) <|
  M.bind (zag aa revised work ac (fun _ => none) (s2 : Int)) fun r2 =>
  bif r2 then (
  M.grd (decide ((-9223372036854775808 : Int) <= (2 * (s2 : Int))) && decide ((2 * (s2 : Int)) <= (9223372036854775807 : Int))) <|
  M.grd (decide ((-9223372036854775808 : Int) <= ((2 * (s2 : Int)) + 1)) && decide (((2 * (s2 : Int)) + 1) <= (9223372036854775807 : Int))) <|
  zaW aa revised work s2 (updF ac (⟨2 * (s2 : Int), ((2 * (s2 : Int)) + 1 : Int)⟩ : Gate) (1 : Int)))
  else (
  zaW aa revised work s2 ac))
  else (
  M.pure (.inr ac))
def zbm (ae : List Work) (revised : List Int) (work : Int) (s3 : Nat) : ((Gate -> Option Int) × (Int -> Option Bool)) -> M (((Gate -> Option Int) × (Int -> Option Bool)) ⊕ ((Gate -> Option Int) × (Int -> Option Bool))) := fun (ag, ah) =>
  M.grd (decide ((-9223372036854775808 : Int) <= (2 * (revised.getD s3 0))) && decide ((2 * (revised.getD s3 0)) <= (9223372036854775807 : Int))) <|
  M.grd (decide ((-9223372036854775808 : Int) <= ((2 * (revised.getD s3 0)) + 1)) && decide (((2 * (revised.getD s3 0)) + 1) <= (9223372036854775807 : Int))) <|
  M.bind (zbG ae revised work ag (fun _ => none) ((2 * (revised.getD s3 0)) + 1)) fun (r4, aa, ac) =>
  bif !r4 then (
  M.pure (.inr (aa, ac)))
  else (
  M.pure (.inl (aa, ac)))
def zbc (ae : List Work) (revised : List Int) (work : Int) : ((Gate -> Option Int) × (Int -> Option Bool) × Nat) -> M (((Gate -> Option Int) × (Int -> Option Bool) × Nat) ⊕ ((Gate -> Option Int) × (Int -> Option Bool))) := fun (aa, ac, s3) =>
  bif decide ((s3 : Int) < (revised.length : Int)) then (
  M.grd (decide ((s3 : Int) < (revised.length : Int))) <|
  M.bind (M.iter (zbm ae revised work s3) (aa, ac)) fun (ag, ah) =>
  M.pure (.inl (ag, ah, s3 + 1)))
  else (
  M.pure (.inr (aa, ac)))
def zbM (aa : List Work) (revised : List Int) (work : Int) : M (Int × (Gate -> Option Int) × (Int -> Option Bool)) :=
  M.bind (M.iter (zaK aa revised work) ((fun _ => none), 0)) fun ac =>
  M.bind (M.iter (zbc aa revised work) (ac, (fun _ => none), 0)) fun (ae, ag) =>
  M.pure (work, ae, ag)
theorem zc6 {R : List Chunk} {ai : Nat} {aS : Cells} {aq : Value} {aT : Cells} {ah : Value} (aa : List Work) (revised : List Int) (work : Int) (aw : Reads R aS) (au : Sl aS aq aa) (aD : Has R (cBlk ai [aq] 187)) (aE : Reads R aT) (ao : Sl aT ah revised) {r : (Int × (Gate -> Option Int) × (Int -> Option Bool))} (hM : (zbM aa revised work).Ends r) (w : World) (H : St w w [] R) : Ret Try.prog 160 #[Pz ai, ah, I work] w fun v w' => ∃ (y0 : Int) (y1 : Gate -> Option Int) (y2 : Int -> Option Bool) (nb0 : Nat) (nb1 : Nat) (nb2 : Nat), (y0, y1, y2) = r /\ v = Pz nb0 /\ St w w' [cBlk nb0 [Pz ai, ah, I y0, .map (some nb1), .map (some nb2)] 180, cMap encG I nb1 y1, cMap I B nb2 y2] R := by
 refine ret_of_W Try.func160 rfl rfl rfl ?_
 refine sQ rfl <| sA (.pointer none) rfl <| s_nil <| sQ rfl <| sM (Pz ai) rfl <| sM ah rfl <| sM (I work) rfl ?_
 refine t_mkmap (κ := Gate) (ν := Int) encG I H ?_
 intro ae bE H
 refine t_mkmap (κ := Int) (ν := Bool) I B H ?_
 intro ag bF H
 refine s_val (x_bld (ps := [(0, Pz ai), (1, ah), (2, I work), (3, .map (some ae)), (4, .map (some ag))]) (zs := [.pointer none, .slice none 0 0, I 0, .map none, .map none]) (L' := [Pz ai, ah, I work, .map (some ae), .map (some ag)]) rfl Try.underlying180 Al180 rfl (Bd180 Try.underlying180) (.cons (cs := [Pz ai]) rfl rfl rfl rfl rfl <| .cons (cs := [ah]) (Sl.cells ao) rfl rfl rfl rfl <| .cons (cs := [I work]) rfl rfl rfl rfl rfl <| .cons (cs := [.map (some ae)]) rfl rfl rfl rfl rfl <| .cons (cs := [.map (some ag)]) rfl rfl rfl rfl rfl <| .nil)) ?_
 refine t_box (v := .agg #[Pz ai, ah, I work, .map (some ae), .map (some ag)]) (cs := [Pz ai, ah, I work, .map (some ae), .map (some ag)]) H rfl rfl ?_
 intro ac bG H
 refine sA (Pz ac) rfl <| s_nil <| W.seq <| sQ rfl <| sM (Pz ai) rfl <| s_val (x_nc (a := ⟨ai, 0, none⟩) rfl) <| s_val (x_fa (v := Pz ai) rfl (fa_blk (o := 0) Fd187_0 Sz185)) <| s_val (x_fa (v := Pz ai) rfl (fa_blk (o := 0) Fd185_0 Sz22)) <| s_val (x_ld (v := aq) rfl (ldb_sc Sc22 (aD.blk H) rfl)) ?_
 have bH := (au).len_le
 refine s_val (x_lenS T22.und rfl au) <| sM (I 0) rfl <| s_nil <| W.block ?_
 obtain ⟨a8, aG, a9⟩ := M.e_bind hM
 obtain ⟨aH, aG⟩ := M.e_iter aG
 refine W.loop (fun m σ W => ∃ (ak : Gate -> Option Int) (s2 : Nat) (ρ : Env), σ = upds ρ [(1, ah), (2, I work), (7, Pz ac), (25, aq), (26, I (aa.length : Int)), (27, I (s2 : Int))] /\ M.iterN (zaK aa revised work) m (ak, s2) = some a8 /\ St w W [cBlk ac [Pz ai, ah, I work, .map (some ae), .map (some ag)] 180, cMap I B ag (fun _ => none), cMap encG I ae ak] R) ?_ ?_
 ·exact ⟨_, (fun _ => none), 0, _, upds_of _ _ ⟨rfl, rfl, rfl, rfl, rfl, rfl, trivial⟩, aG, H⟩
 rintro bI σ bJ ⟨ak, s2, ρ, rfl, aU, H⟩
 obtain ⟨ba, bb, bc, hM, aV⟩ := M.e_iterN aU
 simp only [zaK] at hM
 clear aU
 refine sQ rfl <| sC _ _ (decide ((s2 : Int) < (aa.length : Int))) rfl rfl rfl <| s_nil <| W.seq ?_
 refine W.cond (decide ((s2 : Int) < (aa.length : Int))) rfl (fun ax => ?_) (fun ax => ?_)
 ·replace hM := M.e_t hM ax
  simp only [qz1, qz2, qz3, qz4, qz5, qz6, ne_eq, qz7] at ax
  refine W.skip <| W.seq <| W.block <| sQ rfl <| sM (I (s2 : Int)) rfl ?_
  obtain ⟨bK, hM⟩ := M.e_gd hM
  refine s_val (x_ix (v := vat aq 3 (Int.toNat (s2 : Int))) rfl rfl (Sl.ix (α := Work) T22.und T22.size au (by omega) (by omega))) ?_
  obtain ⟨aj, bf, ap⟩ := Work_atA au (i := (s2 : Int)) (by omega) (by omega)
  replace ap : Sl _ aj (aa.getD s2 default).of := ap
  have bL := ap.len_le
  refine s_val (x_ld (v := .agg #[aj, I ((aa.getD s2 default).base), I ((aa.getD s2 default).minutes)]) rfl (ld_ag Ag60 Sz60 (At.mono bf (aw.at H)))) ?_
  refine t_alloc (cs := [.slice none 0 0, I 0, I 0]) H Al60 rfl ?_
  intro al bM H
  refine sA (I (s2 : Int)) rfl ?_
  refine t_st (k := 0) (b := al) (off := 0) (cs := [.slice none 0 0, I 0, I 0]) (vs := [aj, I ((aa.getD s2 default).base), I ((aa.getD s2 default).minutes)]) (cs' := [aj, I ((aa.getD s2 default).base), I ((aa.getD s2 default).minutes)]) (v := .agg #[aj, I ((aa.getD s2 default).base), I ((aa.getD s2 default).minutes)]) (L' := [cBlk al [aj, I ((aa.getD s2 default).base), I ((aa.getD s2 default).minutes)] 60, cBlk ac [Pz ai, ah, I work, .map (some ae), .map (some ag)] 180, cMap I B ag (fun _ => none), cMap encG I ae ak]) H rfl rfl rfl Sz60 rfl rfl rfl (by simp only [List.all_cons, List.all_nil, Bool.true_and, Bool.and_true, Sl.oc ap]; try rfl) rfl rfl ?_
  intro bN H
  refine s_nil ?_
  refine W.seqJ (fun σ W => ∃ (mp : Gate -> Option Int) (ρ : Env), σ = upds ρ [(1, ah), (2, I work), (7, Pz ac), (8, I (s2 : Int)), (9, Pz al), (25, aq), (26, I (aa.length : Int)), (27, I (s2 : Int))] /\ (zaW aa revised work s2 mp).Ends bc /\ St w W [cBlk al [aj, I ((aa.getD s2 default).base), I ((aa.getD s2 default).minutes)] 60, cBlk ac [Pz ai, ah, I work, .map (some ae), .map (some ag)] 180, cMap I B ag (fun _ => none), cMap encG I ae mp] R) ?_ ?_
  ·skip
   refine sQ rfl <| sM (Pz ac) rfl <| sM (I (s2 : Int)) rfl ?_
   obtain ⟨bO, bg, hM⟩ := M.e_bind hM
   refine s_call cf127 [Pz ac, I (s2 : Int)] rfl (zbN aa revised work ak (fun _ => none) (s2 : Int) (aw.app _) au (aD.app _) (aE.app _) ao (Has.here (k := 3) rfl) (Has.here (k := 2) rfl) (Has.here (k := 1) rfl) bg _ (St.give (T := [cBlk al [aj, I ((aa.getD s2 default).base), I ((aa.getD s2 default).minutes)] 60, cBlk ac [Pz ai, ah, I work, .map (some ae), .map (some ag)] 180, cMap I B ag (fun _ => none), cMap encG I ae ak]) H rfl)) ?_
   rintro vq bh ⟨r2, bi, hvq, ay⟩
   subst bi
   subst vq
   try dsimp only at hM
   replace H : St w bh [cBlk al [aj, I ((aa.getD s2 default).base), I ((aa.getD s2 default).minutes)] 60, cBlk ac [Pz ai, ah, I work, .map (some ae), .map (some ag)] 180, cMap I B ag (fun _ => none), cMap encG I ae ak] R := H.back ay rfl
   clear ay
   refine s_nil ?_
   refine W.cond r2 rfl (fun aI => ?_) (fun aI => ?_)
   ·replace hM := M.e_t hM aI
    refine W.region rfl <| sM (Pz ac) rfl <| s_val (x_nc (a := ⟨ac, 0, none⟩) rfl) <| s_val (x_fa (v := Oz ac 3) rfl (fa_blk (o := 0) Fd180_3 Sz177)) <| s_val (x_ld (v := .map (some ae)) rfl (ldb_sc Sc177 (H.blk (k := 1) rfl) rfl)) <| sM (I (s2 : Int)) rfl ?_
    obtain ⟨bP, hM⟩ := M.e_gd hM
    refine sR _ _ (2 * (s2 : Int)) rfl rfl rfl (by omega) <| sM (I (s2 : Int)) rfl <| sR _ _ (2 * (s2 : Int)) rfl rfl rfl (by omega) ?_
    obtain ⟨bQ, hM⟩ := M.e_gd hM
    refine sR _ _ ((2 * (s2 : Int)) + 1) rfl rfl rfl (by omega) <| s_val (x_bld (ps := [(0, I (2 * (s2 : Int))), (1, I ((2 * (s2 : Int)) + 1))]) (zs := [I 0, I 0]) (L' := [I (2 * (s2 : Int)), I ((2 * (s2 : Int)) + 1)]) rfl Try.underlying182 Al182 rfl (Bd182 Try.underlying182) (.cons (cs := [I (2 * (s2 : Int))]) rfl rfl rfl rfl rfl <| .cons (cs := [I ((2 * (s2 : Int)) + 1)]) rfl rfl rfl rfl rfl <| .nil)) ?_
    refine t_mapu (i := 3) (kenc := encG) (venc := I) (f := ak) (k := (⟨2 * (s2 : Int), ((2 * (s2 : Int)) + 1 : Int)⟩ : Gate)) (v := (1 : Int)) (L' := [cBlk al [aj, I ((aa.getD s2 default).base), I ((aa.getD s2 default).minutes)] 60, cBlk ac [Pz ai, ah, I work, .map (some ae), .map (some ag)] 180, cMap I B ag (fun _ => none), cMap encG I ae (updF ak (⟨2 * (s2 : Int), ((2 * (s2 : Int)) + 1 : Int)⟩ : Gate) (1 : Int))]) keyGate Try.underlying177 H rfl rfl rfl rfl rfl ?_
    intro bR H
    refine s_nil ?_
    exact ⟨updF ak (⟨2 * (s2 : Int), ((2 * (s2 : Int)) + 1 : Int)⟩ : Gate) (1 : Int), _, upds_of _ _ ⟨rfl, rfl, rfl, rfl, rfl, rfl, rfl, rfl, trivial⟩, hM, H⟩
   replace hM := M.e_f hM aI
   refine W.skip ?_
   exact ⟨ak, _, upds_of _ _ ⟨rfl, rfl, rfl, rfl, rfl, rfl, rfl, rfl, trivial⟩, hM, H⟩
  rintro _ bS ⟨mp, ρ, rfl, hM, H⟩
  unfold zaW at hM
  refine sQ rfl <| s_val (x_fa (v := Pz al) rfl (fa_blk (o := 0) Fd60_0 Sz34)) <| s_val (x_ld (v := aj) rfl (ldb_sc Sc34 (H.blk (k := 0) rfl) rfl)) ?_
  have bT := (ap).len_le
  refine s_val (x_lenS T34.und rfl ap) <| sM (I 0) rfl <| s_nil <| W.block ?_
  obtain ⟨bj, aJ, bk⟩ := M.e_bind hM
  obtain ⟨aH, aJ⟩ := M.e_iter aJ
  refine W.loop (fun m σ W => ∃ (am : Gate -> Option Int) (s : Nat) (ρ : Env), σ = upds ρ [(1, ah), (2, I work), (7, Pz ac), (8, I (s2 : Int)), (25, aq), (26, I (aa.length : Int)), (27, I (s2 : Int)), (46, aj), (47, I (((aa.getD s2 default).of).length : Int)), (48, I (s : Int))] /\ M.iterN (zax aa revised work s2) m (am, s) = some bj /\ St w W [cBlk al [aj, I ((aa.getD s2 default).base), I ((aa.getD s2 default).minutes)] 60, cBlk ac [Pz ai, ah, I work, .map (some ae), .map (some ag)] 180, cMap I B ag (fun _ => none), cMap encG I ae am] R) ?_ ?_
  ·exact ⟨_, mp, 0, _, upds_of _ _ ⟨rfl, rfl, rfl, rfl, rfl, rfl, rfl, rfl, rfl, rfl, trivial⟩, aJ, H⟩
  rintro bU σ bV ⟨am, s, ρ, rfl, aW, H⟩
  obtain ⟨aX, aY, bW, hM, aK⟩ := M.e_iterN aW
  simp only [zax] at hM
  clear aW
  refine sQ rfl <| sC _ _ (decide ((s : Int) < (((aa.getD s2 default).of).length : Int))) rfl rfl rfl <| s_nil <| W.seq ?_
  refine W.cond (decide ((s : Int) < (((aa.getD s2 default).of).length : Int))) rfl (fun az => ?_) (fun az => ?_)
  ·replace hM := M.e_t hM az
   simp only [qz1, qz2, qz3, qz4, qz5, qz6, ne_eq, qz7] at az
   refine W.skip <| W.seq <| W.block <| sQ rfl ?_
   obtain ⟨bX, hM⟩ := M.e_gd hM
   refine s_val (x_ix (v := vat aj 1 (Int.toNat (s : Int))) rfl rfl (Sl.ix (α := Int) T34.und T34.size ap (by omega) (by omega))) <| s_val (x_ld (v := I (((aa.getD s2 default).of).getD s 0)) rfl (ld_sc Sc3 (At.mono (Int_at ap (i := (s : Int)) (by omega) (by omega)) (aw.at H)))) <| sA (I (((aa.getD s2 default).of).getD s 0)) rfl <| s_nil <| sQ rfl <| sM (I (((aa.getD s2 default).of).getD s 0)) rfl <| sM (I work) rfl <| sC _ _ ((((aa.getD s2 default).of).getD s 0) != work) rfl rfl rfl <| sM (B ((((aa.getD s2 default).of).getD s 0) != work)) rfl <| g_val ((((aa.getD s2 default).of).getD s 0) != work) (gy_t rfl) (fun hg => x_mv (v := I (s2 : Int)) rfl) <| g_val ((((aa.getD s2 default).of).getD s 0) != work) (gy_t rfl) (fun hg => x_mv (v := I work) rfl) ?_
   refine g_val ((((aa.getD s2 default).of).getD s 0) != work) (gy_t rfl) (fun hg => x_cmp (kd := .i64) (r := (s2 : Int) == work) (gd_of hg (I (s2 : Int))) (gd_of hg (I work)) rfl) <| g_val ((((aa.getD s2 default).of).getD s 0) != work) (gy_t rfl) (fun hg => x_mv (v := B ((s2 : Int) == work)) (gd_of hg (B ((s2 : Int) == work)))) <| g_val (((((aa.getD s2 default).of).getD s 0) != work) && !((s2 : Int) == work)) (gy_gf rfl rfl) (fun hg => x_mv (v := Pz ac) rfl) <| g_val (((((aa.getD s2 default).of).getD s 0) != work) && !((s2 : Int) == work)) (gy_gf rfl rfl) (fun hg => x_mv (v := I (s2 : Int)) rfl) ?_
   obtain ⟨r3, bl, hM⟩ := M.e_bind hM
   refine t_gcall (((((aa.getD s2 default).of).getD s 0) != work) && !((s2 : Int) == work)) (gy_gf rfl rfl) cf127 (B r3) (fun _ => [Pz ac, I (s2 : Int)]) (fun hg => lst2 (gd_of hg (Pz ac)) (gd_of hg (I (s2 : Int)))) H (fun hg => (zbN aa revised work am (fun _ => none) (s2 : Int) (aw.app _) au (aD.app _) (aE.app _) ao (Has.here (k := 3) rfl) (Has.here (k := 2) rfl) (Has.here (k := 1) rfl) (M.e_opt bl hg) _ (H.give (A := []) rfl)).mono fun v_ w_ ⟨y_, aL, bm, H_⟩ => by subst aL; exact ⟨bm, H.via H_⟩) ?_
   intro bY H
   refine g_val ((((aa.getD s2 default).of).getD s 0) != work) (gy_t rfl) (fun hg => x_por (b := (s2 : Int) == work) (r := r3) (gd_of hg (B ((s2 : Int) == work))) rfl (fun hb => gd_of (c := (((((aa.getD s2 default).of).getD s 0) != work) && !((s2 : Int) == work))) (by first | exact hb | (rw [hb]; rfl) | simp_all) (B r3))) <| s_val (x_pand (b := (((aa.getD s2 default).of).getD s 0) != work) (r := (((s2 : Int) == work) || r3)) rfl (fun hb => gd_of (c := (((aa.getD s2 default).of).getD s 0) != work) (by first | exact hb | (rw [hb]; rfl) | simp_all) (B (((s2 : Int) == work) || r3))) rfl) <| s_nil ?_
   refine W.cond (((((aa.getD s2 default).of).getD s 0) != work) && (((s2 : Int) == work) || r3)) rfl (fun aM => ?_) (fun aM => ?_)
   ·replace hM := M.e_t hM aM
    refine W.region rfl <| sM (Pz ac) rfl <| s_val (x_nc (a := ⟨ac, 0, none⟩) rfl) <| s_val (x_fa (v := Oz ac 3) rfl (fa_blk (o := 0) Fd180_3 Sz177)) <| s_val (x_ld (v := .map (some ae)) rfl (ldb_sc Sc177 (H.blk (k := 1) rfl) rfl)) <| sM (I (((aa.getD s2 default).of).getD s 0)) rfl ?_
    obtain ⟨bZ, hM⟩ := M.e_gd hM
    refine sR _ _ (2 * (((aa.getD s2 default).of).getD s 0)) rfl rfl rfl (by omega) ?_
    obtain ⟨b6, hM⟩ := M.e_gd hM
    refine sR _ _ ((2 * (((aa.getD s2 default).of).getD s 0)) + 1) rfl rfl rfl (by omega) <| sM (I (s2 : Int)) rfl ?_
    obtain ⟨b9, hM⟩ := M.e_gd hM
    refine sR _ _ (2 * (s2 : Int)) rfl rfl rfl (by omega) <| s_val (x_bld (ps := [(0, I ((2 * (((aa.getD s2 default).of).getD s 0)) + 1)), (1, I (2 * (s2 : Int)))]) (zs := [I 0, I 0]) (L' := [I ((2 * (((aa.getD s2 default).of).getD s 0)) + 1), I (2 * (s2 : Int))]) rfl Try.underlying182 Al182 rfl (Bd182 Try.underlying182) (.cons (cs := [I ((2 * (((aa.getD s2 default).of).getD s 0)) + 1)]) rfl rfl rfl rfl rfl <| .cons (cs := [I (2 * (s2 : Int))]) rfl rfl rfl rfl rfl <| .nil)) ?_
    refine t_mapu (i := 3) (kenc := encG) (venc := I) (f := am) (k := (⟨((2 * (((aa.getD s2 default).of).getD s 0)) + 1 : Int), 2 * (s2 : Int)⟩ : Gate)) (v := (30 : Int)) (L' := [cBlk al [aj, I ((aa.getD s2 default).base), I ((aa.getD s2 default).minutes)] 60, cBlk ac [Pz ai, ah, I work, .map (some ae), .map (some ag)] 180, cMap I B ag (fun _ => none), cMap encG I ae (updF am (⟨((2 * (((aa.getD s2 default).of).getD s 0)) + 1 : Int), 2 * (s2 : Int)⟩ : Gate) (30 : Int))]) keyGate Try.underlying177 H rfl rfl rfl rfl rfl ?_
    intro ca H
    refine s_nil <| W.region rfl <| sR _ _ ((s : Int) + 1) rfl rfl rfl (by omega) <| sM (I ((s : Int) + 1)) rfl <| s_nil ?_
    exact ⟨aX, aY, updF am (⟨((2 * (((aa.getD s2 default).of).getD s 0)) + 1 : Int), 2 * (s2 : Int)⟩ : Gate) (30 : Int), s + 1, _, upds_of _ _ ⟨rfl, rfl, rfl, rfl, rfl, rfl, rfl, rfl, rfl, rfl, trivial⟩, M.e_inl hM aK, H⟩
   replace hM := M.e_f hM aM
   refine W.skip <| W.region rfl <| sR _ _ ((s : Int) + 1) rfl rfl rfl (by omega) <| sM (I ((s : Int) + 1)) rfl <| s_nil ?_
   exact ⟨aX, aY, am, s + 1, _, upds_of _ _ ⟨rfl, rfl, rfl, rfl, rfl, rfl, rfl, rfl, rfl, rfl, trivial⟩, M.e_inl hM aK, H⟩
  replace hM := M.e_f hM az
  simp only [qz1, qz2, qz3, qz4, qz5, qz6, ne_eq, qz7] at az
  refine W.exit ?_
  have bn := M.e_inr hM aK
  subst bn
  replace hM := bk
  try dsimp only at hM
  refine W.region rfl <| sR _ _ ((s2 : Int) + 1) rfl rfl rfl (by omega) <| sM (I ((s2 : Int) + 1)) rfl <| s_nil ?_
  exact ⟨ba, bb, am, s2 + 1, _, upds_of _ _ ⟨rfl, rfl, rfl, rfl, rfl, rfl, trivial⟩, M.e_inl hM aV, (H.pick [1, 2, 3] (by decide) rfl)⟩
 replace hM := M.e_f hM ax
 simp only [qz1, qz2, qz3, qz4, qz5, qz6, ne_eq, qz7] at ax
 refine W.exit ?_
 have bo := M.e_inr hM aV
 subst bo
 replace hM := a9
 try dsimp only at hM
 refine W.seq <| sQ rfl <| sM ah rfl ?_
 have cb := (ao).len_le
 refine s_val (x_lenS T34.und rfl ao) <| sM (I 0) rfl <| s_nil <| W.block ?_
 obtain ⟨bp, aN, bq⟩ := M.e_bind hM
 obtain ⟨aH, aN⟩ := M.e_iter aN
 refine W.loop (fun m σ W => ∃ (aA : Gate -> Option Int) (aB : Int -> Option Bool) (s3 : Nat) (ρ : Env), σ = upds ρ [(7, Pz ac), (77, ah), (78, I (revised.length : Int)), (79, I (s3 : Int))] /\ M.iterN (zbc aa revised work) m (aA, aB, s3) = some bp /\ St w W [cBlk ac [Pz ai, ah, I work, .map (some ae), .map (some ag)] 180, cMap I B ag aB, cMap encG I ae aA] R) ?_ ?_
 ·exact ⟨_, ak, (fun _ => none), 0, _, upds_of _ _ ⟨rfl, rfl, rfl, rfl, trivial⟩, aN, H⟩
 rintro cc σ cd ⟨aA, aB, s3, ρ, rfl, aZ, H⟩
 obtain ⟨br, bt, ce, hM, a5⟩ := M.e_iterN aZ
 simp only [zbc] at hM
 clear aZ
 refine sQ rfl <| sC _ _ (decide ((s3 : Int) < (revised.length : Int))) rfl rfl rfl <| s_nil <| W.seq ?_
 refine W.cond (decide ((s3 : Int) < (revised.length : Int))) rfl (fun aC => ?_) (fun aC => ?_)
 ·replace hM := M.e_t hM aC
  simp only [qz1, qz2, qz3, qz4, qz5, qz6, ne_eq, qz7] at aC
  refine W.skip <| W.seq <| W.block <| sQ rfl ?_
  obtain ⟨cf, hM⟩ := M.e_gd hM
  refine s_val (x_ix (v := vat ah 1 (Int.toNat (s3 : Int))) rfl rfl (Sl.ix (α := Int) T34.und T34.size ao (by omega) (by omega))) <| s_val (x_ld (v := I (revised.getD s3 0)) rfl (ld_sc Sc3 (At.mono (Int_at ao (i := (s3 : Int)) (by omega) (by omega)) (aE.at H)))) <| sA (I (revised.getD s3 0)) rfl <| s_nil ?_
  refine W.scope ?_
  refine W.seq ?_
  refine W.label ?_
  refine W.block ?_
  obtain ⟨bu, aO, bv⟩ := M.e_bind hM
  obtain ⟨aH, aO⟩ := M.e_iter aO
  refine W.loop (fun m σ W => ∃ (av : Gate -> Option Int) (aF : Int -> Option Bool) (ρ : Env), σ = upds ρ [(7, Pz ac), (13, I (revised.getD s3 0)), (77, ah), (78, I (revised.length : Int)), (79, I (s3 : Int))] /\ M.iterN (zbm aa revised work s3) m (av, aF) = some bu /\ St w W [cBlk ac [Pz ai, ah, I work, .map (some ae), .map (some ag)] 180, cMap I B ag aF, cMap encG I ae av] R) ?_ ?_
  ·exact ⟨_, aA, aB, _, upds_of _ _ ⟨rfl, rfl, rfl, rfl, rfl, trivial⟩, aO, H⟩
  rintro cg σ ci ⟨av, aF, ρ, rfl, a6, H⟩
  obtain ⟨bw, bx, cj, hM, a7⟩ := M.e_iterN a6
  simp only [zbm] at hM
  clear a6
  refine W.block <| sQ rfl <| sM (Pz ac) rfl <| s_val (x_nc (a := ⟨ac, 0, none⟩) rfl) <| s_val (x_fa (v := Oz ac 4) rfl (fa_blk (o := 0) Fd180_4 Sz178)) <| s_val (x_ld (v := .map (some ag)) rfl (ldb_sc Sc178 (H.blk (k := 0) rfl) rfl)) ?_
  refine t_clearm (i := 1) (kenc := I) (venc := B) (f := aF) (L' := [cBlk ac [Pz ai, ah, I work, .map (some ae), .map (some ag)] 180, cMap I B ag (fun _ => none), cMap encG I ae av]) (by rw [show (#[178] : Array TypeId)[0]?.bind Try.prog.underlying = Try.prog.underlying 178 from rfl, Try.underlying178]; rfl) H rfl rfl rfl ?_
  intro ck H
  refine s_nil <| sQ rfl <| sM (Pz ac) rfl <| sM (I (revised.getD s3 0)) rfl ?_
  obtain ⟨cm, hM⟩ := M.e_gd hM
  refine sR _ _ (2 * (revised.getD s3 0)) rfl rfl rfl (by omega) ?_
  obtain ⟨cn, hM⟩ := M.e_gd hM
  refine sR _ _ ((2 * (revised.getD s3 0)) + 1) rfl rfl rfl (by omega) ?_
  obtain ⟨co, bz, hM⟩ := M.e_bind hM
  refine s_call cf126 [Pz ac, I ((2 * (revised.getD s3 0)) + 1)] rfl (zcG aa revised work av (fun _ => none) ((2 * (revised.getD s3 0)) + 1) (aw.app _) au (aD.app _) (aE.app _) ao (Has.here (k := 0) rfl) bz _ (St.give (L := [cMap encG I ae av, cMap I B ag (fun _ => none), cBlk ac [Pz ai, ah, I work, .map (some ae), .map (some ag)] 180]) (A := [cMap encG I ae av, cMap I B ag (fun _ => none)]) (T := [cBlk ac [Pz ai, ah, I work, .map (some ae), .map (some ag)] 180]) (H.pick [2, 1, 0] (by decide) rfl) rfl)) ?_
  rintro vq bA ⟨r4, aP, aQ, bB, hvq, ay⟩
  subst bB
  subst vq
  try dsimp only at hM
  replace H : St w bA [cMap encG I ae aP, cMap I B ag aQ, cBlk ac [Pz ai, ah, I work, .map (some ae), .map (some ag)] 180] R := H.pick [2, 1, 0] (by decide) rfl |>.back ay rfl
  clear ay
  refine s_val (x_not (b := r4) rfl) <| s_nil ?_
  refine W.cond (!r4) rfl (fun aR => ?_) (fun aR => ?_)
  ·replace hM := M.e_t hM aR
   refine W.exit ?_
   have bC := M.e_inr hM a7
   subst bC
   replace hM := bv
   try dsimp only at hM
   refine W.region rfl <| sR _ _ ((s3 : Int) + 1) rfl rfl rfl (by omega) <| sM (I ((s3 : Int) + 1)) rfl <| s_nil ?_
   exact ⟨br, bt, aP, aQ, s3 + 1, _, upds_of _ _ ⟨rfl, rfl, rfl, rfl, trivial⟩, M.e_inl hM a5, (H.pick [2, 1, 0] (by decide) rfl)⟩
  replace hM := M.e_f hM aR
  refine W.skip ?_
  exact ⟨bw, bx, aP, aQ, _, upds_of _ _ ⟨rfl, rfl, rfl, rfl, rfl, trivial⟩, M.e_inl hM a7, (H.pick [2, 1, 0] (by decide) rfl)⟩
 replace hM := M.e_f hM aC
 simp only [qz1, qz2, qz3, qz4, qz5, qz6, ne_eq, qz7] at aC
 refine W.exit ?_
 have bD := M.e_inr hM a5
 subst bD
 replace hM := bq
 try dsimp only at hM
 refine sQ rfl <| sM (Pz ac) rfl <| sA (Pz ac) rfl <| s_nil ?_
 refine W.ret ?_
 have aL := M.e_pure hM
 exact ⟨_, resE_tmp rfl, ⟨work, aA, aB, ac, ae, ag, aL, rfl, (H.pick [0, 2, 1] (by decide) rfl)⟩⟩

def zao (w_ : List Work) (revised : List Int) (work : Int) : M (Int ⊕ (Int × (Gate -> Option Int) × (Int -> Option Bool) × Int)) :=
  M.bind (zap w_ revised work) fun x_ => match x_ with
  | (.inl r1) => (
  bif r1 != 0 then (
  M.pure (.inl r1))
  else (
  M.fail))
  | (.inr aa) => (
  bif aa != 0 then (
  M.fail)
  else (
  M.bind (zaw revised (fun ac => zba ac w_ work)) fun r2 =>
  bif r2 then (
  M.pure (.inl 5))
  else (
  M.bind (zbM w_ revised work) fun (ae, r3, r4) =>
  M.pure (.inr (ae, r3, r4, 0)))))
theorem zcy {R : List Chunk} {aC : Cells} {ak : Value} {aD : Cells} {ah : Value} (w_ : List Work) (revised : List Int) (work : Int) (ap : Reads R aC) (aq : Sl aC ak w_) (au : Reads R aD) (av : Sl aD ah revised) {r : (Int ⊕ (Int × (Gate -> Option Int) × (Int -> Option Bool) × Int))} (hM : (zao w_ revised work).Ends r) (w : World) (H : St w w [] R) : Ret Try.prog 125 #[ak, ah, I work] w fun v w' => (∃ (y0 : Int), (.inl y0) = r /\ v = .tuple #[.pointer none, I y0] /\ St w w' [] R) ∨ (∃ (y0 : Int) (y1 : Gate -> Option Int) (y2 : Int -> Option Bool) (y3 : Int) (nb0 : Nat) (nb1 : Nat) (aE : Base) (nb3 : Nat) (nb4 : Nat), (.inr (y0, y1, y2, y3)) = r /\ v = .tuple #[Pz nb0, I y3] /\ St w w' [cBlk nb0 [Pz nb1, ah, I y0, .map (some nb3), .map (some nb4)] 180, cRo aE, cMap encG I nb3 y1, cMap I B nb4 y2] R /\ (∀ W, (cRo aE).ok W -> W.heap[nb1]? = some (.cells [ak].toArray 187 (0, 0)))) := by
 refine ret_of_W Try.func125 rfl rfl rfl ?_
 refine sQ rfl ?_
 refine t_box (v := I work) (cs := [I work]) H rfl rfl ?_
 intro ac aY H
 refine sA (.pointer none) rfl <| sA (I 0) rfl <| s_nil <| sQ rfl <| sM ak rfl <| sM ah rfl <| s_val (x_ld (v := I work) rfl (ldb_sc Sc3 (H.blk (k := 0) rfl) rfl)) ?_
 obtain ⟨aZ, aI, hM⟩ := M.e_bind hM
 refine s_call cf116 [ak, ah, I work] rfl (zco w_ revised work (ap.app _) aq (au.app _) av aI _ (St.give (T := [cBlk ac [I work] 3]) H rfl)) ?_
 rintro vq aF (⟨r1, aJ, hvq, ag⟩ | ⟨ai, aa, aj, aK, hvq, ag, aw⟩)
 ·subst aJ
  subst vq
  try dsimp only at hM
  replace H : St w aF [cBlk ac [I work] 3] R := H.back ag rfl
  clear ag
  refine sM (.tuple #[.pointer none, I r1]) rfl <| sX [.pointer none, I r1] (.pointer none) rfl rfl <| sX [.pointer none, I r1] (I r1) rfl rfl ?_
  refine t_alloc (cs := [.pointer none]) H Al127 rfl ?_
  intro ae a5 H
  refine t_st (k := 0) (b := ae) (off := 0) (cs := [.pointer none]) (vs := [.pointer none]) (cs' := [.pointer none]) (v := .pointer none) (L' := [cBlk ae [.pointer none] 127, cBlk ac [I work] 3]) H rfl rfl rfl Sz127 rfl rfl rfl rfl rfl rfl ?_
  intro a6 H
  refine sA (I r1) rfl <| s_nil <| W.seq <| W.block <| sQ rfl <| sM (I r1) rfl <| sC _ _ (r1 != 0) rfl rfl rfl <| sA (B (r1 != 0)) rfl <| s_nil ?_
  refine W.cond (r1 != 0) rfl (fun am => ?_) (fun am => ?_)
  ·replace hM := M.e_t hM am
   simp only [qz1, qz2, qz3, qz4, qz5, qz6, ne_eq, qz7] at am
   refine sQ rfl <| sM (I r1) rfl <| sA (.pointer none) rfl <| sA (I r1) rfl <| s_nil ?_
   refine W.ret ?_
   have al := M.e_pure hM
   exact ⟨_, resE_tmp2 rfl, .inl (⟨r1, al, rfl, (H.pick [] (by decide) rfl)⟩)⟩
  replace hM := M.e_f hM am
  exact (M.e_fail hM).elim
 subst aK
 subst vq
 try dsimp only at hM
 replace H : St w aF [cRo aj, cBlk ac [I work] 3] R := H.back ag rfl
 clear ag
 refine sM (.tuple #[Pz aa, I ai]) rfl <| sX [Pz aa, I ai] (Pz aa) rfl rfl <| sX [Pz aa, I ai] (I ai) rfl rfl ?_
 refine t_alloc (cs := [.pointer none]) H Al127 rfl ?_
 intro ae a7 H
 refine t_st (k := 0) (b := ae) (off := 0) (cs := [.pointer none]) (vs := [Pz aa]) (cs' := [Pz aa]) (v := Pz aa) (L' := [cBlk ae [Pz aa] 127, cRo aj, cBlk ac [I work] 3]) H rfl rfl rfl Sz127 rfl rfl rfl rfl rfl rfl ?_
 intro a8 H
 refine sA (I ai) rfl <| s_nil <| W.seq <| W.block <| sQ rfl <| sM (I ai) rfl <| sC _ _ (ai != 0) rfl rfl rfl <| sA (B (ai != 0)) rfl <| s_nil ?_
 refine W.cond (ai != 0) rfl (fun ao => ?_) (fun ao => ?_)
 ·replace hM := M.e_t hM ao
  exact (M.e_fail hM).elim
 replace hM := M.e_f hM ao
 simp only [qz1, qz2, qz3, qz4, qz5, qz6, ne_eq, qz7] at ao
 refine sQ rfl <| sM ah rfl <| s_val (x_mf (fs := []) (cs := [Pz ae, Pz ac]) rfl rfl) ?_
 obtain ⟨a9, aL, hM⟩ := M.e_bind hM
 refine s_call cf48 [ah, .func (.func 159) #[] #[Pz ae, Pz ac]] rfl (zb3 revised (fun ax => zba ax w_ work) (au.app _) av ⟨159, [Pz ae, Pz ac], rfl, cf159, fun aG ba bb aM ax bc aN bf aO aP => by obtain rfl := Arg.int aO; exact (zdc ax w_ work (Reads.app (ap.app _) _) aq (Has.app (Has.ro (k := 1) rfl aw) _) (Has.app (Has.here (k := 0) rfl) _) (Has.app (Has.here (k := 2) rfl) _) aP aG (St.refl aN)).mono fun aM aG ⟨bg, aQ, aR, aS⟩ => by subst aQ; exact ⟨aR, aS⟩⟩ aL _ (St.give (T := [cBlk ae [Pz aa] 127, cRo aj, cBlk ac [I work] 3]) H rfl)) ?_
 rintro vq aT ⟨r2, aU, hvq, ag⟩
 subst aU
 subst vq
 try dsimp only at hM
 replace H : St w aT [cBlk ae [Pz aa] 127, cRo aj, cBlk ac [I work] 3] R := H.back ag rfl
 clear ag
 refine sA (B r2) rfl <| s_nil ?_
 refine W.cond r2 rfl (fun ay => ?_) (fun ay => ?_)
 ·replace hM := M.e_t hM ay
  refine sQ rfl <| sA (.pointer none) rfl <| sA (I 5) rfl <| s_nil ?_
  refine W.ret ?_
  have al := M.e_pure hM
  exact ⟨_, resE_tmp2 rfl, .inl (⟨5, al, rfl, (H.pick [] (by decide) rfl)⟩)⟩
 replace hM := M.e_f hM ay
 refine W.skip <| sQ rfl <| s_val (x_ld (v := Pz aa) rfl (ldb_sc Sc127 (H.blk (k := 0) rfl) rfl)) <| sM ah rfl <| s_val (x_ld (v := I work) rfl (ldb_sc Sc3 (H.blk (k := 2) rfl) rfl)) ?_
 obtain ⟨bh, aV, hM⟩ := M.e_bind hM
 refine s_call cf160 [Pz aa, ah, I work] rfl (zc6 w_ revised work (ap.app _) aq (Has.ro (k := 1) rfl aw) (au.app _) av aV _ (St.give (T := [cBlk ae [Pz aa] 127, cRo aj, cBlk ac [I work] 3]) H rfl)) ?_
 rintro vq aW ⟨aH, r3, r4, az, aA, aB, aX, hvq, ag⟩
 subst aX
 subst vq
 try dsimp only at hM
 replace H : St w aW [cBlk az [Pz aa, ah, I aH, .map (some aA), .map (some aB)] 180, cMap encG I aA r3, cMap I B aB r4, cBlk ae [Pz aa] 127, cRo aj, cBlk ac [I work] 3] R := H.back ag rfl
 clear ag
 refine sA (Pz az) rfl <| sA (I 0) rfl <| s_nil ?_
 refine W.ret ?_
 have al := M.e_pure hM
 exact ⟨_, resE_tmp2 rfl, .inr (⟨aH, r3, r4, 0, az, aa, aj, aA, aB, al, rfl, (H.pick [0, 4, 1, 2] (by decide) rfl), aw⟩)⟩

def zaY (w_ : List Work) (revised : List Int) (ac : Int) : ((Gate -> Option Int) × (Int -> Option Bool) × Nat) -> M (((Gate -> Option Int) × (Int -> Option Bool) × Nat) ⊕ ((Gate -> Option Int) × (Int -> Option Bool))) := fun (mp, aa, s) =>
  bif decide ((s : Int) < (revised.length : Int)) then (
  M.grd (decide ((s : Int) < (revised.length : Int))) <|
  M.grd (decide ((-9223372036854775808 : Int) <= (2 * (revised.getD s 0))) && decide ((2 * (revised.getD s 0)) <= (9223372036854775807 : Int))) <|
  M.grd (decide ((-9223372036854775808 : Int) <= ((2 * (revised.getD s 0)) + 1)) && decide (((2 * (revised.getD s 0)) + 1) <= (9223372036854775807 : Int))) <|
  M.bind (zbG w_ revised ac mp aa ((2 * (revised.getD s 0)) + 1)) fun (r2, ae, ag) =>
  M.pure (.inl (ae, ag, s + 1)))
  else (
  M.pure (.inr (mp, aa)))
def zaG (w_ : List Work) (revised : List Int) (ac : Int) (ae : Gate -> Option Int) (aa : Int -> Option Bool) : (Nat × (List Int)) -> M ((Nat × (List Int)) ⊕ ((List Int) × (List Int))) := fun (s2, l) =>
  bif decide ((s2 : Int) < (w_.length : Int)) then (
  M.bind (zag w_ revised ac ae aa (s2 : Int)) fun r3 =>
  M.grd ((!r3 || (decide ((-9223372036854775808 : Int) <= (2 * (s2 : Int))) && decide ((2 * (s2 : Int)) <= (9223372036854775807 : Int))))) <|
  M.grd ((!(r3 && ((aa (2 * (s2 : Int))).getD false)) || (decide ((-9223372036854775808 : Int) <= (2 * (s2 : Int))) && decide ((2 * (s2 : Int)) <= (9223372036854775807 : Int))))) <|
  M.grd ((!(r3 && ((aa (2 * (s2 : Int))).getD false)) || (decide ((-9223372036854775808 : Int) <= ((2 * (s2 : Int)) + 1)) && decide (((2 * (s2 : Int)) + 1) <= (9223372036854775807 : Int))))) <|
  bif ((r3 && ((aa (2 * (s2 : Int))).getD false)) && (!((aa ((2 * (s2 : Int)) + 1 : Int)).getD false))) then (
  M.grd (decide ((l.length + ([(s2 : Int)]).length) * 8 <= 140737488355328)) <|
  M.pure (.inl (s2 + 1, l ++ ([(s2 : Int)]))))
  else (
  M.pure (.inl (s2 + 1, l))))
  else (
  M.pure (.inr (l, l)))
def zah (w_ : List Work) (revised : List Int) (work : Int) : M ((List Int) × Int) :=
  M.bind (zao w_ revised work) fun x_ => match x_ with
  | (.inl r1) => (
  bif r1 != 0 then (
  M.pure (([]), r1))
  else (
  M.fail))
  | (.inr (aa, ac, ai, ae)) => (
  bif ae != 0 then (
  M.fail)
  else (
  M.bind (M.iter (zaY w_ revised aa) (ac, (fun _ => none), 0)) fun (ag, ah) =>
  M.bind (M.iter (zaG w_ revised aa ag ah) (0, [])) fun (l2, l3) =>
  M.pure (l3, 0)))
theorem zch {R : List Chunk} {aP : Cells} {au : Value} {aQ : Cells} {ah : Value} (w_ : List Work) (revised : List Int) (work : Int) (aF : Reads R aP) (av : Sl aP au w_) (aA : Reads R aQ) (aq : Sl aQ ah revised) {r : ((List Int) × Int)} (hM : (zah w_ revised work).Ends r) (w : World) (H : St w w [] R) : Ret Try.prog 64 #[au, ah, I work] w fun v w' => ∃ (y0 : List Int) (y1 : Int) (u0 : Value), (y0, y1) = r /\ v = .tuple #[u0, I y1] /\ St w w' [cOwn (α := Int) 3 u0 y0] R := by
 refine ret_of_W Try.func64 rfl rfl rfl ?_
 refine sQ rfl <| sA (.slice none 0 0) rfl <| sA (I 0) rfl <| s_nil <| sQ rfl <| sM au rfl <| sM ah rfl <| sM (I work) rfl ?_
 obtain ⟨bt, a6, hM⟩ := M.e_bind hM
 refine s_call cf125 [au, ah, I work] rfl (zcy w_ revised work (aF.app _) av (aA.app _) aq a6 _ (St.give (T := []) H rfl)) ?_
 rintro vq aG (⟨r1, a7, hvq, aj⟩ | ⟨ai, aH, aR, ap, aa, ak, al, ag, ae, a8, hvq, aj, aS⟩)
 ·subst a7
  subst vq
  try dsimp only at hM
  replace H : St w aG [] R := H.back aj rfl
  clear aj
  refine sM (.tuple #[.pointer none, I r1]) rfl <| sX [.pointer none, I r1] (.pointer none) rfl rfl <| sX [.pointer none, I r1] (I r1) rfl rfl <| sA (.pointer none) rfl <| sA (I r1) rfl <| s_nil <| W.seq <| sQ rfl <| sM (I r1) rfl <| sC _ _ (r1 != 0) rfl rfl rfl <| s_nil ?_
  refine W.cond (r1 != 0) rfl (fun aB => ?_) (fun aB => ?_)
  ·replace hM := M.e_t hM aB
   simp only [qz1, qz2, qz3, qz4, qz5, qz6, ne_eq, qz7] at aB
   refine sQ rfl <| sM (I r1) rfl <| sA (.slice none 0 0) rfl <| sA (I r1) rfl <| s_nil ?_
   refine W.ret ?_
   have aI := M.e_pure hM
   replace H : St w aG [cOwn (α := Int) 3 (.slice none 0 0) ([])] R := H.nilOwn (α := Int) 3
   exact ⟨_, resE_tmp2 rfl, ⟨([]), r1, (.slice none 0 0), aI, rfl, H⟩⟩
  replace hM := M.e_f hM aB
  exact (M.e_fail hM).elim
 subst a8
 subst vq
 try dsimp only at hM
 replace H : St w aG [cBlk aa [Pz ak, ah, I ai, .map (some ag), .map (some ae)] 180, cRo al, cMap encG I ag aH, cMap I B ae aR] R := H.back aj rfl
 clear aj
 refine sM (.tuple #[Pz aa, I ap]) rfl <| sX [Pz aa, I ap] (Pz aa) rfl rfl <| sX [Pz aa, I ap] (I ap) rfl rfl <| sA (Pz aa) rfl <| sA (I ap) rfl <| s_nil <| W.seq <| sQ rfl <| sM (I ap) rfl <| sC _ _ (ap != 0) rfl rfl rfl <| s_nil ?_
 refine W.cond (ap != 0) rfl (fun aC => ?_) (fun aC => ?_)
 ·replace hM := M.e_t hM aC
  exact (M.e_fail hM).elim
 replace hM := M.e_f hM aC
 simp only [qz1, qz2, qz3, qz4, qz5, qz6, ne_eq, qz7] at aC
 refine W.skip <| sQ rfl <| sM (Pz aa) rfl <| s_val (x_nc (a := ⟨aa, 0, none⟩) rfl) <| s_val (x_fa (v := Oz aa 4) rfl (fa_blk (o := 0) Fd180_4 Sz178)) <| s_val (x_ld (v := .map (some ae)) rfl (ldb_sc Sc178 (H.blk (k := 0) rfl) rfl)) ?_
 refine t_clearm (i := 3) (kenc := I) (venc := B) (f := aR) (L' := [cBlk aa [Pz ak, ah, I ai, .map (some ag), .map (some ae)] 180, cRo al, cMap encG I ag aH, cMap I B ae (fun _ => none)]) (by rw [show (#[178] : Array TypeId)[0]?.bind Try.prog.underlying = Try.prog.underlying 178 from rfl, Try.underlying178]; rfl) H rfl rfl rfl ?_
 intro bu H
 refine s_nil <| W.seq <| sQ rfl <| sM ah rfl ?_
 have bv := (aq).len_le
 refine s_val (x_lenS T34.und rfl aq) <| sM (I 0) rfl <| s_nil <| W.block ?_
 obtain ⟨a9, aJ, ba⟩ := M.e_bind hM
 obtain ⟨bb, aJ⟩ := M.e_iter aJ
 refine W.loop (fun m σ W => ∃ (mp : Gate -> Option Int) (ac : Int -> Option Bool) (s : Nat) (ρ : Env), σ = upds ρ [(0, au), (8, Pz aa), (28, ah), (29, I (revised.length : Int)), (30, I (s : Int))] /\ M.iterN (zaY w_ revised ai) m (mp, ac, s) = some a9 /\ St w W [cBlk aa [Pz ak, ah, I ai, .map (some ag), .map (some ae)] 180, cRo al, cMap encG I ag mp, cMap I B ae ac] R) ?_ ?_
 ·exact ⟨_, aH, (fun _ => none), 0, _, upds_of _ _ ⟨rfl, rfl, rfl, rfl, rfl, trivial⟩, aJ, H⟩
 rintro bw σ bc ⟨mp, ac, s, ρ, rfl, aT, H⟩
 obtain ⟨bf, bg, bx, hM, aU⟩ := M.e_iterN aT
 simp only [zaY] at hM
 clear aT
 refine sQ rfl <| sC _ _ (decide ((s : Int) < (revised.length : Int))) rfl rfl rfl <| s_nil <| W.seq ?_
 refine W.cond (decide ((s : Int) < (revised.length : Int))) rfl (fun aw => ?_) (fun aw => ?_)
 ·replace hM := M.e_t hM aw
  simp only [qz1, qz2, qz3, qz4, qz5, qz6, ne_eq, qz7] at aw
  refine W.skip <| W.seq <| W.block <| sQ rfl ?_
  obtain ⟨bz, hM⟩ := M.e_gd hM
  refine s_val (x_ix (v := vat ah 1 (Int.toNat (s : Int))) rfl rfl (Sl.ix (α := Int) T34.und T34.size aq (by omega) (by omega))) <| s_val (x_ld (v := I (revised.getD s 0)) rfl (ld_sc Sc3 (At.mono (Int_at aq (i := (s : Int)) (by omega) (by omega)) (aA.at H)))) <| sA (I (revised.getD s 0)) rfl <| s_nil <| W.region rfl <| sM (Pz aa) rfl <| sM (I (revised.getD s 0)) rfl ?_
  obtain ⟨bA, hM⟩ := M.e_gd hM
  refine sR _ _ (2 * (revised.getD s 0)) rfl rfl rfl (by omega) ?_
  obtain ⟨bB, hM⟩ := M.e_gd hM
  refine sR _ _ ((2 * (revised.getD s 0)) + 1) rfl rfl rfl (by omega) ?_
  obtain ⟨bC, bh, hM⟩ := M.e_bind hM
  refine s_call cf126 [Pz aa, I ((2 * (revised.getD s 0)) + 1)] rfl (zcG w_ revised ai mp ac ((2 * (revised.getD s 0)) + 1) (aF.app _) av (Has.ro (k := 1) rfl aS) (aA.app _) aq (Has.here (k := 0) rfl) bh _ (St.give (L := [cMap encG I ag mp, cMap I B ae ac, cBlk aa [Pz ak, ah, I ai, .map (some ag), .map (some ae)] 180, cRo al]) (A := [cMap encG I ag mp, cMap I B ae ac]) (T := [cBlk aa [Pz ak, ah, I ai, .map (some ag), .map (some ae)] 180, cRo al]) (H.pick [2, 3, 0, 1] (by decide) rfl) rfl)) ?_
  rintro vq bi ⟨r2, aV, aW, bj, hvq, aj⟩
  subst bj
  subst vq
  try dsimp only at hM
  replace H : St w bi [cMap encG I ag aV, cMap I B ae aW, cBlk aa [Pz ak, ah, I ai, .map (some ag), .map (some ae)] 180, cRo al] R := H.pick [2, 3, 0, 1] (by decide) rfl |>.back aj rfl
  clear aj
  refine s_nil <| W.region rfl <| sR _ _ ((s : Int) + 1) rfl rfl rfl (by omega) <| sM (I ((s : Int) + 1)) rfl <| s_nil ?_
  exact ⟨bf, bg, aV, aW, s + 1, _, upds_of _ _ ⟨rfl, rfl, rfl, rfl, rfl, trivial⟩, M.e_inl hM aU, (H.pick [2, 3, 0, 1] (by decide) rfl)⟩
 replace hM := M.e_f hM aw
 simp only [qz1, qz2, qz3, qz4, qz5, qz6, ne_eq, qz7] at aw
 refine W.exit ?_
 have bk := M.e_inr hM aU
 subst bk
 replace hM := ba
 try dsimp only at hM
 refine sQ rfl <| sA (.slice none 0 0) rfl <| s_nil <| W.seq <| sQ rfl <| sM au rfl ?_
 have bD := (av).len_le
 refine s_val (x_lenS T22.und rfl av) <| sM (I 0) rfl <| s_nil <| W.block ?_
 replace H : St w bc [cOwn (α := Int) 3 (.slice none 0 0) ([]), cBlk aa [Pz ak, ah, I ai, .map (some ag), .map (some ae)] 180, cRo al, cMap encG I ag mp, cMap I B ae ac] R := H.nilOwn (α := Int) 3
 obtain ⟨bl, aK, bm⟩ := M.e_bind hM
 obtain ⟨bb, aK⟩ := M.e_iter aK
 refine W.loop (fun m σ W => ∃ (s2 : Nat) (l : List Int) (ao : Value) (ρ : Env), σ = upds ρ [(8, Pz aa), (12, ao), (41, I (w_.length : Int)), (42, I (s2 : Int))] /\ M.iterN (zaG w_ revised ai mp ac) m (s2, l) = some bl /\ St w W [cOwn (α := Int) 3 ao l, cBlk aa [Pz ak, ah, I ai, .map (some ag), .map (some ae)] 180, cRo al, cMap encG I ag mp, cMap I B ae ac] R) ?_ ?_
 ·exact ⟨_, 0, [], (.slice none 0 0), _, upds_of _ _ ⟨rfl, rfl, rfl, rfl, trivial⟩, aK, H⟩
 rintro bE σ bF ⟨s2, l, ao, ρ, rfl, aX, H⟩
 obtain ⟨aY, aZ, bG, hM, aL⟩ := M.e_iterN aX
 simp only [zaG] at hM
 clear aX
 refine sQ rfl <| sC _ _ (decide ((s2 : Int) < (w_.length : Int))) rfl rfl rfl <| s_nil <| W.seq ?_
 refine W.cond (decide ((s2 : Int) < (w_.length : Int))) rfl (fun ax => ?_) (fun ax => ?_)
 ·replace hM := M.e_t hM ax
  simp only [qz1, qz2, qz3, qz4, qz5, qz6, ne_eq, qz7] at ax
  refine W.skip <| W.seq <| W.block <| sQ rfl <| sM (I (s2 : Int)) rfl <| sA (I (s2 : Int)) rfl <| s_nil <| sQ rfl <| sM (Pz aa) rfl <| sM (I (s2 : Int)) rfl ?_
  obtain ⟨bH, bn, hM⟩ := M.e_bind hM
  refine s_call cf127 [Pz aa, I (s2 : Int)] rfl (zbN w_ revised ai mp ac (s2 : Int) (aF.app _) av (Has.ro (k := 2) rfl aS) (aA.app _) aq (Has.here (k := 3) rfl) (Has.here (k := 4) rfl) (Has.here (k := 1) rfl) bn _ (St.give (T := [cOwn (α := Int) 3 ao l, cBlk aa [Pz ak, ah, I ai, .map (some ag), .map (some ae)] 180, cRo al, cMap encG I ag mp, cMap I B ae ac]) H rfl)) ?_
  rintro vq bo ⟨r3, bp, hvq, aj⟩
  subst bp
  subst vq
  try dsimp only at hM
  replace H : St w bo [cOwn (α := Int) 3 ao l, cBlk aa [Pz ak, ah, I ai, .map (some ag), .map (some ae)] 180, cRo al, cMap encG I ag mp, cMap I B ae ac] R := H.back aj rfl
  clear aj
  refine sM (B r3) rfl <| g_val r3 (gy_t rfl) (fun hg => x_mv (v := Pz aa) rfl) <| g_val r3 (gy_t rfl) (fun hg => x_nc (a := ⟨aa, 0, none⟩) (gd_of hg (Pz aa))) <| g_val r3 (gy_t rfl) (fun hg => x_fa (v := Oz aa 4) (gd_of hg (Pz aa)) (fa_blk (o := 0) Fd180_4 Sz178)) <| g_val r3 (gy_t rfl) (fun hg => x_ld (v := .map (some ae)) (gd_of hg (Oz aa 4)) (ldb_sc Sc178 (H.blk (k := 1) rfl) rfl)) <| g_val r3 (gy_t rfl) (fun hg => x_mv (v := I (s2 : Int)) rfl) ?_
  obtain ⟨aD, hM⟩ := M.e_grd hM
  replace aD := M.imp_of aD
  simp only [Bool.and_eq_true, decide_eq_true_eq] at aD
  refine g_val r3 (gy_t rfl) (fun hg => x_ari (r := 2 * (s2 : Int)) rfl (gd_of hg (I (s2 : Int))) rfl (by have am := aD.resolve_left (by rw [hg]; decide); first | exact am | exact am.1 | exact am.2 | omega | (have ay := hg; simp at ay; omega))) <| g_val r3 (gy_t rfl) (fun hg => q_look (kenc := I) (venc := B) (f := ac) (k := (2 * (s2 : Int))) (v := B ((ac (2 * (s2 : Int))).getD false)) keyIntB Try.underlying178 Al4 (by exact (gd_of hg (.map (some ae)))) (by exact (gd_of hg (I (2 * (s2 : Int))))) (H.get (k := 4) rfl) false (by rw [if_neg (by decide), bool_val])) <| s_val (x_pand (b := r3) (r := (ac (2 * (s2 : Int))).getD false) rfl (fun hb => gd_of (c := r3) (by first | exact hb | (rw [hb]; rfl) | simp_all) (B ((ac (2 * (s2 : Int))).getD false))) rfl) <| sM (B (r3 && ((ac (2 * (s2 : Int))).getD false))) rfl <| g_val (r3 && ((ac (2 * (s2 : Int))).getD false)) (gy_t rfl) (fun hg => x_mv (v := Pz aa) rfl) <| g_val (r3 && ((ac (2 * (s2 : Int))).getD false)) (gy_t rfl) (fun hg => x_nc (a := ⟨aa, 0, none⟩) (gd_of hg (Pz aa))) <| g_val (r3 && ((ac (2 * (s2 : Int))).getD false)) (gy_t rfl) (fun hg => x_fa (v := Oz aa 4) (gd_of hg (Pz aa)) (fa_blk (o := 0) Fd180_4 Sz178)) <| g_val (r3 && ((ac (2 * (s2 : Int))).getD false)) (gy_t rfl) (fun hg => x_ld (v := .map (some ae)) (gd_of hg (Oz aa 4)) (ldb_sc Sc178 (H.blk (k := 1) rfl) rfl)) <| g_val (r3 && ((ac (2 * (s2 : Int))).getD false)) (gy_t rfl) (fun hg => x_mv (v := I (s2 : Int)) rfl) ?_
  obtain ⟨az, hM⟩ := M.e_grd hM
  replace az := M.imp_of az
  simp only [Bool.and_eq_true, decide_eq_true_eq] at az
  refine g_val (r3 && ((ac (2 * (s2 : Int))).getD false)) (gy_t rfl) (fun hg => x_ari (r := 2 * (s2 : Int)) rfl (gd_of hg (I (s2 : Int))) rfl (by have am := az.resolve_left (by rw [hg]; decide); first | exact am | exact am.1 | exact am.2 | omega | (have ay := hg; simp at ay; omega))) ?_
  obtain ⟨aE, hM⟩ := M.e_grd hM
  replace aE := M.imp_of aE
  simp only [Bool.and_eq_true, decide_eq_true_eq] at aE
  refine g_val (r3 && ((ac (2 * (s2 : Int))).getD false)) (gy_t rfl) (fun hg => x_ari (r := (2 * (s2 : Int)) + 1) (gd_of hg (I (2 * (s2 : Int)))) rfl rfl (by have am := az.resolve_left (by rw [hg]; decide); have aM := aE.resolve_left (by rw [hg]; decide); first | exact am | exact am.1 | exact am.2 | exact aM | exact aM.1 | exact aM.2 | omega | (have ay := hg; simp at ay; omega))) <| g_val (r3 && ((ac (2 * (s2 : Int))).getD false)) (gy_t rfl) (fun hg => q_look (kenc := I) (venc := B) (f := ac) (k := ((2 * (s2 : Int)) + 1 : Int)) (v := B ((ac ((2 * (s2 : Int)) + 1 : Int)).getD false)) keyIntB Try.underlying178 Al4 (by exact (gd_of hg (.map (some ae)))) (by exact (gd_of hg (I ((2 * (s2 : Int)) + 1)))) (H.get (k := 4) rfl) false (by rw [if_neg (by decide), bool_val])) <| g_val (r3 && ((ac (2 * (s2 : Int))).getD false)) (gy_t rfl) (fun hg => x_not (b := (ac ((2 * (s2 : Int)) + 1 : Int)).getD false) (gd_of hg (B ((ac ((2 * (s2 : Int)) + 1 : Int)).getD false)))) <| s_val (x_pand (b := (r3 && ((ac (2 * (s2 : Int))).getD false))) (r := !((ac ((2 * (s2 : Int)) + 1 : Int)).getD false)) rfl (fun hb => gd_of (c := (r3 && ((ac (2 * (s2 : Int))).getD false))) (by first | exact hb | (rw [hb]; rfl) | simp_all) (B (!((ac ((2 * (s2 : Int)) + 1 : Int)).getD false)))) rfl) <| s_nil ?_
  refine W.cond ((r3 && ((ac (2 * (s2 : Int))).getD false)) && (!((ac ((2 * (s2 : Int)) + 1 : Int)).getD false))) rfl (fun aN => ?_) (fun aN => ?_)
  ·replace hM := M.e_t hM aN
   refine W.region rfl <| sM ao rfl <| sM (I (s2 : Int)) rfl ?_
   refine t_bs (α := Int) T34 [I (s2 : Int)] [(s2 : Int)] H rfl (.cons rfl (Flat.rep_enc _ (s2 : Int)) <| .nil) rfl rfl rfl ?_
   intro a5 bI H
   obtain ⟨bJ, hM⟩ := M.e_gd hM
   refine t_app (α := Int) (k := 1) (l := l) (l2 := [(s2 : Int)]) (l' := l ++ ([(s2 : Int)])) (vy := a5) T34 rfl H rfl rfl rfl (ownSl (H.get (k := 0) rfl)) (ownLe _ (H.get (k := 0) rfl)) (rfl) (by first | omega | (simp only [List.length_nil] at *; omega)) ?_
   intro aO bq H
   replace H : St w bq [cOwn (α := Int) 3 a5 ([(s2 : Int)]), cOwn (α := Int) 3 aO (l ++ ([(s2 : Int)])), cBlk aa [Pz ak, ah, I ai, .map (some ag), .map (some ae)] 180, cRo al, cMap encG I ag mp, cMap I B ae ac] R := H
   refine sA aO rfl <| s_nil <| W.region rfl <| sR _ _ ((s2 : Int) + 1) rfl rfl rfl (by omega) <| sM (I ((s2 : Int) + 1)) rfl <| s_nil ?_
   exact ⟨aY, aZ, s2 + 1, l ++ ([(s2 : Int)]), aO, _, upds_of _ _ ⟨rfl, rfl, rfl, rfl, trivial⟩, M.e_inl hM aL, (H.pick [1, 2, 3, 4, 5] (by decide) rfl)⟩
  replace hM := M.e_f hM aN
  refine W.skip <| W.region rfl <| sR _ _ ((s2 : Int) + 1) rfl rfl rfl (by omega) <| sM (I ((s2 : Int) + 1)) rfl <| s_nil ?_
  exact ⟨aY, aZ, s2 + 1, l, ao, _, upds_of _ _ ⟨rfl, rfl, rfl, rfl, trivial⟩, M.e_inl hM aL, H⟩
 replace hM := M.e_f hM ax
 simp only [qz1, qz2, qz3, qz4, qz5, qz6, ne_eq, qz7] at ax
 refine W.exit ?_
 have br := M.e_inr hM aL
 subst br
 replace hM := bm
 try dsimp only at hM
 refine sQ rfl <| sM ao rfl <| sA ao rfl <| sA (I 0) rfl <| s_nil ?_
 refine W.ret ?_
 have aI := M.e_pure hM
 exact ⟨_, resE_tmp2 rfl, ⟨l, 0, ao, aI, rfl, (H.pick [0] (by decide) rfl)⟩⟩

def zaZ (i : Int) (k : Int) (ac : List Work) (ae : List Int) (ag : Int) (aa : Gate -> Option Int) (ah : Int -> Option Bool) : M Bool :=
  M.grd (decide ((-9223372036854775808 : Int) <= (2 * k)) && decide ((2 * k) <= (9223372036854775807 : Int))) <|
  M.grd (decide ((-9223372036854775808 : Int) <= (2 * i)) && decide ((2 * i) <= (9223372036854775807 : Int))) <|
  M.grd (decide ((-9223372036854775808 : Int) <= ((2 * i) + 1)) && decide (((2 * i) + 1) <= (9223372036854775807 : Int))) <|
  M.pure (decide (0 < ((aa (⟨(2 * k : Int), ((2 * i) + 1 : Int)⟩ : Gate)).getD 0)))
theorem zcV {R : List Chunk} {ag : Nat} {ac : Nat} {ah : Nat} {ai : Cells} {aj : Value} {ak : Cells} {al : Value} {ae : Nat} {am : Nat} (i : Int) (k : Int) (ao : List Work) (ap : List Int) (aq : Int) (aa : Gate -> Option Int) (au : Int -> Option Bool) (az : Reads R ai) (aA : Sl ai aj ao) (aB : Has R (cBlk ah [aj] 187)) (aC : Reads R ak) (aD : Sl ak al ap) (av : Has R (cMap encG I ae aa)) (aE : Has R (cMap I B am au)) (aw : Has R (cBlk ac [Pz ah, al, I aq, .map (some ae), .map (some am)] 180)) (ax : Has R (cBlk ag [Pz ac] 174)) {r : Bool} (hM : (zaZ i k ao ap aq aa au).Ends r) (w : World) (H : St w w [] R) : Ret Try.prog 128 #[I i, I k, Pz ag] w fun v w' => ∃ (y0 : Bool), y0 = r /\ v = B y0 /\ St w w' [] R := by
 refine ret_of_W Try.func128 rfl rfl rfl ?_
 refine sQ rfl <| sA (B false) rfl <| s_nil <| sQ rfl <| s_val (x_ld (v := Pz ac) rfl (ldb_sc Sc174 (ax.blk H) rfl)) <| s_val (x_nc (a := ⟨ac, 0, none⟩) rfl) <| s_val (x_fa (v := Oz ac 3) rfl (fa_blk (o := 0) Fd180_3 Sz177)) <| s_val (x_ld (v := .map (some ae)) rfl (ldb_sc Sc177 (aw.blk H) rfl)) <| sM (I k) rfl ?_
 obtain ⟨aF, hM⟩ := M.e_gd hM
 refine sR _ _ (2 * k) rfl rfl rfl (by omega) <| sM (I i) rfl ?_
 obtain ⟨aG, hM⟩ := M.e_gd hM
 refine sR _ _ (2 * i) rfl rfl rfl (by omega) ?_
 obtain ⟨aH, hM⟩ := M.e_gd hM
 refine sR _ _ ((2 * i) + 1) rfl rfl rfl (by omega) <| s_val (x_bld (ps := [(0, I (2 * k)), (1, I ((2 * i) + 1))]) (zs := [I 0, I 0]) (L' := [I (2 * k), I ((2 * i) + 1)]) rfl Try.underlying182 Al182 rfl (Bd182 Try.underlying182) (.cons (cs := [I (2 * k)]) rfl rfl rfl rfl rfl <| .cons (cs := [I ((2 * i) + 1)]) rfl rfl rfl rfl rfl <| .nil)) <| s_val (q_look (kenc := encG) (venc := I) (f := aa) (k := (⟨(2 * k : Int), ((2 * i) + 1 : Int)⟩ : Gate)) (v := I ((aa (⟨(2 * k : Int), ((2 * i) + 1 : Int)⟩ : Gate)).getD 0)) keyGate Try.underlying177 Al3 rfl rfl (av.at H) false (by rw [if_neg (by decide), int_val])) <| sC _ _ (decide (0 < ((aa (⟨(2 * k : Int), ((2 * i) + 1 : Int)⟩ : Gate)).getD 0))) rfl rfl rfl <| sA (B (decide (0 < ((aa (⟨(2 * k : Int), ((2 * i) + 1 : Int)⟩ : Gate)).getD 0)))) rfl <| s_nil ?_
 refine W.ret ?_
 have ay := M.e_pure hM
 exact ⟨_, resE_tmp rfl, ⟨(decide (0 < ((aa (⟨(2 * k : Int), ((2 * i) + 1 : Int)⟩ : Gate)).getD 0))), ay, rfl, H⟩⟩

def zbO (k : Int) (aa : List Work) (ac : List Int) (ae : Int) (ag : Gate -> Option Int) (ah : Int -> Option Bool) (ai : Int) : M Bool :=
  M.bind (zaZ ai k aa ac ae ag ah) fun r2 =>
  M.pure r2
theorem zc1 {R : List Chunk} {ak : Nat} {ac : Nat} {al : Nat} {am : Nat} {ao : Cells} {ap : Value} {aq : Cells} {au : Value} {av : Nat} {aw : Nat} {ax : Nat} (k : Int) (ae : List Work) (ag : List Int) (ah : Int) (ai : Gate -> Option Int) (aj : Int -> Option Bool) (aa : Int) (az : Reads R ao) (aA : Sl ao ap ae) (aB : Has R (cBlk am [ap] 187)) (aC : Reads R aq) (aD : Sl aq au ag) (aE : Has R (cMap encG I av ai)) (aF : Has R (cMap I B aw aj)) (aG : Has R (cBlk al [Pz am, au, I ah, .map (some av), .map (some aw)] 180)) (aH : Has R (cBlk ac [Pz al] 174)) (aI : Has R (cBlk ak [.func (.func 128) #[] #[Pz ac]] 183)) (aJ : Has R (cBlk ax [I aa] 3)) {r : Bool} (hM : (zbO k ae ag ah ai aj aa).Ends r) (w : World) (H : St w w [] R) : Ret Try.prog 129 #[I k, Pz ak, Pz ax] w fun v w' => ∃ (y0 : Bool), y0 = r /\ v = B y0 /\ St w w' [] R := by
 refine ret_of_W Try.func129 rfl rfl rfl ?_
 refine sQ rfl <| sA (B false) rfl <| s_nil <| sQ rfl <| s_val (x_ld (v := .func (.func 128) #[] #[Pz ac]) rfl (ldb_sc Sc183 (aI.blk H) rfl)) <| s_val (x_ld (v := I aa) rfl (ldb_sc Sc3 (aJ.blk H) rfl)) <| sM (I k) rfl ?_
 obtain ⟨aO, aK, hM⟩ := M.e_bind hM
 refine s_callv (f := 128) rfl cf128 [I aa, I k] rfl (zcV aa k ae ag ah ai aj (az.app _) aA (aB.app _) (aC.app _) aD (aE.app _) (aF.app _) (aG.app _) (aH.app _) aK _ (St.give (T := []) H rfl)) ?_
 rintro vq aL ⟨r2, aM, hvq, ay⟩
 subst aM
 subst vq
 try dsimp only at hM
 replace H : St w aL [] R := H.back ay rfl
 clear ay
 refine sA (B r2) rfl <| s_nil ?_
 refine W.ret ?_
 have aN := M.e_pure hM
 exact ⟨_, resE_tmp rfl, ⟨r2, aN, rfl, H⟩⟩

end Go.Proofs.Ytndobgodeicloaa
end
