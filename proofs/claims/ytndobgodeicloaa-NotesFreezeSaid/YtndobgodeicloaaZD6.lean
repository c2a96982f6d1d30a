/- Part 6 of the texts on which the proof rests. Conditions: none. -/
import Derived.Test.YtndobgodeicloaaZD5
set_option linter.unusedVariables false
set_option linter.unusedSimpArgs false
set_option linter.unusedSectionVars false
section
set_option maxRecDepth 100000
set_option maxHeartbeats 16000000
namespace Go.Proofs.Ytndobgodeicloaa
open Go Go.Nm
def zbP (l : List Int) : M (List Int) :=
  M.grd (decide ((([] : List Int).length + l.length) * 8 <= 140737488355328)) <|
  M.pure l
theorem zcZ {R : List Chunk} {ae : Cells} {aa : Value} (l : List Int) (ag : Reads R ae) (ah : Sl ae aa l) {r : (List Int)} (hM : (zbP l).Ends r) (w : World) (H : St w w [] R) : Ret Try.prog 31 #[aa] w fun v w' => ∃ (y0 : List Int) (u0 : Value), y0 = r /\ v = u0 /\ St w w' [cOwn (α := Int) 3 u0 y0] R := by
 refine ret_of_W Try.func31 rfl rfl rfl ?_
 refine sQ rfl <| sA (.slice none 0 0) rfl <| s_nil <| sQ rfl <| sA (.slice none 0 0) rfl <| s_nil <| sQ rfl <| sM (.slice none 0 0) rfl <| sM aa rfl ?_
 replace H : St w w [cOwn (α := Int) 3 (.slice none 0 0) ([])] R := H.nilOwn (α := Int) 3
 obtain ⟨ak, hM⟩ := M.e_gd hM
 refine t_app (α := Int) (k := 0) (l := []) (l2 := l) (l' := l) (vy := aa) T34 rfl H rfl rfl rfl ah (ag.at H) (List.nil_append _) (by first | omega | (simp only [List.length_nil] at *; omega)) ?_
 intro ac ai H
 replace H : St w ai [cOwn (α := Int) 3 ac l] R := H
 refine sA ac rfl <| s_nil ?_
 refine W.ret ?_
 have aj := M.e_pure hM
 exact ⟨_, resE_tmp rfl, ⟨l, ac, aj, rfl, H⟩⟩

def zaQ (l : List (List Int)) : (Nat × (List (List Int))) -> M ((Nat × (List (List Int))) ⊕ ((List (List Int)) × (List (List Int)))) := fun (i, l2) =>
  bif decide ((i : Int) < (l.length : Int)) then (
  M.grd (decide ((i : Int) < (l.length : Int))) <|
  M.bind (zbP (l.getD i ([]))) fun r2 =>
  M.grd (decide ((l2.length + ([r2]).length) * 24 <= 140737488355328)) <|
  M.pure (.inl (i + 1, l2 ++ ([r2]))))
  else (
  M.pure (.inr (l2, l2)))
def zbf (l : List (List Int)) : M (List (List Int)) :=
  M.bind (M.iter (zaQ l) (0, [])) fun (l3, l4) =>
  M.pure l4
theorem zcQ {R : List Chunk} {aA : Cells} {ag : Value} (l : List (List Int)) (aB : Reads R aA) (ak : Sl aA ag l) {r : (List (List Int))} (hM : (zbf l).Ends r) (w : World) (H : St w w [] R) : Ret Try.prog 58 #[ag] w fun v w' => ∃ (y0 : List (List Int)) (u0 : Value) (rr1 : List (Raw 0)) (aC : Base), y0 = r /\ v = u0 /\ St w w' [cOwn (α := Raw 0) 34 u0 rr1, cRo aC] R /\ RepR (α := List Int) aC.cells rr1 y0 := by
 refine ret_of_W Try.func58 rfl rfl rfl ?_
 refine sQ rfl <| sA (.slice none 0 0) rfl <| s_nil <| sQ rfl <| sA (.slice none 0 0) rfl <| s_nil <| W.seq <| sQ rfl <| sA (I 0) rfl ?_
 refine s_nil <| W.block ?_
 obtain ⟨ap, H⟩ := H.emptyE
 replace H : St w w [cOwn (α := Raw 0) 34 (.slice none 0 0) ([]), cRo ap] R := H.nilOwn (α := Raw 0) 34
 have aJ : RepR (α := List Int) (n := 0) ap.cells [] [] := .nil
 obtain ⟨aK, aq, aL⟩ := M.e_bind hM
 obtain ⟨a6, aq⟩ := M.e_iter aq
 refine W.loop (fun m σ W => ∃ (i : Nat) (l2 : List (List Int)) (ac : Value) (aa : List (Raw 0)) (B_l2 : Base) (ρ : Env), σ = upds ρ [(0, ag), (3, ac), (4, I (i : Int))] /\ M.iterN (zaQ l) m (i, l2) = some aK /\ St w W [cOwn (α := Raw 0) 34 ac aa, cRo B_l2] R /\ RepR (α := List Int) B_l2.cells aa l2) ?_ ?_
 ·exact ⟨_, 0, [], (.slice none 0 0), [], ap, _, upds_of _ _ ⟨rfl, rfl, rfl, trivial⟩, aq, H, aJ⟩
 rintro a7 σ a8 ⟨i, l2, ac, aa, B_l2, ρ, rfl, aD, H, ah⟩
 obtain ⟨aM, aN, a9, hM, aE⟩ := M.e_iterN aD
 simp only [zaQ] at hM
 clear aD
 refine W.seq <| sQ rfl <| sM (I (i : Int)) rfl <| sM ag rfl ?_
 have ba := (ak).len_le
 refine s_val (x_lenS T73.und rfl ak) <| sC _ _ (decide ((i : Int) < (l.length : Int))) rfl rfl rfl <| s_nil ?_
 refine W.cond (decide ((i : Int) < (l.length : Int))) rfl (fun ai => ?_) (fun ai => ?_)
 ·replace hM := M.e_t hM ai
  simp only [qz1, qz2, qz3, qz4, qz5, qz6, ne_eq, qz7] at ai
  refine W.skip <| W.seq <| W.block <| W.region rfl <| sM ac rfl <| sM ag rfl <| sM (I (i : Int)) rfl ?_
  obtain ⟨bb, hM⟩ := M.e_gd hM
  refine s_val (x_ix (v := vat ag 1 (Int.toNat (i : Int))) rfl rfl (Sl.ix (α := List Int) T73.und T73.size ak (by omega) (by omega))) ?_
  obtain ⟨au, aO, al⟩ := List_at ak (i := (i : Int)) (by omega) (by omega)
  replace al : Sl _ au (l.getD i ([])) := al
  have bc := al.len_le
  refine s_val (x_ld (v := au) rfl (ld_sc Sc34 (At.mono (aO) (aB.at H)))) ?_
  obtain ⟨bf, aP, hM⟩ := M.e_bind hM
  refine s_call cf31 [au] rfl (zcZ (l.getD i ([])) (aB.app _) al aP _ (St.give (T := [cOwn (α := Raw 0) 34 ac aa, cRo B_l2]) H rfl)) ?_
  rintro vq aF ⟨r2, am, aQ, hvq, aG⟩
  subst aQ
  subst vq
  try dsimp only at hM
  replace H : St w aF [cOwn (α := Int) 3 am r2, cOwn (α := Raw 0) 34 ac aa, cRo B_l2] R := H.back aG rfl
  clear aG
  obtain ⟨av, H⟩ := H.emptyE
  obtain ⟨aw, H, aR⟩ := H.freezeE (k := 1) rfl
  replace H : St w aF [cRo av, cRo aw, cOwn (α := Raw 0) 34 ac aa, cRo B_l2] R := H
  have aj := aR
  obtain ⟨ax, H, bg, aS⟩ := H.joinE (i := 0) (j := 1) rfl rfl
  replace aj := aj.mono aS
  obtain ⟨ae, aH⟩ : ∃ r : Raw 0, r.cs = [am] := ⟨Raw.of [am] rfl (by simp only [List.all_cons, List.all_nil, Bool.true_and, Bool.and_true, Sl.oc aj]; try rfl), rfl⟩
  have aT : RepR (α := List Int) ax.cells [ae] [r2] := .cons (by rw [aH]; exact ⟨_, rfl, aj⟩) <| .nil
  refine t_bs (α := Raw 0) T73 [am] [ae] H rfl (.cons (by rw [show (Flat.enc ae : List Value) = ae.cs from rfl, aH]; exact Sl.cells aj) (Flat.rep_enc _ _) <| .nil) rfl rfl rfl ?_
  intro ay aU H
  replace H : St w aU [cOwn (α := Raw 0) 34 ay ([ae]), cRo ax, cRo av, cRo aw, cOwn (α := Raw 0) 34 ac aa, cRo B_l2] R := H
  obtain ⟨bh, hM⟩ := M.e_gd hM
  have ao := aT
  obtain ⟨aI, H, aV, aW⟩ := H.joinE (i := 5) (j := 1) rfl rfl
  replace ah := ah.mono aV
  replace ao := ao.mono aW
  have aX := ah.app ao
  refine t_app (α := Raw 0) (k := 5) (l := aa) (l2 := [ae]) (l' := aa ++ ([ae])) (vy := ay) T73 rfl H rfl rfl rfl (ownSl (H.get (k := 1) rfl)) (ownLe _ (H.get (k := 1) rfl)) (rfl) (by have a_ := ah.len; have b_ := ao.len; (try simp only [List.length_nil] at *); first | omega | (rw [a_, b_]; omega)) ?_
  intro az aY H
  replace H : St w aY [cRo aI, cOwn (α := Raw 0) 34 ay ([ae]), cRo ax, cRo av, cRo aw, cOwn (α := Raw 0) 34 az (aa ++ ([ae])), cRo B_l2] R := H
  refine sA az rfl <| s_nil <| W.region rfl <| sM (I (i : Int)) rfl <| sR _ _ ((i : Int) + 1) rfl rfl rfl (by omega) <| sA (I ((i : Int) + 1)) rfl <| s_nil ?_
  exact ⟨aM, aN, i + 1, l2 ++ ([r2]), az, aa ++ ([ae]), aI, _, upds_of _ _ ⟨rfl, rfl, rfl, trivial⟩, M.e_inl hM aE, (H.pick [5, 0] (by decide) rfl), aX⟩
 replace hM := M.e_f hM ai
 simp only [qz1, qz2, qz3, qz4, qz5, qz6, ne_eq, qz7] at ai
 refine W.exit ?_
 have aZ := M.e_inr hM aE
 subst aZ
 replace hM := aL
 try dsimp only at hM
 refine sQ rfl <| sM ac rfl <| sA ac rfl <| s_nil ?_
 refine W.ret ?_
 have a5 := M.e_pure hM
 exact ⟨_, resE_tmp rfl, ⟨l2, ac, aa, B_l2, a5, rfl, H, ah⟩⟩

def zaF (w_ : List Work) (revised : List Int) (work : Int) : M Int :=
  M.bind (zbH w_ revised) fun (r0, r1) =>
  bif r1 != 0 then (
  M.pure r1)
  else (
  bif outB work 0 ((w_.length : Int) - 1) then (
  M.pure 2)
  else (
  bif revised.contains work then (
  M.pure 8)
  else (
  M.pure 0)))
theorem zb9 {R : List Chunk} {am : Cells} {ag : Value} {ao : Cells} {ae : Value} (w_ : List Work) (revised : List Int) (work : Int) (av : Reads R am) (aj : Sl am ag w_) (ap : Reads R ao) (aq : Sl ao ae revised) {r : Int} (hM : (zaF w_ revised work).Ends r) (w : World) (H : St w w [] R) : Ret Try.prog 120 #[ag, ae, I work] w fun v w' => ∃ (y0 : Int), y0 = r /\ v = I y0 /\ St w w' [] R := by
 refine ret_of_W Try.func120 rfl rfl rfl ?_
 refine sQ rfl <| sA (I 0) rfl <| s_nil <| W.seq <| sQ rfl <| sM ag rfl <| sM ae rfl ?_
 obtain ⟨aB, aw, hM⟩ := M.e_bind hM
 refine s_call cf33 [ag, ae] rfl (zcX w_ revised (av.app _) aj (ap.app _) aq aw _ (St.give (T := []) H rfl)) ?_
 rintro vq ax ⟨r0, r1, aa, ay, hvq, au⟩
 subst ay
 subst vq
 try dsimp only at hM
 replace H : St w ax [cOwn (α := Int) 3 aa r0] R := H.back au rfl
 clear au
 refine sM (.tuple #[aa, I r1]) rfl <| sX [aa, I r1] aa rfl rfl <| sX [aa, I r1] (I r1) rfl rfl <| sA aa rfl <| sA (I r1) rfl <| s_nil <| sQ rfl <| sM (I r1) rfl <| sC _ _ (r1 != 0) rfl rfl rfl <| s_nil ?_
 refine W.cond (r1 != 0) rfl (fun ah => ?_) (fun ah => ?_)
 ·replace hM := M.e_t hM ah
  simp only [qz1, qz2, qz3, qz4, qz5, qz6, ne_eq, qz7] at ah
  refine sQ rfl <| sM (I r1) rfl <| sA (I r1) rfl <| s_nil ?_
  refine W.ret ?_
  have ac := M.e_pure hM
  exact ⟨_, resE_tmp rfl, ⟨r1, ac, rfl, (H.pick [] (by decide) rfl)⟩⟩
 replace hM := M.e_f hM ah
 simp only [qz1, qz2, qz3, qz4, qz5, qz6, ne_eq, qz7] at ah
 refine W.skip <| W.seq <| sQ rfl <| sM (I work) rfl <| sM ag rfl ?_
 have aC := (aj).len_le
 refine s_val (x_lenS T39.und rfl aj) <| sR _ _ ((w_.length : Int) - 1) rfl rfl rfl (by omega) ?_
 refine s_call cf89 [I work, I 0, I ((w_.length : Int) - 1)] rfl (outside_any work 0 ((w_.length : Int) - 1) _) ?_
 rintro _ az ⟨rfl, ai⟩
 replace H : St w az [cOwn (α := Int) 3 aa r0] R := H.ext ai
 clear ai
 refine s_nil ?_
 refine W.cond (outB work 0 ((w_.length : Int) - 1)) rfl (fun ak => ?_) (fun ak => ?_)
 ·replace hM := M.e_t hM ak
  refine sQ rfl <| sA (I 2) rfl <| s_nil ?_
  refine W.ret ?_
  have ac := M.e_pure hM
  exact ⟨_, resE_tmp rfl, ⟨2, ac, rfl, (H.pick [] (by decide) rfl)⟩⟩
 replace hM := M.e_f hM ak
 refine W.skip <| W.seq <| sQ rfl <| sM ae rfl <| sM (I work) rfl ?_
 refine s_call cf95 [ae, I work] rfl (has_any work _ (aq.mono (ap.at H))) ?_
 rintro _ aA ⟨rfl, ai⟩
 replace H : St w aA [cOwn (α := Int) 3 aa r0] R := H.ext ai
 clear ai
 refine s_nil ?_
 refine W.cond (revised.contains work) rfl (fun al => ?_) (fun al => ?_)
 ·replace hM := M.e_t hM al
  refine sQ rfl <| sA (I 8) rfl <| s_nil ?_
  refine W.ret ?_
  have ac := M.e_pure hM
  exact ⟨_, resE_tmp rfl, ⟨8, ac, rfl, (H.pick [] (by decide) rfl)⟩⟩
 replace hM := M.e_f hM al
 refine W.skip <| sQ rfl <| sA (I 0) rfl <| s_nil ?_
 refine W.ret ?_
 have ac := M.e_pure hM
 exact ⟨_, resE_tmp rfl, ⟨0, ac, rfl, (H.pick [] (by decide) rfl)⟩⟩

def zbb (revised : List Int) : ((List Bool) × Nat) -> M (((List Bool) × Nat) ⊕ ((List Bool) × (List Bool))) := fun (l, k) =>
  bif decide ((k : Int) < (revised.length : Int)) then (
  M.grd (decide ((k : Int) < (revised.length : Int))) <|
  M.grd (decide ((0 : Int) <= (revised.getD k 0)) && decide ((revised.getD k 0) < (l.length : Int))) <|
  M.pure (.inl (l.set (Int.toNat (revised.getD k 0)) true, k + 1)))
  else (
  M.pure (.inr (l, l)))
def zbq (w_ : List Work) (frozen : List Int) (i : Nat) : ((List Bool) × Bool × Nat) -> M (((List Bool) × Bool × Nat) ⊕ ((List Bool) × Bool × (List Bool))) := fun (l4, changed, k2) =>
  M.grd (decide ((i : Int) < (w_.length : Int))) <|
  bif decide ((k2 : Int) < (((w_.getD i default).of).length : Int)) then (
  M.grd (decide ((k2 : Int) < (((w_.getD i default).of).length : Int))) <|
  M.grd (decide ((0 : Int) <= (((w_.getD i default).of).getD k2 0)) && decide ((((w_.getD i default).of).getD k2 0) < (l4.length : Int))) <|
  M.grd ((!(l4.getD (Int.toNat (((w_.getD i default).of).getD k2 0)) false) || (decide ((i : Int) < (l4.length : Int))))) <|
  bif (((l4.getD (Int.toNat (((w_.getD i default).of).getD k2 0)) false) && (!(l4.getD i false))) && (!(frozen.contains (i : Int)))) then (
  M.grd (decide ((i : Int) < (l4.length : Int))) <|
  M.pure (.inl (l4.set i true, true, k2 + 1)))
  else (
  M.pure (.inl (l4, changed, k2 + 1))))
  else (
  M.pure (.inr (l4, changed, l4)))
def za9 (w_ : List Work) (frozen : List Int) : ((List Bool) × Bool × Nat) -> M (((List Bool) × Bool × Nat) ⊕ ((List Bool) × Bool × (List Bool))) := fun (l7, changed3, i) =>
  bif decide ((i : Int) < (w_.length : Int)) then (
  M.bind (M.iter (zbq w_ frozen i) (l7, changed3, 0)) fun (l5, changed2, l6) =>
  M.pure (.inl (l6, changed2, i + 1)))
  else (
  M.pure (.inr (l7, changed3, l7)))
def zbJ (w_ : List Work) (frozen : List Int) : ((List Bool) × Bool) -> M (((List Bool) × Bool) ⊕ ((List Bool) × (List Bool))) := fun (aa, changed5) =>
  bif changed5 then (
  M.bind (M.iter (za9 w_ frozen) (aa, false, 0)) fun (l8, changed4, l9) =>
  M.pure (.inl (l9, changed4)))
  else (
  M.pure (.inr (aa, aa)))
def zaz (w_ : List Work) (revised : List Int) (work : Int) (frozen : List Int) : M Bool :=
  M.grd (decide ((0 : Int) <= (w_.length : Int)) && decide ((1 : Int) * (w_.length : Int) <= 281474976710656) && decide ((w_.length : Int) <= (9223372036854775807 : Int))) <|
  M.bind (M.iter (zbb revised) (List.replicate (w_.length) false, 0)) fun (l2, l3) =>
  M.bind (M.iter (zbJ w_ frozen) (l3, true)) fun (ac, aa) =>
  M.grd (decide ((0 : Int) <= work) && decide (work < (aa.length : Int))) <|
  M.pure (!(aa.getD (Int.toNat work) false))
theorem zcP {R : List Chunk} {aK : Cells} {ae : Value} {aL : Cells} {am : Value} {aM : Cells} {ah : Value} (w_ : List Work) (revised : List Int) (work : Int) (frozen : List Int) (az : Reads R aK) (ag : Sl aK ae w_) (aX : Reads R aL) (ay : Sl aL am revised) (aY : Reads R aM) (aZ : Sl aM ah frozen) {r : Bool} (hM : (zaz w_ revised work frozen).Ends r) (w : World) (H : St w w [] R) : Ret Try.prog 121 #[ae, am, I work, ah] w fun v w' => ∃ (y0 : Bool), y0 = r /\ v = B y0 /\ St w w' [] R := by
 refine ret_of_W Try.func121 rfl rfl rfl ?_
 refine sQ rfl <| sA (B false) rfl <| s_nil <| sQ rfl <| sM ae rfl ?_
 have bv := (ag).len_le
 refine s_val (x_lenS T39.und rfl ag) ?_
 obtain ⟨bw, hM⟩ := M.e_gd hM
 refine t_mk (α := Bool) T147 false rfl (n := (w_.length : Int)) H rfl rfl (by omega) (by omega) (by omega) ?_
 intro aA a5 H
 replace H : St w a5 [cOwn (α := Bool) 4 aA (List.replicate (w_.length) false)] R := H
 refine sA aA rfl <| s_nil <| W.seq <| sQ rfl <| sA (I 0) rfl <| s_nil <| W.block ?_
 obtain ⟨a6, aB, a7⟩ := M.e_bind hM
 obtain ⟨aC, aB⟩ := M.e_iter aB
 refine W.loop (fun m σ W => ∃ (l : List Bool) (k : Nat) (aj : Value) (ρ : Env), σ = upds ρ [(0, ae), (1, am), (2, I work), (3, ah), (9, aj), (10, I (k : Int))] /\ M.iterN (zbb revised) m (l, k) = some a6 /\ St w W [cOwn (α := Bool) 4 aj l] R) ?_ ?_
 ·exact ⟨_, List.replicate (w_.length) false, 0, aA, _, upds_of _ _ ⟨rfl, rfl, rfl, rfl, rfl, rfl, trivial⟩, aB, H⟩
 rintro bx σ bz ⟨l, k, aj, ρ, rfl, aN, H⟩
 obtain ⟨a8, a9, bA, hM, aO⟩ := M.e_iterN aN
 simp only [zbb] at hM
 clear aN
 refine W.seq <| sQ rfl <| sM (I (k : Int)) rfl <| sM am rfl ?_
 have bB := (ay).len_le
 refine s_val (x_lenS T34.und rfl ay) <| sC _ _ (decide ((k : Int) < (revised.length : Int))) rfl rfl rfl <| s_nil ?_
 refine W.cond (decide ((k : Int) < (revised.length : Int))) rfl (fun ap => ?_) (fun ap => ?_)
 ·replace hM := M.e_t hM ap
  simp only [qz1, qz2, qz3, qz4, qz5, qz6, ne_eq, qz7] at ap
  refine W.skip <| W.seq <| W.block <| W.region rfl <| sM aj rfl <| sM am rfl <| sM (I (k : Int)) rfl ?_
  obtain ⟨bC, hM⟩ := M.e_gd hM
  refine s_val (x_ix (v := vat am 1 (Int.toNat (k : Int))) rfl rfl (Sl.ix (α := Int) T34.und T34.size ay (by omega) (by omega))) <| s_val (x_ld (v := I (revised.getD k 0)) rfl (ld_sc Sc3 (At.mono (Int_at ay (i := (k : Int)) (by omega) (by omega)) (aX.at H)))) ?_
  obtain ⟨bD, hM⟩ := M.e_gd hM
  refine s_val (x_ix (v := vat aj 1 (Int.toNat (revised.getD k 0))) rfl rfl (Sl.ix (α := Bool) T147.und T147.size (ownSl (H.get (k := 0) rfl)) (by omega) (by omega))) ?_
  refine t_ost (k := 0) (i := revised.getD k 0) (l := l) (l' := l.set (Int.toNat (revised.getD k 0)) true) (val := B true) (L' := [cOwn (α := Bool) 4 aj (l.set (Int.toNat (revised.getD k 0)) true)]) H rfl Sz4 (by omega) (by omega) true rfl rfl rfl rfl rfl ?_
  intro bE H
  refine s_nil <| W.region rfl <| sM (I (k : Int)) rfl <| sR _ _ ((k : Int) + 1) rfl rfl rfl (by omega) <| sA (I ((k : Int) + 1)) rfl <| s_nil ?_
  exact ⟨a8, a9, l.set (Int.toNat (revised.getD k 0)) true, k + 1, aj, _, upds_of _ _ ⟨rfl, rfl, rfl, rfl, rfl, rfl, trivial⟩, M.e_inl hM aO, H⟩
 replace hM := M.e_f hM ap
 simp only [qz1, qz2, qz3, qz4, qz5, qz6, ne_eq, qz7] at ap
 refine W.exit ?_
 have ba := M.e_inr hM aO
 subst ba
 replace hM := a7
 try dsimp only at hM
 refine W.seq <| sQ rfl <| sA (B true) rfl <| s_nil <| W.block ?_
 obtain ⟨bb, aD, bc⟩ := M.e_bind hM
 obtain ⟨aC, aD⟩ := M.e_iter aD
 refine W.loop (fun m σ W => ∃ (ak : List Bool) (changed5 : Bool) (ao : Value) (ρ : Env), σ = upds ρ [(0, ae), (2, I work), (3, ah), (9, ao), (11, B changed5)] /\ M.iterN (zbJ w_ frozen) m (ak, changed5) = some bb /\ St w W [cOwn (α := Bool) 4 ao ak] R) ?_ ?_
 ·exact ⟨_, l, true, aj, _, upds_of _ _ ⟨rfl, rfl, rfl, rfl, rfl, trivial⟩, aD, H⟩
 rintro bF σ bG ⟨ak, changed5, ao, ρ, rfl, aP, H⟩
 obtain ⟨bf, bg, bH, hM, aQ⟩ := M.e_iterN aP
 simp only [zbJ] at hM
 clear aP
 refine W.seq <| sQ rfl <| sM (B changed5) rfl <| s_nil ?_
 refine W.cond changed5 rfl (fun aE => ?_) (fun aE => ?_)
 ·replace hM := M.e_t hM aE
  refine W.skip <| W.block <| sQ rfl <| sA (B false) rfl <| s_nil <| sQ rfl <| sA (I 0) rfl <| s_nil <| W.block ?_
  obtain ⟨bh, aF, bi⟩ := M.e_bind hM
  obtain ⟨aC, aF⟩ := M.e_iter aF
  refine W.loop (fun m σ W => ∃ (l7 : List Bool) (changed3 : Bool) (i : Nat) (aq : Value) (ρ : Env), σ = upds ρ [(0, ae), (2, I work), (3, ah), (9, aq), (11, B changed3), (12, I (i : Int))] /\ M.iterN (za9 w_ frozen) m (l7, changed3, i) = some bh /\ St w W [cOwn (α := Bool) 4 aq l7] R) ?_ ?_
  ·exact ⟨_, ak, false, 0, ao, _, upds_of _ _ ⟨rfl, rfl, rfl, rfl, rfl, rfl, trivial⟩, aF, H⟩
  rintro bI σ bJ ⟨l7, changed3, i, aq, ρ, rfl, aR, H⟩
  obtain ⟨bj, bk, bK, hM, aS⟩ := M.e_iterN aR
  simp only [za9] at hM
  clear aR
  refine W.seq <| sQ rfl <| sM (I (i : Int)) rfl <| sM ae rfl ?_
  have bL := (ag).len_le
  refine s_val (x_lenS T39.und rfl ag) <| sC _ _ (decide ((i : Int) < (w_.length : Int))) rfl rfl rfl <| s_nil ?_
  refine W.cond (decide ((i : Int) < (w_.length : Int))) rfl (fun au => ?_) (fun au => ?_)
  ·replace hM := M.e_t hM au
   simp only [qz1, qz2, qz3, qz4, qz5, qz6, ne_eq, qz7] at au
   refine W.skip <| W.seq <| W.block <| sQ rfl <| sA (I 0) rfl <| s_nil <| W.block ?_
   obtain ⟨bl, aG, bm⟩ := M.e_bind hM
   obtain ⟨aC, aG⟩ := M.e_iter aG
   refine W.loop (fun m σ W => ∃ (l4 : List Bool) (changed : Bool) (k2 : Nat) (aa : Value) (ρ : Env), σ = upds ρ [(0, ae), (2, I work), (3, ah), (9, aa), (11, B changed), (12, I (i : Int)), (13, I (k2 : Int))] /\ M.iterN (zbq w_ frozen i) m (l4, changed, k2) = some bl /\ St w W [cOwn (α := Bool) 4 aa l4] R) ?_ ?_
   ·exact ⟨_, l7, changed3, 0, aq, _, upds_of _ _ ⟨rfl, rfl, rfl, rfl, rfl, rfl, rfl, trivial⟩, aG, H⟩
   rintro bM σ bN ⟨l4, changed, k2, aa, ρ, rfl, aT, H⟩
   obtain ⟨aU, aV, bO, hM, aH⟩ := M.e_iterN aT
   simp only [zbq] at hM
   clear aT
   refine W.seq <| sQ rfl <| sM (I (k2 : Int)) rfl <| sM ae rfl <| sM (I (i : Int)) rfl ?_
   obtain ⟨bP, hM⟩ := M.e_gd hM
   refine s_val (x_ix (v := vat ae 3 (Int.toNat (i : Int))) rfl rfl (Sl.ix (α := Work) T39.und T39.size ag (by omega) (by omega))) <| s_val (x_fa (v := fat (vat ae 3 (Int.toNat (i : Int))) 0) rfl (fa_pl Fd138_0 Sz34 (Sl.pl (i := (i : Int)) ag (by omega) (by omega)))) ?_
   obtain ⟨aW, bn, av⟩ := Work_at0 ag (i := (i : Int)) (by omega) (by omega)
   replace av : Sl _ aW (w_.getD i default).of := av
   have bQ := av.len_le
   refine s_val (x_ld (v := aW) rfl (ld_sc Sc34 (At.mono (bn) (az.at H)))) ?_
   have bR := (av).len_le
   refine s_val (x_lenS T34.und rfl av) <| sC _ _ (decide ((k2 : Int) < (((w_.getD i default).of).length : Int))) rfl rfl rfl <| s_nil ?_
   refine W.cond (decide ((k2 : Int) < (((w_.getD i default).of).length : Int))) rfl (fun aw => ?_) (fun aw => ?_)
   ·replace hM := M.e_t hM aw
    simp only [qz1, qz2, qz3, qz4, qz5, qz6, ne_eq, qz7] at aw
    refine W.skip <| W.seq <| W.block <| sQ rfl <| sM aa rfl <| sM ae rfl <| sM (I (i : Int)) rfl <| s_val (x_ix (v := vat ae 3 (Int.toNat (i : Int))) rfl rfl (Sl.ix (α := Work) T39.und T39.size ag (by omega) (by omega))) <| s_val (x_fa (v := fat (vat ae 3 (Int.toNat (i : Int))) 0) rfl (fa_pl Fd138_0 Sz34 (Sl.pl (i := (i : Int)) ag (by omega) (by omega)))) ?_
    obtain ⟨aI, bo, ax⟩ := Work_at0 ag (i := (i : Int)) (by omega) (by omega)
    replace ax : Sl _ aI (w_.getD i default).of := ax
    have bS := ax.len_le
    refine s_val (x_ld (v := aI) rfl (ld_sc Sc34 (At.mono (bo) (az.at H)))) <| sM (I (k2 : Int)) rfl ?_
    obtain ⟨bT, hM⟩ := M.e_gd hM
    refine s_val (x_ix (v := vat aI 1 (Int.toNat (k2 : Int))) rfl rfl (Sl.ix (α := Int) T34.und T34.size ax (by omega) (by omega))) <| s_val (x_ld (v := I (((w_.getD i default).of).getD k2 0)) rfl (ld_sc Sc3 (At.mono (Int_at ax (i := (k2 : Int)) (by omega) (by omega)) (az.at H)))) ?_
    obtain ⟨bU, hM⟩ := M.e_gd hM
    refine s_val (x_ix (v := vat aa 1 (Int.toNat (((w_.getD i default).of).getD k2 0))) rfl rfl (Sl.ix (α := Bool) T147.und T147.size (ownSl (H.get (k := 0) rfl)) (by omega) (by omega))) <| s_val (x_ld (v := B (l4.getD (Int.toNat (((w_.getD i default).of).getD k2 0)) false)) rfl (ld_sc Sc4 (At.mono (Bool_at (ownSl (H.get (k := 0) rfl)) (i := ((w_.getD i default).of).getD k2 0) (by omega) (by omega)) (ownLe _ (H.get (k := 0) rfl))))) <| sM (B (l4.getD (Int.toNat (((w_.getD i default).of).getD k2 0)) false)) rfl <| g_val (l4.getD (Int.toNat (((w_.getD i default).of).getD k2 0)) false) (gy_t rfl) (fun hg => x_mv (v := aa) rfl) <| g_val (l4.getD (Int.toNat (((w_.getD i default).of).getD k2 0)) false) (gy_t rfl) (fun hg => x_mv (v := I (i : Int)) rfl) ?_
    obtain ⟨al, hM⟩ := M.e_grd hM
    replace al := M.imp_of al
    simp only [Bool.and_eq_true, decide_eq_true_eq] at al
    refine g_val (l4.getD (Int.toNat (((w_.getD i default).of).getD k2 0)) false) (gy_t rfl) (fun hg => x_ix (v := vat aa 1 (Int.toNat (i : Int))) (gd_of hg (aa)) (gd_of hg (I (i : Int))) (Sl.ix (α := Bool) T147.und T147.size (ownSl (H.get (k := 0) rfl)) (by have ac := al.resolve_left (by rw [hg]; decide); first | exact ac | exact ac.1 | exact ac.2 | omega | (have ai := hg; simp at ai; omega)) (by have ac := al.resolve_left (by rw [hg]; decide); first | exact ac | exact ac.1 | exact ac.2 | omega | (have ai := hg; simp at ai; omega)))) <| g_val (l4.getD (Int.toNat (((w_.getD i default).of).getD k2 0)) false) (gy_t rfl) (fun hg => x_ld (v := B (l4.getD i false)) (gd_of hg (vat aa 1 (Int.toNat (i : Int)))) (ld_sc Sc4 (At.mono (Bool_at (ownSl (H.get (k := 0) rfl)) (i := (i : Int)) (by have ac := al.resolve_left (by rw [hg]; decide); first | exact ac | exact ac.1 | exact ac.2 | omega | (have ai := hg; simp at ai; omega)) (by have ac := al.resolve_left (by rw [hg]; decide); first | exact ac | exact ac.1 | exact ac.2 | omega | (have ai := hg; simp at ai; omega))) (ownLe _ (H.get (k := 0) rfl))))) <| g_val (l4.getD (Int.toNat (((w_.getD i default).of).getD k2 0)) false) (gy_t rfl) (fun hg => x_not (b := l4.getD i false) (gd_of hg (B (l4.getD i false)))) <| s_val (x_pand (b := l4.getD (Int.toNat (((w_.getD i default).of).getD k2 0)) false) (r := !(l4.getD i false)) rfl (fun hb => gd_of (c := l4.getD (Int.toNat (((w_.getD i default).of).getD k2 0)) false) (by first | exact hb | (rw [hb]; rfl) | simp_all) (B (!(l4.getD i false)))) rfl) <| sM (B ((l4.getD (Int.toNat (((w_.getD i default).of).getD k2 0)) false) && (!(l4.getD i false)))) rfl <| g_val ((l4.getD (Int.toNat (((w_.getD i default).of).getD k2 0)) false) && (!(l4.getD i false))) (gy_t rfl) (fun hg => x_mv (v := ah) rfl) <| g_val ((l4.getD (Int.toNat (((w_.getD i default).of).getD k2 0)) false) && (!(l4.getD i false))) (gy_t rfl) (fun hg => x_mv (v := I (i : Int)) rfl) ?_
    refine t_gcall ((l4.getD (Int.toNat (((w_.getD i default).of).getD k2 0)) false) && (!(l4.getD i false))) (gy_t rfl) cf95 (B (frozen.contains (i : Int))) (fun _ => [ah, I (i : Int)]) (fun hg => lst2 (gd_of hg (ah)) (gd_of hg (I (i : Int)))) H (fun hg => Ret.mono (has_any (i : Int) _ (aZ.mono (aY.at H))) fun v_ w_ ⟨bp, ai⟩ => ⟨bp, H.ext ai⟩) ?_
    intro bV H
    refine g_val ((l4.getD (Int.toNat (((w_.getD i default).of).getD k2 0)) false) && (!(l4.getD i false))) (gy_t rfl) (fun hg => x_not (b := frozen.contains (i : Int)) (gd_of hg (B (frozen.contains (i : Int))))) <| s_val (x_pand (b := ((l4.getD (Int.toNat (((w_.getD i default).of).getD k2 0)) false) && (!(l4.getD i false)))) (r := !(frozen.contains (i : Int))) rfl (fun hb => gd_of (c := ((l4.getD (Int.toNat (((w_.getD i default).of).getD k2 0)) false) && (!(l4.getD i false)))) (by first | exact hb | (rw [hb]; rfl) | simp_all) (B (!(frozen.contains (i : Int))))) rfl) <| s_nil ?_
    refine W.cond (((l4.getD (Int.toNat (((w_.getD i default).of).getD k2 0)) false) && (!(l4.getD i false))) && (!(frozen.contains (i : Int)))) rfl (fun aJ => ?_) (fun aJ => ?_)
    ·replace hM := M.e_t hM aJ
     refine sQ rfl <| sM aa rfl <| sM (I (i : Int)) rfl ?_
     obtain ⟨bW, hM⟩ := M.e_gd hM
     refine s_val (x_ix (v := vat aa 1 (Int.toNat (i : Int))) rfl rfl (Sl.ix (α := Bool) T147.und T147.size (ownSl (H.get (k := 0) rfl)) (by omega) (by omega))) ?_
     refine t_ost (k := 0) (i := (i : Int)) (l := l4) (l' := l4.set i true) (val := B true) (L' := [cOwn (α := Bool) 4 aa (l4.set i true)]) H rfl Sz4 (by omega) (by omega) true rfl rfl rfl rfl rfl ?_
     intro bX H
     refine s_nil <| W.region rfl <| sA (B true) rfl <| s_nil <| W.region rfl <| sM (I (k2 : Int)) rfl <| sR _ _ ((k2 : Int) + 1) rfl rfl rfl (by omega) <| sA (I ((k2 : Int) + 1)) rfl <| s_nil ?_
     exact ⟨aU, aV, l4.set i true, true, k2 + 1, aa, _, upds_of _ _ ⟨rfl, rfl, rfl, rfl, rfl, rfl, rfl, trivial⟩, M.e_inl hM aH, H⟩
    replace hM := M.e_f hM aJ
    refine W.skip <| W.region rfl <| sM (I (k2 : Int)) rfl <| sR _ _ ((k2 : Int) + 1) rfl rfl rfl (by omega) <| sA (I ((k2 : Int) + 1)) rfl <| s_nil ?_
    exact ⟨aU, aV, l4, changed, k2 + 1, aa, _, upds_of _ _ ⟨rfl, rfl, rfl, rfl, rfl, rfl, rfl, trivial⟩, M.e_inl hM aH, H⟩
   replace hM := M.e_f hM aw
   simp only [qz1, qz2, qz3, qz4, qz5, qz6, ne_eq, qz7] at aw
   refine W.exit ?_
   have bq := M.e_inr hM aH
   subst bq
   replace hM := bm
   try dsimp only at hM
   refine W.region rfl <| sM (I (i : Int)) rfl <| sR _ _ ((i : Int) + 1) rfl rfl rfl (by omega) <| sA (I ((i : Int) + 1)) rfl <| s_nil ?_
   exact ⟨bj, bk, l4, changed, i + 1, aa, _, upds_of _ _ ⟨rfl, rfl, rfl, rfl, rfl, rfl, trivial⟩, M.e_inl hM aS, H⟩
  replace hM := M.e_f hM au
  simp only [qz1, qz2, qz3, qz4, qz5, qz6, ne_eq, qz7] at au
  refine W.exit ?_
  have br := M.e_inr hM aS
  subst br
  replace hM := bi
  try dsimp only at hM
  exact ⟨bf, bg, l7, changed3, aq, _, upds_of _ _ ⟨rfl, rfl, rfl, rfl, rfl, trivial⟩, M.e_inl hM aQ, H⟩
 replace hM := M.e_f hM aE
 refine W.exit ?_
 have bt := M.e_inr hM aQ
 subst bt
 replace hM := bc
 try dsimp only at hM
 refine sQ rfl <| sM ao rfl <| sM (I work) rfl ?_
 obtain ⟨bY, hM⟩ := M.e_gd hM
 refine s_val (x_ix (v := vat ao 1 (Int.toNat work)) rfl rfl (Sl.ix (α := Bool) T147.und T147.size (ownSl (H.get (k := 0) rfl)) (by omega) (by omega))) <| s_val (x_ld (v := B (ak.getD (Int.toNat work) false)) rfl (ld_sc Sc4 (At.mono (Bool_at (ownSl (H.get (k := 0) rfl)) (i := work) (by omega) (by omega)) (ownLe _ (H.get (k := 0) rfl))))) <| s_val (x_not (b := ak.getD (Int.toNat work) false) rfl) <| sA (B (!(ak.getD (Int.toNat work) false))) rfl <| s_nil ?_
 refine W.ret ?_
 have bu := M.e_pure hM
 exact ⟨_, resE_tmp rfl, ⟨(!(ak.getD (Int.toNat work) false)), bu, rfl, (H.pick [] (by decide) rfl)⟩⟩

def za0 (revised : List Int) (work : Int) (frozen : List Int) : Nat -> M (Nat ⊕ (Unit ⊕ Unit)) := fun i =>
  bif decide ((i : Int) < (frozen.length : Int)) then (
  M.grd (decide ((i : Int) < (frozen.length : Int))) <|
  bif (((frozen.getD i 0) == work) || (revised.contains (frozen.getD i 0))) then (
  M.pure (.inr (.inl ())))
  else (
  M.pure (.inl (i + 1))))
  else (
  M.pure (.inr (.inr ())))
def zal (w_ : List Work) (revised : List Int) (work : Int) (frozen : List Int) : M (Bool × Int) :=
  M.bind (zaF w_ revised work) fun r2 =>
  bif r2 != 0 then (
  M.pure (false, r2))
  else (
  bif (listedE w_.length frozen) != 0 then (
  M.pure (false, (listedE w_.length frozen)))
  else (
  M.bind (M.iter (za0 revised work frozen) 0) fun x_ => match x_ with
  | (.inl (_ : Unit)) => (
  M.pure (false, 7))
  | (.inr (_ : Unit)) => (
  M.bind (zaz w_ revised work frozen) fun r3 =>
  M.pure (r3, 0))))
theorem zct {R : List Chunk} {az : Cells} {ag : Value} {aA : Cells} {ae : Value} {aB : Cells} {aa : Value} (w_ : List Work) (revised : List Int) (work : Int) (frozen : List Int) (ap : Reads R az) (aq : Sl az ag w_) (au : Reads R aA) (av : Sl aA ae revised) (ao : Reads R aB) (ah : Sl aB aa frozen) {r : (Bool × Int)} (hM : (zal w_ revised work frozen).Ends r) (w : World) (H : St w w [] R) : Ret Try.prog 60 #[ag, ae, I work, aa] w fun v w' => ∃ (y0 : Bool) (y1 : Int), (y0, y1) = r /\ v = .tuple #[B y0, I y1] /\ St w w' [] R := by
 refine ret_of_W Try.func60 rfl rfl rfl ?_
 refine sQ rfl <| sA (B false) rfl <| sA (I 0) rfl <| s_nil <| W.seq <| sQ rfl <| sM ag rfl <| sM ae rfl <| sM (I work) rfl ?_
 obtain ⟨aR, aE, hM⟩ := M.e_bind hM
 refine s_call cf120 [ag, ae, I work] rfl (zb9 w_ revised work (ap.app _) aq (au.app _) av aE _ (St.give (T := []) H rfl)) ?_
 rintro vq aF ⟨r2, aG, hvq, aj⟩
 subst aG
 subst vq
 try dsimp only at hM
 replace H : St w aF [] R := H.back aj rfl
 clear aj
 refine sA (I r2) rfl <| s_nil <| sQ rfl <| sM (I r2) rfl <| sC _ _ (r2 != 0) rfl rfl rfl <| s_nil ?_
 refine W.cond (r2 != 0) rfl (fun ak => ?_) (fun ak => ?_)
 ·replace hM := M.e_t hM ak
  simp only [qz1, qz2, qz3, qz4, qz5, qz6, ne_eq, qz7] at ak
  refine sQ rfl <| sM (I r2) rfl <| sA (B false) rfl <| sA (I r2) rfl <| s_nil ?_
  refine W.ret ?_
  have ai := M.e_pure hM
  exact ⟨_, resE_tmp2 rfl, ⟨false, r2, ai, rfl, H⟩⟩
 replace hM := M.e_f hM ak
 simp only [qz1, qz2, qz3, qz4, qz5, qz6, ne_eq, qz7] at ak
 refine W.skip <| W.seq <| sQ rfl <| sM ag rfl <| sM aa rfl ?_
 refine s_call cf93 [ag, aa] rfl (refListed _ (aq.mono (ap.at H)) (ah.mono (ao.at H))) ?_
 rintro _ aH ⟨rfl, ac⟩
 replace H : St w aH [] R := H.ext ac
 clear ac
 refine sA (I (listedE w_.length frozen)) rfl <| s_nil <| sQ rfl <| sM (I (listedE w_.length frozen)) rfl <| sC _ _ ((listedE w_.length frozen) != 0) rfl rfl rfl <| s_nil ?_
 refine W.cond ((listedE w_.length frozen) != 0) rfl (fun al => ?_) (fun al => ?_)
 ·replace hM := M.e_t hM al
  simp only [qz1, qz2, qz3, qz4, qz5, qz6, ne_eq, qz7] at al
  refine sQ rfl <| sM (I (listedE w_.length frozen)) rfl <| sA (B false) rfl <| sA (I (listedE w_.length frozen)) rfl <| s_nil ?_
  refine W.ret ?_
  have ai := M.e_pure hM
  exact ⟨_, resE_tmp2 rfl, ⟨false, (listedE w_.length frozen), ai, rfl, H⟩⟩
 replace hM := M.e_f hM al
 simp only [qz1, qz2, qz3, qz4, qz5, qz6, ne_eq, qz7] at al
 refine W.skip <| W.seq <| sQ rfl <| sA (I 0) rfl <| s_nil <| W.block ?_
 obtain ⟨aI, aw, aC⟩ := M.e_bind hM
 obtain ⟨aS, aw⟩ := M.e_iter aw
 refine W.loop (fun m σ W => ∃ (i : Nat) (ρ : Env), σ = upds ρ [(0, ag), (1, ae), (2, I work), (3, aa), (12, I (i : Int))] /\ M.iterN (za0 revised work frozen) m i = some aI /\ St w W [] R) ?_ ?_
 ·exact ⟨_, 0, _, upds_of _ _ ⟨rfl, rfl, rfl, rfl, rfl, trivial⟩, aw, H⟩
 rintro aT σ aU ⟨i, ρ, rfl, aD, H⟩
 obtain ⟨aJ, aK, aV, hM, ax⟩ := M.e_iterN aD
 simp only [za0] at hM
 clear aD
 refine W.seq <| sQ rfl <| sM (I (i : Int)) rfl <| sM aa rfl ?_
 have aW := (ah).len_le
 refine s_val (x_lenS T34.und rfl ah) <| sC _ _ (decide ((i : Int) < (frozen.length : Int))) rfl rfl rfl <| s_nil ?_
 refine W.cond (decide ((i : Int) < (frozen.length : Int))) rfl (fun am => ?_) (fun am => ?_)
 ·replace hM := M.e_t hM am
  simp only [qz1, qz2, qz3, qz4, qz5, qz6, ne_eq, qz7] at am
  refine W.skip <| W.seq <| W.block <| sQ rfl <| sM aa rfl <| sM (I (i : Int)) rfl ?_
  obtain ⟨aX, hM⟩ := M.e_gd hM
  refine s_val (x_ix (v := vat aa 1 (Int.toNat (i : Int))) rfl rfl (Sl.ix (α := Int) T34.und T34.size ah (by omega) (by omega))) <| s_val (x_ld (v := I (frozen.getD i 0)) rfl (ld_sc Sc3 (At.mono (Int_at ah (i := (i : Int)) (by omega) (by omega)) (ao.at H)))) <| sM (I work) rfl <| sC _ _ ((frozen.getD i 0) == work) rfl rfl rfl <| sM (B ((frozen.getD i 0) == work)) rfl <| g_val (!((frozen.getD i 0) == work)) (gy_f rfl) (fun hg => x_mv (v := ae) rfl) <| g_val (!((frozen.getD i 0) == work)) (gy_f rfl) (fun hg => x_mv (v := aa) rfl) <| g_val (!((frozen.getD i 0) == work)) (gy_f rfl) (fun hg => x_mv (v := I (i : Int)) rfl) <| g_val (!((frozen.getD i 0) == work)) (gy_f rfl) (fun hg => x_ix (v := vat aa 1 (Int.toNat (i : Int))) (gd_of hg (aa)) (gd_of hg (I (i : Int))) (Sl.ix (α := Int) T34.und T34.size ah (by first | omega | (have ac := hg; simp at ac; omega)) (by first | omega | (have ac := hg; simp at ac; omega)))) <| g_val (!((frozen.getD i 0) == work)) (gy_f rfl) (fun hg => x_ld (v := I (frozen.getD i 0)) (gd_of hg (vat aa 1 (Int.toNat (i : Int)))) (ld_sc Sc3 (At.mono (Int_at ah (i := (i : Int)) (by first | omega | (have ac := hg; simp at ac; omega)) (by first | omega | (have ac := hg; simp at ac; omega))) (ao.at H)))) ?_
  refine t_gcall (!((frozen.getD i 0) == work)) (gy_f rfl) cf95 (B (revised.contains (frozen.getD i 0))) (fun _ => [ae, I (frozen.getD i 0)]) (fun hg => lst2 (gd_of hg (ae)) (gd_of hg (I (frozen.getD i 0)))) H (fun hg => Ret.mono (has_any (frozen.getD i 0) _ (av.mono (au.at H))) fun v_ w_ ⟨aL, ac⟩ => ⟨aL, H.ext ac⟩) ?_
  intro aY H
  refine s_val (x_por (b := (frozen.getD i 0) == work) (r := revised.contains (frozen.getD i 0)) rfl rfl (fun hb => gd_of (c := !((frozen.getD i 0) == work)) (by first | exact hb | (rw [hb]; rfl) | simp_all) (B (revised.contains (frozen.getD i 0))))) <| s_nil ?_
  refine W.cond (((frozen.getD i 0) == work) || (revised.contains (frozen.getD i 0))) rfl (fun ay => ?_) (fun ay => ?_)
  ·replace hM := M.e_t hM ay
   refine sQ rfl <| sA (B false) rfl <| sA (I 7) rfl <| s_nil ?_
   refine W.ret ?_
   have aM := M.e_inr hM ax
   subst aM
   replace hM := aC
   try dsimp only at hM
   have ai := M.e_pure hM
   exact ⟨_, resE_tmp2 rfl, ⟨false, 7, ai, rfl, H⟩⟩
  replace hM := M.e_f hM ay
  refine W.skip <| W.region rfl <| sM (I (i : Int)) rfl <| sR _ _ ((i : Int) + 1) rfl rfl rfl (by omega) <| sA (I ((i : Int) + 1)) rfl <| s_nil ?_
  exact ⟨aJ, aK, i + 1, _, upds_of _ _ ⟨rfl, rfl, rfl, rfl, rfl, trivial⟩, M.e_inl hM ax, H⟩
 replace hM := M.e_f hM am
 simp only [qz1, qz2, qz3, qz4, qz5, qz6, ne_eq, qz7] at am
 refine W.exit ?_
 have aN := M.e_inr hM ax
 subst aN
 replace hM := aC
 try dsimp only at hM
 refine sQ rfl <| sM ag rfl <| sM ae rfl <| sM (I work) rfl <| sM aa rfl ?_
 obtain ⟨aZ, aO, hM⟩ := M.e_bind hM
 refine s_call cf121 [ag, ae, I work, aa] rfl (zcP w_ revised work frozen (ap.app _) aq (au.app _) av (ao.app _) ah aO _ (St.give (T := []) H rfl)) ?_
 rintro vq aP ⟨r3, aQ, hvq, aj⟩
 subst aQ
 subst vq
 try dsimp only at hM
 replace H : St w aP [] R := H.back aj rfl
 clear aj
 refine sA (B r3) rfl <| sA (I 0) rfl <| s_nil ?_
 refine W.ret ?_
 have ai := M.e_pure hM
 exact ⟨_, resE_tmp2 rfl, ⟨r3, 0, ai, rfl, H⟩⟩

def zaV (w_ : List Work) (lines : List (List Int)) (k : Nat) : Nat -> M (Nat ⊕ (Unit ⊕ Unit)) := fun i =>
  M.grd (decide ((k : Int) < (lines.length : Int))) <|
  bif decide ((i : Int) < ((lines.getD k ([])).length : Int)) then (
  M.grd (decide ((i : Int) < ((lines.getD k ([])).length : Int))) <|
  bif outB ((lines.getD k ([])).getD i 0) 0 ((w_.length : Int) - 1) then (
  M.pure (.inr (.inl ())))
  else (
  M.pure (.inl (i + 1))))
  else (
  M.pure (.inr (.inr ())))
def zau (w_ : List Work) (lines : List (List Int)) : Nat -> M (Nat ⊕ (Unit ⊕ Unit)) := fun k =>
  bif decide ((k : Int) < (lines.length : Int)) then (
  M.bind (M.iter (zaV w_ lines k) 0) fun x_ => match x_ with
  | (.inl (_ : Unit)) => (
  M.pure (.inr (.inl ())))
  | (.inr (_ : Unit)) => (
  M.pure (.inl (k + 1))))
  else (
  M.pure (.inr (.inr ())))
def zaX (lines : List (List Int)) (k2 : Nat) (i2 : Nat) : Nat -> M (Nat ⊕ (Unit ⊕ Unit)) := fun m2 =>
  bif decide ((m2 : Int) < (k2 : Int)) then (
  M.grd ((!(decide ((i2 : Int) < (((lines.getD k2 ([])).length : Int) - 1))) || (decide ((m2 : Int) < (lines.length : Int))))) <|
  bif ((decide ((i2 : Int) < (((lines.getD k2 ([])).length : Int) - 1))) && ((lines.getD m2 ([])).contains ((lines.getD k2 ([])).getD i2 0))) then (
  M.pure (.inr (.inl ())))
  else (
  M.grd (decide ((-9223372036854775808 : Int) <= ((m2 : Int) + 1)) && decide (((m2 : Int) + 1) <= (9223372036854775807 : Int))) <|
  M.pure (.inl (m2 + 1))))
  else (
  M.pure (.inr (.inr ())))
def zbr (revised : List Int) (lines : List (List Int)) (k2 : Nat) : Nat -> M (Nat ⊕ (Unit ⊕ Unit)) := fun i2 =>
  bif decide ((i2 : Int) < ((lines.getD k2 ([])).length : Int)) then (
  M.grd (decide ((i2 : Int) < ((lines.getD k2 ([])).length : Int))) <|
  bif revised.contains ((lines.getD k2 ([])).getD i2 0) then (
  M.pure (.inr (.inl ())))
  else (
  M.bind (M.iter (zaX lines k2 i2) 0) fun x_ => match x_ with
  | (.inl (_ : Unit)) => (
  M.pure (.inr (.inl ())))
  | (.inr (_ : Unit)) => (
  M.pure (.inl (i2 + 1)))))
  else (
  M.pure (.inr (.inr ())))
def zaJ (w_ : List Work) (revised : List Int) (work : Int) (lines : List (List Int)) : Nat -> M (Nat ⊕ (Unit ⊕ Unit)) := fun k2 =>
  bif decide ((k2 : Int) < (lines.length : Int)) then (
  M.grd (decide ((k2 : Int) < (lines.length : Int))) <|
  M.bind (M.opt (!(decide (((lines.getD k2 ([])).length : Int) < 2))) (zbv w_ (lines.getD k2 ([]))) false) fun r3 =>
  M.grd ((!(!((decide (((lines.getD k2 ([])).length : Int) < 2)) || (!r3))) || (decide (0 < ((lines.getD k2 ([])).length : Int))))) <|
  M.grd ((!(!(((decide (((lines.getD k2 ([])).length : Int) < 2)) || (!r3)) || (!(revised.contains ((lines.getD k2 ([])).getD 0 0))))) || (decide ((0 : Int) <= (((lines.getD k2 ([])).length : Int) - 1)) && decide ((((lines.getD k2 ([])).length : Int) - 1) < ((lines.getD k2 ([])).length : Int))))) <|
  bif ((((decide (((lines.getD k2 ([])).length : Int) < 2)) || (!r3)) || (!(revised.contains ((lines.getD k2 ([])).getD 0 0)))) || (((lines.getD k2 ([])).getD (Int.toNat (((lines.getD k2 ([])).length : Int) - 1)) 0) != work)) then (
  M.pure (.inr (.inl ())))
  else (
  M.bind (M.iter (zbr revised lines k2) 1) fun x_ => match x_ with
  | (.inl (_ : Unit)) => (
  M.pure (.inr (.inl ())))
  | (.inr (_ : Unit)) => (
  M.pure (.inl (k2 + 1)))))
  else (
  M.pure (.inr (.inr ())))
def zbd (w_ : List Work) (revised : List Int) (work : Int) (lines : List (List Int)) : M (Bool × Int) :=
  M.bind (zaF w_ revised work) fun r2 =>
  bif r2 != 0 then (
  M.pure (false, r2))
  else (
  bif decide (30 < (lines.length : Int)) then (
  M.pure (false, 3))
  else (
  M.bind (M.iter (zau w_ lines) 0) fun x_ => match x_ with
  | (.inl (_ : Unit)) => (
  M.pure (false, 2))
  | (.inr (_ : Unit)) => (
  M.bind (M.iter (zaJ w_ revised work lines) 0) fun x_ => match x_ with
  | (.inl (_ : Unit)) => (
  M.pure (false, 0))
  | (.inr (_ : Unit)) => (
  M.pure (true, 0)))))
theorem zcI {R : List Chunk} {a6 : Cells} {aj : Value} {a7 : Cells} {ai : Value} {a8 : Cells} {ag : Value} (w_ : List Work) (revised : List Int) (work : Int) (lines : List (List Int)) (a9 : Reads R a6) (aF : Sl a6 aj w_) (aK : Reads R a7) (aL : Sl a7 ai revised) (am : Reads R a8) (al : Sl a8 ag lines) {r : (Bool × Int)} (hM : (zbd w_ revised work lines).Ends r) (w : World) (H : St w w [] R) : Ret Try.prog 62 #[aj, ai, I work, ag] w fun v w' => ∃ (y0 : Bool) (y1 : Int), (y0, y1) = r /\ v = .tuple #[B y0, I y1] /\ St w w' [] R := by
 refine ret_of_W Try.func62 rfl rfl rfl ?_
 refine sQ rfl <| sA (B false) rfl <| sA (I 0) rfl <| s_nil <| W.seq <| sQ rfl <| sM aj rfl <| sM ai rfl <| sM (I work) rfl ?_
 obtain ⟨b9, bm, hM⟩ := M.e_bind hM
 refine s_call cf120 [aj, ai, I work] rfl (zb9 w_ revised work (a9.app _) aF (aK.app _) aL bm _ (St.give (T := []) H rfl)) ?_
 rintro vq bn ⟨r2, bo, hvq, ba⟩
 subst bo
 subst vq
 try dsimp only at hM
 replace H : St w bn [] R := H.back ba rfl
 clear ba
 refine sA (I r2) rfl <| s_nil <| sQ rfl <| sM (I r2) rfl <| sC _ _ (r2 != 0) rfl rfl rfl <| s_nil ?_
 refine W.cond (r2 != 0) rfl (fun au => ?_) (fun au => ?_)
 ·replace hM := M.e_t hM au
  simp only [qz1, qz2, qz3, qz4, qz5, qz6, ne_eq, qz7] at au
  refine sQ rfl <| sM (I r2) rfl <| sA (B false) rfl <| sA (I r2) rfl <| s_nil ?_
  refine W.ret ?_
  have ak := M.e_pure hM
  exact ⟨_, resE_tmp2 rfl, ⟨false, r2, ak, rfl, H⟩⟩
 replace hM := M.e_f hM au
 simp only [qz1, qz2, qz3, qz4, qz5, qz6, ne_eq, qz7] at au
 refine W.skip <| W.seq <| sQ rfl <| sM ag rfl ?_
 have ca := (al).len_le
 refine s_val (x_lenS T73.und rfl al) <| sC _ _ (decide (30 < (lines.length : Int))) rfl rfl rfl <| s_nil ?_
 refine W.cond (decide (30 < (lines.length : Int))) rfl (fun av => ?_) (fun av => ?_)
 ·replace hM := M.e_t hM av
  simp only [qz1, qz2, qz3, qz4, qz5, qz6, ne_eq, qz7] at av
  refine sQ rfl <| sA (B false) rfl <| sA (I 3) rfl <| s_nil ?_
  refine W.ret ?_
  have ak := M.e_pure hM
  exact ⟨_, resE_tmp2 rfl, ⟨false, 3, ak, rfl, H⟩⟩
 replace hM := M.e_f hM av
 simp only [qz1, qz2, qz3, qz4, qz5, qz6, ne_eq, qz7] at av
 refine W.skip <| W.seq <| sQ rfl <| sA (I 0) rfl <| s_nil <| W.block ?_
 obtain ⟨bp, aM, bb⟩ := M.e_bind hM
 obtain ⟨aG, aM⟩ := M.e_iter aM
 refine W.loop (fun m σ W => ∃ (k : Nat) (ρ : Env), σ = upds ρ [(0, aj), (1, ai), (2, I work), (3, ag), (11, I (k : Int))] /\ M.iterN (zau w_ lines) m k = some bp /\ St w W [] R) ?_ ?_
 ·exact ⟨_, 0, _, upds_of _ _ ⟨rfl, rfl, rfl, rfl, rfl, trivial⟩, aM, H⟩
 rintro cb σ cc ⟨k, ρ, rfl, bc, H⟩
 obtain ⟨bq, br, cd, hM, aN⟩ := M.e_iterN bc
 simp only [zau] at hM
 clear bc
 refine W.seq <| sQ rfl <| sM (I (k : Int)) rfl <| sM ag rfl ?_
 have ce := (al).len_le
 refine s_val (x_lenS T73.und rfl al) <| sC _ _ (decide ((k : Int) < (lines.length : Int))) rfl rfl rfl <| s_nil ?_
 refine W.cond (decide ((k : Int) < (lines.length : Int))) rfl (fun aw => ?_) (fun aw => ?_)
 ·replace hM := M.e_t hM aw
  simp only [qz1, qz2, qz3, qz4, qz5, qz6, ne_eq, qz7] at aw
  refine W.skip <| W.seq <| W.block <| sQ rfl <| sA (I 0) rfl <| s_nil <| W.block ?_
  obtain ⟨bt, aO, bf⟩ := M.e_bind hM
  obtain ⟨aG, aO⟩ := M.e_iter aO
  refine W.loop (fun m σ W => ∃ (i : Nat) (ρ : Env), σ = upds ρ [(0, aj), (1, ai), (2, I work), (3, ag), (11, I (k : Int)), (12, I (i : Int))] /\ M.iterN (zaV w_ lines k) m i = some bt /\ St w W [] R) ?_ ?_
  ·exact ⟨_, 0, _, upds_of _ _ ⟨rfl, rfl, rfl, rfl, rfl, rfl, trivial⟩, aO, H⟩
  rintro cf σ cg ⟨i, ρ, rfl, bg, H⟩
  obtain ⟨bu, bv, ci, hM, aP⟩ := M.e_iterN bg
  simp only [zaV] at hM
  clear bg
  refine W.seq <| sQ rfl <| sM (I (i : Int)) rfl <| sM ag rfl <| sM (I (k : Int)) rfl ?_
  obtain ⟨cj, hM⟩ := M.e_gd hM
  refine s_val (x_ix (v := vat ag 1 (Int.toNat (k : Int))) rfl rfl (Sl.ix (α := List Int) T73.und T73.size al (by omega) (by omega))) ?_
  obtain ⟨bh, bw, ax⟩ := List_at al (i := (k : Int)) (by omega) (by omega)
  replace ax : Sl _ bh (lines.getD k ([])) := ax
  have ck := ax.len_le
  refine s_val (x_ld (v := bh) rfl (ld_sc Sc34 (At.mono (bw) (am.at H)))) ?_
  have cm := (ax).len_le
  refine s_val (x_lenS T34.und rfl ax) <| sC _ _ (decide ((i : Int) < ((lines.getD k ([])).length : Int))) rfl rfl rfl <| s_nil ?_
  refine W.cond (decide ((i : Int) < ((lines.getD k ([])).length : Int))) rfl (fun ay => ?_) (fun ay => ?_)
  ·replace hM := M.e_t hM ay
   simp only [qz1, qz2, qz3, qz4, qz5, qz6, ne_eq, qz7] at ay
   refine W.skip <| W.seq <| W.block <| sQ rfl <| sM ag rfl <| sM (I (k : Int)) rfl <| s_val (x_ix (v := vat ag 1 (Int.toNat (k : Int))) rfl rfl (Sl.ix (α := List Int) T73.und T73.size al (by omega) (by omega))) ?_
   obtain ⟨aQ, bx, az⟩ := List_at al (i := (k : Int)) (by omega) (by omega)
   replace az : Sl _ aQ (lines.getD k ([])) := az
   have cn := az.len_le
   refine s_val (x_ld (v := aQ) rfl (ld_sc Sc34 (At.mono (bx) (am.at H)))) <| sM (I (i : Int)) rfl ?_
   obtain ⟨co, hM⟩ := M.e_gd hM
   refine s_val (x_ix (v := vat aQ 1 (Int.toNat (i : Int))) rfl rfl (Sl.ix (α := Int) T34.und T34.size az (by omega) (by omega))) <| s_val (x_ld (v := I ((lines.getD k ([])).getD i 0)) rfl (ld_sc Sc3 (At.mono (Int_at az (i := (i : Int)) (by omega) (by omega)) (am.at H)))) <| sM aj rfl ?_
   have cp := (aF).len_le
   refine s_val (x_lenS T39.und rfl aF) <| sR _ _ ((w_.length : Int) - 1) rfl rfl rfl (by omega) ?_
   refine s_call cf89 [I ((lines.getD k ([])).getD i 0), I 0, I ((w_.length : Int) - 1)] rfl (outside_any ((lines.getD k ([])).getD i 0) 0 ((w_.length : Int) - 1) _) ?_
   rintro _ bz ⟨rfl, ac⟩
   replace H : St w bz [] R := H.ext ac
   clear ac
   refine s_nil ?_
   refine W.cond (outB ((lines.getD k ([])).getD i 0) 0 ((w_.length : Int) - 1)) rfl (fun aR => ?_) (fun aR => ?_)
   ·replace hM := M.e_t hM aR
    refine sQ rfl <| sA (B false) rfl <| sA (I 2) rfl <| s_nil ?_
    refine W.ret ?_
    have bA := M.e_inr hM aP
    subst bA
    replace hM := bf
    try dsimp only at hM
    have bB := M.e_inr hM aN
    subst bB
    replace hM := bb
    try dsimp only at hM
    have ak := M.e_pure hM
    exact ⟨_, resE_tmp2 rfl, ⟨false, 2, ak, rfl, H⟩⟩
   replace hM := M.e_f hM aR
   refine W.skip <| W.region rfl <| sM (I (i : Int)) rfl <| sR _ _ ((i : Int) + 1) rfl rfl rfl (by omega) <| sA (I ((i : Int) + 1)) rfl <| s_nil ?_
   exact ⟨bu, bv, i + 1, _, upds_of _ _ ⟨rfl, rfl, rfl, rfl, rfl, rfl, trivial⟩, M.e_inl hM aP, H⟩
  replace hM := M.e_f hM ay
  simp only [qz1, qz2, qz3, qz4, qz5, qz6, ne_eq, qz7] at ay
  refine W.exit ?_
  have bC := M.e_inr hM aP
  subst bC
  replace hM := bf
  try dsimp only at hM
  refine W.region rfl <| sM (I (k : Int)) rfl <| sR _ _ ((k : Int) + 1) rfl rfl rfl (by omega) <| sA (I ((k : Int) + 1)) rfl <| s_nil ?_
  exact ⟨bq, br, k + 1, _, upds_of _ _ ⟨rfl, rfl, rfl, rfl, rfl, trivial⟩, M.e_inl hM aN, H⟩
 replace hM := M.e_f hM aw
 simp only [qz1, qz2, qz3, qz4, qz5, qz6, ne_eq, qz7] at aw
 refine W.exit ?_
 have bD := M.e_inr hM aN
 subst bD
 replace hM := bb
 try dsimp only at hM
 refine W.seq <| sQ rfl <| sA (I 0) rfl <| s_nil <| W.block ?_
 obtain ⟨bE, aS, aH⟩ := M.e_bind hM
 obtain ⟨aG, aS⟩ := M.e_iter aS
 refine W.loop (fun m σ W => ∃ (k2 : Nat) (ρ : Env), σ = upds ρ [(0, aj), (1, ai), (2, I work), (3, ag), (13, I (k2 : Int))] /\ M.iterN (zaJ w_ revised work lines) m k2 = some bE /\ St w W [] R) ?_ ?_
 ·exact ⟨_, 0, _, upds_of _ _ ⟨rfl, rfl, rfl, rfl, rfl, trivial⟩, aS, H⟩
 rintro cq σ cr ⟨k2, ρ, rfl, bi, H⟩
 obtain ⟨bF, bG, ct, hM, aA⟩ := M.e_iterN bi
 simp only [zaJ] at hM
 clear bi
 refine W.seq <| sQ rfl <| sM (I (k2 : Int)) rfl <| sM ag rfl ?_
 have cu := (al).len_le
 refine s_val (x_lenS T73.und rfl al) <| sC _ _ (decide ((k2 : Int) < (lines.length : Int))) rfl rfl rfl <| s_nil ?_
 refine W.cond (decide ((k2 : Int) < (lines.length : Int))) rfl (fun aB => ?_) (fun aB => ?_)
 ·replace hM := M.e_t hM aB
  simp only [qz1, qz2, qz3, qz4, qz5, qz6, ne_eq, qz7] at aB
  refine W.skip <| W.seq <| W.block <| sQ rfl <| sM ag rfl <| sM (I (k2 : Int)) rfl ?_
  obtain ⟨cv, hM⟩ := M.e_gd hM
  refine s_val (x_ix (v := vat ag 1 (Int.toNat (k2 : Int))) rfl rfl (Sl.ix (α := List Int) T73.und T73.size al (by omega) (by omega))) ?_
  obtain ⟨ae, bH, ah⟩ := List_at al (i := (k2 : Int)) (by omega) (by omega)
  replace ah : Sl _ ae (lines.getD k2 ([])) := ah
  have cw := ah.len_le
  refine s_val (x_ld (v := ae) rfl (ld_sc Sc34 (At.mono (bH) (am.at H)))) <| sA ae rfl <| s_nil <| W.seq <| sQ rfl <| sM ae rfl ?_
  have cx := (ah).len_le
  refine s_val (x_lenS T34.und rfl ah) <| sC _ _ (decide (((lines.getD k2 ([])).length : Int) < 2)) rfl rfl rfl <| sM (B (decide (((lines.getD k2 ([])).length : Int) < 2))) rfl <| g_val (!(decide (((lines.getD k2 ([])).length : Int) < 2))) (gy_f rfl) (fun hg => x_mv (v := aj) rfl) <| g_val (!(decide (((lines.getD k2 ([])).length : Int) < 2))) (gy_f rfl) (fun hg => x_mv (v := ae) rfl) ?_
  obtain ⟨r3, bI, hM⟩ := M.e_bind hM
  refine t_gcall (!(decide (((lines.getD k2 ([])).length : Int) < 2))) (gy_f rfl) cf105 (B r3) (fun _ => [aj, ae]) (fun hg => lst2 (gd_of hg (aj)) (gd_of hg (ae))) H (fun hg => (zdL w_ (lines.getD k2 ([])) (a9.app _) aF (am.app _) ah (M.e_opt bI hg) _ (H.give (A := []) rfl)).mono fun v_ w_ ⟨y_, ak, aC, H_⟩ => by subst ak; exact ⟨aC, H.via H_⟩) ?_
  intro cy H
  refine g_val (!(decide (((lines.getD k2 ([])).length : Int) < 2))) (gy_f rfl) (fun hg => x_not (b := r3) (gd_of hg (B r3))) <| s_val (x_por (b := decide (((lines.getD k2 ([])).length : Int) < 2)) (r := !r3) rfl rfl (fun hb => gd_of (c := !(decide (((lines.getD k2 ([])).length : Int) < 2))) (by first | exact hb | (rw [hb]; rfl) | simp_all) (B (!r3)))) <| sM (B ((decide (((lines.getD k2 ([])).length : Int) < 2)) || (!r3))) rfl <| g_val (!((decide (((lines.getD k2 ([])).length : Int) < 2)) || (!r3))) (gy_f rfl) (fun hg => x_mv (v := ai) rfl) <| g_val (!((decide (((lines.getD k2 ([])).length : Int) < 2)) || (!r3))) (gy_f rfl) (fun hg => x_mv (v := ae) rfl) ?_
  obtain ⟨ap, hM⟩ := M.e_grd hM
  replace ap := M.imp_of ap
  simp only [Bool.and_eq_true, decide_eq_true_eq] at ap
  refine g_val (!((decide (((lines.getD k2 ([])).length : Int) < 2)) || (!r3))) (gy_f rfl) (fun hg => x_ix (v := vat ae 1 (Int.toNat 0)) (gd_of hg (ae)) rfl (Sl.ix (α := Int) T34.und T34.size ah (by have aa := ap.resolve_left (by rw [hg]; decide); first | exact aa | exact aa.1 | exact aa.2 | omega | (have ac := hg; simp at ac; omega)) (by have aa := ap.resolve_left (by rw [hg]; decide); first | exact aa | exact aa.1 | exact aa.2 | omega | (have ac := hg; simp at ac; omega)))) <| g_val (!((decide (((lines.getD k2 ([])).length : Int) < 2)) || (!r3))) (gy_f rfl) (fun hg => x_ld (v := I ((lines.getD k2 ([])).getD 0 0)) (gd_of hg (vat ae 1 (Int.toNat 0))) (ld_sc Sc3 (At.mono (Int_at ah (i := 0) (by have aa := ap.resolve_left (by rw [hg]; decide); first | exact aa | exact aa.1 | exact aa.2 | omega | (have ac := hg; simp at ac; omega)) (by have aa := ap.resolve_left (by rw [hg]; decide); first | exact aa | exact aa.1 | exact aa.2 | omega | (have ac := hg; simp at ac; omega))) (am.at H)))) ?_
  refine t_gcall (!((decide (((lines.getD k2 ([])).length : Int) < 2)) || (!r3))) (gy_f rfl) cf95 (B (revised.contains ((lines.getD k2 ([])).getD 0 0))) (fun _ => [ai, I ((lines.getD k2 ([])).getD 0 0)]) (fun hg => lst2 (gd_of hg (ai)) (gd_of hg (I ((lines.getD k2 ([])).getD 0 0)))) H (fun hg => Ret.mono (has_any ((lines.getD k2 ([])).getD 0 0) _ (aL.mono (aK.at H))) fun v_ w_ ⟨aC, ac⟩ => ⟨aC, H.ext ac⟩) ?_
  intro cz H
  refine g_val (!((decide (((lines.getD k2 ([])).length : Int) < 2)) || (!r3))) (gy_f rfl) (fun hg => x_not (b := revised.contains ((lines.getD k2 ([])).getD 0 0)) (gd_of hg (B (revised.contains ((lines.getD k2 ([])).getD 0 0))))) <| s_val (x_por (b := ((decide (((lines.getD k2 ([])).length : Int) < 2)) || (!r3))) (r := !(revised.contains ((lines.getD k2 ([])).getD 0 0))) rfl rfl (fun hb => gd_of (c := !((decide (((lines.getD k2 ([])).length : Int) < 2)) || (!r3))) (by first | exact hb | (rw [hb]; rfl) | simp_all) (B (!(revised.contains ((lines.getD k2 ([])).getD 0 0)))))) <| sM (B (((decide (((lines.getD k2 ([])).length : Int) < 2)) || (!r3)) || (!(revised.contains ((lines.getD k2 ([])).getD 0 0))))) rfl <| g_val (!(((decide (((lines.getD k2 ([])).length : Int) < 2)) || (!r3)) || (!(revised.contains ((lines.getD k2 ([])).getD 0 0))))) (gy_f rfl) (fun hg => x_mv (v := ae) rfl) <| g_val (!(((decide (((lines.getD k2 ([])).length : Int) < 2)) || (!r3)) || (!(revised.contains ((lines.getD k2 ([])).getD 0 0))))) (gy_f rfl) (fun hg => x_mv (v := ae) rfl) <| g_val (!(((decide (((lines.getD k2 ([])).length : Int) < 2)) || (!r3)) || (!(revised.contains ((lines.getD k2 ([])).getD 0 0))))) (gy_f rfl) (fun hg => x_lenS T34.und (gd_of hg (ae)) ah) <| g_val (!(((decide (((lines.getD k2 ([])).length : Int) < 2)) || (!r3)) || (!(revised.contains ((lines.getD k2 ([])).getD 0 0))))) (gy_f rfl) (fun hg => x_ari (r := ((lines.getD k2 ([])).length : Int) - 1) (gd_of hg (I ((lines.getD k2 ([])).length : Int))) rfl rfl (by first | omega | (have ac := hg; simp at ac; omega))) ?_
  obtain ⟨aq, hM⟩ := M.e_grd hM
  replace aq := M.imp_of aq
  simp only [Bool.and_eq_true, decide_eq_true_eq] at aq
  refine g_val (!(((decide (((lines.getD k2 ([])).length : Int) < 2)) || (!r3)) || (!(revised.contains ((lines.getD k2 ([])).getD 0 0))))) (gy_f rfl) (fun hg => x_ix (v := vat ae 1 (Int.toNat (((lines.getD k2 ([])).length : Int) - 1))) (gd_of hg (ae)) (gd_of hg (I (((lines.getD k2 ([])).length : Int) - 1))) (Sl.ix (α := Int) T34.und T34.size ah (by have aa := aq.resolve_left (by rw [hg]; decide); first | exact aa | exact aa.1 | exact aa.2 | omega | (have ac := hg; simp at ac; omega)) (by have aa := aq.resolve_left (by rw [hg]; decide); first | exact aa | exact aa.1 | exact aa.2 | omega | (have ac := hg; simp at ac; omega)))) <| g_val (!(((decide (((lines.getD k2 ([])).length : Int) < 2)) || (!r3)) || (!(revised.contains ((lines.getD k2 ([])).getD 0 0))))) (gy_f rfl) (fun hg => x_ld (v := I ((lines.getD k2 ([])).getD (Int.toNat (((lines.getD k2 ([])).length : Int) - 1)) 0)) (gd_of hg (vat ae 1 (Int.toNat (((lines.getD k2 ([])).length : Int) - 1)))) (ld_sc Sc3 (At.mono (Int_at ah (i := ((lines.getD k2 ([])).length : Int) - 1) (by have aa := aq.resolve_left (by rw [hg]; decide); first | exact aa | exact aa.1 | exact aa.2 | omega | (have ac := hg; simp at ac; omega)) (by have aa := aq.resolve_left (by rw [hg]; decide); first | exact aa | exact aa.1 | exact aa.2 | omega | (have ac := hg; simp at ac; omega))) (am.at H)))) <| g_val (!(((decide (((lines.getD k2 ([])).length : Int) < 2)) || (!r3)) || (!(revised.contains ((lines.getD k2 ([])).getD 0 0))))) (gy_f rfl) (fun hg => x_mv (v := I work) rfl) <| g_val (!(((decide (((lines.getD k2 ([])).length : Int) < 2)) || (!r3)) || (!(revised.contains ((lines.getD k2 ([])).getD 0 0))))) (gy_f rfl) (fun hg => x_cmp (kd := .i64) (r := ((lines.getD k2 ([])).getD (Int.toNat (((lines.getD k2 ([])).length : Int) - 1)) 0) != work) (gd_of hg (I ((lines.getD k2 ([])).getD (Int.toNat (((lines.getD k2 ([])).length : Int) - 1)) 0))) (gd_of hg (I work)) rfl) <| s_val (x_por (b := (((decide (((lines.getD k2 ([])).length : Int) < 2)) || (!r3)) || (!(revised.contains ((lines.getD k2 ([])).getD 0 0))))) (r := ((lines.getD k2 ([])).getD (Int.toNat (((lines.getD k2 ([])).length : Int) - 1)) 0) != work) rfl rfl (fun hb => gd_of (c := !(((decide (((lines.getD k2 ([])).length : Int) < 2)) || (!r3)) || (!(revised.contains ((lines.getD k2 ([])).getD 0 0))))) (by first | exact hb | (rw [hb]; rfl) | simp_all) (B (((lines.getD k2 ([])).getD (Int.toNat (((lines.getD k2 ([])).length : Int) - 1)) 0) != work)))) <| s_nil ?_
  refine W.cond ((((decide (((lines.getD k2 ([])).length : Int) < 2)) || (!r3)) || (!(revised.contains ((lines.getD k2 ([])).getD 0 0)))) || (((lines.getD k2 ([])).getD (Int.toNat (((lines.getD k2 ([])).length : Int) - 1)) 0) != work)) rfl (fun aT => ?_) (fun aT => ?_)
  ·replace hM := M.e_t hM aT
   refine sQ rfl <| sA (B false) rfl <| sA (I 0) rfl <| s_nil ?_
   refine W.ret ?_
   have bJ := M.e_inr hM aA
   subst bJ
   replace hM := aH
   try dsimp only at hM
   have ak := M.e_pure hM
   exact ⟨_, resE_tmp2 rfl, ⟨false, 0, ak, rfl, H⟩⟩
  replace hM := M.e_f hM aT
  refine W.skip <| sQ rfl <| sA (I 1) rfl <| s_nil <| W.block ?_
  obtain ⟨bK, aU, aV⟩ := M.e_bind hM
  obtain ⟨aG, aU⟩ := M.e_iter aU
  refine W.loop (fun m σ W => ∃ (i2 : Nat) (ρ : Env), σ = upds ρ [(0, aj), (1, ai), (2, I work), (3, ag), (13, I (k2 : Int)), (14, ae), (15, I (i2 : Int)), (67, gd (!(decide (((lines.getD k2 ([])).length : Int) < 2))) aj), (68, gd (!(decide (((lines.getD k2 ([])).length : Int) < 2))) ae), (69, gd (!(decide (((lines.getD k2 ([])).length : Int) < 2))) (B r3)), (70, gd (!(decide (((lines.getD k2 ([])).length : Int) < 2))) (B (!r3))), (73, gd (!((decide (((lines.getD k2 ([])).length : Int) < 2)) || (!r3))) ai), (74, gd (!((decide (((lines.getD k2 ([])).length : Int) < 2)) || (!r3))) ae), (75, gd (!((decide (((lines.getD k2 ([])).length : Int) < 2)) || (!r3))) (vat ae 1 (Int.toNat 0))), (76, gd (!((decide (((lines.getD k2 ([])).length : Int) < 2)) || (!r3))) (I ((lines.getD k2 ([])).getD 0 0))), (77, gd (!((decide (((lines.getD k2 ([])).length : Int) < 2)) || (!r3))) (B (revised.contains ((lines.getD k2 ([])).getD 0 0)))), (78, gd (!((decide (((lines.getD k2 ([])).length : Int) < 2)) || (!r3))) (B (!(revised.contains ((lines.getD k2 ([])).getD 0 0))))), (81, gd (!(((decide (((lines.getD k2 ([])).length : Int) < 2)) || (!r3)) || (!(revised.contains ((lines.getD k2 ([])).getD 0 0))))) ae), (82, gd (!(((decide (((lines.getD k2 ([])).length : Int) < 2)) || (!r3)) || (!(revised.contains ((lines.getD k2 ([])).getD 0 0))))) ae), (83, gd (!(((decide (((lines.getD k2 ([])).length : Int) < 2)) || (!r3)) || (!(revised.contains ((lines.getD k2 ([])).getD 0 0))))) (I ((lines.getD k2 ([])).length : Int))), (84, gd (!(((decide (((lines.getD k2 ([])).length : Int) < 2)) || (!r3)) || (!(revised.contains ((lines.getD k2 ([])).getD 0 0))))) (I (((lines.getD k2 ([])).length : Int) - 1))), (85, gd (!(((decide (((lines.getD k2 ([])).length : Int) < 2)) || (!r3)) || (!(revised.contains ((lines.getD k2 ([])).getD 0 0))))) (vat ae 1 (Int.toNat (((lines.getD k2 ([])).length : Int) - 1)))), (86, gd (!(((decide (((lines.getD k2 ([])).length : Int) < 2)) || (!r3)) || (!(revised.contains ((lines.getD k2 ([])).getD 0 0))))) (I ((lines.getD k2 ([])).getD (Int.toNat (((lines.getD k2 ([])).length : Int) - 1)) 0))), (87, gd (!(((decide (((lines.getD k2 ([])).length : Int) < 2)) || (!r3)) || (!(revised.contains ((lines.getD k2 ([])).getD 0 0))))) (I work)), (88, gd (!(((decide (((lines.getD k2 ([])).length : Int) < 2)) || (!r3)) || (!(revised.contains ((lines.getD k2 ([])).getD 0 0))))) (B (((lines.getD k2 ([])).getD (Int.toNat (((lines.getD k2 ([])).length : Int) - 1)) 0) != work)))] /\ M.iterN (zbr revised lines k2) m i2 = some bK /\ St w W [] R) ?_ ?_
  ·exact ⟨_, 1, _, upds_of _ _ ⟨rfl, rfl, rfl, rfl, rfl, rfl, rfl, rfl, rfl, rfl, rfl, rfl, rfl, rfl, rfl, rfl, rfl, rfl, rfl, rfl, rfl, rfl, rfl, rfl, rfl, trivial⟩, aU, H⟩
  rintro cA σ cB ⟨i2, ρ, rfl, bj, H⟩
  obtain ⟨bL, bM, cC, hM, aI⟩ := M.e_iterN bj
  simp only [zbr] at hM
  clear bj
  refine W.seq <| sQ rfl <| sM (I (i2 : Int)) rfl <| sM ae rfl ?_
  have cD := (ah).len_le
  refine s_val (x_lenS T34.und rfl ah) <| sC _ _ (decide ((i2 : Int) < ((lines.getD k2 ([])).length : Int))) rfl rfl rfl <| s_nil ?_
  refine W.cond (decide ((i2 : Int) < ((lines.getD k2 ([])).length : Int))) rfl (fun aD => ?_) (fun aD => ?_)
  ·replace hM := M.e_t hM aD
   simp only [qz1, qz2, qz3, qz4, qz5, qz6, ne_eq, qz7] at aD
   refine W.skip <| W.seq <| W.block <| W.seq <| sQ rfl <| sM ai rfl <| sM ae rfl <| sM (I (i2 : Int)) rfl ?_
   obtain ⟨cE, hM⟩ := M.e_gd hM
   refine s_val (x_ix (v := vat ae 1 (Int.toNat (i2 : Int))) rfl rfl (Sl.ix (α := Int) T34.und T34.size ah (by omega) (by omega))) <| s_val (x_ld (v := I ((lines.getD k2 ([])).getD i2 0)) rfl (ld_sc Sc3 (At.mono (Int_at ah (i := (i2 : Int)) (by omega) (by omega)) (am.at H)))) ?_
   refine s_call cf95 [ai, I ((lines.getD k2 ([])).getD i2 0)] rfl (has_any ((lines.getD k2 ([])).getD i2 0) _ (aL.mono (aK.at H))) ?_
   rintro _ bN ⟨rfl, ac⟩
   replace H : St w bN [] R := H.ext ac
   clear ac
   refine s_nil ?_
   refine W.cond (revised.contains ((lines.getD k2 ([])).getD i2 0)) rfl (fun aW => ?_) (fun aW => ?_)
   ·replace hM := M.e_t hM aW
    refine sQ rfl <| sA (B false) rfl <| sA (I 0) rfl <| s_nil ?_
    refine W.ret ?_
    have bO := M.e_inr hM aI
    subst bO
    replace hM := aV
    try dsimp only at hM
    have bP := M.e_inr hM aA
    subst bP
    replace hM := aH
    try dsimp only at hM
    have ak := M.e_pure hM
    exact ⟨_, resE_tmp2 rfl, ⟨false, 0, ak, rfl, H⟩⟩
   replace hM := M.e_f hM aW
   refine W.skip <| sQ rfl <| sA (I 0) rfl <| s_nil <| W.block ?_
   obtain ⟨bQ, aX, bk⟩ := M.e_bind hM
   obtain ⟨aG, aX⟩ := M.e_iter aX
   refine W.loop (fun m σ W => ∃ (m2 : Nat) (ρ : Env), σ = upds ρ [(0, aj), (1, ai), (2, I work), (3, ag), (13, I (k2 : Int)), (14, ae), (15, I (i2 : Int)), (16, I (m2 : Int)), (67, gd (!(decide (((lines.getD k2 ([])).length : Int) < 2))) aj), (68, gd (!(decide (((lines.getD k2 ([])).length : Int) < 2))) ae), (69, gd (!(decide (((lines.getD k2 ([])).length : Int) < 2))) (B r3)), (70, gd (!(decide (((lines.getD k2 ([])).length : Int) < 2))) (B (!r3))), (73, gd (!((decide (((lines.getD k2 ([])).length : Int) < 2)) || (!r3))) ai), (74, gd (!((decide (((lines.getD k2 ([])).length : Int) < 2)) || (!r3))) ae), (75, gd (!((decide (((lines.getD k2 ([])).length : Int) < 2)) || (!r3))) (vat ae 1 (Int.toNat 0))), (76, gd (!((decide (((lines.getD k2 ([])).length : Int) < 2)) || (!r3))) (I ((lines.getD k2 ([])).getD 0 0))), (77, gd (!((decide (((lines.getD k2 ([])).length : Int) < 2)) || (!r3))) (B (revised.contains ((lines.getD k2 ([])).getD 0 0)))), (78, gd (!((decide (((lines.getD k2 ([])).length : Int) < 2)) || (!r3))) (B (!(revised.contains ((lines.getD k2 ([])).getD 0 0))))), (81, gd (!(((decide (((lines.getD k2 ([])).length : Int) < 2)) || (!r3)) || (!(revised.contains ((lines.getD k2 ([])).getD 0 0))))) ae), (82, gd (!(((decide (((lines.getD k2 ([])).length : Int) < 2)) || (!r3)) || (!(revised.contains ((lines.getD k2 ([])).getD 0 0))))) ae), (83, gd (!(((decide (((lines.getD k2 ([])).length : Int) < 2)) || (!r3)) || (!(revised.contains ((lines.getD k2 ([])).getD 0 0))))) (I ((lines.getD k2 ([])).length : Int))), (84, gd (!(((decide (((lines.getD k2 ([])).length : Int) < 2)) || (!r3)) || (!(revised.contains ((lines.getD k2 ([])).getD 0 0))))) (I (((lines.getD k2 ([])).length : Int) - 1))), (85, gd (!(((decide (((lines.getD k2 ([])).length : Int) < 2)) || (!r3)) || (!(revised.contains ((lines.getD k2 ([])).getD 0 0))))) (vat ae 1 (Int.toNat (((lines.getD k2 ([])).length : Int) - 1)))), (86, gd (!(((decide (((lines.getD k2 ([])).length : Int) < 2)) || (!r3)) || (!(revised.contains ((lines.getD k2 ([])).getD 0 0))))) (I ((lines.getD k2 ([])).getD (Int.toNat (((lines.getD k2 ([])).length : Int) - 1)) 0))), (87, gd (!(((decide (((lines.getD k2 ([])).length : Int) < 2)) || (!r3)) || (!(revised.contains ((lines.getD k2 ([])).getD 0 0))))) (I work)), (88, gd (!(((decide (((lines.getD k2 ([])).length : Int) < 2)) || (!r3)) || (!(revised.contains ((lines.getD k2 ([])).getD 0 0))))) (B (((lines.getD k2 ([])).getD (Int.toNat (((lines.getD k2 ([])).length : Int) - 1)) 0) != work)))] /\ M.iterN (zaX lines k2 i2) m m2 = some bQ /\ St w W [] R) ?_ ?_
   ·exact ⟨_, 0, _, upds_of _ _ ⟨rfl, rfl, rfl, rfl, rfl, rfl, rfl, rfl, rfl, rfl, rfl, rfl, rfl, rfl, rfl, rfl, rfl, rfl, rfl, rfl, rfl, rfl, rfl, rfl, rfl, rfl, trivial⟩, aX, H⟩
   rintro cF σ cG ⟨m2, ρ, rfl, bl, H⟩
   obtain ⟨bR, bS, cH, hM, aY⟩ := M.e_iterN bl
   simp only [zaX] at hM
   clear bl
   refine W.seq <| sQ rfl <| sM (I (m2 : Int)) rfl <| sM (I (k2 : Int)) rfl <| sC _ _ (decide ((m2 : Int) < (k2 : Int))) rfl rfl rfl <| s_nil ?_
   refine W.cond (decide ((m2 : Int) < (k2 : Int))) rfl (fun aE => ?_) (fun aE => ?_)
   ·replace hM := M.e_t hM aE
    simp only [qz1, qz2, qz3, qz4, qz5, qz6, ne_eq, qz7] at aE
    refine W.skip <| W.seq <| W.block <| W.seq ?_
    refine W.draw (fun W => St w W [] R) [(0, true), (1, true), (2, true), (3, true), (4, true), (5, true), (6, true), (7, true), (8, true), (9, true), (10, true), (11, true), (12, true), (13, true), (14, false), (15, true)] mixed (by decide +kernel) rfl ?_
    intro bT ac
    replace H : St w bT [] R := H.ext ac
    clear ac
    refine ⟨(H.pick [] (by decide) rfl), ?_⟩
    refine d_q rfl (fun w' H => x_mv (v := I (i2 : Int)) rfl) ?_
    refine d_q rfl (fun w' H => x_mv (v := ae) rfl) ?_
    have cI := (ah).len_le
    refine d_q rfl (fun w' H => x_lenS T34.und rfl ah) ?_
    refine d_q rfl (fun w' H => x_ari (r := ((lines.getD k2 ([])).length : Int) - 1) rfl rfl rfl (by omega)) ?_
    refine d_q rfl (fun w' H => x_cmp (kd := .i64) (r := decide ((i2 : Int) < (((lines.getD k2 ([])).length : Int) - 1))) rfl rfl rfl) ?_
    refine d_q rfl (fun w' H => x_mv (v := B (decide ((i2 : Int) < (((lines.getD k2 ([])).length : Int) - 1)))) rfl) ?_
    refine d_qg (decide ((i2 : Int) < (((lines.getD k2 ([])).length : Int) - 1))) rfl (gy_t rfl) (fun hg => (fun w' H => x_mv (v := ag) rfl)) ?_
    refine d_qg (decide ((i2 : Int) < (((lines.getD k2 ([])).length : Int) - 1))) rfl (gy_t rfl) (fun hg => (fun w' H => x_mv (v := I (m2 : Int)) rfl)) ?_
    obtain ⟨ao, hM⟩ := M.e_grd hM
    replace ao := M.imp_of ao
    simp only [Bool.and_eq_true, decide_eq_true_eq] at ao
    refine d_qg (decide ((i2 : Int) < (((lines.getD k2 ([])).length : Int) - 1))) rfl (gy_t rfl) (fun hg => (fun w' H => x_ix (v := vat ag 1 (Int.toNat (m2 : Int))) (gd_of hg (ag)) (gd_of hg (I (m2 : Int))) (Sl.ix (α := List Int) T73.und T73.size al (by have aa := ao.resolve_left (by rw [hg]; decide); first | exact aa | exact aa.1 | exact aa.2 | omega | (have ac := hg; simp at ac; omega)) (by have aa := ao.resolve_left (by rw [hg]; decide); first | exact aa | exact aa.1 | exact aa.2 | omega | (have ac := hg; simp at ac; omega))))) ?_
    obtain ⟨aJ, bU, aZ⟩ := gd_ex (c := decide ((i2 : Int) < (((lines.getD k2 ([])).length : Int) - 1))) fun hg => List_at al (i := (m2 : Int)) (by have aa := ao.resolve_left (by rw [hg]; decide); first | exact aa | exact aa.1 | exact aa.2 | omega | (have ac := hg; simp at ac; omega)) (by have aa := ao.resolve_left (by rw [hg]; decide); first | exact aa | exact aa.1 | exact aa.2 | omega | (have ac := hg; simp at ac; omega))
    replace aZ : (decide ((i2 : Int) < (((lines.getD k2 ([])).length : Int) - 1))) = true -> Sl _ aJ (lines.getD m2 ([])) := aZ
    refine d_qg (decide ((i2 : Int) < (((lines.getD k2 ([])).length : Int) - 1))) rfl (gy_t rfl) (fun hg => (fun w' H => x_ld (v := aJ) (gd_of hg (vat ag 1 (Int.toNat (m2 : Int)))) (ld_sc Sc34 (At.mono (bU hg) (am.at H))))) ?_
    refine d_qg (decide ((i2 : Int) < (((lines.getD k2 ([])).length : Int) - 1))) rfl (gy_t rfl) (fun hg => (fun w' H => x_mv (v := ae) rfl)) ?_
    refine d_qg (decide ((i2 : Int) < (((lines.getD k2 ([])).length : Int) - 1))) rfl (gy_t rfl) (fun hg => (fun w' H => x_mv (v := I (i2 : Int)) rfl)) ?_
    refine d_qg (decide ((i2 : Int) < (((lines.getD k2 ([])).length : Int) - 1))) rfl (gy_t rfl) (fun hg => (fun w' H => x_ix (v := vat ae 1 (Int.toNat (i2 : Int))) (gd_of hg (ae)) (gd_of hg (I (i2 : Int))) (Sl.ix (α := Int) T34.und T34.size ah (by have aa := ao.resolve_left (by rw [hg]; decide); first | exact aa | exact aa.1 | exact aa.2 | omega | (have ac := hg; simp at ac; omega)) (by have aa := ao.resolve_left (by rw [hg]; decide); first | exact aa | exact aa.1 | exact aa.2 | omega | (have ac := hg; simp at ac; omega))))) ?_
    refine d_qg (decide ((i2 : Int) < (((lines.getD k2 ([])).length : Int) - 1))) rfl (gy_t rfl) (fun hg => (fun w' H => x_ld (v := I ((lines.getD k2 ([])).getD i2 0)) (gd_of hg (vat ae 1 (Int.toNat (i2 : Int)))) (ld_sc Sc3 (At.mono (Int_at ah (i := (i2 : Int)) (by have aa := ao.resolve_left (by rw [hg]; decide); first | exact aa | exact aa.1 | exact aa.2 | omega | (have ac := hg; simp at ac; omega)) (by have aa := ao.resolve_left (by rw [hg]; decide); first | exact aa | exact aa.1 | exact aa.2 | omega | (have ac := hg; simp at ac; omega))) (am.at H))))) ?_
    refine d_l rfl ?_
    refine t_gcall (decide ((i2 : Int) < (((lines.getD k2 ([])).length : Int) - 1))) (gy_t rfl) cf95 (B ((lines.getD m2 ([])).contains ((lines.getD k2 ([])).getD i2 0))) (fun _ => [aJ, I ((lines.getD k2 ([])).getD i2 0)]) (fun hg => lst2 (gd_of hg (aJ)) (gd_of hg (I ((lines.getD k2 ([])).getD i2 0)))) H (fun hg => Ret.mono (has_any ((lines.getD k2 ([])).getD i2 0) _ ((aZ hg).mono (am.at H))) fun v_ w_ ⟨aC, ac⟩ => ⟨aC, H.ext ac⟩) ?_
    intro cJ H
    refine s_nil ⟨(H.pick [] (by decide) rfl), ?_⟩
    refine d_q rfl (fun w' H => x_pand (b := decide ((i2 : Int) < (((lines.getD k2 ([])).length : Int) - 1))) (r := (lines.getD m2 ([])).contains ((lines.getD k2 ([])).getD i2 0)) rfl (fun hb => gd_of (c := decide ((i2 : Int) < (((lines.getD k2 ([])).length : Int) - 1))) (by first | exact hb | (rw [hb]; rfl) | simp_all) (B ((lines.getD m2 ([])).contains ((lines.getD k2 ([])).getD i2 0)))) rfl) ?_
    refine d_nil ?_
    refine W.cond ((decide ((i2 : Int) < (((lines.getD k2 ([])).length : Int) - 1))) && ((lines.getD m2 ([])).contains ((lines.getD k2 ([])).getD i2 0))) rfl (fun a5 => ?_) (fun a5 => ?_)
    ·replace hM := M.e_t hM a5
     refine sQ rfl <| sA (B false) rfl <| sA (I 0) rfl <| s_nil ?_
     refine W.ret ?_
     have bV := M.e_inr hM aY
     subst bV
     replace hM := bk
     try dsimp only at hM
     have bW := M.e_inr hM aI
     subst bW
     replace hM := aV
     try dsimp only at hM
     have bX := M.e_inr hM aA
     subst bX
     replace hM := aH
     try dsimp only at hM
     have ak := M.e_pure hM
     exact ⟨_, resE_tmp2 rfl, ⟨false, 0, ak, rfl, H⟩⟩
    replace hM := M.e_f hM a5
    refine W.skip <| W.region rfl <| sM (I (m2 : Int)) rfl ?_
    obtain ⟨cK, hM⟩ := M.e_gd hM
    refine sR _ _ ((m2 : Int) + 1) rfl rfl rfl (by omega) <| sA (I ((m2 : Int) + 1)) rfl <| s_nil ?_
    exact ⟨bR, bS, m2 + 1, _, upds_of _ _ ⟨rfl, rfl, rfl, rfl, rfl, rfl, rfl, rfl, rfl, rfl, rfl, rfl, rfl, rfl, rfl, rfl, rfl, rfl, rfl, rfl, rfl, rfl, rfl, rfl, rfl, rfl, trivial⟩, M.e_inl hM aY, H⟩
   replace hM := M.e_f hM aE
   simp only [qz1, qz2, qz3, qz4, qz5, qz6, ne_eq, qz7] at aE
   refine W.exit ?_
   have bY := M.e_inr hM aY
   subst bY
   replace hM := bk
   try dsimp only at hM
   refine W.region rfl <| sM (I (i2 : Int)) rfl <| sR _ _ ((i2 : Int) + 1) rfl rfl rfl (by omega) <| sA (I ((i2 : Int) + 1)) rfl <| s_nil ?_
   exact ⟨bL, bM, i2 + 1, _, upds_of _ _ ⟨rfl, rfl, rfl, rfl, rfl, rfl, rfl, rfl, rfl, rfl, rfl, rfl, rfl, rfl, rfl, rfl, rfl, rfl, rfl, rfl, rfl, rfl, rfl, rfl, rfl, trivial⟩, M.e_inl hM aI, H⟩
  replace hM := M.e_f hM aD
  simp only [qz1, qz2, qz3, qz4, qz5, qz6, ne_eq, qz7] at aD
  refine W.exit ?_
  have bZ := M.e_inr hM aI
  subst bZ
  replace hM := aV
  try dsimp only at hM
  refine W.region rfl <| sM (I (k2 : Int)) rfl <| sR _ _ ((k2 : Int) + 1) rfl rfl rfl (by omega) <| sA (I ((k2 : Int) + 1)) rfl <| s_nil ?_
  exact ⟨bF, bG, k2 + 1, _, upds_of _ _ ⟨rfl, rfl, rfl, rfl, rfl, trivial⟩, M.e_inl hM aA, H⟩
 replace hM := M.e_f hM aB
 simp only [qz1, qz2, qz3, qz4, qz5, qz6, ne_eq, qz7] at aB
 refine W.exit ?_
 have b6 := M.e_inr hM aA
 subst b6
 replace hM := aH
 try dsimp only at hM
 refine sQ rfl <| sA (B true) rfl <| sA (I 0) rfl <| s_nil ?_
 refine W.ret ?_
 have ak := M.e_pure hM
 exact ⟨_, resE_tmp2 rfl, ⟨true, 0, ak, rfl, H⟩⟩

def zaE (w_ : List Work) (set : Nat) : (Nat × (List Int)) -> M ((Nat × (List Int)) ⊕ ((List Int) × (List Int))) := fun (i, l) =>
  bif decide ((i : Int) < (w_.length : Int)) then (
  M.grd (decide (0 <= (i : Int)) && decide ((i : Int) <= (62 : Int))) <|
  M.grd (decide (0 <= ((set : Int) / 2 ^ i)) && decide (((set : Int) / 2 ^ i) <= (9223372036854775807 : Int))) <|
  bif (((set : Int) / 2 ^ i) % 2) == 1 then (
  M.grd (decide ((l.length + ([(i : Int)]).length) * 8 <= 140737488355328)) <|
  M.pure (.inl (i + 1, l ++ ([(i : Int)]))))
  else (
  M.pure (.inl (i + 1, l))))
  else (
  M.pure (.inr (l, l)))
def zat (revised : List Int) (l3 : List Int) : (Bool × Nat) -> M ((Bool × Nat) ⊕ Bool) := fun (allowed, k) =>
  bif decide ((k : Int) < (revised.length : Int)) then (
  M.grd ((!allowed || (decide ((k : Int) < (revised.length : Int))))) <|
  M.pure (.inl ((allowed && (!(l3.contains (revised.getD k 0)))), k + 1)))
  else (
  M.pure (.inr allowed))
def za6 (w_ : List Work) (revised : List Int) (work : Int) : (Nat × Int) -> M ((Nat × Int) ⊕ Int) := fun (set, best) =>
  M.grd (decide (0 <= (w_.length : Int)) && decide ((w_.length : Int) <= (62 : Int)) && decide ((-9223372036854775808 : Int) <= (1 * 2 ^ (w_.length))) && decide ((1 * 2 ^ (w_.length)) <= (9223372036854775807 : Int))) <|
  bif decide ((set : Int) < (1 * 2 ^ (w_.length))) then (
  M.bind (M.iter (zaE w_ set) (0, [])) fun (l2, l3) =>
  bif ((l3.contains work) || ((best != (-1)) && (decide (best <= (l3.length : Int))))) then (
  M.grd (decide ((-9223372036854775808 : Int) <= ((set : Int) + 1)) && decide (((set : Int) + 1) <= (9223372036854775807 : Int))) <|
  M.pure (.inl (set + 1, best)))
  else (
  M.bind (M.iter (zat revised l3) (true, 0)) fun allowed2 =>
  M.bind (M.opt allowed2 (zaz w_ revised work l3) false) fun r3 =>
  bif (allowed2 && r3) then (
  M.grd (decide ((-9223372036854775808 : Int) <= ((set : Int) + 1)) && decide (((set : Int) + 1) <= (9223372036854775807 : Int))) <|
  M.pure (.inl (set + 1, (l3.length : Int))))
  else (
  M.grd (decide ((-9223372036854775808 : Int) <= ((set : Int) + 1)) && decide (((set : Int) + 1) <= (9223372036854775807 : Int))) <|
  M.pure (.inl (set + 1, best)))))
  else (
  M.pure (.inr best))
def zay (w_ : List Work) (revised : List Int) (work : Int) : M (Int × Int) :=
  M.bind (zaF w_ revised work) fun r2 =>
  bif r2 != 0 then (
  M.pure (0, r2))
  else (
  M.bind (M.iter (za6 w_ revised work) (0, -1)) fun best2 =>
  bif best2 == (-1) then (
  M.pure (0, 5))
  else (
  M.pure (best2, 0)))
theorem zdz {R : List Chunk} {aI : Cells} {ag : Value} {aJ : Cells} {ac : Value} (w_ : List Work) (revised : List Int) (work : Int) (aK : Reads R aI) (ak : Sl aI ag w_) (ax : Reads R aJ) (al : Sl aJ ac revised) {r : (Int × Int)} (hM : (zay w_ revised work).Ends r) (w : World) (H : St w w [] R) : Ret Try.prog 63 #[ag, ac, I work] w fun v w' => ∃ (y0 : Int) (y1 : Int), (y0, y1) = r /\ v = .tuple #[I y0, I y1] /\ St w w' [] R := by
 refine ret_of_W Try.func63 rfl rfl rfl ?_
 refine sQ rfl <| sA (I 0) rfl <| sA (I 0) rfl <| s_nil <| W.seq <| sQ rfl <| sM ag rfl <| sM ac rfl <| sM (I work) rfl ?_
 obtain ⟨bj, aU, hM⟩ := M.e_bind hM
 refine s_call cf120 [ag, ac, I work] rfl (zb9 w_ revised work (aK.app _) ak (ax.app _) al aU _ (St.give (T := []) H rfl)) ?_
 rintro vq aV ⟨r2, aW, hvq, aL⟩
 subst aW
 subst vq
 try dsimp only at hM
 replace H : St w aV [] R := H.back aL rfl
 clear aL
 refine sA (I r2) rfl <| s_nil <| sQ rfl <| sM (I r2) rfl <| sC _ _ (r2 != 0) rfl rfl rfl <| s_nil ?_
 refine W.cond (r2 != 0) rfl (fun am => ?_) (fun am => ?_)
 ·replace hM := M.e_t hM am
  simp only [qz1, qz2, qz3, qz4, qz5, qz6, ne_eq, qz7] at am
  refine sQ rfl <| sM (I r2) rfl <| sA (I 0) rfl <| sA (I r2) rfl <| s_nil ?_
  refine W.ret ?_
  have ai := M.e_pure hM
  exact ⟨_, resE_tmp2 rfl, ⟨0, r2, ai, rfl, H⟩⟩
 replace hM := M.e_f hM am
 simp only [qz1, qz2, qz3, qz4, qz5, qz6, ne_eq, qz7] at am
 refine W.skip <| sQ rfl <| sA (I (-1)) rfl <| s_nil <| W.seq <| sQ rfl <| sA (I 0) rfl <| s_nil <| W.block ?_
 obtain ⟨aX, ay, aY⟩ := M.e_bind hM
 obtain ⟨aM, ay⟩ := M.e_iter ay
 refine W.loop (fun m σ W => ∃ (set : Nat) (best : Int) (ρ : Env), σ = upds ρ [(0, ag), (1, ac), (2, I work), (9, I best), (10, I (set : Int))] /\ M.iterN (za6 w_ revised work) m (set, best) = some aX /\ St w W [] R) ?_ ?_
 ·exact ⟨_, 0, -1, _, upds_of _ _ ⟨rfl, rfl, rfl, rfl, rfl, trivial⟩, ay, H⟩
 rintro bk σ aZ ⟨set, best, ρ, rfl, aN, H⟩
 obtain ⟨az, aA, bl, hM, aw⟩ := M.e_iterN aN
 simp only [za6] at hM
 clear aN
 refine W.seq <| sQ rfl <| sM (I (set : Int)) rfl <| sM ag rfl ?_
 have bm := (ak).len_le
 refine s_val (x_lenS T39.und rfl ak) ?_
 obtain ⟨bn, hM⟩ := M.e_gd hM
 refine s_val (x_shl (a := 1) (b := (w_.length : Int)) (n := (w_.length)) rfl rfl (by omega)) <| sC _ _ (decide ((set : Int) < (1 * 2 ^ (w_.length)))) rfl rfl rfl <| s_nil ?_
 refine W.cond (decide ((set : Int) < (1 * 2 ^ (w_.length)))) rfl (fun ao => ?_) (fun ao => ?_)
 ·replace hM := M.e_t hM ao
  simp only [qz1, qz2, qz3, qz4, qz5, qz6, ne_eq, qz7] at ao
  refine W.skip <| W.seq <| W.block <| sQ rfl <| sA (.slice none 0 0) rfl <| s_nil <| W.seq <| sQ rfl <| sA (I 0) rfl <| s_nil ?_
  refine W.block ?_
  replace H : St w aZ [cOwn (α := Int) 3 (.slice none 0 0) ([])] R := H.nilOwn (α := Int) 3
  obtain ⟨a5, aB, a6⟩ := M.e_bind hM
  obtain ⟨aM, aB⟩ := M.e_iter aB
  refine W.loop (fun m σ W => ∃ (i : Nat) (l : List Int) (aa : Value) (ρ : Env), σ = upds ρ [(0, ag), (1, ac), (2, I work), (9, I best), (10, I (set : Int)), (11, aa), (12, I (i : Int))] /\ M.iterN (zaE w_ set) m (i, l) = some a5 /\ St w W [cOwn (α := Int) 3 aa l] R) ?_ ?_
  ·exact ⟨_, 0, [], (.slice none 0 0), _, upds_of _ _ ⟨rfl, rfl, rfl, rfl, rfl, rfl, rfl, trivial⟩, aB, H⟩
  rintro bo σ bp ⟨i, l, aa, ρ, rfl, aO, H⟩
  obtain ⟨aP, aQ, bq, hM, aC⟩ := M.e_iterN aO
  simp only [zaE] at hM
  clear aO
  refine W.seq <| sQ rfl <| sM (I (i : Int)) rfl <| sM ag rfl ?_
  have br := (ak).len_le
  refine s_val (x_lenS T39.und rfl ak) <| sC _ _ (decide ((i : Int) < (w_.length : Int))) rfl rfl rfl <| s_nil ?_
  refine W.cond (decide ((i : Int) < (w_.length : Int))) rfl (fun ap => ?_) (fun ap => ?_)
  ·replace hM := M.e_t hM ap
   simp only [qz1, qz2, qz3, qz4, qz5, qz6, ne_eq, qz7] at ap
   refine W.skip <| W.seq <| W.block <| sQ rfl <| sM (I (set : Int)) rfl <| sM (I (i : Int)) rfl ?_
   obtain ⟨bt, hM⟩ := M.e_gd hM
   refine s_val (x_shr (a := (set : Int)) (b := (i : Int)) (n := i) rfl rfl (by omega)) ?_
   obtain ⟨bu, hM⟩ := M.e_gd hM
   refine s_val (x_and1 (a := (set : Int) / 2 ^ i) rfl rfl (by omega)) <| sC _ _ ((((set : Int) / 2 ^ i) % 2) == 1) rfl rfl rfl <| s_nil ?_
   refine W.cond ((((set : Int) / 2 ^ i) % 2) == 1) rfl (fun aq => ?_) (fun aq => ?_)
   ·replace hM := M.e_t hM aq
    simp only [qz1, qz2, qz3, qz4, qz5, qz6, ne_eq, qz7] at aq
    refine W.region rfl <| sM aa rfl <| sM (I (i : Int)) rfl ?_
    refine t_bs (α := Int) T34 [I (i : Int)] [(i : Int)] H rfl (.cons rfl (Flat.rep_enc _ (i : Int)) <| .nil) rfl rfl rfl ?_
    intro aR bv H
    obtain ⟨bw, hM⟩ := M.e_gd hM
    refine t_app (α := Int) (k := 1) (l := l) (l2 := [(i : Int)]) (l' := l ++ ([(i : Int)])) (vy := aR) T34 rfl H rfl rfl rfl (ownSl (H.get (k := 0) rfl)) (ownLe _ (H.get (k := 0) rfl)) (rfl) (by first | omega | (simp only [List.length_nil] at *; omega)) ?_
    intro aD a7 H
    replace H : St w a7 [cOwn (α := Int) 3 aR ([(i : Int)]), cOwn (α := Int) 3 aD (l ++ ([(i : Int)]))] R := H
    refine sA aD rfl <| s_nil <| W.region rfl <| sM (I (i : Int)) rfl <| sR _ _ ((i : Int) + 1) rfl rfl rfl (by omega) <| sA (I ((i : Int) + 1)) rfl <| s_nil ?_
    exact ⟨aP, aQ, i + 1, l ++ ([(i : Int)]), aD, _, upds_of _ _ ⟨rfl, rfl, rfl, rfl, rfl, rfl, rfl, trivial⟩, M.e_inl hM aC, (H.pick [1] (by decide) rfl)⟩
   replace hM := M.e_f hM aq
   simp only [qz1, qz2, qz3, qz4, qz5, qz6, ne_eq, qz7] at aq
   refine W.skip <| W.region rfl <| sM (I (i : Int)) rfl <| sR _ _ ((i : Int) + 1) rfl rfl rfl (by omega) <| sA (I ((i : Int) + 1)) rfl <| s_nil ?_
   exact ⟨aP, aQ, i + 1, l, aa, _, upds_of _ _ ⟨rfl, rfl, rfl, rfl, rfl, rfl, rfl, trivial⟩, M.e_inl hM aC, H⟩
  replace hM := M.e_f hM ap
  simp only [qz1, qz2, qz3, qz4, qz5, qz6, ne_eq, qz7] at ap
  refine W.exit ?_
  have a8 := M.e_inr hM aC
  subst a8
  replace hM := a6
  try dsimp only at hM
  refine W.seq <| sQ rfl <| sM aa rfl <| sM (I work) rfl ?_
  refine s_call cf95 [aa, I work] rfl (has_any work _ ((ownSl (H.get (k := 0) rfl)).mono (ownLe _ (H.get (k := 0) rfl)))) ?_
  rintro _ a9 ⟨rfl, ah⟩
  replace H : St w a9 [cOwn (α := Int) 3 aa l] R := H.ext ah
  clear ah
  refine sM (B (l.contains work)) rfl <| g_val (!(l.contains work)) (gy_f rfl) (fun hg => x_mv (v := I best) rfl) <| g_val (!(l.contains work)) (gy_f rfl) (fun hg => x_cmp (kd := .i64) (r := best != (-1)) (gd_of hg (I best)) rfl rfl) <| g_val (!(l.contains work)) (gy_f rfl) (fun hg => x_mv (v := B (best != (-1))) (gd_of hg (B (best != (-1))))) <| g_val ((!(l.contains work)) && (best != (-1))) (gy_gt rfl rfl) (fun hg => x_mv (v := aa) rfl) <| g_val ((!(l.contains work)) && (best != (-1))) (gy_gt rfl rfl) (fun hg => x_lenS T34.und (gd_of hg (aa)) (ownSl (H.get (k := 0) rfl))) <| g_val ((!(l.contains work)) && (best != (-1))) (gy_gt rfl rfl) (fun hg => x_mv (v := I best) rfl) <| g_val ((!(l.contains work)) && (best != (-1))) (gy_gt rfl rfl) (fun hg => x_cmp (kd := .i64) (r := decide (best <= (l.length : Int))) (gd_of hg (I (l.length : Int))) (gd_of hg (I best)) rfl) <| g_val (!(l.contains work)) (gy_f rfl) (fun hg => x_pand (b := best != (-1)) (r := decide (best <= (l.length : Int))) (gd_of hg (B (best != (-1)))) (fun hb => gd_of (c := ((!(l.contains work)) && (best != (-1)))) (by first | exact hb | (rw [hb]; rfl) | simp_all) (B (decide (best <= (l.length : Int))))) rfl) <| s_val (x_por (b := l.contains work) (r := ((best != (-1)) && (decide (best <= (l.length : Int))))) rfl rfl (fun hb => gd_of (c := !(l.contains work)) (by first | exact hb | (rw [hb]; rfl) | simp_all) (B ((best != (-1)) && (decide (best <= (l.length : Int))))))) <| s_nil ?_
  refine W.cond ((l.contains work) || ((best != (-1)) && (decide (best <= (l.length : Int))))) rfl (fun aE => ?_) (fun aE => ?_)
  ·replace hM := M.e_t hM aE
   refine W.exit ?_
   refine W.region rfl <| sM (I (set : Int)) rfl ?_
   obtain ⟨bx, hM⟩ := M.e_gd hM
   refine sR _ _ ((set : Int) + 1) rfl rfl rfl (by omega) <| sA (I ((set : Int) + 1)) rfl <| s_nil ?_
   exact ⟨az, aA, set + 1, best, _, upds_of _ _ ⟨rfl, rfl, rfl, rfl, rfl, trivial⟩, M.e_inl hM aw, (H.pick [] (by decide) rfl)⟩
  replace hM := M.e_f hM aE
  refine W.skip <| sQ rfl <| sA (B true) rfl <| s_nil <| W.seq <| sQ rfl <| sA (I 0) rfl <| s_nil <| W.block ?_
  obtain ⟨ba, aF, bb⟩ := M.e_bind hM
  obtain ⟨aM, aF⟩ := M.e_iter aF
  refine W.loop (fun m σ W => ∃ (allowed : Bool) (k : Nat) (ρ : Env), σ = upds ρ [(0, ag), (1, ac), (2, I work), (9, I best), (10, I (set : Int)), (11, aa), (13, B allowed), (14, I (k : Int)), (48, gd (!(l.contains work)) (I best)), (49, gd (!(l.contains work)) (B (best != (-1)))), (50, gd (!(l.contains work)) (B (best != (-1)))), (51, gd ((!(l.contains work)) && (best != (-1))) aa), (52, gd ((!(l.contains work)) && (best != (-1))) (I (l.length : Int))), (53, gd ((!(l.contains work)) && (best != (-1))) (I best)), (54, gd ((!(l.contains work)) && (best != (-1))) (B (decide (best <= (l.length : Int))))), (55, gd (!(l.contains work)) (B ((best != (-1)) && (decide (best <= (l.length : Int))))))] /\ M.iterN (zat revised l) m (allowed, k) = some ba /\ St w W [cOwn (α := Int) 3 aa l] R) ?_ ?_
  ·exact ⟨_, true, 0, _, upds_of _ _ ⟨rfl, rfl, rfl, rfl, rfl, rfl, rfl, rfl, rfl, rfl, rfl, rfl, rfl, rfl, rfl, rfl, trivial⟩, aF, H⟩
  rintro bz σ bA ⟨allowed, k, ρ, rfl, aS, H⟩
  obtain ⟨bc, bf, bB, hM, aT⟩ := M.e_iterN aS
  simp only [zat] at hM
  clear aS
  refine W.seq <| sQ rfl <| sM (I (k : Int)) rfl <| sM ac rfl ?_
  have bC := (al).len_le
  refine s_val (x_lenS T34.und rfl al) <| sC _ _ (decide ((k : Int) < (revised.length : Int))) rfl rfl rfl <| s_nil ?_
  refine W.cond (decide ((k : Int) < (revised.length : Int))) rfl (fun au => ?_) (fun au => ?_)
  ·replace hM := M.e_t hM au
   simp only [qz1, qz2, qz3, qz4, qz5, qz6, ne_eq, qz7] at au
   refine W.skip <| W.seq <| W.block <| W.region rfl <| sM (B allowed) rfl <| sM (B allowed) rfl <| g_val allowed (gy_t rfl) (fun hg => x_mv (v := aa) rfl) <| g_val allowed (gy_t rfl) (fun hg => x_mv (v := ac) rfl) <| g_val allowed (gy_t rfl) (fun hg => x_mv (v := I (k : Int)) rfl) ?_
   obtain ⟨aj, hM⟩ := M.e_grd hM
   replace aj := M.imp_of aj
   simp only [Bool.and_eq_true, decide_eq_true_eq] at aj
   refine g_val allowed (gy_t rfl) (fun hg => x_ix (v := vat ac 1 (Int.toNat (k : Int))) (gd_of hg (ac)) (gd_of hg (I (k : Int))) (Sl.ix (α := Int) T34.und T34.size al (by have ae := aj.resolve_left (by rw [hg]; decide); first | exact ae | exact ae.1 | exact ae.2 | omega | (have ah := hg; simp at ah; omega)) (by have ae := aj.resolve_left (by rw [hg]; decide); first | exact ae | exact ae.1 | exact ae.2 | omega | (have ah := hg; simp at ah; omega)))) <| g_val allowed (gy_t rfl) (fun hg => x_ld (v := I (revised.getD k 0)) (gd_of hg (vat ac 1 (Int.toNat (k : Int)))) (ld_sc Sc3 (At.mono (Int_at al (i := (k : Int)) (by have ae := aj.resolve_left (by rw [hg]; decide); first | exact ae | exact ae.1 | exact ae.2 | omega | (have ah := hg; simp at ah; omega)) (by have ae := aj.resolve_left (by rw [hg]; decide); first | exact ae | exact ae.1 | exact ae.2 | omega | (have ah := hg; simp at ah; omega))) (ax.at H)))) ?_
   refine t_gcall allowed (gy_t rfl) cf95 (B (l.contains (revised.getD k 0))) (fun _ => [aa, I (revised.getD k 0)]) (fun hg => lst2 (gd_of hg (aa)) (gd_of hg (I (revised.getD k 0)))) H (fun hg => Ret.mono (has_any (revised.getD k 0) _ ((ownSl (H.get (k := 0) rfl)).mono (ownLe _ (H.get (k := 0) rfl)))) fun v_ w_ ⟨aG, ah⟩ => ⟨aG, H.ext ah⟩) ?_
   intro bD H
   refine g_val allowed (gy_t rfl) (fun hg => x_not (b := l.contains (revised.getD k 0)) (gd_of hg (B (l.contains (revised.getD k 0))))) <| s_val (x_pand (b := allowed) (r := !(l.contains (revised.getD k 0))) rfl (fun hb => gd_of (c := allowed) (by first | exact hb | (rw [hb]; rfl) | simp_all) (B (!(l.contains (revised.getD k 0))))) rfl) <| sA (B (allowed && (!(l.contains (revised.getD k 0))))) rfl <| s_nil <| W.region rfl <| sM (I (k : Int)) rfl <| sR _ _ ((k : Int) + 1) rfl rfl rfl (by omega) <| sA (I ((k : Int) + 1)) rfl <| s_nil ?_
   exact ⟨bc, bf, (allowed && (!(l.contains (revised.getD k 0)))), k + 1, _, upds_of _ _ ⟨rfl, rfl, rfl, rfl, rfl, rfl, rfl, rfl, rfl, rfl, rfl, rfl, rfl, rfl, rfl, rfl, trivial⟩, M.e_inl hM aT, H⟩
  replace hM := M.e_f hM au
  simp only [qz1, qz2, qz3, qz4, qz5, qz6, ne_eq, qz7] at au
  refine W.exit ?_
  have bg := M.e_inr hM aT
  subst bg
  replace hM := bb
  try dsimp only at hM
  refine sQ rfl <| sM (B allowed) rfl <| sM (B allowed) rfl <| g_val allowed (gy_t rfl) (fun hg => x_mv (v := ag) rfl) <| g_val allowed (gy_t rfl) (fun hg => x_mv (v := ac) rfl) <| g_val allowed (gy_t rfl) (fun hg => x_mv (v := I work) rfl) <| g_val allowed (gy_t rfl) (fun hg => x_mv (v := aa) rfl) ?_
  obtain ⟨r3, bh, hM⟩ := M.e_bind hM
  refine t_gcall allowed (gy_t rfl) cf121 (B r3) (fun _ => [ag, ac, I work, aa]) (fun hg => lst4 (gd_of hg (ag)) (gd_of hg (ac)) (gd_of hg (I work)) (gd_of hg (aa))) H (fun hg => (zcP w_ revised work l (aK.app _) ak (ax.app _) al (Reads.of (k := 0) rfl ownLe) (ownSl (H.get (k := 0) rfl)) (M.e_opt bh hg) _ (H.give (A := []) rfl)).mono fun v_ w_ ⟨y_, ai, aG, H_⟩ => by subst ai; exact ⟨aG, H.via H_⟩) ?_
  intro bE H
  refine s_val (x_pand (b := allowed) (r := r3) rfl (fun hb => gd_of (c := allowed) (by first | exact hb | (rw [hb]; rfl) | simp_all) (B r3)) rfl) <| s_nil ?_
  refine W.cond (allowed && r3) rfl (fun aH => ?_) (fun aH => ?_)
  ·replace hM := M.e_t hM aH
   refine W.region rfl <| sM aa rfl ?_
   have bF := ((ownSl (H.get (k := 0) rfl))).len_le
   refine s_val (x_lenS T34.und rfl (ownSl (H.get (k := 0) rfl))) <| sA (I (l.length : Int)) rfl <| s_nil <| W.region rfl <| sM (I (set : Int)) rfl ?_
   obtain ⟨bG, hM⟩ := M.e_gd hM
   refine sR _ _ ((set : Int) + 1) rfl rfl rfl (by omega) <| sA (I ((set : Int) + 1)) rfl <| s_nil ?_
   exact ⟨az, aA, set + 1, (l.length : Int), _, upds_of _ _ ⟨rfl, rfl, rfl, rfl, rfl, trivial⟩, M.e_inl hM aw, (H.pick [] (by decide) rfl)⟩
  replace hM := M.e_f hM aH
  refine W.skip <| W.region rfl <| sM (I (set : Int)) rfl ?_
  obtain ⟨bH, hM⟩ := M.e_gd hM
  refine sR _ _ ((set : Int) + 1) rfl rfl rfl (by omega) <| sA (I ((set : Int) + 1)) rfl <| s_nil ?_
  exact ⟨az, aA, set + 1, best, _, upds_of _ _ ⟨rfl, rfl, rfl, rfl, rfl, trivial⟩, M.e_inl hM aw, (H.pick [] (by decide) rfl)⟩
 replace hM := M.e_f hM ao
 simp only [qz1, qz2, qz3, qz4, qz5, qz6, ne_eq, qz7] at ao
 refine W.exit ?_
 have bi := M.e_inr hM aw
 subst bi
 replace hM := aY
 try dsimp only at hM
 refine W.seq <| sQ rfl <| sM (I best) rfl <| sC _ _ (best == (-1)) rfl rfl rfl <| s_nil ?_
 refine W.cond (best == (-1)) rfl (fun av => ?_) (fun av => ?_)
 ·replace hM := M.e_t hM av
  simp only [qz1, qz2, qz3, qz4, qz5, qz6, ne_eq, qz7] at av
  refine sQ rfl <| sA (I 0) rfl <| sA (I 5) rfl <| s_nil ?_
  refine W.ret ?_
  have ai := M.e_pure hM
  exact ⟨_, resE_tmp2 rfl, ⟨0, 5, ai, rfl, H⟩⟩
 replace hM := M.e_f hM av
 simp only [qz1, qz2, qz3, qz4, qz5, qz6, ne_eq, qz7] at av
 refine W.skip <| sQ rfl <| sM (I best) rfl <| sA (I best) rfl <| sA (I 0) rfl <| s_nil ?_
 refine W.ret ?_
 have ai := M.e_pure hM
 exact ⟨_, resE_tmp2 rfl, ⟨best, 0, ai, rfl, H⟩⟩

def zbn (a : List (List Int)) (b : List (List Int)) : Nat -> M (Nat ⊕ (Unit ⊕ Unit)) := fun i =>
  bif decide ((i : Int) < (a.length : Int)) then (
  M.grd (decide ((i : Int) < (a.length : Int))) <|
  M.grd (decide ((i : Int) < (b.length : Int))) <|
  M.bind (M.pure (decide ((a.getD i ([])) = (b.getD i ([]))))) fun s =>
  bif !s then (
  M.pure (.inr (.inl ())))
  else (
  M.pure (.inl (i + 1))))
  else (
  M.pure (.inr (.inr ())))
def zbS (a : List (List Int)) (b : List (List Int)) : M Bool :=
  bif (a.length : Int) != (b.length : Int) then (
  M.pure false)
  else (
  M.bind (M.iter (zbn a b) 0) fun x_ => match x_ with
  | (.inl (_ : Unit)) => (
  M.pure false)
  | (.inr (_ : Unit)) => (
  M.pure true))
theorem zde {R : List Chunk} {ax : Cells} {aa : Value} {ay : Cells} {ac : Value} (a : List (List Int)) (b : List (List Int)) (az : Reads R ax) (ae : Sl ax aa a) (aA : Reads R ay) (ak : Sl ay ac b) {r : Bool} (hM : (zbS a b).Ends r) (w : World) (H : St w w [] R) : Ret Try.prog 66 #[aa, ac] w fun v w' => ∃ (y0 : Bool), y0 = r /\ v = B y0 /\ St w w' [] R := by
 refine ret_of_W Try.func66 rfl rfl rfl ?_
 refine sQ rfl <| sA (B false) rfl <| s_nil <| W.seq <| sQ rfl <| sM aa rfl ?_
 have aN := (ae).len_le
 refine s_val (x_lenS T73.und rfl ae) <| sM ac rfl ?_
 have aO := (ak).len_le
 refine s_val (x_lenS T73.und rfl ak) <| sC _ _ ((a.length : Int) != (b.length : Int)) rfl rfl rfl <| s_nil ?_
 refine W.cond ((a.length : Int) != (b.length : Int)) rfl (fun ag => ?_) (fun ag => ?_)
 ·replace hM := M.e_t hM ag
  simp only [qz1, qz2, qz3, qz4, qz5, qz6, ne_eq, qz7] at ag
  refine sQ rfl <| sA (B false) rfl <| s_nil ?_
  refine W.ret ?_
  have ah := M.e_pure hM
  exact ⟨_, resE_tmp rfl, ⟨false, ah, rfl, H⟩⟩
 replace hM := M.e_f hM ag
 simp only [qz1, qz2, qz3, qz4, qz5, qz6, ne_eq, qz7] at ag
 refine W.skip <| W.seq <| sQ rfl <| sA (I 0) rfl <| s_nil <| W.block ?_
 obtain ⟨aE, ao, aB⟩ := M.e_bind hM
 obtain ⟨aP, ao⟩ := M.e_iter ao
 refine W.loop (fun m σ W => ∃ (i : Nat) (ρ : Env), σ = upds ρ [(0, aa), (1, ac), (5, I (i : Int))] /\ M.iterN (zbn a b) m i = some aE /\ St w W [] R) ?_ ?_
 ·exact ⟨_, 0, _, upds_of _ _ ⟨rfl, rfl, rfl, trivial⟩, ao, H⟩
 rintro aQ σ aR ⟨i, ρ, rfl, aC, H⟩
 obtain ⟨aF, aG, aS, hM, ap⟩ := M.e_iterN aC
 simp only [zbn] at hM
 clear aC
 refine W.seq <| sQ rfl <| sM (I (i : Int)) rfl <| sM aa rfl ?_
 have aT := (ae).len_le
 refine s_val (x_lenS T73.und rfl ae) <| sC _ _ (decide ((i : Int) < (a.length : Int))) rfl rfl rfl <| s_nil ?_
 refine W.cond (decide ((i : Int) < (a.length : Int))) rfl (fun ai => ?_) (fun ai => ?_)
 ·replace hM := M.e_t hM ai
  simp only [qz1, qz2, qz3, qz4, qz5, qz6, ne_eq, qz7] at ai
  refine W.skip <| W.seq <| W.block <| W.seq ?_
  refine W.draw (fun W => St w W [] R) [(0, true), (1, true), (2, true), (3, true), (4, true), (5, true), (6, true), (7, true), (8, false), (9, true)] mixed (by decide +kernel) rfl ?_
  intro aH aj
  replace H : St w aH [] R := H.ext aj
  clear aj
  refine ⟨(H.pick [] (by decide) rfl), ?_⟩
  refine d_q rfl (fun w' H => x_mv (v := aa) rfl) ?_
  refine d_q rfl (fun w' H => x_mv (v := I (i : Int)) rfl) ?_
  obtain ⟨aU, hM⟩ := M.e_gd hM
  refine d_q rfl (fun w' H => x_ix (v := vat aa 1 (Int.toNat (i : Int))) rfl rfl (Sl.ix (α := List Int) T73.und T73.size ae (by omega) (by omega))) ?_
  obtain ⟨aq, aI, al⟩ := List_at ae (i := (i : Int)) (by omega) (by omega)
  replace al : Sl _ aq (a.getD i ([])) := al
  have aV := al.len_le
  refine d_q rfl (fun w' H => x_ld (v := aq) rfl (ld_sc Sc34 (At.mono (aI) (az.at H)))) ?_
  refine d_q rfl (fun w' H => x_mv (v := ac) rfl) ?_
  refine d_q rfl (fun w' H => x_mv (v := I (i : Int)) rfl) ?_
  obtain ⟨aW, hM⟩ := M.e_gd hM
  refine d_q rfl (fun w' H => x_ix (v := vat ac 1 (Int.toNat (i : Int))) rfl rfl (Sl.ix (α := List Int) T73.und T73.size ak (by omega) (by omega))) ?_
  obtain ⟨au, aJ, am⟩ := List_at ak (i := (i : Int)) (by omega) (by omega)
  replace am : Sl _ au (b.getD i ([])) := am
  have aX := am.len_le
  refine d_q rfl (fun w' H => x_ld (v := au) rfl (ld_sc Sc34 (At.mono (aJ) (aA.at H)))) ?_
  refine d_l rfl ?_
  obtain ⟨s, av, hM⟩ := M.e_bind hM
  replace av := M.e_pure av
  refine s_call cf25 [aq, au] rfl (by have aD := (same_int _ (al.mono (az.at H)) (am.mono (aA.at H))); rw [av] at aD; exact aD) ?_
  rintro _ aK ⟨rfl, aj⟩
  replace H : St w aK [] R := H.ext aj
  clear aj
  refine s_nil ⟨(H.pick [] (by decide) rfl), ?_⟩
  refine d_q rfl (fun w' H => x_not (b := s) rfl) ?_
  refine d_nil ?_
  refine W.cond (!s) rfl (fun aw => ?_) (fun aw => ?_)
  ·replace hM := M.e_t hM aw
   refine sQ rfl <| sA (B false) rfl <| s_nil ?_
   refine W.ret ?_
   have aL := M.e_inr hM ap
   subst aL
   replace hM := aB
   try dsimp only at hM
   have ah := M.e_pure hM
   exact ⟨_, resE_tmp rfl, ⟨false, ah, rfl, H⟩⟩
  replace hM := M.e_f hM aw
  refine W.skip <| W.region rfl <| sM (I (i : Int)) rfl <| sR _ _ ((i : Int) + 1) rfl rfl rfl (by omega) <| sA (I ((i : Int) + 1)) rfl <| s_nil ?_
  exact ⟨aF, aG, i + 1, _, upds_of _ _ ⟨rfl, rfl, rfl, trivial⟩, M.e_inl hM ap, H⟩
 replace hM := M.e_f hM ai
 simp only [qz1, qz2, qz3, qz4, qz5, qz6, ne_eq, qz7] at ai
 refine W.exit ?_
 have aM := M.e_inr hM ap
 subst aM
 replace hM := aB
 try dsimp only at hM
 refine sQ rfl <| sA (B true) rfl <| s_nil ?_
 refine W.ret ?_
 have ah := M.e_pure hM
 exact ⟨_, resE_tmp rfl, ⟨true, ah, rfl, H⟩⟩

def zaP (w_ : List Work) (revised : List Int) (frozen : List Int) (lines : List (List Int)) (r4 : List Work) (r5 : List (List Int)) : M Bool :=
  M.bind (zbR r4 w_) fun aa =>
  M.bind (M.pure (decide (revised = revised))) fun s =>
  M.bind (M.pure (decide (frozen = frozen))) fun s2 =>
  M.bind (M.opt ((aa && s) && s2) (zbS r5 lines) false) fun ac =>
  M.bind (M.opt (((aa && s) && s2) && ac) (zbE) false) fun ae =>
  M.pure ((((aa && s) && s2) && ac) && ae)
def zaU (w_ : List Work) (revised : List Int) (work : Int) (frozen : List Int) (lines : List (List Int)) (r4 : List Work) (r5 : List (List Int)) (ae : Int) (ag : Int) : M Bool :=
  M.bind (zaq r4 revised work) fun (aa, ac) =>
  bif ((ac != ag) || ((aa.length : Int) != ae)) then (
  M.pure false)
  else (
  bif ac == 0 then (
  M.bind (zam w_) fun ah =>
  M.bind (zbd ah revised work aa) fun (ai, aj) =>
  bif ((aj != 0) || (!ai)) then (
  M.pure false)
  else (
  zaP w_ revised frozen lines r4 r5))
  else (
  zaP w_ revised frozen lines r4 r5))
def zbU (w_ : List Work) (revised : List Int) (work : Int) (frozen : List Int) (lines : List (List Int)) : M Bool :=
  M.bind (zbf lines) fun r2 =>
  M.grd (decide ((r2.length + ([revised, frozen]).length) * 24 <= 140737488355328)) <|
  bif (((!(littleB w_ (r2 ++ ([revised, frozen])))) || ((decide (9 < (w_.length : Int))) && (decide ((w_.length : Int) <= 30)))) || (decide (35 < (lines.length : Int)))) then (
  M.bind (zbE) fun r3 =>
  M.pure r3)
  else (
  M.bind (zbD w_) fun r4 =>
  M.grd (decide (revised.length <= 1000000)) <|
  M.grd (decide (frozen.length <= 1000000)) <|
  M.bind (zbf lines) fun r5 =>
  M.bind (zae r4 revised work frozen) fun (r0, r1) =>
  M.bind (zam w_) fun r6 =>
  M.bind (zal r6 revised work frozen) fun (ah, ai) =>
  bif ((r0 != ah) || (r1 != ai)) then (
  M.pure false)
  else (
  M.bind (zby r4 revised work r5) fun (aj, ak) =>
  M.bind (zam w_) fun r7 =>
  M.bind (zbd r7 revised work lines) fun (al, am) =>
  bif ((aj != al) || (ak != am)) then (
  M.pure false)
  else (
  M.bind (zam w_) fun r8 =>
  M.bind (zay r8 revised work) fun (aa, ac) =>
  M.bind (zah r4 revised work) fun (ae, ag) =>
  bif ((ag != ac) || ((ae.length : Int) != aa)) then (
  M.pure false)
  else (
  bif ag == 0 then (
  M.bind (zam w_) fun r9 =>
  M.bind (zal r9 revised work ae) fun (ao, ap) =>
  bif ((ap != 0) || (!ao)) then (
  M.pure false)
  else (
  zaU w_ revised work frozen lines r4 r5 aa ac))
  else (
  zaU w_ revised work frozen lines r4 r5 aa ac)))))
theorem zdv {R : List Chunk} {bR : Cells} {aC : Value} {bC : Cells} {aG : Value} {bD : Cells} {aT : Value} {bS : Cells} {aU : Value} (w_ : List Work) (revised : List Int) (work : Int) (frozen : List Int) (lines : List (List Int)) (aP : Reads R bR) (bc : Sl bR aC w_) (aY : Reads R bC) (bh : Sl bC aG revised) (bf : Reads R bD) (bw : Sl bD aT frozen) (bx : Reads R bS) (bo : Sl bS aU lines) {r : Bool} (hM : (zbU w_ revised work frozen lines).Ends r) (w : World) (H : St w w [] R) : Ret Try.prog 10 #[aC, aG, I work, aT, aU] w fun v w' => ∃ (y0 : Bool), y0 = r /\ v = B y0 /\ St w w' [] R := by
 refine ret_of_W Try.func10 rfl rfl rfl ?_
 refine sQ rfl <| sA (B false) rfl <| s_nil <| W.seq <| sQ rfl <| sM aC rfl <| sM aU rfl ?_
 obtain ⟨dz, bY, hM⟩ := M.e_bind hM
 refine s_call cf58 [aU] rfl (zcQ lines (bx.app _) bo bY _ (St.give (T := []) H rfl)) ?_
 rintro vq bZ ⟨r2, bT, ai, ak, b6, hvq, ae, bm⟩
 subst b6
 subst vq
 try dsimp only at hM
 replace H : St w bZ [cOwn (α := Raw 0) 34 bT ai, cRo ak] R := H.back ae rfl
 clear ae
 refine sM aG rfl <| sM aT rfl ?_
 obtain ⟨aj, H⟩ := H.emptyE
 have bk := bh
 replace bk := bk.mono (Cells.sup_l _ aj.cells)
 have bp := bw
 replace bk := bk.mono (Cells.sup_monoL (Cells.sup_l _ _) ((Reads.sup aY bf).at H) (roLe _ (H.get (k := 0) rfl)))
 replace bp := bp.mono ((Cells.sup_r (aY.at H) (bf.at H)).trans (Cells.sup_l _ aj.cells))
 obtain ⟨aa, bU⟩ : ∃ r : Raw 0, r.cs = [aG] := ⟨Raw.of [aG] rfl (by simp only [List.all_cons, List.all_nil, Bool.true_and, Bool.and_true, Sl.oc bk]; try rfl), rfl⟩
 obtain ⟨ac, bV⟩ : ∃ r : Raw 0, r.cs = [aT] := ⟨Raw.of [aT] rfl (by simp only [List.all_cons, List.all_nil, Bool.true_and, Bool.and_true, Sl.oc bp]; try rfl), rfl⟩
 have b9 : RepR (α := List Int) (Cells.sup (Cells.sup bC bD) aj.cells) [aa, ac] [revised, frozen] := .cons (by rw [bU]; exact ⟨_, rfl, bk⟩) <| .cons (by rw [bV]; exact ⟨_, rfl, bp⟩) <| .nil
 refine t_bs (α := Raw 0) T73 [aG, aT] [aa, ac] H rfl (.cons (by rw [show (Flat.enc aa : List Value) = aa.cs from rfl, bU]; exact Sl.cells bk) (Flat.rep_enc _ _) <| .cons (by rw [show (Flat.enc ac : List Value) = ac.cs from rfl, bV]; exact Sl.cells bp) (Flat.rep_enc _ _) <| .nil) rfl rfl rfl ?_
 intro al ca H
 replace H : St w ca [cOwn (α := Raw 0) 34 al ([aa, ac]), cRo aj, cOwn (α := Raw 0) 34 bT ai, cRo ak] R := H
 obtain ⟨dA, hM⟩ := M.e_gd hM
 have bz := b9
 replace bm := bm.mono (Cells.sup_r ((Reads.sup aY bf).at H) (roLe _ (H.get (k := 3) rfl)))
 obtain ⟨ap, H, cb, cc⟩ := H.joinE (i := 3) (j := 1) rfl rfl
 replace bm := bm.mono (Cells.sup_mono cb ((Reads.sup aY bf).at H) (roLe _ (H.get (k := 0) rfl)))
 replace bz := bz.mono (Cells.sup_mono cc ((Reads.sup aY bf).at H) (roLe _ (H.get (k := 0) rfl)))
 have cd := bm.app bz
 refine t_app (α := Raw 0) (k := 3) (l := ai) (l2 := [aa, ac]) (l' := ai ++ ([aa, ac])) (vy := al) T73 rfl H rfl rfl rfl (ownSl (H.get (k := 1) rfl)) (ownLe _ (H.get (k := 1) rfl)) (rfl) (by have a_ := bm.len; have b_ := bz.len; (try simp only [List.length_nil] at *); first | omega | (rw [a_, b_]; omega)) ?_
 intro am ce H
 replace H : St w ce [cRo ap, cOwn (α := Raw 0) 34 al ([aa, ac]), cRo aj, cOwn (α := Raw 0) 34 am (ai ++ ([aa, ac])), cRo ak] R := H
 refine s_call cf16 [aC, am] rfl (little_any _ (bc.mono (aP.at H)) ((rowSl rfl (H.get (k := 3) rfl) (Cells.sup_le ((Reads.sup aY bf).at H) (roLe _ (H.get (k := 0) rfl))) cd).mono (Cells.sup_le (ownLe _ (H.get (k := 3) rfl)) (Cells.sup_le ((Reads.sup aY bf).at H) (roLe _ (H.get (k := 0) rfl)))))) ?_
 rintro _ cf ⟨rfl, a6⟩
 replace H : St w cf [cRo ap, cOwn (α := Raw 0) 34 al ([aa, ac]), cRo aj, cOwn (α := Raw 0) 34 am (ai ++ ([aa, ac])), cRo ak] R := H.ext a6
 clear a6
 refine s_val (x_not (b := littleB w_ (r2 ++ ([revised, frozen]))) rfl) <| sM (B (!(littleB w_ (r2 ++ ([revised, frozen]))))) rfl <| g_val (!(!(littleB w_ (r2 ++ ([revised, frozen]))))) (gy_f rfl) (fun hg => x_mv (v := aC) rfl) <| g_val (!(!(littleB w_ (r2 ++ ([revised, frozen]))))) (gy_f rfl) (fun hg => x_lenS T22.und (gd_of hg (aC)) bc) <| g_val (!(!(littleB w_ (r2 ++ ([revised, frozen]))))) (gy_f rfl) (fun hg => x_cmp (kd := .i64) (r := decide (9 < (w_.length : Int))) (gd_of hg (I (w_.length : Int))) rfl rfl) <| g_val (!(!(littleB w_ (r2 ++ ([revised, frozen]))))) (gy_f rfl) (fun hg => x_mv (v := B (decide (9 < (w_.length : Int)))) (gd_of hg (B (decide (9 < (w_.length : Int)))))) <| g_val ((!(!(littleB w_ (r2 ++ ([revised, frozen]))))) && (decide (9 < (w_.length : Int)))) (gy_gt rfl rfl) (fun hg => x_mv (v := aC) rfl) <| g_val ((!(!(littleB w_ (r2 ++ ([revised, frozen]))))) && (decide (9 < (w_.length : Int)))) (gy_gt rfl rfl) (fun hg => x_lenS T22.und (gd_of hg (aC)) bc) <| g_val ((!(!(littleB w_ (r2 ++ ([revised, frozen]))))) && (decide (9 < (w_.length : Int)))) (gy_gt rfl rfl) (fun hg => x_cmp (kd := .i64) (r := decide ((w_.length : Int) <= 30)) (gd_of hg (I (w_.length : Int))) rfl rfl) <| g_val (!(!(littleB w_ (r2 ++ ([revised, frozen]))))) (gy_f rfl) (fun hg => x_pand (b := decide (9 < (w_.length : Int))) (r := decide ((w_.length : Int) <= 30)) (gd_of hg (B (decide (9 < (w_.length : Int))))) (fun hb => gd_of (c := ((!(!(littleB w_ (r2 ++ ([revised, frozen]))))) && (decide (9 < (w_.length : Int))))) (by first | exact hb | (rw [hb]; rfl) | simp_all) (B (decide ((w_.length : Int) <= 30)))) rfl) <| s_val (x_por (b := !(littleB w_ (r2 ++ ([revised, frozen])))) (r := ((decide (9 < (w_.length : Int))) && (decide ((w_.length : Int) <= 30)))) rfl rfl (fun hb => gd_of (c := !(!(littleB w_ (r2 ++ ([revised, frozen]))))) (by first | exact hb | (rw [hb]; rfl) | simp_all) (B ((decide (9 < (w_.length : Int))) && (decide ((w_.length : Int) <= 30)))))) <| sM (B ((!(littleB w_ (r2 ++ ([revised, frozen])))) || ((decide (9 < (w_.length : Int))) && (decide ((w_.length : Int) <= 30))))) rfl ?_
 refine g_val (!((!(littleB w_ (r2 ++ ([revised, frozen])))) || ((decide (9 < (w_.length : Int))) && (decide ((w_.length : Int) <= 30))))) (gy_f rfl) (fun hg => x_mv (v := aU) rfl) <| g_val (!((!(littleB w_ (r2 ++ ([revised, frozen])))) || ((decide (9 < (w_.length : Int))) && (decide ((w_.length : Int) <= 30))))) (gy_f rfl) (fun hg => x_lenS T73.und (gd_of hg (aU)) bo) <| g_val (!((!(littleB w_ (r2 ++ ([revised, frozen])))) || ((decide (9 < (w_.length : Int))) && (decide ((w_.length : Int) <= 30))))) (gy_f rfl) (fun hg => x_cmp (kd := .i64) (r := decide (35 < (lines.length : Int))) (gd_of hg (I (lines.length : Int))) rfl rfl) <| s_val (x_por (b := ((!(littleB w_ (r2 ++ ([revised, frozen])))) || ((decide (9 < (w_.length : Int))) && (decide ((w_.length : Int) <= 30))))) (r := decide (35 < (lines.length : Int))) rfl rfl (fun hb => gd_of (c := !((!(littleB w_ (r2 ++ ([revised, frozen])))) || ((decide (9 < (w_.length : Int))) && (decide ((w_.length : Int) <= 30))))) (by first | exact hb | (rw [hb]; rfl) | simp_all) (B (decide (35 < (lines.length : Int)))))) <| s_nil ?_
 refine W.cond (((!(littleB w_ (r2 ++ ([revised, frozen])))) || ((decide (9 < (w_.length : Int))) && (decide ((w_.length : Int) <= 30)))) || (decide (35 < (lines.length : Int)))) rfl (fun bE => ?_) (fun bE => ?_)
 ·replace hM := M.e_t hM bE
  refine sQ rfl ?_
  obtain ⟨dB, cg, hM⟩ := M.e_bind hM
  refine s_call cf17 [] rfl (zcS cg _ (St.give (T := [cRo ap, cOwn (α := Raw 0) 34 al ([aa, ac]), cRo aj, cOwn (α := Raw 0) 34 am (ai ++ ([aa, ac])), cRo ak]) H rfl)) ?_
  rintro vq ci ⟨r3, cj, hvq, ae⟩
  subst cj
  subst vq
  try dsimp only at hM
  replace H : St w ci [cRo ap, cOwn (α := Raw 0) 34 al ([aa, ac]), cRo aj, cOwn (α := Raw 0) 34 am (ai ++ ([aa, ac])), cRo ak] R := H.back ae rfl
  clear ae
  refine sA (B r3) rfl <| s_nil ?_
  refine W.ret ?_
  have aL := M.e_pure hM
  exact ⟨_, resE_tmp rfl, ⟨r3, aL, rfl, (H.pick [] (by decide) rfl)⟩⟩
 replace hM := M.e_f hM bE
 refine W.skip <| sQ rfl <| sM aC rfl ?_
 obtain ⟨dC, ck, hM⟩ := M.e_bind hM
 refine s_call cf18 [aC] rfl (zdq w_ (aP.app _) bc ck _ (St.give (T := [cRo ap, cOwn (α := Raw 0) 34 al ([aa, ac]), cRo aj, cOwn (α := Raw 0) 34 am (ai ++ ([aa, ac])), cRo ak]) H rfl)) ?_
 rintro vq cm ⟨r4, ag, au, av, cn, hvq, ae, bq⟩
 subst cn
 subst vq
 try dsimp only at hM
 replace H : St w cm [cOwn (α := Raw 2) 60 ag au, cRo av, cRo ap, cOwn (α := Raw 0) 34 al ([aa, ac]), cRo aj, cOwn (α := Raw 0) 34 am (ai ++ ([aa, ac])), cRo ak] R := H.back ae rfl
 clear ae
 refine sM aG rfl ?_
 obtain ⟨dD, hM⟩ := M.e_gd hM
 refine s_call cf31 [aG] rfl (copy_int _ (bh.mono (aY.at H)) (by omega)) ?_
 rintro ah co ⟨br, a6⟩
 replace H : St w co [cOwn (α := Int) 3 ah revised, cOwn (α := Raw 2) 60 ag au, cRo av, cRo ap, cOwn (α := Raw 0) 34 al ([aa, ac]), cRo aj, cOwn (α := Raw 0) 34 am (ai ++ ([aa, ac])), cRo ak] R := H.ownOf a6 br
 clear a6 br
 refine sM aT rfl ?_
 obtain ⟨dE, hM⟩ := M.e_gd hM
 refine s_call cf31 [aT] rfl (copy_int _ (bw.mono (bf.at H)) (by omega)) ?_
 rintro ao cp ⟨br, a6⟩
 replace H : St w cp [cOwn (α := Int) 3 ao frozen, cOwn (α := Int) 3 ah revised, cOwn (α := Raw 2) 60 ag au, cRo av, cRo ap, cOwn (α := Raw 0) 34 al ([aa, ac]), cRo aj, cOwn (α := Raw 0) 34 am (ai ++ ([aa, ac])), cRo ak] R := H.ownOf a6 br
 clear a6 br
 refine sM aU rfl ?_
 obtain ⟨dF, cq, hM⟩ := M.e_bind hM
 refine s_call cf58 [aU] rfl (zcQ lines (bx.app _) bo cq _ (St.give (T := [cOwn (α := Int) 3 ao frozen, cOwn (α := Int) 3 ah revised, cOwn (α := Raw 2) 60 ag au, cRo av, cRo ap, cOwn (α := Raw 0) 34 al ([aa, ac]), cRo aj, cOwn (α := Raw 0) 34 am (ai ++ ([aa, ac])), cRo ak]) H rfl)) ?_
 rintro vq cr ⟨r5, aq, aw, ax, ct, hvq, ae, bW⟩
 subst ct
 subst vq
 try dsimp only at hM
 replace H : St w cr [cOwn (α := Raw 0) 34 aq aw, cRo ax, cOwn (α := Int) 3 ao frozen, cOwn (α := Int) 3 ah revised, cOwn (α := Raw 2) 60 ag au, cRo av, cRo ap, cOwn (α := Raw 0) 34 al ([aa, ac]), cRo aj, cOwn (α := Raw 0) 34 am (ai ++ ([aa, ac])), cRo ak] R := H.back ae rfl
 clear ae
 refine sA ag rfl <| sA ah rfl <| sA ao rfl <| sA aq rfl <| s_nil <| sQ rfl <| sM ag rfl <| sM ah rfl <| sM (I work) rfl <| sM ao rfl ?_
 obtain ⟨dG, cu, hM⟩ := M.e_bind hM
 refine s_call cf59 [ag, ah, I work, ao] rfl (zc8 r4 revised work frozen (Reads.sup (Reads.of (k := 4) rfl ownLe) (Reads.sup (aP.app _) (Reads.of (k := 5) rfl roLe))) (rowSl rfl (H.get (k := 4) rfl) (Cells.sup_le (aP.at H) (roLe _ (H.get (k := 5) rfl))) bq) (Reads.of (k := 3) rfl ownLe) (ownSl (H.get (k := 3) rfl)) (Reads.of (k := 2) rfl ownLe) (ownSl (H.get (k := 2) rfl)) cu _ (St.give (T := [cOwn (α := Raw 0) 34 aq aw, cRo ax, cOwn (α := Int) 3 ao frozen, cOwn (α := Int) 3 ah revised, cOwn (α := Raw 2) 60 ag au, cRo av, cRo ap, cOwn (α := Raw 0) 34 al ([aa, ac]), cRo aj, cOwn (α := Raw 0) 34 am (ai ++ ([aa, ac])), cRo ak]) H rfl)) ?_
 rintro vq cv ⟨r0, r1, cw, hvq, ae⟩
 subst cw
 subst vq
 try dsimp only at hM
 replace H : St w cv [cOwn (α := Raw 0) 34 aq aw, cRo ax, cOwn (α := Int) 3 ao frozen, cOwn (α := Int) 3 ah revised, cOwn (α := Raw 2) 60 ag au, cRo av, cRo ap, cOwn (α := Raw 0) 34 al ([aa, ac]), cRo aj, cOwn (α := Raw 0) 34 am (ai ++ ([aa, ac])), cRo ak] R := H.back ae rfl
 clear ae
 refine sM (.tuple #[B r0, I r1]) rfl <| sX [B r0, I r1] (B r0) rfl rfl <| sX [B r0, I r1] (I r1) rfl rfl <| sA (B r0) rfl <| sA (I r1) rfl <| s_nil <| sQ rfl <| sM aC rfl ?_
 obtain ⟨dH, cx, hM⟩ := M.e_bind hM
 refine s_call cf23 [aC] rfl (zbo w_ (aP.app _) bc cx _ (St.give (T := [cOwn (α := Raw 0) 34 aq aw, cRo ax, cOwn (α := Int) 3 ao frozen, cOwn (α := Int) 3 ah revised, cOwn (α := Raw 2) 60 ag au, cRo av, cRo ap, cOwn (α := Raw 0) 34 al ([aa, ac]), cRo aj, cOwn (α := Raw 0) 34 am (ai ++ ([aa, ac])), cRo ak]) H rfl)) ?_
 rintro vq cy ⟨r6, ay, az, aA, cz, hvq, ae, cA⟩
 subst cz
 subst vq
 try dsimp only at hM
 replace H : St w cy [cOwn (α := Raw 2) 138 ay az, cRo aA, cOwn (α := Raw 0) 34 aq aw, cRo ax, cOwn (α := Int) 3 ao frozen, cOwn (α := Int) 3 ah revised, cOwn (α := Raw 2) 60 ag au, cRo av, cRo ap, cOwn (α := Raw 0) 34 al ([aa, ac]), cRo aj, cOwn (α := Raw 0) 34 am (ai ++ ([aa, ac])), cRo ak] R := H.back ae rfl
 clear ae
 refine sM aG rfl <| sM (I work) rfl <| sM aT rfl ?_
 obtain ⟨dI, cB, hM⟩ := M.e_bind hM
 refine s_call cf60 [ay, aG, I work, aT] rfl (zct r6 revised work frozen (Reads.sup (Reads.of (k := 0) rfl ownLe) (Reads.of (k := 1) rfl roLe)) (rowSl rfl (H.get (k := 0) rfl) (roLe _ (H.get (k := 1) rfl)) cA) (aY.app _) bh (bf.app _) bw cB _ (St.give (T := [cOwn (α := Raw 2) 138 ay az, cRo aA, cOwn (α := Raw 0) 34 aq aw, cRo ax, cOwn (α := Int) 3 ao frozen, cOwn (α := Int) 3 ah revised, cOwn (α := Raw 2) 60 ag au, cRo av, cRo ap, cOwn (α := Raw 0) 34 al ([aa, ac]), cRo aj, cOwn (α := Raw 0) 34 am (ai ++ ([aa, ac])), cRo ak]) H rfl)) ?_
 rintro vq cC ⟨aV, a7, cD, hvq, ae⟩
 subst cD
 subst vq
 try dsimp only at hM
 replace H : St w cC [cOwn (α := Raw 2) 138 ay az, cRo aA, cOwn (α := Raw 0) 34 aq aw, cRo ax, cOwn (α := Int) 3 ao frozen, cOwn (α := Int) 3 ah revised, cOwn (α := Raw 2) 60 ag au, cRo av, cRo ap, cOwn (α := Raw 0) 34 al ([aa, ac]), cRo aj, cOwn (α := Raw 0) 34 am (ai ++ ([aa, ac])), cRo ak] R := H.back ae rfl
 clear ae
 refine sM (.tuple #[B aV, I a7]) rfl <| sX [B aV, I a7] (B aV) rfl rfl <| sX [B aV, I a7] (I a7) rfl rfl <| sA (B aV) rfl <| sA (I a7) rfl <| s_nil <| W.seq <| sQ rfl <| sM (B r0) rfl <| sM (B aV) rfl <| s_val (x_eqb (a := r0) (b := aV) (r := (r0 != aV)) rfl rfl Try.underlying4 rfl) ?_
 refine sM (B (r0 != aV)) rfl <| g_val (!(r0 != aV)) (gy_f rfl) (fun hg => x_mv (v := I r1) rfl) <| g_val (!(r0 != aV)) (gy_f rfl) (fun hg => x_mv (v := I a7) rfl) <| g_val (!(r0 != aV)) (gy_f rfl) (fun hg => x_cmp (kd := .i64) (r := r1 != a7) (gd_of hg (I r1)) (gd_of hg (I a7)) rfl) <| s_val (x_por (b := (r0 != aV)) (r := r1 != a7) rfl rfl (fun hb => gd_of (c := !(r0 != aV)) (by first | exact hb | (rw [hb]; rfl) | simp_all) (B (r1 != a7)))) <| s_nil ?_
 refine W.cond ((r0 != aV) || (r1 != a7)) rfl (fun bF => ?_) (fun bF => ?_)
 ·replace hM := M.e_t hM bF
  refine sQ rfl <| sA (B false) rfl <| s_nil ?_
  refine W.ret ?_
  have aL := M.e_pure hM
  exact ⟨_, resE_tmp rfl, ⟨false, aL, rfl, (H.pick [] (by decide) rfl)⟩⟩
 replace hM := M.e_f hM bF
 refine W.skip <| sQ rfl <| sM ag rfl <| sM ah rfl <| sM (I work) rfl <| sM aq rfl ?_
 obtain ⟨dJ, cE, hM⟩ := M.e_bind hM
 refine s_call cf61 [ag, ah, I work, aq] rfl (zdJ r4 revised work r5 (Reads.sup (Reads.of (k := 6) rfl ownLe) (Reads.sup (aP.app _) (Reads.of (k := 7) rfl roLe))) (rowSl rfl (H.get (k := 6) rfl) (Cells.sup_le (aP.at H) (roLe _ (H.get (k := 7) rfl))) bq) (Reads.of (k := 5) rfl ownLe) (ownSl (H.get (k := 5) rfl)) (Reads.sup (Reads.of (k := 2) rfl ownLe) (Reads.of (k := 3) rfl roLe)) (rowSl rfl (H.get (k := 2) rfl) (roLe _ (H.get (k := 3) rfl)) bW) cE _ (St.give (T := [cOwn (α := Raw 2) 138 ay az, cRo aA, cOwn (α := Raw 0) 34 aq aw, cRo ax, cOwn (α := Int) 3 ao frozen, cOwn (α := Int) 3 ah revised, cOwn (α := Raw 2) 60 ag au, cRo av, cRo ap, cOwn (α := Raw 0) 34 al ([aa, ac]), cRo aj, cOwn (α := Raw 0) 34 am (ai ++ ([aa, ac])), cRo ak]) H rfl)) ?_
 rintro vq cF ⟨aW, a8, cG, hvq, ae⟩
 subst cG
 subst vq
 try dsimp only at hM
 replace H : St w cF [cOwn (α := Raw 2) 138 ay az, cRo aA, cOwn (α := Raw 0) 34 aq aw, cRo ax, cOwn (α := Int) 3 ao frozen, cOwn (α := Int) 3 ah revised, cOwn (α := Raw 2) 60 ag au, cRo av, cRo ap, cOwn (α := Raw 0) 34 al ([aa, ac]), cRo aj, cOwn (α := Raw 0) 34 am (ai ++ ([aa, ac])), cRo ak] R := H.back ae rfl
 clear ae
 refine sM (.tuple #[B aW, I a8]) rfl <| sX [B aW, I a8] (B aW) rfl rfl <| sX [B aW, I a8] (I a8) rfl rfl <| sA (B aW) rfl <| sA (I a8) rfl <| s_nil <| sQ rfl <| sM aC rfl ?_
 obtain ⟨dK, cH, hM⟩ := M.e_bind hM
 refine s_call cf23 [aC] rfl (zbo w_ (aP.app _) bc cH _ (St.give (T := [cOwn (α := Raw 2) 138 ay az, cRo aA, cOwn (α := Raw 0) 34 aq aw, cRo ax, cOwn (α := Int) 3 ao frozen, cOwn (α := Int) 3 ah revised, cOwn (α := Raw 2) 60 ag au, cRo av, cRo ap, cOwn (α := Raw 0) 34 al ([aa, ac]), cRo aj, cOwn (α := Raw 0) 34 am (ai ++ ([aa, ac])), cRo ak]) H rfl)) ?_
 rintro vq cI ⟨r7, aD, aH, aI, cJ, hvq, ae, cK⟩
 subst cJ
 subst vq
 try dsimp only at hM
 replace H : St w cI [cOwn (α := Raw 2) 138 aD aH, cRo aI, cOwn (α := Raw 2) 138 ay az, cRo aA, cOwn (α := Raw 0) 34 aq aw, cRo ax, cOwn (α := Int) 3 ao frozen, cOwn (α := Int) 3 ah revised, cOwn (α := Raw 2) 60 ag au, cRo av, cRo ap, cOwn (α := Raw 0) 34 al ([aa, ac]), cRo aj, cOwn (α := Raw 0) 34 am (ai ++ ([aa, ac])), cRo ak] R := H.back ae rfl
 clear ae
 refine sM aG rfl <| sM (I work) rfl <| sM aU rfl ?_
 obtain ⟨dL, cL, hM⟩ := M.e_bind hM
 refine s_call cf62 [aD, aG, I work, aU] rfl (zcI r7 revised work lines (Reads.sup (Reads.of (k := 0) rfl ownLe) (Reads.of (k := 1) rfl roLe)) (rowSl rfl (H.get (k := 0) rfl) (roLe _ (H.get (k := 1) rfl)) cK) (aY.app _) bh (bx.app _) bo cL _ (St.give (T := [cOwn (α := Raw 2) 138 aD aH, cRo aI, cOwn (α := Raw 2) 138 ay az, cRo aA, cOwn (α := Raw 0) 34 aq aw, cRo ax, cOwn (α := Int) 3 ao frozen, cOwn (α := Int) 3 ah revised, cOwn (α := Raw 2) 60 ag au, cRo av, cRo ap, cOwn (α := Raw 0) 34 al ([aa, ac]), cRo aj, cOwn (α := Raw 0) 34 am (ai ++ ([aa, ac])), cRo ak]) H rfl)) ?_
 rintro vq cM ⟨aX, a9, cN, hvq, ae⟩
 subst cN
 subst vq
 try dsimp only at hM
 replace H : St w cM [cOwn (α := Raw 2) 138 aD aH, cRo aI, cOwn (α := Raw 2) 138 ay az, cRo aA, cOwn (α := Raw 0) 34 aq aw, cRo ax, cOwn (α := Int) 3 ao frozen, cOwn (α := Int) 3 ah revised, cOwn (α := Raw 2) 60 ag au, cRo av, cRo ap, cOwn (α := Raw 0) 34 al ([aa, ac]), cRo aj, cOwn (α := Raw 0) 34 am (ai ++ ([aa, ac])), cRo ak] R := H.back ae rfl
 clear ae
 refine sM (.tuple #[B aX, I a9]) rfl <| sX [B aX, I a9] (B aX) rfl rfl <| sX [B aX, I a9] (I a9) rfl rfl <| sA (B aX) rfl <| sA (I a9) rfl <| s_nil <| W.seq <| sQ rfl <| sM (B aW) rfl <| sM (B aX) rfl <| s_val (x_eqb (a := aW) (b := aX) (r := (aW != aX)) rfl rfl Try.underlying4 rfl) ?_
 refine sM (B (aW != aX)) rfl <| g_val (!(aW != aX)) (gy_f rfl) (fun hg => x_mv (v := I a8) rfl) <| g_val (!(aW != aX)) (gy_f rfl) (fun hg => x_mv (v := I a9) rfl) <| g_val (!(aW != aX)) (gy_f rfl) (fun hg => x_cmp (kd := .i64) (r := a8 != a9) (gd_of hg (I a8)) (gd_of hg (I a9)) rfl) <| s_val (x_por (b := (aW != aX)) (r := a8 != a9) rfl rfl (fun hb => gd_of (c := !(aW != aX)) (by first | exact hb | (rw [hb]; rfl) | simp_all) (B (a8 != a9)))) <| s_nil ?_
 refine W.cond ((aW != aX) || (a8 != a9)) rfl (fun bG => ?_) (fun bG => ?_)
 ·replace hM := M.e_t hM bG
  refine sQ rfl <| sA (B false) rfl <| s_nil ?_
  refine W.ret ?_
  have aL := M.e_pure hM
  exact ⟨_, resE_tmp rfl, ⟨false, aL, rfl, (H.pick [] (by decide) rfl)⟩⟩
 replace hM := M.e_f hM bG
 refine W.skip <| sQ rfl <| sM aC rfl ?_
 obtain ⟨dM, cO, hM⟩ := M.e_bind hM
 refine s_call cf23 [aC] rfl (zbo w_ (aP.app _) bc cO _ (St.give (T := [cOwn (α := Raw 2) 138 aD aH, cRo aI, cOwn (α := Raw 2) 138 ay az, cRo aA, cOwn (α := Raw 0) 34 aq aw, cRo ax, cOwn (α := Int) 3 ao frozen, cOwn (α := Int) 3 ah revised, cOwn (α := Raw 2) 60 ag au, cRo av, cRo ap, cOwn (α := Raw 0) 34 al ([aa, ac]), cRo aj, cOwn (α := Raw 0) 34 am (ai ++ ([aa, ac])), cRo ak]) H rfl)) ?_
 rintro vq cP ⟨r8, aK, aM, aN, cQ, hvq, ae, cR⟩
 subst cQ
 subst vq
 try dsimp only at hM
 replace H : St w cP [cOwn (α := Raw 2) 138 aK aM, cRo aN, cOwn (α := Raw 2) 138 aD aH, cRo aI, cOwn (α := Raw 2) 138 ay az, cRo aA, cOwn (α := Raw 0) 34 aq aw, cRo ax, cOwn (α := Int) 3 ao frozen, cOwn (α := Int) 3 ah revised, cOwn (α := Raw 2) 60 ag au, cRo av, cRo ap, cOwn (α := Raw 0) 34 al ([aa, ac]), cRo aj, cOwn (α := Raw 0) 34 am (ai ++ ([aa, ac])), cRo ak] R := H.back ae rfl
 clear ae
 refine sM aG rfl <| sM (I work) rfl ?_
 obtain ⟨dN, cS, hM⟩ := M.e_bind hM
 refine s_call cf63 [aK, aG, I work] rfl (zdz r8 revised work (Reads.sup (Reads.of (k := 0) rfl ownLe) (Reads.of (k := 1) rfl roLe)) (rowSl rfl (H.get (k := 0) rfl) (roLe _ (H.get (k := 1) rfl)) cR) (aY.app _) bh cS _ (St.give (T := [cOwn (α := Raw 2) 138 aK aM, cRo aN, cOwn (α := Raw 2) 138 aD aH, cRo aI, cOwn (α := Raw 2) 138 ay az, cRo aA, cOwn (α := Raw 0) 34 aq aw, cRo ax, cOwn (α := Int) 3 ao frozen, cOwn (α := Int) 3 ah revised, cOwn (α := Raw 2) 60 ag au, cRo av, cRo ap, cOwn (α := Raw 0) 34 al ([aa, ac]), cRo aj, cOwn (α := Raw 0) 34 am (ai ++ ([aa, ac])), cRo ak]) H rfl)) ?_
 rintro vq cT ⟨aO, aB, cU, hvq, ae⟩
 subst cU
 subst vq
 try dsimp only at hM
 replace H : St w cT [cOwn (α := Raw 2) 138 aK aM, cRo aN, cOwn (α := Raw 2) 138 aD aH, cRo aI, cOwn (α := Raw 2) 138 ay az, cRo aA, cOwn (α := Raw 0) 34 aq aw, cRo ax, cOwn (α := Int) 3 ao frozen, cOwn (α := Int) 3 ah revised, cOwn (α := Raw 2) 60 ag au, cRo av, cRo ap, cOwn (α := Raw 0) 34 al ([aa, ac]), cRo aj, cOwn (α := Raw 0) 34 am (ai ++ ([aa, ac])), cRo ak] R := H.back ae rfl
 clear ae
 refine sM (.tuple #[I aO, I aB]) rfl <| sX [I aO, I aB] (I aO) rfl rfl <| sX [I aO, I aB] (I aB) rfl rfl <| sA (I aO) rfl <| sA (I aB) rfl <| s_nil <| sQ rfl <| sM ag rfl <| sM ah rfl <| sM (I work) rfl ?_
 obtain ⟨dO, cV, hM⟩ := M.e_bind hM
 refine s_call cf64 [ag, ah, I work] rfl (zch r4 revised work (Reads.sup (Reads.of (k := 10) rfl ownLe) (Reads.sup (aP.app _) (Reads.of (k := 11) rfl roLe))) (rowSl rfl (H.get (k := 10) rfl) (Cells.sup_le (aP.at H) (roLe _ (H.get (k := 11) rfl))) bq) (Reads.of (k := 9) rfl ownLe) (ownSl (H.get (k := 9) rfl)) cV _ (St.give (T := [cOwn (α := Raw 2) 138 aK aM, cRo aN, cOwn (α := Raw 2) 138 aD aH, cRo aI, cOwn (α := Raw 2) 138 ay az, cRo aA, cOwn (α := Raw 0) 34 aq aw, cRo ax, cOwn (α := Int) 3 ao frozen, cOwn (α := Int) 3 ah revised, cOwn (α := Raw 2) 60 ag au, cRo av, cRo ap, cOwn (α := Raw 0) 34 al ([aa, ac]), cRo aj, cOwn (α := Raw 0) 34 am (ai ++ ([aa, ac])), cRo ak]) H rfl)) ?_
 rintro vq cW ⟨aJ, aQ, aE, cX, hvq, ae⟩
 subst cX
 subst vq
 try dsimp only at hM
 replace H : St w cW [cOwn (α := Int) 3 aE aJ, cOwn (α := Raw 2) 138 aK aM, cRo aN, cOwn (α := Raw 2) 138 aD aH, cRo aI, cOwn (α := Raw 2) 138 ay az, cRo aA, cOwn (α := Raw 0) 34 aq aw, cRo ax, cOwn (α := Int) 3 ao frozen, cOwn (α := Int) 3 ah revised, cOwn (α := Raw 2) 60 ag au, cRo av, cRo ap, cOwn (α := Raw 0) 34 al ([aa, ac]), cRo aj, cOwn (α := Raw 0) 34 am (ai ++ ([aa, ac])), cRo ak] R := H.back ae rfl
 clear ae
 refine sM (.tuple #[aE, I aQ]) rfl <| sX [aE, I aQ] aE rfl rfl <| sX [aE, I aQ] (I aQ) rfl rfl <| sA aE rfl <| sA (I aQ) rfl <| s_nil <| W.seq <| sQ rfl <| sM (I aQ) rfl <| sM (I aB) rfl <| sC _ _ (aQ != aB) rfl rfl rfl ?_
 refine sM (B (aQ != aB)) rfl <| g_val (!(aQ != aB)) (gy_f rfl) (fun hg => x_mv (v := aE) rfl) <| g_val (!(aQ != aB)) (gy_f rfl) (fun hg => x_lenS T34.und (gd_of hg (aE)) (ownSl (H.get (k := 0) rfl))) <| g_val (!(aQ != aB)) (gy_f rfl) (fun hg => x_mv (v := I aO) rfl) <| g_val (!(aQ != aB)) (gy_f rfl) (fun hg => x_cmp (kd := .i64) (r := (aJ.length : Int) != aO) (gd_of hg (I (aJ.length : Int))) (gd_of hg (I aO)) rfl) <| s_val (x_por (b := aQ != aB) (r := (aJ.length : Int) != aO) rfl rfl (fun hb => gd_of (c := !(aQ != aB)) (by first | exact hb | (rw [hb]; rfl) | simp_all) (B ((aJ.length : Int) != aO)))) <| s_nil ?_
 refine W.cond ((aQ != aB) || ((aJ.length : Int) != aO)) rfl (fun bH => ?_) (fun bH => ?_)
 ·replace hM := M.e_t hM bH
  refine sQ rfl <| sA (B false) rfl <| s_nil ?_
  refine W.ret ?_
  have aL := M.e_pure hM
  exact ⟨_, resE_tmp rfl, ⟨false, aL, rfl, (H.pick [] (by decide) rfl)⟩⟩
 replace hM := M.e_f hM bH
 refine W.skip ?_
 refine W.seqJ (fun σ W => ∃ (ρ : Env), σ = upds ρ [(0, aC), (1, aG), (2, I work), (3, aT), (4, aU), (11, ag), (12, ah), (13, ao), (14, aq), (18, I aB), (19, I aO)] /\ (zaU w_ revised work frozen lines r4 r5 aO aB).Ends r /\ St w W [cOwn (α := Int) 3 aE aJ, cOwn (α := Raw 2) 138 aK aM, cRo aN, cOwn (α := Raw 2) 138 aD aH, cRo aI, cOwn (α := Raw 2) 138 ay az, cRo aA, cOwn (α := Raw 0) 34 aq aw, cRo ax, cOwn (α := Int) 3 ao frozen, cOwn (α := Int) 3 ah revised, cOwn (α := Raw 2) 60 ag au, cRo av, cRo ap, cOwn (α := Raw 0) 34 al ([aa, ac]), cRo aj, cOwn (α := Raw 0) 34 am (ai ++ ([aa, ac])), cRo ak] R) ?_ ?_
 ·skip
  refine sQ rfl <| sM (I aQ) rfl <| sC _ _ (aQ == 0) rfl rfl rfl <| s_nil ?_
  refine W.cond (aQ == 0) rfl (fun bt => ?_) (fun bt => ?_)
  ·replace hM := M.e_t hM bt
   simp only [qz1, qz2, qz3, qz4, qz5, qz6, ne_eq, qz7] at bt
   refine sQ rfl <| sM aC rfl ?_
   obtain ⟨dP, cY, hM⟩ := M.e_bind hM
   refine s_call cf23 [aC] rfl (zbo w_ (aP.app _) bc cY _ (St.give (T := [cOwn (α := Int) 3 aE aJ, cOwn (α := Raw 2) 138 aK aM, cRo aN, cOwn (α := Raw 2) 138 aD aH, cRo aI, cOwn (α := Raw 2) 138 ay az, cRo aA, cOwn (α := Raw 0) 34 aq aw, cRo ax, cOwn (α := Int) 3 ao frozen, cOwn (α := Int) 3 ah revised, cOwn (α := Raw 2) 60 ag au, cRo av, cRo ap, cOwn (α := Raw 0) 34 al ([aa, ac]), cRo aj, cOwn (α := Raw 0) 34 am (ai ++ ([aa, ac])), cRo ak]) H rfl)) ?_
   rintro vq cZ ⟨r9, bA, bI, bJ, da, hvq, ae, db⟩
   subst da
   subst vq
   try dsimp only at hM
   replace H : St w cZ [cOwn (α := Raw 2) 138 bA bI, cRo bJ, cOwn (α := Int) 3 aE aJ, cOwn (α := Raw 2) 138 aK aM, cRo aN, cOwn (α := Raw 2) 138 aD aH, cRo aI, cOwn (α := Raw 2) 138 ay az, cRo aA, cOwn (α := Raw 0) 34 aq aw, cRo ax, cOwn (α := Int) 3 ao frozen, cOwn (α := Int) 3 ah revised, cOwn (α := Raw 2) 60 ag au, cRo av, cRo ap, cOwn (α := Raw 0) 34 al ([aa, ac]), cRo aj, cOwn (α := Raw 0) 34 am (ai ++ ([aa, ac])), cRo ak] R := H.back ae rfl
   clear ae
   refine sM aG rfl <| sM (I work) rfl <| sM aE rfl ?_
   obtain ⟨dQ, dc, hM⟩ := M.e_bind hM
   refine s_call cf60 [bA, aG, I work, aE] rfl (zct r9 revised work aJ (Reads.sup (Reads.of (k := 0) rfl ownLe) (Reads.of (k := 1) rfl roLe)) (rowSl rfl (H.get (k := 0) rfl) (roLe _ (H.get (k := 1) rfl)) db) (aY.app _) bh (Reads.of (k := 2) rfl ownLe) (ownSl (H.get (k := 2) rfl)) dc _ (St.give (T := [cOwn (α := Raw 2) 138 bA bI, cRo bJ, cOwn (α := Int) 3 aE aJ, cOwn (α := Raw 2) 138 aK aM, cRo aN, cOwn (α := Raw 2) 138 aD aH, cRo aI, cOwn (α := Raw 2) 138 ay az, cRo aA, cOwn (α := Raw 0) 34 aq aw, cRo ax, cOwn (α := Int) 3 ao frozen, cOwn (α := Int) 3 ah revised, cOwn (α := Raw 2) 60 ag au, cRo av, cRo ap, cOwn (α := Raw 0) 34 al ([aa, ac]), cRo aj, cOwn (α := Raw 0) 34 am (ai ++ ([aa, ac])), cRo ak]) H rfl)) ?_
   rintro vq dd ⟨ba, aZ, de, hvq, ae⟩
   subst de
   subst vq
   try dsimp only at hM
   replace H : St w dd [cOwn (α := Raw 2) 138 bA bI, cRo bJ, cOwn (α := Int) 3 aE aJ, cOwn (α := Raw 2) 138 aK aM, cRo aN, cOwn (α := Raw 2) 138 aD aH, cRo aI, cOwn (α := Raw 2) 138 ay az, cRo aA, cOwn (α := Raw 0) 34 aq aw, cRo ax, cOwn (α := Int) 3 ao frozen, cOwn (α := Int) 3 ah revised, cOwn (α := Raw 2) 60 ag au, cRo av, cRo ap, cOwn (α := Raw 0) 34 al ([aa, ac]), cRo aj, cOwn (α := Raw 0) 34 am (ai ++ ([aa, ac])), cRo ak] R := H.back ae rfl
   clear ae
   refine sM (.tuple #[B ba, I aZ]) rfl <| sX [B ba, I aZ] (B ba) rfl rfl <| sX [B ba, I aZ] (I aZ) rfl rfl <| sA (B ba) rfl <| sA (I aZ) rfl <| s_nil <| sQ rfl <| sM (I aZ) rfl <| sC _ _ (aZ != 0) rfl rfl rfl <| sM (B (aZ != 0)) rfl <| g_val (!(aZ != 0)) (gy_f rfl) (fun hg => x_mv (v := B ba) rfl) ?_
   refine g_val (!(aZ != 0)) (gy_f rfl) (fun hg => x_not (b := ba) (gd_of hg (B ba))) <| s_val (x_por (b := aZ != 0) (r := !ba) rfl rfl (fun hb => gd_of (c := !(aZ != 0)) (by first | exact hb | (rw [hb]; rfl) | simp_all) (B (!ba)))) <| s_nil ?_
   refine W.cond ((aZ != 0) || (!ba)) rfl (fun bK => ?_) (fun bK => ?_)
   ·replace hM := M.e_t hM bK
    refine sQ rfl <| sA (B false) rfl <| s_nil ?_
    refine W.ret ?_
    have aL := M.e_pure hM
    exact ⟨_, resE_tmp rfl, ⟨false, aL, rfl, (H.pick [] (by decide) rfl)⟩⟩
   replace hM := M.e_f hM bK
   refine W.skip ?_
   exact ⟨_, upds_of _ _ ⟨rfl, rfl, rfl, rfl, rfl, rfl, rfl, rfl, rfl, rfl, rfl, trivial⟩, hM, (H.pick [2, 3, 4, 5, 6, 7, 8, 9, 10, 11, 12, 13, 14, 15, 16, 17, 18, 19] (by decide) rfl)⟩
  replace hM := M.e_f hM bt
  simp only [qz1, qz2, qz3, qz4, qz5, qz6, ne_eq, qz7] at bt
  refine W.skip ?_
  exact ⟨_, upds_of _ _ ⟨rfl, rfl, rfl, rfl, rfl, rfl, rfl, rfl, rfl, rfl, rfl, trivial⟩, hM, H⟩
 rintro _ dR ⟨ρ, rfl, hM, H⟩
 unfold zaU at hM
 refine sQ rfl <| sM ag rfl <| sM ah rfl <| sM (I work) rfl ?_
 obtain ⟨dS, dg, hM⟩ := M.e_bind hM
 refine s_call cf65 [ag, ah, I work] rfl (zcx r4 revised work (Reads.sup (Reads.of (k := 11) rfl ownLe) (Reads.sup (aP.app _) (Reads.of (k := 12) rfl roLe))) (rowSl rfl (H.get (k := 11) rfl) (Cells.sup_le (aP.at H) (roLe _ (H.get (k := 12) rfl))) bq) (Reads.of (k := 10) rfl ownLe) (ownSl (H.get (k := 10) rfl)) dg _ (St.give (T := [cOwn (α := Int) 3 aE aJ, cOwn (α := Raw 2) 138 aK aM, cRo aN, cOwn (α := Raw 2) 138 aD aH, cRo aI, cOwn (α := Raw 2) 138 ay az, cRo aA, cOwn (α := Raw 0) 34 aq aw, cRo ax, cOwn (α := Int) 3 ao frozen, cOwn (α := Int) 3 ah revised, cOwn (α := Raw 2) 60 ag au, cRo av, cRo ap, cOwn (α := Raw 0) 34 al ([aa, ac]), cRo aj, cOwn (α := Raw 0) 34 am (ai ++ ([aa, ac])), cRo ak]) H rfl)) ?_
 rintro vq dh ⟨bn, aR, aS, bi, bj, di, hvq, ae, bX⟩
 subst di
 subst vq
 try dsimp only at hM
 replace H : St w dh [cOwn (α := Raw 0) 34 aS bi, cRo bj, cOwn (α := Int) 3 aE aJ, cOwn (α := Raw 2) 138 aK aM, cRo aN, cOwn (α := Raw 2) 138 aD aH, cRo aI, cOwn (α := Raw 2) 138 ay az, cRo aA, cOwn (α := Raw 0) 34 aq aw, cRo ax, cOwn (α := Int) 3 ao frozen, cOwn (α := Int) 3 ah revised, cOwn (α := Raw 2) 60 ag au, cRo av, cRo ap, cOwn (α := Raw 0) 34 al ([aa, ac]), cRo aj, cOwn (α := Raw 0) 34 am (ai ++ ([aa, ac])), cRo ak] R := H.back ae rfl
 clear ae
 refine sM (.tuple #[aS, I aR]) rfl <| sX [aS, I aR] aS rfl rfl <| sX [aS, I aR] (I aR) rfl rfl <| sA aS rfl <| sA (I aR) rfl <| s_nil <| W.seq <| sQ rfl <| sM (I aR) rfl <| sM (I aB) rfl <| sC _ _ (aR != aB) rfl rfl rfl ?_
 refine sM (B (aR != aB)) rfl <| g_val (!(aR != aB)) (gy_f rfl) (fun hg => x_mv (v := aS) rfl) <| g_val (!(aR != aB)) (gy_f rfl) (fun hg => x_lenS T73.und (gd_of hg (aS)) (rowSl rfl (H.get (k := 0) rfl) (roLe _ (H.get (k := 1) rfl)) bX)) <| g_val (!(aR != aB)) (gy_f rfl) (fun hg => x_mv (v := I aO) rfl) <| g_val (!(aR != aB)) (gy_f rfl) (fun hg => x_cmp (kd := .i64) (r := (bn.length : Int) != aO) (gd_of hg (I (bn.length : Int))) (gd_of hg (I aO)) rfl) <| s_val (x_por (b := aR != aB) (r := (bn.length : Int) != aO) rfl rfl (fun hb => gd_of (c := !(aR != aB)) (by first | exact hb | (rw [hb]; rfl) | simp_all) (B ((bn.length : Int) != aO)))) <| s_nil ?_
 refine W.cond ((aR != aB) || ((bn.length : Int) != aO)) rfl (fun bL => ?_) (fun bL => ?_)
 ·replace hM := M.e_t hM bL
  refine sQ rfl <| sA (B false) rfl <| s_nil ?_
  refine W.ret ?_
  have aL := M.e_pure hM
  exact ⟨_, resE_tmp rfl, ⟨false, aL, rfl, (H.pick [] (by decide) rfl)⟩⟩
 replace hM := M.e_f hM bL
 refine W.skip ?_
 refine W.seqJ (fun σ W => ∃ (ρ : Env), σ = upds ρ [(0, aC), (1, aG), (3, aT), (4, aU), (11, ag), (12, ah), (13, ao), (14, aq)] /\ (zaP w_ revised frozen lines r4 r5).Ends r /\ St w W [cOwn (α := Raw 0) 34 aS bi, cRo bj, cOwn (α := Int) 3 aE aJ, cOwn (α := Raw 2) 138 aK aM, cRo aN, cOwn (α := Raw 2) 138 aD aH, cRo aI, cOwn (α := Raw 2) 138 ay az, cRo aA, cOwn (α := Raw 0) 34 aq aw, cRo ax, cOwn (α := Int) 3 ao frozen, cOwn (α := Int) 3 ah revised, cOwn (α := Raw 2) 60 ag au, cRo av, cRo ap, cOwn (α := Raw 0) 34 al ([aa, ac]), cRo aj, cOwn (α := Raw 0) 34 am (ai ++ ([aa, ac])), cRo ak] R) ?_ ?_
 ·skip
  refine sQ rfl <| sM (I aR) rfl <| sC _ _ (aR == 0) rfl rfl rfl <| s_nil ?_
  refine W.cond (aR == 0) rfl (fun bu => ?_) (fun bu => ?_)
  ·replace hM := M.e_t hM bu
   simp only [qz1, qz2, qz3, qz4, qz5, qz6, ne_eq, qz7] at bu
   refine sQ rfl <| sM aC rfl ?_
   obtain ⟨dT, dj, hM⟩ := M.e_bind hM
   refine s_call cf23 [aC] rfl (zbo w_ (aP.app _) bc dj _ (St.give (T := [cOwn (α := Raw 0) 34 aS bi, cRo bj, cOwn (α := Int) 3 aE aJ, cOwn (α := Raw 2) 138 aK aM, cRo aN, cOwn (α := Raw 2) 138 aD aH, cRo aI, cOwn (α := Raw 2) 138 ay az, cRo aA, cOwn (α := Raw 0) 34 aq aw, cRo ax, cOwn (α := Int) 3 ao frozen, cOwn (α := Int) 3 ah revised, cOwn (α := Raw 2) 60 ag au, cRo av, cRo ap, cOwn (α := Raw 0) 34 al ([aa, ac]), cRo aj, cOwn (α := Raw 0) 34 am (ai ++ ([aa, ac])), cRo ak]) H rfl)) ?_
   rintro vq dk ⟨dl, bB, bM, bN, dm, hvq, ae, dp⟩
   subst dm
   subst vq
   try dsimp only at hM
   replace H : St w dk [cOwn (α := Raw 2) 138 bB bM, cRo bN, cOwn (α := Raw 0) 34 aS bi, cRo bj, cOwn (α := Int) 3 aE aJ, cOwn (α := Raw 2) 138 aK aM, cRo aN, cOwn (α := Raw 2) 138 aD aH, cRo aI, cOwn (α := Raw 2) 138 ay az, cRo aA, cOwn (α := Raw 0) 34 aq aw, cRo ax, cOwn (α := Int) 3 ao frozen, cOwn (α := Int) 3 ah revised, cOwn (α := Raw 2) 60 ag au, cRo av, cRo ap, cOwn (α := Raw 0) 34 al ([aa, ac]), cRo aj, cOwn (α := Raw 0) 34 am (ai ++ ([aa, ac])), cRo ak] R := H.back ae rfl
   clear ae
   refine sM aG rfl <| sM (I work) rfl <| sM aS rfl ?_
   obtain ⟨dU, dq, hM⟩ := M.e_bind hM
   refine s_call cf62 [bB, aG, I work, aS] rfl (zcI dl revised work bn (Reads.sup (Reads.of (k := 0) rfl ownLe) (Reads.of (k := 1) rfl roLe)) (rowSl rfl (H.get (k := 0) rfl) (roLe _ (H.get (k := 1) rfl)) dp) (aY.app _) bh (Reads.sup (Reads.of (k := 2) rfl ownLe) (Reads.of (k := 3) rfl roLe)) (rowSl rfl (H.get (k := 2) rfl) (roLe _ (H.get (k := 3) rfl)) bX) dq _ (St.give (T := [cOwn (α := Raw 2) 138 bB bM, cRo bN, cOwn (α := Raw 0) 34 aS bi, cRo bj, cOwn (α := Int) 3 aE aJ, cOwn (α := Raw 2) 138 aK aM, cRo aN, cOwn (α := Raw 2) 138 aD aH, cRo aI, cOwn (α := Raw 2) 138 ay az, cRo aA, cOwn (α := Raw 0) 34 aq aw, cRo ax, cOwn (α := Int) 3 ao frozen, cOwn (α := Int) 3 ah revised, cOwn (α := Raw 2) 60 ag au, cRo av, cRo ap, cOwn (α := Raw 0) 34 al ([aa, ac]), cRo aj, cOwn (α := Raw 0) 34 am (ai ++ ([aa, ac])), cRo ak]) H rfl)) ?_
   rintro vq dr ⟨bb, a5, dt, hvq, ae⟩
   subst dt
   subst vq
   try dsimp only at hM
   replace H : St w dr [cOwn (α := Raw 2) 138 bB bM, cRo bN, cOwn (α := Raw 0) 34 aS bi, cRo bj, cOwn (α := Int) 3 aE aJ, cOwn (α := Raw 2) 138 aK aM, cRo aN, cOwn (α := Raw 2) 138 aD aH, cRo aI, cOwn (α := Raw 2) 138 ay az, cRo aA, cOwn (α := Raw 0) 34 aq aw, cRo ax, cOwn (α := Int) 3 ao frozen, cOwn (α := Int) 3 ah revised, cOwn (α := Raw 2) 60 ag au, cRo av, cRo ap, cOwn (α := Raw 0) 34 al ([aa, ac]), cRo aj, cOwn (α := Raw 0) 34 am (ai ++ ([aa, ac])), cRo ak] R := H.back ae rfl
   clear ae
   refine sM (.tuple #[B bb, I a5]) rfl <| sX [B bb, I a5] (B bb) rfl rfl <| sX [B bb, I a5] (I a5) rfl rfl <| sA (B bb) rfl <| sA (I a5) rfl <| s_nil <| sQ rfl <| sM (I a5) rfl <| sC _ _ (a5 != 0) rfl rfl rfl <| sM (B (a5 != 0)) rfl <| g_val (!(a5 != 0)) (gy_f rfl) (fun hg => x_mv (v := B bb) rfl) ?_
   refine g_val (!(a5 != 0)) (gy_f rfl) (fun hg => x_not (b := bb) (gd_of hg (B bb))) <| s_val (x_por (b := a5 != 0) (r := !bb) rfl rfl (fun hb => gd_of (c := !(a5 != 0)) (by first | exact hb | (rw [hb]; rfl) | simp_all) (B (!bb)))) <| s_nil ?_
   refine W.cond ((a5 != 0) || (!bb)) rfl (fun bO => ?_) (fun bO => ?_)
   ·replace hM := M.e_t hM bO
    refine sQ rfl <| sA (B false) rfl <| s_nil ?_
    refine W.ret ?_
    have aL := M.e_pure hM
    exact ⟨_, resE_tmp rfl, ⟨false, aL, rfl, (H.pick [] (by decide) rfl)⟩⟩
   replace hM := M.e_f hM bO
   refine W.skip ?_
   exact ⟨_, upds_of _ _ ⟨rfl, rfl, rfl, rfl, rfl, rfl, rfl, rfl, trivial⟩, hM, (H.pick [2, 3, 4, 5, 6, 7, 8, 9, 10, 11, 12, 13, 14, 15, 16, 17, 18, 19, 20, 21] (by decide) rfl)⟩
  replace hM := M.e_f hM bu
  simp only [qz1, qz2, qz3, qz4, qz5, qz6, ne_eq, qz7] at bu
  refine W.skip ?_
  exact ⟨_, upds_of _ _ ⟨rfl, rfl, rfl, rfl, rfl, rfl, rfl, rfl, trivial⟩, hM, H⟩
 rintro _ dV ⟨ρ, rfl, hM, H⟩
 unfold zaP at hM
 refine sQ rfl <| sM ag rfl <| sM aC rfl ?_
 obtain ⟨dW, du, hM⟩ := M.e_bind hM
 refine s_call cf28 [ag, aC] rfl (zdf r4 w_ (Reads.sup (Reads.of (k := 13) rfl ownLe) (Reads.sup (aP.app _) (Reads.of (k := 14) rfl roLe))) (rowSl rfl (H.get (k := 13) rfl) (Cells.sup_le (aP.at H) (roLe _ (H.get (k := 14) rfl))) bq) (aP.app _) bc du _ (St.give (T := [cOwn (α := Raw 0) 34 aS bi, cRo bj, cOwn (α := Int) 3 aE aJ, cOwn (α := Raw 2) 138 aK aM, cRo aN, cOwn (α := Raw 2) 138 aD aH, cRo aI, cOwn (α := Raw 2) 138 ay az, cRo aA, cOwn (α := Raw 0) 34 aq aw, cRo ax, cOwn (α := Int) 3 ao frozen, cOwn (α := Int) 3 ah revised, cOwn (α := Raw 2) 60 ag au, cRo av, cRo ap, cOwn (α := Raw 0) 34 al ([aa, ac]), cRo aj, cOwn (α := Raw 0) 34 am (ai ++ ([aa, ac])), cRo ak]) H rfl)) ?_
 rintro vq dv ⟨aF, dw, hvq, ae⟩
 subst dw
 subst vq
 try dsimp only at hM
 replace H : St w dv [cOwn (α := Raw 0) 34 aS bi, cRo bj, cOwn (α := Int) 3 aE aJ, cOwn (α := Raw 2) 138 aK aM, cRo aN, cOwn (α := Raw 2) 138 aD aH, cRo aI, cOwn (α := Raw 2) 138 ay az, cRo aA, cOwn (α := Raw 0) 34 aq aw, cRo ax, cOwn (α := Int) 3 ao frozen, cOwn (α := Int) 3 ah revised, cOwn (α := Raw 2) 60 ag au, cRo av, cRo ap, cOwn (α := Raw 0) 34 al ([aa, ac]), cRo aj, cOwn (α := Raw 0) 34 am (ai ++ ([aa, ac])), cRo ak] R := H.back ae rfl
 clear ae
 refine sM (B aF) rfl <| g_val aF (gy_t rfl) (fun hg => x_mv (v := ah) rfl) <| g_val aF (gy_t rfl) (fun hg => x_mv (v := aG) rfl) ?_
 obtain ⟨s, bP, hM⟩ := M.e_bind hM
 replace bP := M.e_pure bP
 refine t_gcall aF (gy_t rfl) cf25 (B s) (fun _ => [ah, aG]) (fun hg => lst2 (gd_of hg (ah)) (gd_of hg (aG))) H (fun hg => Ret.mono (same_int _ ((ownSl (H.get (k := 12) rfl)).mono (ownLe _ (H.get (k := 12) rfl))) (bh.mono (aY.at H))) fun v_ w_ ⟨bl, a6⟩ => ⟨bl.trans (congrArg B bP), H.ext a6⟩) ?_
 intro dX H
 refine s_val (x_pand (b := aF) (r := s) rfl (fun hb => gd_of (c := aF) (by first | exact hb | (rw [hb]; rfl) | simp_all) (B s)) rfl) <| sM (B (aF && s)) rfl <| g_val (aF && s) (gy_t rfl) (fun hg => x_mv (v := ao) rfl) <| g_val (aF && s) (gy_t rfl) (fun hg => x_mv (v := aT) rfl) ?_
 obtain ⟨s2, bQ, hM⟩ := M.e_bind hM
 replace bQ := M.e_pure bQ
 refine t_gcall (aF && s) (gy_t rfl) cf25 (B s2) (fun _ => [ao, aT]) (fun hg => lst2 (gd_of hg (ao)) (gd_of hg (aT))) H (fun hg => Ret.mono (same_int _ ((ownSl (H.get (k := 11) rfl)).mono (ownLe _ (H.get (k := 11) rfl))) (bw.mono (bf.at H))) fun v_ w_ ⟨bl, a6⟩ => ⟨bl.trans (congrArg B bQ), H.ext a6⟩) ?_
 intro dY H
 refine s_val (x_pand (b := (aF && s)) (r := s2) rfl (fun hb => gd_of (c := (aF && s)) (by first | exact hb | (rw [hb]; rfl) | simp_all) (B s2)) rfl) <| sM (B ((aF && s) && s2)) rfl <| g_val ((aF && s) && s2) (gy_t rfl) (fun hg => x_mv (v := aq) rfl) <| g_val ((aF && s) && s2) (gy_t rfl) (fun hg => x_mv (v := aU) rfl) ?_
 obtain ⟨bg, dx, hM⟩ := M.e_bind hM
 refine t_gcall ((aF && s) && s2) (gy_t rfl) cf66 (B bg) (fun _ => [aq, aU]) (fun hg => lst2 (gd_of hg (aq)) (gd_of hg (aU))) H (fun hg => (zde r5 lines (Reads.sup (Reads.of (k := 9) rfl ownLe) (Reads.of (k := 10) rfl roLe)) (rowSl rfl (H.get (k := 9) rfl) (roLe _ (H.get (k := 10) rfl)) bW) (bx.app _) bo (M.e_opt dx hg) _ (H.give (A := []) rfl)).mono fun v_ w_ ⟨y_, aL, bl, H_⟩ => by subst aL; exact ⟨bl, H.via H_⟩) ?_
 intro dZ H
 refine s_val (x_pand (b := ((aF && s) && s2)) (r := bg) rfl (fun hb => gd_of (c := ((aF && s) && s2)) (by first | exact hb | (rw [hb]; rfl) | simp_all) (B bg)) rfl) <| sM (B (((aF && s) && s2) && bg)) rfl ?_
 obtain ⟨bv, dy, hM⟩ := M.e_bind hM
 refine t_gcall (((aF && s) && s2) && bg) (gy_t rfl) cf17 (B bv) (fun _ => []) (fun _ => rfl) H (fun hg => (zcS (M.e_opt dy hg) _ (H.give (A := []) rfl)).mono fun v_ w_ ⟨y_, aL, bl, H_⟩ => by subst aL; exact ⟨bl, H.via H_⟩) ?_
 intro d5 H
 refine s_val (x_pand (b := (((aF && s) && s2) && bg)) (r := bv) rfl (fun hb => gd_of (c := (((aF && s) && s2) && bg)) (by first | exact hb | (rw [hb]; rfl) | simp_all) (B bv)) rfl) <| sA (B ((((aF && s) && s2) && bg) && bv)) rfl <| s_nil ?_
 refine W.ret ?_
 have aL := M.e_pure hM
 exact ⟨_, resE_tmp rfl, ⟨((((aF && s) && s2) && bg) && bv), aL, rfl, (H.pick [] (by decide) rfl)⟩⟩

end Go.Proofs.Ytndobgodeicloaa
end
namespace Go.Nm
variable {ws : List Work} {rev F : List Int}
/-- The error of what is to be kept. -/
def keptE (ws : List Work) (rev : List Int) (t : Int) : Int := if askedE ws rev ≠ 0 then askedE ws rev else if inB t 0 ((ws.length : Int) - 1) = false then 2 else if rev.contains t = true then 8 else 0
theorem kept_ok {t : Int} (h : keptE ws rev t = 0) : askedE ws rev = 0 /\ (0 <= t /\ t < (ws.length : Int)) /\ t ∉ rev := by
  unfold keptE at h
  split at h
  · omega
  · rename_i h1
    split at h
    · omega
    · rename_i h2
      split at h
      · omega
      · rename_i h3
        simp only [Bool.not_eq_false] at h2
        unfold inB at h2
        simp only [Bool.and_eq_true, decide_eq_true_eq] at h2
        exact ⟨by simpa using h1, by omega, fun hm => h3 (List.contains_iff_mem.2 hm)⟩
/-- The error of frozen works. -/
def keepsE (ws : List Work) (rev : List Int) (t : Int) (F : List Int) : Int := if keptE ws rev t ≠ 0 then keptE ws rev t else if listedE ws.length F ≠ 0 then listedE ws.length F else if (F.contains t || F.any fun x => rev.contains x) = true then 7 else 0
end Go.Nm
namespace Go.Proofs.Ytndobgodeicloaa
open Go Go.Nm
variable {ws : List Work} {rev F : List Int}
theorem zcq {t : Int} (h : keptE ws rev t ≠ 0) : (zap ws rev t).Ends (.inl (keptE ws rev t)) := by
  unfold zap
  unfold keptE at h ⊢
  by_cases hA : askedE ws rev = 0
  · rw [if_neg (by simp [hA])] at h ⊢
    refine M.i_t (by simp [hA]) ?_
    cases hb : inB t 0 ((ws.length : Int) - 1) with
    | false => rw [if_pos rfl]; exact M.i_t rfl M.i_pure
    | true =>
      rw [hb] at h
      rw [if_neg (by simp)] at h ⊢
      refine M.i_f rfl ?_
      cases hc : rev.contains t with
      | true => rw [if_pos rfl]; exact M.i_t rfl M.i_pure
      | false => rw [hc] at h; simp at h
  · rw [if_pos hA]
    exact M.i_f (by simpa using hA) (M.i_t (by simpa using hA) M.i_pure)
theorem refKept_ends (ws : List Work) (rev : List Int) (t : Int) : (zaF ws rev t).Ends (keptE ws rev t) := by
  unfold zaF
  refine M.i_bind (refStale_ends ws rev) ?_
  unfold keptE
  by_cases hA : askedE ws rev = 0
  · rw [if_neg (by simp [hA])]
    simp only [outB_eq]
    refine M.i_f (by simp [hA]) ?_
    cases hb : inB t 0 ((ws.length : Int) - 1) with
    | false => rw [if_pos rfl]; exact M.i_t rfl M.i_pure
    | true =>
      rw [if_neg (by simp)]
      refine M.i_f rfl ?_
      cases rev.contains t with
      | true => rw [if_pos rfl]; exact M.i_t rfl M.i_pure
      | false => rw [if_neg (by simp)]; exact M.i_f rfl M.i_pure
  · rw [if_pos hA]
    exact M.i_t (by simpa using hA) M.i_pure
/-! ### Keeps -/
/-- What is marked is stale; what is passed over is closed. -/
structure Mk (ws : List Work) (rev F : List Int) (l : List Bool) : Prop where
  len : l.length = ws.length
  src : ∀ r ∈ rev, l.getD r.toNat false = true
  sound : ∀ i, l.getD i false = true -> Rch ws rev F i
theorem setB_getD {l : List Bool} {i x : Nat} (hi : i < l.length) : (l.set i true).getD x false = if x = i then true else l.getD x false := by
  by_cases e : x = i
  · subst e
    rw [if_pos rfl, List.getD_eq_getElem?_getD, List.getElem?_set_self hi]
    rfl
  · rw [if_neg e, List.getD_eq_getElem?_getD, List.getElem?_set_ne (fun e' => e e'.symm), ← List.getD_eq_getElem?_getD]
theorem Mk.set {l : List Bool} (h : Mk ws rev F l) {i : Nat} (hi : i < ws.length) (hr : Rch ws rev F i) : Mk ws rev F (l.set i true) := by
  have hl : i < l.length := by rw [h.len]; exact hi
  refine ⟨by rw [List.length_set]; exact h.len, fun r hr' => ?_, fun x hx => ?_⟩
  · rw [setB_getD hl]
    split
    · rfl
    · exact h.src r hr'
  · rw [setB_getD hl] at hx
    split at hx
    · rename_i e; rw [e]; exact hr
    · exact h.sound x hx
/-- A sweep so far: something was marked, or nothing was to be. -/
def Swp (l0 l : List Bool) (ch : Bool) (P : Prop) : Prop := (ch = true /\ fc l < fc l0) ∨ (ch = false /\ l = l0 /\ P)
theorem refkeeps_out (hR : rightE ws = 0) (hr : ∀ r ∈ rev, 0 <= r /\ r < (ws.length : Int)) {t : Int} (t0 : 0 <= t) (t1 : t < ws.length) (F : List Int) :
    (zaz ws rev t F).Out (fun b => b = true ↔ ¬ Rch ws rev F t.toNat) := by
  have hlen := right_len hR
  unfold zaz
  refine M.o_grd (gA3 (by omega) (by omega) (by omega)) (M.o_bind (P := fun q => Mk ws rev F q.2) ?_ ?_)
  · refine M.o_for rev.length (fun k st => st.2 = k /\ st.1.length = ws.length /\ (∀ j, j < k -> st.1.getD (rev.getD j 0).toNat false = true) /\ ∀ i, st.1.getD i false = true -> Rch ws rev F i) ?_ ?_ (s := (List.replicate ws.length false, 0)) ⟨rfl, by simp, fun j hj => by omega, fun i hi => ?_⟩
    · rintro k ⟨l, s⟩ hk ⟨rfl, hl, hd, hs⟩
      dsimp only at hk hl hd hs ⊢
      have hrm := getD_memN rev (by omega : (s : Int) < _) 0
      have hrr := hr _ hrm
      have hq : Int.toNat (rev.getD s 0) < l.length := by omega
      simp only [zbb]
      refine M.o_t (by simpa using hk) (M.o_grdD (by omega) (M.o_grd (gA2 hrr.1 (by omega)) (M.o_pure ⟨rfl, by simpa using hl, fun j hj => ?_, fun i hi => ?_⟩)))
      · dsimp only
        rw [setB_getD hq]
        split
        · rfl
        · rename_i e
          exact hd j (by
            by_cases e2 : j = s
            · subst e2; exact absurd rfl e
            · omega)
      · dsimp only at hi
        rw [setB_getD hq] at hi
        split at hi
        · rename_i e; rw [e]; exact .base hrm
        · exact hs i hi
    · rintro ⟨l, s⟩ ⟨rfl, hl, hd, hs⟩
      dsimp only at hl hd hs ⊢
      simp only [zbb]
      refine M.o_f (by simp) (M.o_pure ⟨hl, fun r hr' => ?_, hs⟩)
      obtain ⟨j, hj, rfl⟩ := mem_getD hr' 0
      exact hd j hj
    · rw [List.getD_eq_getElem?_getD, List.getElem?_replicate] at hi
      split at hi <;> simp at hi
  · rintro ⟨l2, l3⟩ hM0
    dsimp only at hM0 ⊢
    refine M.o_bind (P := fun q => Mk ws rev F q.2 /\ ∀ i, i < ws.length -> ∀ k ∈ (ws.getD i default).of, q.2.getD k.toNat false = true -> (i : Int) ∉ F -> q.2.getD i false = true) ?_ ?_
    · refine M.o_iter (fun (m : Nat) (st : List Bool × Bool) => Mk ws rev F st.1 /\ ((st.2 = true /\ m = fc st.1 + 1) ∨ (st.2 = false /\ m = 0 /\ ∀ i, i < ws.length -> ∀ k ∈ (ws.getD i default).of, st.1.getD k.toNat false = true -> (i : Int) ∉ F -> st.1.getD i false = true))) ?_ _ (l3, true) ⟨hM0, .inl ⟨rfl, rfl⟩⟩
      rintro m ⟨l0, ch⟩ ⟨hM, hm⟩
      dsimp only at hM hm ⊢
      simp only [zbJ]
      rcases hm with ⟨rfl, rfl⟩ | ⟨rfl, rfl, hcl⟩
      · refine M.o_t rfl (M.o_bind (P := fun q => q.1 = q.2.2 /\ Mk ws rev F q.1 /\ Swp l0 q.1 q.2.1 (∀ i, i < ws.length -> ∀ k ∈ (ws.getD i default).of, l0.getD k.toNat false = true -> (i : Int) ∉ F -> l0.getD i false = true)) ?_ ?_)
        · refine M.o_for ws.length (fun i st => st.2.2 = i /\ Mk ws rev F st.1 /\ Swp l0 st.1 st.2.1 (∀ i', i' < i -> ∀ k ∈ (ws.getD i' default).of, l0.getD k.toNat false = true -> (i' : Int) ∉ F -> l0.getD i' false = true)) ?_ ?_ (s := (l0, false, 0)) ⟨rfl, hM, .inr ⟨rfl, rfl, fun i' hi' => by omega⟩⟩
          · rintro i ⟨l, ch, s⟩ hi ⟨rfl, hM, hS⟩
            dsimp only at hi hM hS ⊢
            simp only [za9]
            refine M.o_t (by simpa using hi) (M.o_bind (P := fun q => q.1 = q.2.2 /\ Mk ws rev F q.1 /\ Swp l0 q.1 q.2.1 (∀ i', i' < s + 1 -> ∀ k ∈ (ws.getD i' default).of, l0.getD k.toNat false = true -> (i' : Int) ∉ F -> l0.getD i' false = true)) ?_ ?_)
            · refine M.o_for (ws.getD s default).of.length (fun j st => st.2.2 = j /\ Mk ws rev F st.1 /\ Swp l0 st.1 st.2.1 ((∀ i', i' < s -> ∀ k ∈ (ws.getD i' default).of, l0.getD k.toNat false = true -> (i' : Int) ∉ F -> l0.getD i' false = true) /\ ∀ j', j' < j -> l0.getD ((ws.getD s default).of.getD j' 0).toNat false = true -> (s : Int) ∉ F -> l0.getD s false = true)) ?_ ?_ (s := (l, ch, 0)) ⟨rfl, hM, ?_⟩
              · rintro j ⟨l, ch, j'⟩ hj ⟨rfl, hM, hS⟩
                dsimp only at hj hM hS ⊢
                have hk := right_of hR hi _ (getD_memN (ws.getD s default).of (by omega : (j' : Int) < _) 0)
                have hml := hM.len
                simp only [zbq]
                refine M.o_grdD (by omega) (M.o_t (by simpa using hj) (M.o_grdD (by omega) (M.o_grd (gA2 hk.1 (by omega)) (M.o_grd (gOr (by omega)) (M.o_if (fun hb => ?_) (fun hb => ?_))))))
                · simp only [Bool.and_eq_true, Bool.not_eq_true'] at hb
                  have hnF : (s : Int) ∉ F := fun h => by rw [List.contains_iff_mem.2 h] at hb; simp at hb
                  have hrch : Rch ws rev F s := .step (hM.sound _ hb.1.1) hi (by rw [Int.toNat_of_nonneg hk.1]; exact getD_memN (ws.getD s default).of (by omega : (j' : Int) < _) 0) hnF
                  have hfc := fc_set l s (by omega) hb.1.2
                  refine M.o_grdD (by omega) (M.o_pure ⟨rfl, hM.set hi hrch, .inl ⟨rfl, ?_⟩⟩)
                  dsimp only
                  rcases hS with ⟨_, h⟩ | ⟨_, h, _⟩
                  · omega
                  · rw [← h]; omega
                · refine M.o_pure ⟨rfl, hM, hS.imp id fun ⟨h1, h2, h3, h4⟩ => ⟨h1, h2, h3, fun q hq hs hF => ?_⟩⟩
                  by_cases e : q = j'
                  · subst e
                    subst h2
                    cases hg : l.getD s false with
                    | true => rfl
                    | false =>
                      exfalso
                      have hs' : l.getD (Int.toNat ((ws.getD s default).of.getD q 0)) false = true := hs
                      have hc : F.contains (s : Int) = false := by
                        cases e : F.contains (s : Int) with
                        | false => rfl
                        | true => exact absurd (List.contains_iff_mem.1 e) hF
                      rw [hs', hg, hc] at hb
                      cases hb
                  · exact h4 q (by omega) hs hF
              · rintro ⟨l, ch, j'⟩ ⟨rfl, hM, hS⟩
                dsimp only at hM hS ⊢
                simp only [zbq]
                refine M.o_grdD (by omega) (M.o_f (by simp) (M.o_pure ⟨rfl, hM, hS.imp id fun ⟨h1, h2, h3, h4⟩ => ⟨h1, h2, fun i' hi' k hk hs hF => ?_⟩⟩))
                by_cases e : i' = s
                · subst e
                  obtain ⟨q, hq, rfl⟩ := mem_getD hk 0
                  exact h4 q hq hs hF
                · exact h3 i' (by omega) k hk hs hF
              · exact hS.imp id fun ⟨h1, h2, h3⟩ => ⟨h1, h2, h3, fun j' hj' => by omega⟩
            · rintro ⟨l5, ch2, l6⟩ ⟨h1, h2, h3⟩
              dsimp only at h1 h2 h3 ⊢
              subst h1
              exact M.o_pure ⟨rfl, h2, h3⟩
          · rintro ⟨l, ch, s⟩ ⟨rfl, hM, hS⟩
            dsimp only at hM hS ⊢
            simp only [za9]
            exact M.o_f (by simp) (M.o_pure ⟨rfl, hM, hS⟩)
        · rintro ⟨l8, ch, l9⟩ ⟨h1, h2, h3⟩
          dsimp only at h1 h2 h3 ⊢
          subst h1
          rcases h3 with ⟨rfl, h4⟩ | ⟨rfl, rfl, h4⟩
          · exact M.o_pure ⟨fc l8 + 1, by omega, h2, .inl ⟨rfl, rfl⟩⟩
          · exact M.o_pure ⟨0, by omega, h2, .inr ⟨rfl, rfl, h4⟩⟩
      · exact M.o_f rfl (M.o_pure ⟨hM, hcl⟩)
    · rintro ⟨l11, l⟩ ⟨hM, hcl⟩
      dsimp only at hM hcl ⊢
      have hml := hM.len
      refine M.o_grd (gA2 t0 (by omega)) (M.o_pure ?_)
      have key : l.getD (Int.toNat t) false = true ↔ Rch ws rev F t.toNat := by
        refine ⟨hM.sound _, fun h => ?_⟩
        have all : ∀ k, Rch ws rev F k -> l.getD k false = true := by
          intro k hk
          induction hk with
          | base h => exact hM.src _ h
          | step _ hi hm hf ih => exact hcl _ hi _ hm (by rw [Int.toNat_natCast]; exact ih) hf
        exact all _ h
      rw [← key]
      cases l.getD (Int.toNat t) false <;> simp
theorem zdG (ws : List Work) (rev : List Int) (t : Int) (F : List Int) : ∃ b, (zae ws rev t F).Ends (b, keepsE ws rev t F) /\ (keepsE ws rev t F ≠ 0 -> b = false) /\ (keepsE ws rev t F = 0 -> (b = true ↔ ¬ Rch ws rev F t.toNat)) := by
  by_cases hK : keptE ws rev t = 0
  · obtain ⟨hA, ht, hn⟩ := kept_ok hK
    have e0 : keepsE ws rev t F = if listedE ws.length F ≠ 0 then listedE ws.length F else if (F.contains t || F.any fun x => rev.contains x) = true then 7 else 0 := by unfold keepsE; rw [if_neg (by simp [hK])]
    obtain ⟨tn, rfl⟩ := Int.eq_ofNat_of_zero_le ht.1
    have hkept := kept_ends hA (by omega : tn < ws.length) hn
    by_cases hL : listedE ws.length F = 0
    · rw [if_neg (by simp [hL])] at e0
      have hany := containsFunc_ends (s := F) (f := fun x => zas x rev) (p := fun x => rev.contains x) (fun x _ => M.i_pure)
      cases hb : (F.contains (tn : Int) || F.any fun x => rev.contains x) with
      | true =>
        rw [hb, if_pos rfl] at e0
        rw [e0]
        refine ⟨false, ?_, fun _ => rfl, fun h => by cases h⟩
        unfold zae
        have hop : (M.opt (!(F.contains (tn : Int))) (zaw F (fun x => zas x rev)) false).Ends (!(F.contains (tn : Int)) && F.any fun x => rev.contains x) := by
          refine M.i_opt (fun h => ?_) (fun h => ?_)
          · rw [h, Bool.true_and]; exact hany
          · rw [h]; rfl
        refine M.i_bind hkept (M.i_t rfl (M.i_f (by rw [hL]; rfl) (M.i_bind hop (M.i_t ?_ M.i_pure))))
        revert hb
        cases F.contains (tn : Int) <;> simp
      | false =>
        rw [hb, if_neg (by simp)] at e0
        rw [Bool.or_eq_false_iff] at hb
        rw [e0]
        have hq : ∀ x ∈ F, x ≠ (tn : Int) /\ x ∉ rev := fun x hx => ⟨fun e => absurd hb.1 (by rw [← e, List.contains_iff_mem.2 hx]; decide), fun h => List.any_eq_false.1 hb.2 x hx (List.contains_iff_mem.2 h)⟩
        obtain ⟨⟨b, e⟩, h1, h2, h3⟩ := keeps_out hA (by omega : tn < ws.length) hn hL hq
        dsimp only at h2 h3
        subst h2
        exact ⟨b, h1, fun h => absurd rfl h, fun _ => by rw [Int.toNat_natCast]; exact h3⟩
    · rw [if_pos hL] at e0
      rw [e0]
      refine ⟨false, ?_, fun _ => rfl, fun h => absurd h hL⟩
      unfold zae
      exact M.i_bind hkept (M.i_t rfl (M.i_t (by simpa using hL) M.i_pure))
  · have e0 : keepsE ws rev t F = keptE ws rev t := by unfold keepsE; rw [if_pos hK]
    rw [e0]
    refine ⟨false, ?_, fun _ => rfl, fun h => absurd h hK⟩
    unfold zae
    exact M.i_bind (zcq hK) (M.i_f (by simpa using hK) (M.i_t (by simpa using hK) M.i_pure))
theorem refKeeps_all (ws : List Work) (rev : List Int) (t : Int) (F : List Int) : ∃ b, (zal ws rev t F).Ends (b, keepsE ws rev t F) /\ (keepsE ws rev t F ≠ 0 -> b = false) /\ (keepsE ws rev t F = 0 -> (b = true ↔ ¬ Rch ws rev F t.toNat)) := by
  by_cases hK : keptE ws rev t = 0
  · obtain ⟨hA, ht, hn⟩ := kept_ok hK
    obtain ⟨hO, hLs⟩ := asked_ok hA
    have e0 : keepsE ws rev t F = if listedE ws.length F ≠ 0 then listedE ws.length F else if (F.contains t || F.any fun x => rev.contains x) = true then 7 else 0 := by unfold keepsE; rw [if_neg (by simp [hK])]
    by_cases hL : listedE ws.length F = 0
    · rw [if_neg (by simp [hL])] at e0
      have hFl : F.length <= ws.length := nodup_bound _ F (asc_nodup (listed_rng hL).2) (listed_rng hL).1
      have s0 := M.i_scan (b := za0 rev t F) F.length (fun i => (F.getD i 0 == t) || rev.contains (F.getD i 0)) (fun i hi _ => ?_) (fun _ => ?_)
      · have hb0 : ((List.range F.length).any fun i => (F.getD i 0 == t) || rev.contains (F.getD i 0)) = (F.contains t || F.any fun x => rev.contains x) := by
          rw [Bool.eq_iff_iff, List.any_eq_true, Bool.or_eq_true, List.contains_iff_mem, List.any_eq_true]
          constructor
          · rintro ⟨i, h1, h2⟩
            have hm := getD_memN F (by have := List.mem_range.1 h1; omega : (i : Int) < _) 0
            rw [Bool.or_eq_true] at h2
            rcases h2 with h2 | h2
            · exact .inl (by rw [← eq_of_beq h2]; exact hm)
            · exact .inr ⟨_, hm, h2⟩
          · rintro (h | ⟨x, h, h2⟩)
            · obtain ⟨i, hi, e⟩ := mem_getD h 0
              exact ⟨i, List.mem_range.2 hi, by rw [e]; simp⟩
            · obtain ⟨i, hi, e⟩ := mem_getD h 0
              exact ⟨i, List.mem_range.2 hi, by rw [e, h2, Bool.or_true]⟩
        rw [hb0] at s0
        unfold zal
        cases hb : (F.contains t || F.any fun x => rev.contains x) with
        | true =>
          rw [hb, if_pos rfl] at e0
          rw [hb] at s0
          rw [e0]
          exact ⟨false, M.i_bind (refKept_ends ws rev t) (M.i_f (by simp [hK]) (M.i_f (by rw [hL]; rfl) (M.i_bind s0 M.i_pure))), fun _ => rfl, fun h => by cases h⟩
        | false =>
          rw [hb, if_neg (by simp)] at e0
          rw [hb] at s0
          rw [e0]
          obtain ⟨b, h1, h2⟩ := refkeeps_out (opened_right hO) (listed_rng hLs).1 ht.1 ht.2 F
          exact ⟨b, M.i_bind (refKept_ends ws rev t) (M.i_f (by simp [hK]) (M.i_f (by rw [hL]; rfl) (M.i_bind s0 (M.i_bind h1 M.i_pure)))), fun h => absurd rfl h, fun _ => h2⟩
      · simp only [za0]
        refine M.i_t (by simpa using hi) (M.grdD (by omega) ?_)
        cases (F.getD i 0 == t) || rev.contains (F.getD i 0) <;> exact M.i_pure
      · simp only [za0]
        exact M.i_f (by simp) M.i_pure
    · rw [if_pos hL] at e0
      rw [e0]
      refine ⟨false, ?_, fun _ => rfl, fun h => absurd h hL⟩
      unfold zal
      exact M.i_bind (refKept_ends ws rev t) (M.i_f (by simp [hK]) (M.i_t (by simpa using hL) M.i_pure))
  · have e0 : keepsE ws rev t F = keptE ws rev t := by unfold keepsE; rw [if_pos hK]
    rw [e0]
    refine ⟨false, ?_, fun _ => rfl, fun h => absurd h hK⟩
    unfold zal
    exact M.i_bind (refKept_ends ws rev t) (M.i_t (by simpa using hK) M.i_pure)
/-- Both answer alike. -/
theorem keeps_same (ws : List Work) (rev : List Int) (t : Int) (F : List Int) : ∃ b, (zae ws rev t F).Ends (b, keepsE ws rev t F) /\ (zal ws rev t F).Ends (b, keepsE ws rev t F) := by
  obtain ⟨b, h1, h2, h3⟩ := zdG ws rev t F
  obtain ⟨c, k1, k2, k3⟩ := refKeeps_all ws rev t F
  have : b = c := by
    by_cases e : keepsE ws rev t F = 0
    · rw [Bool.eq_iff_iff, h3 e, k3 e]
    · rw [h2 e, k2 e]
  subst this
  exact ⟨b, h1, k1⟩
end Go.Proofs.Ytndobgodeicloaa
namespace Go.Nm
variable {ws : List Work} {rev : List Int} {t : Nat}
/-- The error of lines. -/
def apartE (ws : List Work) (rev : List Int) (t : Int) (ls : List (List Int)) : Int := if keptE ws rev t ≠ 0 then keptE ws rev t else if 30 < (ls.length : Int) then 3 else if (ls.all fun l => l.all fun x => inB x 0 ((ws.length : Int) - 1)) = false then 2 else 0
/-- One line that is apart from those ahead. -/
def NextA (ws : List Work) (rev : List Int) (t : Nat) (ls : List (List Int)) (k : Nat) : Prop := LineA ws rev t (ls.getD k []) /\ ∀ m ∈ ls.take k, ∀ x ∈ midL m, x ∉ midL (ls.getD k [])
theorem ApartA.next {ls : List (List Int)} (h : ApartA ws rev t ls) {k : Nat} (hk : k < ls.length) : NextA ws rev t ls k := by
  refine ⟨h.each _ (getD_memN ls (by omega : (k : Int) < _) []), ?_⟩
  have h2 := h.two
  rw [← List.take_append_drop (k + 1) ls, show ls.take (k + 1) = ls.take k ++ [ls.getD k []] from take_succ_getD ls hk []] at h2
  have h3 := (List.pairwise_append.1 (List.pairwise_append.1 h2).1).2.2
  intro m hm x hx
  exact h3 m hm _ (by simp) x hx
theorem ApartA.snoc {ls : List (List Int)} {k : Nat} (hk : k < ls.length) (h : ApartA ws rev t (ls.take k)) (hn : NextA ws rev t ls k) : ApartA ws rev t (ls.take (k + 1)) := by
  rw [take_succ_getD ls hk []]
  refine ⟨fun l hl => ?_, List.pairwise_append.2 ⟨h.two, List.pairwise_singleton _ _, fun a ha b hb x hx => ?_⟩⟩
  · rcases List.mem_append.1 hl with hl | hl
    · exact h.each l hl
    · rw [List.mem_singleton.1 hl]; exact hn.1
  · rw [List.mem_singleton.1 hb]; exact hn.2 a ha x hx
end Go.Nm
namespace Go.Proofs.Ytndobgodeicloaa
open Go Go.Nm
variable {ws : List Work} {rev : List Int} {t : Nat}
/-- What a line has to be at first sight. -/
def firstB (ws : List Work) (rev : List Int) (t : Nat) (l : List Int) : Prop := 2 <= l.length /\ lineB ws l = true /\ l.getD 0 0 ∈ rev /\ l.getD (l.length - 1) 0 = (t : Int)
theorem apart_mid (hO : openedE ws = 0) {ls : List (List Int)} {k : Nat} (hk : k < ls.length) (hr : ∀ x ∈ ls.getD k [], 0 <= x /\ x < (ws.length : Int)) (hf : firstB ws rev t (ls.getD k [])) {ar : List Bool} (hl : ar.length = 30)
    (hm : ∀ x : Nat, x < 30 -> (ar.getD x false = true ↔ ∃ l ∈ ls.take k, (x : Int) ∈ midL l)) :
    (M.iter (zaR rev (t : Int) ls k) (ar, 0)).Out (fun q => match q with
      | .inl _ => ¬ NextA ws rev t ls k
      | .inr ar' => NextA ws rev t ls k /\ ar'.length = 30 /\ ∀ x : Nat, x < 30 -> (ar'.getD x false = true ↔ ∃ l ∈ ls.take (k + 1), (x : Int) ∈ midL l)) := by
  have hlen := right_len (opened_right hO)
  have htk : ls.take (k + 1) = ls.take k ++ [ls.getD k []] := take_succ_getD ls hk []
  unfold NextA
  generalize hle : ls.getD k [] = l at *
  obtain ⟨h2, hline, hhead, hlast⟩ := hf
  have hml := (mid_get (l := l) (s := 0)).1
  refine M.o_for (l.length - 2) (fun s st => st.2 = s /\ st.1.length = 30 /\ (∀ x : Nat, x < 30 -> (st.1.getD x false = true ↔ (∃ m ∈ ls.take k, (x : Int) ∈ midL m) ∨ ∃ j, j < s /\ l.getD (j + 1) 0 = (x : Int))) /\ ∀ j, j < s -> innB rev (t : Int) (l.getD (j + 1) 0) = true /\ ∀ m ∈ ls.take k, l.getD (j + 1) 0 ∉ midL m) ?_ ?_ (s := (ar, 0)) ⟨rfl, hl, fun x hx => ⟨fun h => .inl ((hm x hx).1 h), fun h => (hm x hx).2 (h.resolve_right (by rintro ⟨j, hj, _⟩; omega))⟩, fun j hj => by omega⟩
  · rintro s ⟨a, s'⟩ hs ⟨rfl, ha, hx, hd⟩
    dsimp only at hs ha hx hd ⊢
    have hg := (mid_get (l := l) (s := s')).2 (by omega)
    have hrx := hr _ (getD_memN l (by omega : ((s' + 1 : Nat) : Int) < _) 0)
    have hmid : l.getD (s' + 1) 0 ∈ midL l := midL_mem.2 ⟨s' + 1, by omega, by omega, rfl⟩
    simp only [zaR]
    rw [hle, hml, hg]
    refine M.o_t (by simp only [decide_eq_true_eq]; omega) (M.o_grdD (by omega) (M.o_grd (gA2 hrx.1 (by omega)) (M.o_if (fun hb => ?_) (fun hb => ?_))))
    · refine M.o_pure fun hN => ?_
      have hin := innB_iff.1 (hN.1.mid (s' + 1) (by omega) (by omega))
      simp only [Bool.or_eq_true, beq_iff_eq, List.contains_iff_mem] at hb
      rcases hb with (hb | hb) | hb
      · have := (hx _ (by omega)).1 hb
        rw [Int.toNat_of_nonneg hrx.1] at this
        rcases this with ⟨m, m1, m2⟩ | ⟨j, j1, j2⟩
        · exact hN.2 m m1 _ m2 hmid
        · have := line_pos hO hr hline (j + 1) (s' + 1) (by omega) (by omega)
          rw [j2] at this
          omega
      · exact hin.1 hb
      · exact hin.2 hb
    · simp only [Bool.or_eq_false_iff, beq_eq_false_iff_ne, ne_eq] at hb
      have hnr : l.getD (s' + 1) 0 ∉ rev := fun h => by rw [List.contains_iff_mem.2 h] at hb; exact absurd hb.2 (by decide)
      have hq : Int.toNat (l.getD (s' + 1) 0) < a.length := by omega
      refine M.o_pure ⟨rfl, by simpa using ha, fun x hx30 => ?_, fun j hj => ?_⟩
      · dsimp only
        rw [setB_getD hq]
        by_cases e : x = Int.toNat (l.getD (s' + 1) 0)
        · rw [if_pos e]
          exact ⟨fun _ => .inr ⟨s', by omega, by omega⟩, fun _ => rfl⟩
        · rw [if_neg e, hx x hx30]
          refine or_congr Iff.rfl ⟨fun ⟨j, h1, h2⟩ => ⟨j, by omega, h2⟩, fun ⟨j, h1, h2⟩ => ?_⟩
          by_cases e2 : j = s'
          · subst e2; omega
          · exact ⟨j, by omega, h2⟩
      · by_cases e : j = s'
        · subst e
          refine ⟨innB_iff.2 ⟨hb.1.2, hnr⟩, fun m hm1 hm2 => ?_⟩
          have := (hx (Int.toNat (l.getD (j + 1) 0)) (by omega)).2 (.inl ⟨m, hm1, by rw [Int.toNat_of_nonneg hrx.1]; exact hm2⟩)
          rw [hb.1.1] at this
          cases this
        · exact hd j (by omega)
  · rintro ⟨a, s'⟩ ⟨rfl, ha, hx, hd⟩
    dsimp only at ha hx hd ⊢
    simp only [zaR]
    rw [hle, hml]
    refine M.o_f (by simp) (M.o_pure ⟨⟨⟨h2, hr, hline, hhead, hlast, fun j j1 j2 => ?_⟩, fun m hm x hxm hxl => ?_⟩, ha, fun x hx30 => ?_⟩)
    · have := (hd (j - 1) (by omega)).1
      rwa [show j - 1 + 1 = j from by omega] at this
    · obtain ⟨j, j1, j2, rfl⟩ := midL_mem.1 hxl
      have := (hd (j - 1) (by omega)).2 m hm
      rw [show j - 1 + 1 = j from by omega] at this
      exact this hxm
    · rw [hx x hx30, htk]
      constructor
      · rintro (⟨m, m1, m2⟩ | ⟨j, j1, j2⟩)
        · exact ⟨m, List.mem_append_left _ m1, m2⟩
        · exact ⟨l, by simp, midL_mem.2 ⟨j + 1, by omega, by omega, j2⟩⟩
      · rintro ⟨m, m1, m2⟩
        rcases List.mem_append.1 m1 with m1 | m1
        · exact .inl ⟨m, m1, m2⟩
        · rw [List.mem_singleton.1 m1] at m2
          obtain ⟨j, j1, j2, e⟩ := midL_mem.1 m2
          exact .inr ⟨j - 1, by omega, by rw [show j - 1 + 1 = j from by omega]; exact e⟩
/-- The first look at a line. -/
theorem first_iff {l : List Int} : ((((decide ((l.length : Int) < 2)) || (!(!(decide ((l.length : Int) < 2)) && (lineB ws l && decide (0 < (l.length : Int)))))) || (!(rev.contains (l.getD 0 0)))) || ((l.getD (Int.toNat ((l.length : Int) - 1)) 0) != (t : Int))) = false ↔ firstB ws rev t l := by
  unfold firstB
  rw [show Int.toNat ((l.length : Int) - 1) = l.length - 1 from by omega]
  simp only [Bool.or_eq_false_iff, decide_eq_false_iff_not, Bool.not_eq_false', Bool.and_eq_true, Bool.not_eq_true', decide_eq_true_eq, bne_eq_false_iff_eq, List.contains_iff_mem]
  constructor
  · rintro ⟨⟨⟨h1, _, h2, _⟩, h3⟩, h4⟩
    exact ⟨by omega, h2, h3, h4⟩
  · rintro ⟨h1, h2, h3, h4⟩
    exact ⟨⟨⟨by omega, by omega, h2, by omega⟩, h3⟩, h4⟩
theorem first_of {ls : List (List Int)} {k : Nat} (h : NextA ws rev t ls k) : firstB ws rev t (ls.getD k []) := ⟨h.1.two, h.1.line, h.1.head, h.1.last⟩
theorem apart_iter (hO : openedE ws = 0) {ls : List (List Int)} (hr : ∀ l ∈ ls, ∀ x ∈ l, 0 <= x /\ x < (ws.length : Int)) (hll : ∀ l ∈ ls, l.length <= 1000000) :
    (M.iter (zaD ws rev (t : Int) ls) (List.replicate 30 false, 0)).Out (fun q => match q with | .inl _ => ¬ ApartA ws rev t ls | .inr _ => ApartA ws rev t ls) := by
  refine M.o_for ls.length (fun k st => st.2 = k /\ st.1.length = 30 /\ (∀ x : Nat, x < 30 -> (st.1.getD x false = true ↔ ∃ l ∈ ls.take k, (x : Int) ∈ midL l)) /\ ApartA ws rev t (ls.take k)) ?_ ?_ (s := (List.replicate 30 false, 0)) ⟨rfl, by simp, fun x hx => ⟨fun h => ?_, fun ⟨l, h, _⟩ => by simp at h⟩, ⟨fun l h => by simp at h, by simp⟩⟩
  · rintro k ⟨ar, k'⟩ hk ⟨rfl, ha, hm, hA⟩
    dsimp only at hk ha hm hA ⊢
    have hmem := getD_memN ls (by omega : (k' : Int) < _) []
    have hld := webLeads_ends (hr _ hmem) (hll _ hmem)
    have hop : (M.opt (!(decide (((ls.getD k' []).length : Int) < 2))) (za5 ws (ls.getD k' [])) false).Ends (!(decide (((ls.getD k' []).length : Int) < 2)) && (lineB ws (ls.getD k' []) && decide (0 < ((ls.getD k' []).length : Int)))) := by
      refine M.i_opt (fun h => ?_) (fun h => ?_)
      · rw [h, Bool.true_and]; exact hld
      · rw [h]; rfl
    simp only [zaD]
    refine M.o_t (by simpa using hk) (M.o_grdD (by omega) (M.o_bindE hop (M.o_grd ?_ (M.o_grd ?_ (M.o_if (fun hb => ?_) (fun hb => ?_))))))
    · by_cases e : ((ls.getD k' []).length : Int) < 2
      · rw [decide_eq_true e]; rfl
      · rw [decide_eq_true (by omega : 0 < ((ls.getD k' []).length : Int)), Bool.or_true]
    · by_cases e : ((ls.getD k' []).length : Int) < 2
      · rw [decide_eq_true e]; rfl
      · rw [decide_eq_true (by omega : (0 : Int) <= ((ls.getD k' []).length : Int) - 1), decide_eq_true (by omega : ((ls.getD k' []).length : Int) - 1 < ((ls.getD k' []).length : Int))]
        exact Bool.or_true _
    · refine M.o_pure fun hN => ?_
      have := first_iff.2 (first_of (hN.next hk))
      rw [this] at hb
      cases hb
    · have hf := first_iff.1 hb
      have h2 := hf.1
      refine M.o_grd (gA3 (by omega) (by omega) (by omega)) (M.o_bind (apart_mid hO hk (hr _ hmem) hf ha hm) ?_)
      rintro (ar' | ar') hq
      · exact M.o_pure fun hN => hq (hN.next hk)
      · exact M.o_pure ⟨rfl, hq.2.1, hq.2.2, hA.snoc hk hq.1⟩
  · rintro ⟨ar, k'⟩ ⟨rfl, ha, hm, hA⟩
    rw [List.take_length] at hA
    simp only [zaD]
    exact M.o_f (by simp) (M.o_pure hA)
  · rw [List.getD_eq_getElem?_getD, List.getElem?_replicate] at h
    split at h <;> simp at h
theorem refapart_iter (hO : openedE ws = 0) (hn : (t : Int) ∉ rev) {ls : List (List Int)} (hr : ∀ l ∈ ls, ∀ x ∈ l, 0 <= x /\ x < (ws.length : Int)) (hll : ∀ l ∈ ls, l.length <= 1000000) (hls : ls.length <= 1000000) :
    (M.iter (zaJ ws rev (t : Int) ls) 0).Out (fun q => match q with | .inl _ => ¬ ApartA ws rev t ls | .inr _ => ApartA ws rev t ls) := by
  refine M.o_for ls.length (fun k st => st = k /\ ApartA ws rev t (ls.take k)) ?_ ?_ ⟨rfl, ⟨fun l h => by simp at h, by simp⟩⟩
  · rintro k k' hk ⟨rfl, hA⟩
    have hmem := getD_memN ls (by omega : (k' : Int) < _) []
    have hrl := hr _ hmem
    have hlm := hll _ hmem
    have hld := refleads_ends hrl hlm
    have hop : (M.opt (!(decide (((ls.getD k' []).length : Int) < 2))) (zbv ws (ls.getD k' [])) false).Ends (!(decide (((ls.getD k' []).length : Int) < 2)) && (lineB ws (ls.getD k' []) && decide (0 < ((ls.getD k' []).length : Int)))) := by
      refine M.i_opt (fun h => ?_) (fun h => ?_)
      · rw [h, Bool.true_and]; exact hld
      · rw [h]; rfl
    simp only [zaJ]
    refine M.o_t (by simpa using hk) (M.o_grdD (by omega) (M.o_bindE hop (M.o_grd ?_ (M.o_grd ?_ (M.o_if (fun hb => ?_) (fun hb => ?_))))))
    · by_cases e : ((ls.getD k' []).length : Int) < 2
      · rw [decide_eq_true e]; rfl
      · rw [decide_eq_true (by omega : 0 < ((ls.getD k' []).length : Int)), Bool.or_true]
    · by_cases e : ((ls.getD k' []).length : Int) < 2
      · rw [decide_eq_true e]; rfl
      · rw [decide_eq_true (by omega : (0 : Int) <= ((ls.getD k' []).length : Int) - 1), decide_eq_true (by omega : ((ls.getD k' []).length : Int) - 1 < ((ls.getD k' []).length : Int))]
        exact Bool.or_true _
    · refine M.o_pure fun hN => ?_
      have := first_iff.2 (first_of (hN.next hk))
      rw [this] at hb
      cases hb
    · have hf := first_iff.1 hb
      have h2 := hf.1
      refine M.o_bind (P := fun q => match q with | .inl _ => ¬ NextA ws rev t ls k' | .inr _ => NextA ws rev t ls k') ?_ ?_
      · have inner : ∀ i2 : Nat, i2 < (ls.getD k' []).length -> (M.iter (zaX ls k' i2) 0).Out (fun q => match q with
            | .inl _ => i2 + 1 < (ls.getD k' []).length /\ ∃ m ∈ ls.take k', (ls.getD k' []).getD i2 0 ∈ m
            | .inr _ => i2 + 1 < (ls.getD k' []).length -> ∀ m ∈ ls.take k', (ls.getD k' []).getD i2 0 ∉ m) := by
          intro i2 hi2
          refine M.o_for k' (fun m s => s = m /\ (i2 + 1 < (ls.getD k' []).length -> ∀ j, j < m -> (ls.getD k' []).getD i2 0 ∉ ls.getD j [])) ?_ ?_ ⟨rfl, fun _ j hj => by omega⟩
          · rintro m m' hm ⟨rfl, hd⟩
            simp only [zaX]
            refine M.o_t (by simpa using hm) (M.o_grd (gOr (by omega)) (M.o_if (fun hb => ?_) (fun hb => ?_)))
            · simp only [Bool.and_eq_true, decide_eq_true_eq, List.contains_iff_mem] at hb
              refine M.o_pure ⟨by omega, ls.getD m' [], ?_, hb.2⟩
              rw [List.mem_take_iff_getElem]
              exact ⟨m', by omega, (getD_el ls (by omega) []).symm⟩
            · refine M.o_grd (gA2 (by omega) (by omega)) (M.o_pure ⟨rfl, fun h j hj => ?_⟩)
              by_cases e : j = m'
              · subst e
                intro hm
                rw [decide_eq_true (by omega : (i2 : Int) < ((ls.getD k' []).length : Int) - 1), List.contains_iff_mem.2 hm] at hb
                cases hb
              · exact hd h j (by omega)
          · rintro m' ⟨rfl, hd⟩
            simp only [zaX]
            refine M.o_f (by simp) (M.o_pure fun h m hm => ?_)
            rw [List.mem_take_iff_getElem] at hm
            obtain ⟨j, hj, rfl⟩ := hm
            rw [← getD_el ls (by omega) []]
            exact hd h j (by omega)
        unfold NextA at *
        generalize hle : ls.getD k' [] = l at *
        obtain ⟨_, hline, hhead, hlast⟩ := hf
        have nott : ∀ j, j + 1 < l.length -> l.getD j 0 ≠ (t : Int) := by
          intro j hj e
          have := line_pos hO hrl hline j (l.length - 1) (by omega) (by omega)
          rw [hlast, e] at this
          omega
        refine M.o_for (l.length - 1) (fun i s => s = i + 1 /\ ∀ j, j < i -> l.getD (j + 1) 0 ∉ rev /\ (j + 2 < l.length -> ∀ m ∈ ls.take k', l.getD (j + 1) 0 ∉ m)) ?_ ?_ ⟨rfl, fun j hj => by omega⟩
        · rintro i s hi ⟨rfl, hd⟩
          simp only [zbr]
          rw [hle]
          refine M.o_t (by simp; omega) (M.o_grdD (by omega) (M.o_if (fun hb => ?_) (fun hb => ?_)))
          · refine M.o_pure fun hN => ?_
            have hb := List.contains_iff_mem.1 hb
            by_cases e : i + 2 < l.length
            · exact (innB_iff.1 (hN.1.mid (i + 1) (by omega) e)).2 hb
            · rw [show i + 1 = l.length - 1 from by omega, hlast] at hb
              exact hn hb
          · have hnr : l.getD (i + 1) 0 ∉ rev := fun h => by rw [List.contains_iff_mem.2 h] at hb; cases hb
            refine M.o_bind (inner (i + 1) (by omega)) ?_
            rintro (u | u) hq
            · refine M.o_pure fun hN => ?_
              obtain ⟨h1, m, hm, hx⟩ := hq
              have hLm := hA.each m hm
              have hin := innB_iff.1 (hN.1.mid (i + 1) (by omega) h1)
              obtain ⟨j, hj, e⟩ := mem_getD hx 0
              by_cases e0 : j = 0
              · subst e0
                have := hLm.head
                rw [e] at this
                exact hin.2 this
              · by_cases el : j + 1 < m.length
                · exact hN.2 m hm _ (midL_mem.2 ⟨j, by omega, el, e⟩) (midL_mem.2 ⟨i + 1, by omega, h1, rfl⟩)
                · have := hLm.last
                  rw [show m.length - 1 = j from by omega, e] at this
                  exact hin.1 this
            · refine M.o_pure ⟨rfl, fun j hj => ?_⟩
              by_cases e : j = i
              · subst e
                exact ⟨hnr, hq⟩
              · exact hd j (by omega)
        · rintro s ⟨rfl, hd⟩
          simp only [zbr]
          rw [hle]
          refine M.o_f (by simp; omega) (M.o_pure ⟨⟨h2, hrl, hline, hhead, hlast, fun j j1 j2 => ?_⟩, fun m hm x hxm hxl => ?_⟩)
          · have := (hd (j - 1) (by omega)).1
            rw [show j - 1 + 1 = j from by omega] at this
            exact innB_iff.2 ⟨nott j j2, this⟩
          · obtain ⟨j, j1, j2, rfl⟩ := midL_mem.1 hxl
            have := (hd (j - 1) (by omega)).2 (by omega) m hm
            rw [show j - 1 + 1 = j from by omega] at this
            obtain ⟨q, _, q2, e⟩ := midL_mem.1 hxm
            exact this (by rw [← e]; exact getD_memN m (by omega : (q : Int) < _) 0)
      · rintro (u | u) hq
        · exact M.o_pure fun hN => hq (hN.next hk)
        · exact M.o_pure ⟨rfl, hA.snoc hk hq⟩
  · rintro k' ⟨rfl, hA⟩
    rw [List.take_length] at hA
    simp only [zaJ]
    exact M.o_f (by simp) (M.o_pure hA)
/-- All works of lines are in range, or not. -/
theorem everyList_all {s : List (List Int)} {f : List Int -> M Bool} {p : List Int -> Bool} (hf : ∀ x ∈ s, (f x).Ends (p x)) : (zbs f s).Ends (s.all p) := by
  have h := M.i_loopQ (body := za3 s (fun x => zbl x f)) (fun r => match r with | .inl k => 0 <= k /\ s.all p = false | .inr _ => s.all p = true)
    (fun m i => m = s.length - i /\ i <= s.length /\ (s.take i).all p = true) (by
      rintro m i ⟨rfl, hi, ha⟩
      simp only [za3, zbl]
      by_cases e : i < s.length
      · have hmem := getD_memN s (by omega : (i : Int) < _) []
        have hp := hf _ hmem
        cases hc : p (s.getD i []) with
        | false =>
          rw [hc] at hp
          refine .inr ⟨.inl (i : Int), M.i_t (by simpa using e) (M.grdD (by omega) (M.i_bind (M.i_bind hp M.i_pure) M.i_pure)), by omega, ?_⟩
          exact List.all_eq_false.2 ⟨_, hmem, by rw [hc]; decide⟩
        | true =>
          rw [hc] at hp
          refine .inl ⟨i + 1, s.length - (i + 1), by omega, M.i_t (by simpa using e) (M.grdD (by omega) (M.i_bind (M.i_bind hp M.i_pure) M.i_pure)), rfl, e, ?_⟩
          rw [take_succ_getD s e [], List.all_append, ha, Bool.true_and]
          show (p (s.getD i []) && true) = true
          rw [hc]; rfl
      · obtain rfl : i = s.length := by omega
        rw [List.take_length] at ha
        exact .inr ⟨.inr (), M.i_f (by simp) M.i_pure, ha⟩) _ 0 ⟨rfl, Nat.zero_le _, by simp⟩
  obtain ⟨r, h1, h2⟩ := h
  unfold zbs zci zcg
  cases r with
  | inl k =>
    dsimp only at h2
    rw [h2.2]
    exact M.i_bind (M.i_bind (M.i_bind h1 M.i_pure) (by rw [decide_eq_true h2.1]; exact M.i_pure)) M.i_pure
  | inr u =>
    dsimp only at h2
    rw [h2]
    exact M.i_bind (M.i_bind (M.i_bind h1 M.i_pure) M.i_pure) M.i_pure
theorem refRange (ls : List (List Int)) (hll : ∀ l ∈ ls, l.length <= 1000000) : (M.iter (zau ws ls) 0).Ends (if (ls.all fun l => l.all fun x => inB x 0 ((ws.length : Int) - 1)) = false then .inl () else .inr ()) := by
  have s0 := M.i_scan (b := zau ws ls) ls.length (fun k => !((ls.getD k []).all fun x => inB x 0 ((ws.length : Int) - 1))) (fun k hk _ => ?_) (fun _ => ?_)
  · rw [any_range_all ls [] (fun l => l.all fun x => inB x 0 ((ws.length : Int) - 1))] at s0
    revert s0
    cases ls.all fun l => l.all fun x => inB x 0 ((ws.length : Int) - 1) <;> exact id
  · have s1 := M.i_scan (b := zaV ws ls k) (ls.getD k []).length (fun i => !(inB ((ls.getD k []).getD i 0) 0 ((ws.length : Int) - 1))) (fun i hi _ => ?_) (fun _ => ?_)
    · rw [any_range_all (ls.getD k []) 0 (fun x => inB x 0 ((ws.length : Int) - 1))] at s1
      simp only [zau]
      refine M.i_t (by simpa using hk) (M.i_bind s1 ?_)
      cases (ls.getD k []).all fun x => inB x 0 ((ws.length : Int) - 1) <;> exact M.i_pure
    · simp only [zaV, outB_eq]
      refine M.grdD (by omega) (M.i_t (by simpa using hi) (M.grdD (by omega) ?_))
      cases inB ((ls.getD k []).getD i 0) 0 ((ws.length : Int) - 1) <;> exact M.i_pure
    · simp only [zaV]
      exact M.grdD (by omega) (M.i_f (by simp) M.i_pure)
  · simp only [zau]
    exact M.i_f (by simp) M.i_pure
/-- Both answer alike. -/
theorem apart_same (ws : List Work) (rev : List Int) (t : Int) (ls : List (List Int)) (hll : ∀ l ∈ ls, l.length <= 1000000) (hls : ls.length <= 1000000) : ∃ b, (zby ws rev t ls).Ends (b, apartE ws rev t ls) /\ (zbd ws rev t ls).Ends (b, apartE ws rev t ls) /\ (apartE ws rev t ls = 0 -> ApartA ws rev t.toNat ls -> b = true) := by
  unfold zby zbd
  by_cases hK : keptE ws rev t = 0
  · obtain ⟨hA, ht, hn⟩ := kept_ok hK
    obtain ⟨hO, _⟩ := asked_ok hA
    have e0 : apartE ws rev t ls = if 30 < (ls.length : Int) then 3 else if (ls.all fun l => l.all fun x => inB x 0 ((ws.length : Int) - 1)) = false then 2 else 0 := by unfold apartE; rw [if_neg (by simp [hK])]
    obtain ⟨tn, rfl⟩ := Int.eq_ofNat_of_zero_le ht.1
    have hkept := kept_ends hA (by omega : tn < ws.length) hn
    have hrk := refKept_ends ws rev (tn : Int)
    rw [hK] at hrk
    by_cases h30 : 30 < (ls.length : Int)
    · rw [if_pos h30] at e0
      rw [e0]
      exact ⟨false, M.i_bind hkept (M.i_f rfl (M.i_t (decide_eq_true h30) M.i_pure)), M.i_bind hrk (M.i_f rfl (M.i_t (decide_eq_true h30) M.i_pure)), fun h => by cases h⟩
    · rw [if_neg h30] at e0
      have he : (zbs (fun x => zbx x ws) ls).Ends (ls.all fun l => l.all fun x => inB x 0 ((ws.length : Int) - 1)) := everyList_all fun l _ => M.i_bind (everyInt_ends (s := l) (f := fun x => zbK x ws) (p := fun x => inB x 0 ((ws.length : Int) - 1)) (fun x _ => M.i_pure)) M.i_pure
      have hrr := refRange (ws := ws) ls hll
      cases ha : ls.all fun l => l.all fun x => inB x 0 ((ws.length : Int) - 1) with
      | false =>
        rw [ha, if_pos rfl] at e0
        rw [ha] at he hrr
        rw [if_pos rfl] at hrr
        rw [e0]
        exact ⟨false, M.i_bind hkept (M.i_f rfl (M.i_f (decide_eq_false h30) (M.i_bind he (M.i_t rfl M.i_pure)))), M.i_bind hrk (M.i_f rfl (M.i_f (decide_eq_false h30) (M.i_bind hrr M.i_pure))), fun h => by cases h⟩
      | true =>
        rw [ha, if_neg (by simp)] at e0
        rw [ha] at he hrr
        rw [if_neg (by simp)] at hrr
        rw [e0]
        have hr : ∀ l ∈ ls, ∀ x ∈ l, 0 <= x /\ x < (ws.length : Int) := fun l hl x hx => by
          have := List.all_eq_true.1 (List.all_eq_true.1 ha l hl) x hx
          unfold inB at this
          simp only [Bool.and_eq_true, decide_eq_true_eq] at this
          omega
        obtain ⟨q1, p1, p2⟩ := apart_iter (t := tn) (rev := rev) hO hr hll
        obtain ⟨q2, r1, r2⟩ := refapart_iter (t := tn) hO hn hr hll hls
        cases q1 with
        | inl a =>
          cases q2 with
          | inl u => exact ⟨false, M.i_bind hkept (M.i_f rfl (M.i_f (decide_eq_false h30) (M.i_bind he (M.i_f rfl (M.i_bind p1 M.i_pure))))), M.i_bind hrk (M.i_f rfl (M.i_f (decide_eq_false h30) (M.i_bind hrr (M.i_bind r1 M.i_pure)))), fun _ h => absurd h p2⟩
          | inr u => exact absurd r2 p2
        | inr a =>
          cases q2 with
          | inl u => exact absurd p2 r2
          | inr u => exact ⟨true, M.i_bind hkept (M.i_f rfl (M.i_f (decide_eq_false h30) (M.i_bind he (M.i_f rfl (M.i_bind p1 M.i_pure))))), M.i_bind hrk (M.i_f rfl (M.i_f (decide_eq_false h30) (M.i_bind hrr (M.i_bind r1 M.i_pure)))), fun _ _ => rfl⟩
  · have e0 : apartE ws rev t ls = keptE ws rev t := by unfold apartE; rw [if_pos hK]
    rw [e0]
    exact ⟨false, M.i_bind (zcq hK) (M.i_t (by simpa using hK) M.i_pure), M.i_bind (refKept_ends ws rev t) (M.i_t (by simpa using hK) M.i_pure), fun h => absurd h hK⟩
end Go.Proofs.Ytndobgodeicloaa
namespace Go.Nm
variable {ws : List Work} {rev : List Int} {t : Nat}
/-- Is a work in a set of a number? -/
def bitB (set i : Nat) : Bool := (((set : Int) / 2 ^ i) % 2) == 1
def setL (set n : Nat) : List Int := ((List.range n).filter (bitB set)).map fun i : Nat => (i : Int)
theorem setL_next (set n : Nat) : setL set (n + 1) = if bitB set n then setL set n ++ [(n : Int)] else setL set n := by
  unfold setL
  rw [List.range_succ, List.filter_append]
  split
  · rename_i h; simp only [List.filter_cons, h, if_true, List.filter_nil, List.map_append, List.map_cons, List.map_nil]
  · rename_i h; simp only [List.filter_cons, h, List.filter_nil, Bool.false_eq_true, if_false, List.append_nil]
theorem setL_len (set n : Nat) : (setL set n).length <= n := by
  unfold setL
  rw [List.length_map]
  exact Nat.le_trans (List.length_filter_le _ _) (by simp)
theorem pow_cast (n : Nat) : (2 : Int) ^ n = ((2 ^ n : Nat) : Int) := by
  induction n with
  | zero => rfl
  | succ n ih => rw [Int.pow_succ, ih, Nat.pow_succ]; omega
theorem bitB_test (set i : Nat) : bitB set i = Nat.testBit set i := by
  unfold bitB
  rw [Nat.testBit_eq_decide_div_mod_eq, pow_cast]
  have : (((set : Int) / ((2 ^ i : Nat) : Int)) % 2) = ((set / 2 ^ i % 2 : Nat) : Int) := by
    rw [← Int.natCast_ediv]
    omega
  rw [this, Bool.eq_iff_iff, beq_iff_eq, decide_eq_true_iff]
  omega
/-- Each set has a number. -/
theorem set_of (p : Nat -> Bool) : ∀ n, ∃ set, set < 2 ^ n /\ ∀ i, i < n -> bitB set i = p i
  | 0 => ⟨0, by simp, fun i hi => by omega⟩
  | n + 1 => by
    obtain ⟨s, h1, h2⟩ := set_of p n
    cases hp : p n with
    | false =>
      refine ⟨s, by rw [Nat.pow_succ]; omega, fun i hi => ?_⟩
      by_cases e : i = n
      · subst e
        rw [bitB_test, Nat.testBit_lt_two_pow h1, hp]
      · exact h2 i (by omega)
    | true =>
      refine ⟨2 ^ n + s, by rw [Nat.pow_succ]; omega, fun i hi => ?_⟩
      rw [bitB_test]
      by_cases e : i = n
      · subst e
        rw [Nat.testBit_two_pow_add_eq, Nat.testBit_lt_two_pow h1, hp]
        rfl
      · rw [Nat.testBit_two_pow_add_gt (by omega), ← bitB_test]
        exact h2 i (by omega)
theorem setL_mem {s n : Nat} {x : Int} : x ∈ setL s n ↔ ∃ i : Nat, i < n /\ bitB s i = true /\ x = (i : Int) := by
  unfold setL
  simp only [List.mem_map, List.mem_filter, List.mem_range]
  constructor
  · rintro ⟨i, ⟨h1, h2⟩, rfl⟩; exact ⟨i, h1, h2, rfl⟩
  · rintro ⟨i, h1, h2, rfl⟩; exact ⟨i, ⟨h1, h2⟩, rfl⟩
/-- A set that may be frozen, and keeps the work. -/
def GoodS (ws : List Work) (rev : List Int) (t : Nat) (F : List Int) : Prop := (t : Int) ∉ F /\ (∀ r ∈ rev, r ∉ F) /\ ¬ Rch ws rev F t
end Go.Nm
namespace Go.Proofs.Ytndobgodeicloaa
open Go Go.Nm
variable {ws : List Work} {rev : List Int} {t : Nat}
theorem zdx {set : Nat} (hn : ws.length <= 30) (hs : set <= 1073741824) : (M.iter (zaE ws set) (0, [])).Ends (setL set ws.length, setL set ws.length) := by
  refine M.i_for (fun i => (i, setL set i)) ws.length (fun i hi => ?_) ?_
  · have hl := setL_len set i
    have hp : (0 : Int) < 2 ^ i := Int.pow_pos (by decide)
    have h0 : 0 <= (set : Int) / 2 ^ i := Int.ediv_nonneg (by omega) (by omega)
    have h1 : (set : Int) / 2 ^ i <= set := Int.ediv_le_self _ (by omega)
    simp only [zaE]
    rw [setL_next]
    refine M.i_t (by simpa using hi) (M.i_grd (gA2 (by omega) (by omega)) (M.i_grd (gA2 h0 (by omega)) ?_))
    show (bif bitB set i then _ else _ : M _).Ends _
    cases bitB set i with
    | true => exact M.i_t rfl (M.grdD (by simp only [List.length_cons, List.length_nil]; omega) M.i_pure)
    | false => exact M.i_f rfl M.i_pure
  · simp only [zaE]
    exact M.i_f (by simp) M.i_pure
theorem allowed_ends (F : List Int) : (M.iter (zat rev F) (true, 0)).Ends (rev.all fun r => !(F.contains r)) := by
  have := M.i_for (body := zat rev F) (r := (rev.all fun r => !(F.contains r))) (fun k => ((rev.take k).all fun r => !(F.contains r), k)) rev.length (fun k hk => ?_) ?_
  · simpa using this
  · simp only [zat]
    refine M.i_t (by simpa using hk) (M.i_grd (gOr (by omega)) ?_)
    rw [take_succ_getD rev hk 0, List.all_append]
    simp only [List.all_cons, List.all_nil, Bool.and_true]
    exact M.i_pure
  · simp only [zat, List.take_length]
    exact M.i_f (by simp) M.i_pure
/-- The best set so far. -/
structure Best (ws : List Work) (rev : List Int) (t : Nat) (i : Nat) (b : Int) : Prop where
  is : b = -1 ∨ ∃ s, s < i /\ GoodS ws rev t (setL s ws.length) /\ b = ((setL s ws.length).length : Int)
  no : b = -1 -> ∀ s, s < i -> ¬ GoodS ws rev t (setL s ws.length)
  le : b ≠ -1 -> ∀ s, s < i -> GoodS ws rev t (setL s ws.length) -> b <= ((setL s ws.length).length : Int)
theorem Best.skip {i : Nat} {b : Int} (h : Best ws rev t i b) (hs : ¬ GoodS ws rev t (setL i ws.length) ∨ (b ≠ -1 /\ b <= ((setL i ws.length).length : Int))) : Best ws rev t (i + 1) b := by
  refine ⟨h.is.imp id fun ⟨s, h1, h2⟩ => ⟨s, by omega, h2⟩, fun hb s hs' => ?_, fun hb s hs' hg => ?_⟩
  · by_cases e : s = i
    · subst e
      rcases hs with hs | hs
      · exact hs
      · exact absurd hb hs.1
    · exact h.no hb s (by omega)
  · by_cases e : s = i
    · subst e
      rcases hs with hs | hs
      · exact absurd hg hs
      · exact hs.2
    · exact h.le hb s (by omega) hg
theorem Best.put {i : Nat} {b : Int} (h : Best ws rev t i b) (hg : GoodS ws rev t (setL i ws.length)) (hb : b = -1 ∨ ((setL i ws.length).length : Int) < b) : Best ws rev t (i + 1) ((setL i ws.length).length : Int) := by
  refine ⟨.inr ⟨i, by omega, hg, rfl⟩, fun e => by omega, fun _ s hs hg' => ?_⟩
  by_cases e : s = i
  · subst e; omega
  · rcases hb with hb | hb
    · exact absurd hg' (h.no hb s (by omega))
    · by_cases e2 : b = -1
      · exact absurd hg' (h.no e2 s (by omega))
      · have := h.le e2 s (by omega) hg'
        omega
theorem fewest_out (hK : keptE ws rev (t : Int) = 0) : (zay ws rev (t : Int)).Out (fun r => (r = (0, 5) /\ ∀ s, s < 2 ^ ws.length -> ¬ GoodS ws rev t (setL s ws.length)) ∨
    (r.2 = 0 /\ (∃ s, s < 2 ^ ws.length /\ GoodS ws rev t (setL s ws.length) /\ r.1 = ((setL s ws.length).length : Int)) /\ ∀ s, s < 2 ^ ws.length -> GoodS ws rev t (setL s ws.length) -> r.1 <= ((setL s ws.length).length : Int))) := by
  obtain ⟨hA, ht, hn⟩ := kept_ok hK
  obtain ⟨hO, hLs⟩ := asked_ok hA
  have hR := opened_right hO
  have hlen := right_len hR
  have hrr := (listed_rng hLs).1
  have hpow : 2 ^ ws.length <= 1073741824 := by
    have := Nat.pow_le_pow_right (n := 2) (by decide) hlen.2
    omega
  have hrk := refKept_ends ws rev (t : Int)
  rw [hK] at hrk
  unfold zay
  refine M.o_bindE hrk (M.o_f rfl (M.o_bind (P := fun b => Best ws rev t (2 ^ ws.length) b) ?_ ?_))
  · refine M.o_for (2 ^ ws.length) (fun i st => st.1 = i /\ Best ws rev t i st.2) ?_ ?_ (s := (0, -1)) ⟨rfl, .inl rfl, fun _ s hs => by omega, fun h => absurd rfl h⟩
    · rintro i ⟨s, b⟩ hi ⟨rfl, hb⟩
      dsimp only at hi hb ⊢
      have hl := setL_len s ws.length
      have hpc := pow_cast ws.length
      have hp0 : (0 : Int) < 2 ^ ws.length := Int.pow_pos (by decide)
      have hp1 : (2 : Int) ^ ws.length <= 1073741824 := by rw [hpc]; exact Int.ofNat_le.2 hpow
      simp only [za6]
      refine M.o_grd ?_ (M.o_t (by simp only [decide_eq_true_eq, hpc]; omega) (M.o_bindE (zdx hlen.2 (by omega)) ?_))
      · rw [decide_eq_true (by omega : (0 : Int) <= (ws.length : Int)), decide_eq_true (by omega : (ws.length : Int) <= 62), decide_eq_true (by omega : (-9223372036854775808 : Int) <= 1 * 2 ^ ws.length), decide_eq_true (by omega : 1 * (2 : Int) ^ ws.length <= 9223372036854775807)]
        rfl
      dsimp only
      refine M.o_if (fun hc => ?_) (fun hc => ?_)
      · refine M.o_grd (gA2 (by omega) (by omega)) (M.o_pure ⟨rfl, hb.skip ?_⟩)
        simp only [Bool.or_eq_true, Bool.and_eq_true, bne_iff_ne, ne_eq, decide_eq_true_eq, List.contains_iff_mem] at hc
        rcases hc with hc | hc
        · exact .inl fun h => h.1 hc
        · exact .inr hc
      · simp only [Bool.or_eq_false_iff, Bool.and_eq_false_iff, bne_eq_false_iff_eq, decide_eq_false_iff_not] at hc
        obtain ⟨hc1, hc2⟩ := hc
        have htn : (t : Int) ∉ setL s ws.length := fun h => by rw [List.contains_iff_mem.2 h] at hc1; cases hc1
        obtain ⟨kb, k1, k2⟩ := refkeeps_out hR hrr (t := (t : Int)) (by omega) ht.2 (setL s ws.length)
        rw [Int.toNat_natCast] at k2
        refine M.o_bindE (allowed_ends _) ?_
        cases ha : rev.all fun r => !((setL s ws.length).contains r) with
        | false =>
          refine M.o_bindE (M.i_pure : (M.opt false (zaz ws rev (t : Int) (setL s ws.length)) false).Ends false) (M.o_f rfl (M.o_grd (gA2 (by omega) (by omega)) (M.o_pure ⟨rfl, hb.skip (.inl fun h => ?_)⟩)))
          rw [List.all_eq_false] at ha
          obtain ⟨r, h1, h2⟩ := ha
          exact h.2.1 r h1 (by simpa using h2)
        | true =>
          have hal : ∀ r ∈ rev, r ∉ setL s ws.length := fun r hr h => by
            have := List.all_eq_true.1 ha r hr
            rw [List.contains_iff_mem.2 h] at this
            cases this
          refine M.o_bindE (show (M.opt true (zaz ws rev (t : Int) (setL s ws.length)) false).Ends kb from k1) ?_
          cases kb with
          | true =>
            exact M.o_t rfl (M.o_grd (gA2 (by omega) (by omega)) (M.o_pure ⟨rfl, hb.put ⟨htn, hal, k2.1 rfl⟩ (by omega)⟩))
          | false =>
            exact M.o_f rfl (M.o_grd (gA2 (by omega) (by omega)) (M.o_pure ⟨rfl, hb.skip (.inl fun h => by have := k2.2 h.2.2; cases this)⟩))
    · rintro ⟨s, b⟩ ⟨rfl, hb⟩
      dsimp only at hb ⊢
      have hpc := pow_cast ws.length
      have hp0 : (0 : Int) < 2 ^ ws.length := Int.pow_pos (by decide)
      have hp1 : (2 : Int) ^ ws.length <= 1073741824 := by rw [hpc]; exact Int.ofNat_le.2 hpow
      simp only [za6]
      refine M.o_grd ?_ (M.o_f (by simp only [decide_eq_false_iff_not, hpc]; omega) (M.o_pure hb))
      rw [decide_eq_true (by omega : (0 : Int) <= (ws.length : Int)), decide_eq_true (by omega : (ws.length : Int) <= 62), decide_eq_true (by omega : (-9223372036854775808 : Int) <= 1 * 2 ^ ws.length), decide_eq_true (by omega : 1 * (2 : Int) ^ ws.length <= 9223372036854775807)]
      rfl
  · intro b hb
    refine M.o_if (fun he => ?_) (fun he => ?_)
    · have he := eq_of_beq he
      exact M.o_pure (.inl ⟨rfl, hb.no he⟩)
    · have he : b ≠ -1 := by simpa using he
      exact M.o_pure (.inr ⟨rfl, hb.is.resolve_left he, hb.le he⟩)
theorem fewest_wrong {t : Int} (hK : keptE ws rev t ≠ 0) : (zay ws rev t).Ends (0, keptE ws rev t) := by
  unfold zay
  exact M.i_bind (refKept_ends ws rev t) (M.i_t (by simpa using hK) M.i_pure)
/-- Freeze and Lines answer as many as Fewest, or the same error. -/
theorem freeze_few (ws : List Work) (rev : List Int) (t : Int) : ∃ F e k ls, (zah ws rev t).Ends (F, e) /\ (zay ws rev t).Ends (k, e) /\ (zaq ws rev t).Ends (ls, e) /\ (F.length : Int) = k /\ (ls.length : Int) = k ∧
    (e = 0 -> keptE ws rev t = 0 /\ Froz ws rev t.toNat F /\ ApartA ws rev t.toNat ls /\ ls.length <= 30) := by
  by_cases hK : keptE ws rev t = 0
  · obtain ⟨hA, ht, hn⟩ := kept_ok hK
    obtain ⟨hO, hLs⟩ := asked_ok hA
    have hlen := right_len (opened_right hO)
    obtain ⟨tn, rfl⟩ := Int.eq_ofNat_of_zero_le ht.1
    have htl : tn < ws.length := by omega
    rw [Int.toNat_natCast]
    obtain ⟨⟨k, e⟩, p1, p2⟩ := fewest_out hK
    cases hd : rev.any (fun r => (ws.getD tn default).of.contains r) with
    | true =>
      obtain ⟨f1, f2⟩ := freeze_direct hA htl hn hd
      -- a line of two works meets no set
      have none : ∀ F, ¬ GoodS ws rev tn F := by
        intro F hG
        obtain ⟨r, h1, h2⟩ := List.any_eq_true.1 hd
        have h2 := List.contains_iff_mem.1 h2
        have hr := (listed_rng hLs).1 r h1
        have := Rch.step (Rch.base (ws := ws) (F := F) h1) htl (by rw [Int.toNat_of_nonneg hr.1]; exact h2) hG.1
        exact hG.2.2 this
      rcases p2 with ⟨p2, _⟩ | ⟨_, ⟨s, _, hg, _⟩, _⟩
      · obtain ⟨rfl, rfl⟩ := Prod.mk.inj p2
        exact ⟨[], 5, 0, [], f1, p1, f2, rfl, rfl, fun h => by cases h⟩
      · exact absurd hg (none _)
    | false =>
      obtain ⟨H, _⟩ := full_out hA htl hn hd
      obtain ⟨⟨F, e1⟩, f1, f2, hFz, c1, hc1, hv1⟩ := freeze_out hA htl hn hd
      obtain ⟨⟨ls, e2⟩, l1, l2, hAp, c2, hc2, hv2⟩ := lines_res hA htl hn hd
      dsimp only at f2 hFz hv1 l2 hAp hv2 p2
      subst f2
      subst l2
      have huq := FullL.uniq H hc1 hc2
      have hFr := hFz.rng
      have hgF : GoodS ws rev tn F := ⟨fun h => (hFr _ h).2.2.1 rfl, fun r hr h => (hFr r h).2.2.2 hr, hFz.keep⟩
      -- the set of the frozen works has a number
      obtain ⟨s, hs1, hs2⟩ := set_of (fun i => F.contains (i : Int)) ws.length
      have hsF : setL s ws.length = F := by
        have hpS : (setL s ws.length).Pairwise (· < ·) := by
          unfold setL
          rw [List.pairwise_map]
          have : (List.range ws.length).Pairwise (· < ·) := List.pairwise_lt_range
          exact (this.sublist (List.filter_sublist)).imp fun h => by omega
        have hpF : F.Pairwise (· < ·) := by
          rw [List.pairwise_iff_getElem]
          intro i j hi hj hij
          have := asc_pair hFz.asc i j hij hj
          rwa [getD_el F hi 0, getD_el F hj 0] at this
        refine List.Perm.eq_of_pairwise (fun a b _ _ h1 h2 => by omega) hpS hpF ?_
        refine (List.perm_ext_iff_of_nodup (hpS.imp fun h e => by omega) (hpF.imp fun h e => by omega)).2 fun x => ?_
        rw [setL_mem]
        constructor
        · rintro ⟨i, hi, hb, rfl⟩
          rw [hs2 i hi] at hb
          exact List.contains_iff_mem.1 hb
        · intro hx
          have := hFr x hx
          exact ⟨x.toNat, by omega, by rw [hs2 _ (by omega), Int.toNat_of_nonneg this.1]; exact List.contains_iff_mem.2 hx, by omega⟩
      have hFl := nodup_bound ws.length F (asc_nodup hFz.asc) (fun x hx => ⟨(hFr x hx).1, (hFr x hx).2.1⟩)
      rcases p2 with ⟨_, hno⟩ | ⟨p0, ⟨s', _, hg, hk⟩, hle⟩
      · exact absurd (hsF ▸ hgF) (hno s hs1)
      · subst p0
        have h1 := hle s hs1 (hsF ▸ hgF)
        rw [hsF] at h1
        have h2 := apart_few (F := setL s' ws.length) (fun x hx => ⟨fun e => hg.1 (e ▸ hx), fun h => hg.2.1 x h hx⟩) hg.2.2 hAp
        exact ⟨F, 0, k, ls, f1, p1, l1, by omega, by omega, fun _ => ⟨hK, hFz, hAp, by omega⟩⟩
  · have hk := zcq hK
    have hf : (zao ws rev t).Ends (.inl (keptE ws rev t)) := M.i_bind hk (M.i_t (by simpa using hK) M.i_pure)
    exact ⟨[], keptE ws rev t, 0, [], M.i_bind hf (M.i_t (by simpa using hK) M.i_pure), fewest_wrong hK, M.i_bind hf (M.i_t (by simpa using hK) M.i_pure), rfl, rfl, fun h => absurd h hK⟩
end Go.Proofs.Ytndobgodeicloaa
namespace Go.Proofs.Ytndobgodeicloaa
open Go Go.Nm
variable {ws : List Work} {rev : List Int}
theorem copyLists_ends {ls : List (List Int)} (h1 : ls.length * 24 <= 140737488355328) (h2 : ∀ l ∈ ls, l.length * 8 <= 140737488355328) : (zbf ls).Ends ls := by
  unfold zbf
  refine M.i_bind (a := (ls, ls)) ?_ M.i_pure
  have := M.i_for (body := zaQ ls) (r := (ls, ls)) (fun i => (i, ls.take i)) ls.length (fun i hi => ?_) ?_
  · simpa using this
  · have hm := h2 _ (getD_memN ls (by omega : (i : Int) < _) [])
    have hc : (zbP (ls.getD i [])).Ends (ls.getD i []) := by
      unfold zbP
      exact M.grdD (by simp only [List.length_nil]; omega) M.i_pure
    simp only [zaQ]
    refine M.i_t (by simpa using hi) (M.grdD (by omega) (M.i_bind hc (M.grdD (by simp only [List.length_take, List.length_cons, List.length_nil]; omega) ?_)))
    rw [take_succ_getD ls hi []]
    exact M.i_pure
  · simp only [zaQ, List.take_length]
    exact M.i_f (by simp) M.i_pure
theorem sameLists_ends (ls : List (List Int)) : (zbS ls ls).Ends true := by
  unfold zbS
  refine M.i_f (by simp) (M.i_bind (a := Sum.inr ()) ?_ M.i_pure)
  refine M.i_for (fun i => i) ls.length (fun i hi => ?_) ?_
  · simp only [zbn]
    exact M.i_t (by simpa using hi) (M.grdD (by omega) (M.grdD (by omega) (M.i_bind M.i_pure (M.i_f (by simp) M.i_pure))))
  · simp only [zbn]
    exact M.i_f (by simp) M.i_pure
theorem freeze_j0 {F : List Int} {ls : List (List Int)} : (zaP ws rev F ls ws ls).Ends true := by
  unfold zaP
  refine M.i_bind (same_ends ws) (M.i_bind M.i_pure (M.i_bind M.i_pure (M.i_bind (M.i_opt (fun _ => sameLists_ends ls) (fun e => by simp at e)) (M.i_bind (M.i_opt (fun _ => awake_ends) (fun e => by simp at e)) ?_))))
  have : ((((true && (decide (rev = rev))) && (decide (F = F))) && true) && true) = true := by simp
  rw [this]
  exact M.i_pure
theorem zc5 (ws : List Work) (rev : List Int) (t : Int) (F : List Int) (ls : List (List Int)) (h1 : (ls.length + 2) * 24 <= 140737488355328) (h2 : ∀ l ∈ ls, l.length * 8 <= 140737488355328) :
    (zbU ws rev t F ls).Ends true := by
  have hcl := copyLists_ends (ls := ls) (by omega) h2
  unfold zbU
  refine M.i_bind hcl (M.grdD (by simp only [List.length_cons, List.length_nil]; omega) ?_)
  cases hb : (((!(littleB ws (ls ++ ([rev, F])))) || ((decide (9 < (ws.length : Int))) && (decide ((ws.length : Int) <= 30)))) || (decide (35 < (ls.length : Int)))) with
  | true => exact M.i_t rfl (M.i_bind awake_ends M.i_pure)
  | false =>
    simp only [Bool.or_eq_false_iff, Bool.not_eq_false', decide_eq_false_iff_not] at hb
    obtain ⟨⟨hlit, _⟩, h35⟩ := hb
    unfold littleB at hlit
    simp only [Bool.and_eq_true, decide_eq_true_eq, List.all_eq_true] at hlit
    have hw : ws.length <= 1000 := by omega
    have ho : ∀ x ∈ ws, x.of.length <= 1000 := fun x hx => by have := hlit.1.2 x hx; omega
    have hr : rev.length <= 40 := hlit.2 rev (by simp)
    have hf : F.length <= 40 := hlit.2 F (by simp)
    have hll : ∀ l ∈ ls, l.length <= 1000000 := fun l hl => by have := hlit.2 l (by simp [hl]); omega
    obtain ⟨kb, k1, k2⟩ := keeps_same ws rev t F
    obtain ⟨ab, a1, a2, _⟩ := apart_same ws rev t ls hll (by omega)
    obtain ⟨Fz, e, n, lz, f1, f2, f3, f4, f5, f6⟩ := freeze_few ws rev t
    have we := works_ends hw ho
    refine M.i_f rfl (M.i_bind (copyWorks_ends hw ho) (M.grdD (by omega) (M.grdD (by omega) (M.i_bind hcl (M.i_bind k1 (M.i_bind we (M.i_bind k2 (M.i_f (by simp) (M.i_bind a1 (M.i_bind we (M.i_bind a2 (M.i_f (by simp) (M.i_bind we (M.i_bind f2 (M.i_bind f1 (M.i_f ?_ ?_))))))))))))))))
    · rw [f4]; simp
    · have tail : (zaU ws rev t F ls ws ls n e).Ends true := by
        unfold zaU
        refine M.i_bind f3 (M.i_f (by rw [f5]; simp) ?_)
        by_cases he : e = 0
        · subst he
          obtain ⟨hK, hFz, hAp, h30⟩ := f6 rfl
          have hlz : ∀ l ∈ lz, l.length <= 1000000 := fun l hl => by
            obtain ⟨hA, _, _⟩ := kept_ok hK
            have hO := (asked_ok hA).1
            have hlen := right_len (opened_right hO)
            have h1 := hAp.each l hl
            have := nodup_bound ws.length l (by
              rw [List.Nodup, List.pairwise_iff_getElem]
              intro i j hi hj hij e
              have := line_pos hO h1.rng h1.line i j hij hj
              rw [getD_el l hi 0, getD_el l hj 0, e] at this
              omega) h1.rng
            omega
          have hAE : apartE ws rev t lz = 0 := by
            unfold apartE
            rw [if_neg (by simp [hK]), if_neg (by omega), if_neg]
            rw [Bool.not_eq_false, List.all_eq_true]
            intro l hl
            rw [List.all_eq_true]
            intro x hx
            have := (hAp.each l hl).rng x hx
            unfold inB
            simp only [Bool.and_eq_true, decide_eq_true_eq]
            omega
          obtain ⟨b, _, b2, b3⟩ := apart_same ws rev t lz hlz (by omega)
          rw [hAE] at b2 b3
          obtain rfl := b3 rfl hAp
          exact M.i_t rfl (M.i_bind we (M.i_bind b2 (M.i_f rfl freeze_j0)))
        · exact M.i_f (by simpa using he) freeze_j0
      by_cases he : e = 0
      · subst he
        obtain ⟨hK, hFz, hAp, h30⟩ := f6 rfl
        have hKE : keepsE ws rev t Fz = 0 := by
          unfold keepsE
          have hl0 : listedE ws.length Fz = 0 := listed_of (fun x hx => ⟨(hFz.rng x hx).1, (hFz.rng x hx).2.1⟩) (by
            rw [List.pairwise_iff_getElem]
            intro i j hi hj hij
            have := asc_pair hFz.asc i j hij hj
            rwa [getD_el Fz hi 0, getD_el Fz hj 0] at this)
          rw [if_neg (by simp [hK]), if_neg (by simp [hl0]), if_neg]
          rw [Bool.or_eq_true, not_or]
          have ht := (kept_ok hK).2.1
          refine ⟨fun h => ?_, fun h => ?_⟩
          · have := (hFz.rng t (List.contains_iff_mem.1 h)).2.2.1
            omega
          · obtain ⟨x, h1, h2⟩ := List.any_eq_true.1 h
            exact (hFz.rng x h1).2.2.2 (List.contains_iff_mem.1 h2)
        obtain ⟨b, b1, _, b3⟩ := refKeeps_all ws rev t Fz
        rw [hKE] at b1 b3
        obtain rfl := (b3 rfl).2 hFz.keep
        exact M.i_t rfl (M.i_bind we (M.i_bind b1 (M.i_f rfl tail)))
      · exact M.i_f (by simpa using he) tail
end Go.Proofs.Ytndobgodeicloaa
