/- Part 5 of the texts on which the proof rests. Conditions: none. -/
import Derived.KernelRfl
import Derived.Test.YtlemgioaakecpaaGreatZK4
set_option linter.unusedVariables false
set_option linter.unusedSimpArgs false
set_option linter.unusedSectionVars false
namespace Go.Proofs.YtlemgioaakecpaaGreat
open Go Go.Nm
section
variable {S : List Sect} {M' : List Mrk} {R' : List Rch}
theorem ahN_ends {a b : Nat} (ha : a < M'.length) (hb : b < M'.length) : (zaf S M' R' (a : Int) (b : Int)).Ends (decide (Fl.ah M' a b)) := by
  have := ahead_ends (S := S) (M' := M') (R' := R') (a := (a : Int)) (b := (b : Int)) (by omega) (by omega)
  rw [Int.toNat_natCast, Int.toNat_natCast] at this
  have e : (decide ((M'.getD a default).place <= (M'.getD b default).place) && decide ((M'.getD a default).hi < (M'.getD b default).lo)) = decide (Fl.ah M' a b) := by
    rw [Bool.eq_iff_iff, Bool.and_eq_true, decide_eq_true_iff, decide_eq_true_iff, decide_eq_true_iff]
    exact Iff.rfl
  rwa [e] at this
theorem join_out (hn : M'.length <= 16) {K : Nat -> Prop} : ∀ (m a : Nat) (mp : Int -> Option Bool) (nx ls : List Int), Fl.cnt (fun b => !Fl.met mp b) M'.length <= m -> a < M'.length -> Fl.Mtc M' nx ls -> Fl.Cl M' K ls -> (∀ b, b < M'.length -> ls.getD b 0 = (a : Int) -> Fl.met mp b = true) →
    (zbH (a : Int) S M' R' S M' R' mp nx ls).Out (fun z => (z.1 = true /\ Fl.Sc M' K a mp nx ls z.2.2.1 z.2.2.2) ∨ (z.1 = false /\ z.2.2.1 = nx /\ z.2.2.2 = ls /\ Fl.Ps M' a M'.length mp z.2.1 ls)) := by
  intro m
  induction m using Nat.strongRecOn with
  | _ m ih =>
  intro a mp nx ls hm ha hM hK hp
  have n1 := hM.n1
  have l1 := hM.l1
  have fix : ∀ {Q : Bool × (Int -> Option Bool) × List Int × List Int -> Prop}, (zap (fun z => M.fix zap zcm z) ((a : Int), S, M', R', S, M', R', mp, nx, ls)).Out Q -> (zbH (a : Int) S M' R' S M' R' mp nx ls).Out Q := by
    rintro Q ⟨r, h1, h2⟩
    exact ⟨r, M.i_fix h1, h2⟩
  refine fix ?_
  simp only [zap]
  refine M.o_bind (P := fun z => match z with | .inl (_, nx', ls') => Fl.Sc M' K a mp nx ls nx' ls' | .inr (mp', nx', ls') => nx' = nx /\ ls' = ls /\ Fl.Ps M' a M'.length mp mp' ls) ?_ ?_
  · refine M.o_for M'.length (fun i (s : Nat × (Int -> Option Bool) × List Int × List Int) => s.1 = i /\ s.2.2.1 = nx /\ s.2.2.2 = ls /\ Fl.Ps M' a i mp s.2.1 ls) ?_ ?_ (s := (0, mp, nx, ls)) ⟨rfl, rfl, rfl, Fl.Ps.zero⟩
    · rintro i ⟨s, mp1, nx, ls⟩ hi ⟨rfl, rfl, rfl, h⟩
      dsimp only at hi hM hK hp n1 l1 h ⊢
      simp only [zaD]
      refine M.o_t (decide_eq_true (by omega)) (M.o_bindE (ahN_ends ha hi) (M.o_if (fun hb => ?_) (fun hb => ?_)))
      · refine M.o_pure ⟨rfl, rfl, rfl, h.skip fun hah => ?_⟩
        rw [Bool.or_eq_true, Bool.not_eq_true', decide_eq_false_iff_not] at hb
        rcases hb with hb | hb
        · exact absurd hah hb
        · exact hb
      · rw [Bool.or_eq_false_iff, Bool.not_eq_false', decide_eq_true_eq] at hb
        obtain ⟨hah, hmet⟩ := hb
        have hmet : Fl.met mp1 s = false := hmet
        refine M.o_grd (gA2 (by omega) (by omega)) ?_
        rcases hM.l s hi with e | ⟨c, hc, e, q2, q3⟩
        · refine M.o_f (by rw [e]; rfl) (M.o_t (by rw [e]; rfl) (M.o_grd (gA2 (by omega) (by omega)) (M.o_pure ?_)))
          rw [Int.toNat_natCast]
          refine Fl.Sc.free hM hK hn ha hi ?_ hah e
          cases q : Fl.met mp s with
          | false => rfl
          | true => rw [h.le _ q] at hmet; cases hmet
        · have hlt : Fl.cnt (fun b => !Fl.met (updF mp1 (s : Int) true) b) M'.length < Fl.cnt (fun b => !Fl.met mp1 b) M'.length := Fl.cnt_lt M'.length (fun b _ hb => by
              rw [Bool.not_eq_true'] at hb ⊢
              cases q : Fl.met mp1 b with
              | false => rfl
              | true => rw [Fl.met_upd.2 (.inr q)] at hb; cases hb) _ hi (by rw [Fl.met_upd.2 (.inl rfl)]; rfl) (by rw [hmet]; rfl)
          have hle : Fl.cnt (fun b => !Fl.met mp1 b) M'.length <= Fl.cnt (fun b => !Fl.met mp b) M'.length := Fl.cnt_le M'.length (fun b _ hb => by
              rw [Bool.not_eq_true'] at hb ⊢
              cases q : Fl.met mp b with
              | false => rfl
              | true => rw [h.le _ q] at hb; cases hb)
          have sub := ih _ (by omega) c (updF mp1 (s : Int) true) _ _ (Nat.le_refl _) hc hM hK (fun b hb k => by
            rcases hM.l b hb with q | ⟨d, hd, q4, q5, q6⟩
            · omega
            · obtain rfl : c = d := by omega
              exact Fl.met_upd.2 (.inl (by omega)))
          rw [e]
          refine M.o_t (by rw [Bool.not_eq_true', beq_eq_false_iff_ne]; omega) (M.o_bind sub ?_)
          rintro ⟨ok, mp2, nx2, ls2⟩ hz
          dsimp only at hz ⊢
          rcases hz with ⟨rfl, hz⟩ | ⟨rfl, rfl, rfl, hz⟩
          · refine M.o_t (Bool.or_true _) (M.o_grd (gA2 (by omega) (by omega)) (M.o_pure ?_))
            rw [Int.toNat_natCast]
            exact Fl.Sc.sub hM hK hn ha hi hah h.le hmet hp hc e hz
          · refine M.o_f (by rw [Bool.or_false, beq_eq_false_iff_ne]; omega) (M.o_pure ⟨rfl, rfl, rfl, h.fail hi hc e hz⟩)
    · rintro ⟨_, mp1, _, _⟩ ⟨rfl, rfl, rfl, h⟩
      dsimp only at h ⊢
      simp only [zaD]
      exact M.o_f (decide_eq_false (by omega)) (M.o_pure ⟨rfl, rfl, h⟩)
  · intro z hz
    match z, hz with
    | .inl (mp', nx', ls'), hz => exact M.o_pure (.inl ⟨rfl, hz⟩)
    | .inr (mp', nx', ls'), hz => exact M.o_pure (.inr ⟨rfl, hz⟩)
theorem linked_out (hn : M'.length <= 16) : (zbl S M' R').Out (fun z => ∃ K, Fl.Tp M' K M'.length z.1 z.2) := by
  have rep0 : ∀ n j : Nat, j < n -> (List.replicate n (-1 : Int)).getD j 0 = -1 := fun n j hj => by simp [List.getD, List.getElem?_replicate, hj]
  have rep := fun {j : Nat} (h : j < 16) => rep0 16 j h
  unfold zbl
  refine M.o_bindE (a := (List.replicate 16 (-1), List.replicate 16 (-1))) ⟨50, by kernel_rfl⟩ (M.o_bind (P := fun z => ∃ K, Fl.Tp M' K M'.length z.1 z.2) ?_ (fun z hz => M.o_pure hz))
  refine M.o_for M'.length (fun i (s : List Int × List Int × Nat) => s.2.2 = i /\ ∃ K, Fl.Tp M' K i s.1 s.2.1) ?_ ?_ (s := (_, _, 0)) ⟨rfl, fun _ => False, ⟨by simp, by simp, fun b hb => .inl (rep (by omega)), fun c hc => .inl (rep (by omega))⟩, fun j _ hj => rep (by omega), fun b hb => hb.elim, fun a ha => by omega⟩
  · rintro i ⟨nx, ls, _⟩ hi ⟨rfl, K, h⟩
    dsimp only at hi h ⊢
    simp only [zaY]
    refine M.o_t (decide_eq_true (by omega)) (M.o_bind (join_out (K := K) hn _ _ _ _ _ (Nat.le_refl _) hi h.m h.cl (fun b hb e => absurd e (h.no hi b hb))) ?_)
    rintro ⟨ok, mp2, nx2, ls2⟩ hz
    dsimp only at hz ⊢
    rcases hz with ⟨rfl, hz⟩ | ⟨rfl, rfl, rfl, hz⟩
    · exact M.o_pure ⟨rfl, K, h.ok hi hz⟩
    · exact M.o_pure ⟨rfl, _, h.no' hi hz⟩
  · rintro ⟨nx, ls, _⟩ ⟨rfl, h⟩
    simp only [zaY]
    exact M.o_f (decide_eq_false (by omega)) (M.o_pure h)
end
end Go.Proofs.YtlemgioaakecpaaGreat
namespace Go.Nm
namespace Fl
theorem sub_len : ∀ (a b : List Nat), a.Nodup -> (∀ x ∈ a, x ∈ b) -> a.length <= b.length
  | [], _, _, _ => Nat.zero_le _
  | x :: a, b, hn, hs => by
    rw [List.nodup_cons] at hn
    have hx := hs x (by simp)
    have h1 := sub_len a (b.erase x) hn.2 (fun y hy => (List.mem_erase_of_ne (fun e : y = x => hn.1 (by rw [← e]; exact hy))).2 (hs y (by simp [hy])))
    have h2 := List.length_erase_of_mem hx
    have h3 := List.length_pos_of_mem hx
    rw [List.length_cons]
    omega
def ci (l : List Nat) : List Int := l.map fun k : Nat => (k : Int)
theorem ci_len (l : List Nat) : (ci l).length = l.length := by simp [ci]
theorem ci_get (l : List Nat) (k : Nat) : (ci l).getD k 0 = ((l.getD k 0 : Nat) : Int) := by
  unfold ci
  simp only [List.getD, List.getElem?_map]
  cases l[k]? <;> rfl
theorem cis_get (L : List (List Nat)) (k : Nat) : (L.map ci).getD k [] = ci (L.getD k []) := by
  simp only [List.getD, List.getElem?_map]
  cases L[k]? <;> rfl
section
variable {M : List Mrk} {K : Nat -> Prop} {nx ls : List Int} {i j : Nat} {l l' : List Nat}
theorem ch_nd (hk : ∀ x ∈ M, Mok x) (hp : l.Pairwise (ah M)) (hr : ∀ v ∈ l, v < M.length) : l.Nodup := by
  refine List.Pairwise.imp_of_mem ?_ hp
  intro a b ha _ h e
  subst e
  exact ah_irr hk (hr a ha) h
theorem ch_len (hk : ∀ x ∈ M, Mok x) (hp : l.Pairwise (ah M)) (hr : ∀ v ∈ l, v < M.length) : l.length <= M.length := by
  have := sub_len l (List.range M.length) (ch_nd hk hp hr) (fun x hx => List.mem_range.2 (hr x hx))
  rwa [List.length_range] at this
/-- A row that begins with a mark. -/
structure IsRow (M : List Mrk) (nx : List Int) (i : Nat) (l : List Nat) : Prop where
  hd : ∃ t, l = i :: t
  pw : l.Pairwise (ah M)
  rg : ∀ v ∈ l, v < M.length
  cl : ∀ c ∈ l, nx.getD c 0 = -1 ∨ ∃ v ∈ l, nx.getD c 0 = (v : Int)
  pr : ∀ v ∈ l, v = i ∨ ∃ c ∈ l, nx.getD c 0 = (v : Int)
  en : ∃ c ∈ l, nx.getD c 0 = -1
/-- A row that is begun. -/
structure Rs (M : List Mrk) (nx : List Int) (i : Nat) (s : Int) (l : List Nat) : Prop where
  st : (l = [] /\ s = (i : Int)) ∨ ∃ t, l = i :: t
  pw : l.Pairwise (ah M)
  rg : ∀ v ∈ l, v < M.length
  sv : s = -1 ∨ ∃ k, k < M.length /\ s = (k : Int) /\ ∀ u ∈ l, ah M u k
  cl : ∀ c ∈ l, nx.getD c 0 = s ∨ ∃ v ∈ l, nx.getD c 0 = (v : Int)
  pr : ∀ v ∈ l, v = i ∨ ∃ c ∈ l, nx.getD c 0 = (v : Int)
  ls : l = [] ∨ ∃ c ∈ l, nx.getD c 0 = s
theorem Mtc.ah (h : Mtc M nx ls) {c b : Nat} (hc : c < M.length) (e : nx.getD c 0 = (b : Int)) : b < M.length /\ ls.getD b 0 = (c : Int) /\ Fl.ah M c b := by
  rcases h.n c hc with q | ⟨b', hb, q1, q2⟩
  · omega
  · obtain rfl : b = b' := by omega
    rcases h.l b hb with q | ⟨d, hd, q3, q4, q5⟩
    · omega
    · obtain rfl : c = d := by omega
      exact ⟨hb, q2, q4⟩
theorem Rs.step {s : Int} (h : Rs M nx i s l) (hk : ∀ x ∈ M, Mok x) (hM : Mtc M nx ls) {k : Nat} (hkl : k < M.length) (e : s = (k : Int)) (hu : ∀ u ∈ l, ah M u k) : Rs M nx i (nx.getD k 0) (l ++ [k]) := by
  refine ⟨.inr ?_, ?_, fun v hv => ?_, ?_, fun c hc => ?_, fun v hv => ?_, .inr ⟨k, by simp, rfl⟩⟩
  · rcases h.st with ⟨q, q'⟩ | ⟨t, q⟩
    · obtain rfl : k = i := by omega
      exact ⟨[], by rw [q]; rfl⟩
    · exact ⟨t ++ [k], by rw [q]; rfl⟩
  · rw [List.pairwise_append]
    refine ⟨h.pw, by simp, fun a ha b hb => ?_⟩
    rw [List.mem_singleton] at hb
    subst hb
    exact hu a ha
  · rcases List.mem_append.1 hv with hv | hv
    · exact h.rg v hv
    · rw [List.mem_singleton] at hv; omega
  · rcases hM.n k hkl with q | ⟨b, hb, q1, q2⟩
    · exact .inl q
    · have hab := (hM.ah hkl q1).2.2
      refine .inr ⟨b, hb, q1, fun u hu' => ?_⟩
      rcases List.mem_append.1 hu' with hu' | hu'
      · exact ah_trans hk hkl (hu u hu') hab
      · rw [List.mem_singleton] at hu'; rw [hu']; exact hab
  · rcases List.mem_append.1 hc with hc | hc
    · rcases h.cl c hc with q | ⟨v, hv, q⟩
      · exact .inr ⟨k, by simp, by omega⟩
      · exact .inr ⟨v, by simp [hv], q⟩
    · rw [List.mem_singleton] at hc
      rw [hc]
      exact .inl rfl
  · rcases List.mem_append.1 hv with hv | hv
    · rcases h.pr v hv with q | ⟨c, hc, q⟩
      · exact .inl q
      · exact .inr ⟨c, by simp [hc], q⟩
    · rw [List.mem_singleton] at hv
      subst hv
      rcases h.ls with q | ⟨c, hc, q⟩
      · rcases h.st with ⟨_, q'⟩ | ⟨t, q'⟩
        · exact .inl (by omega)
        · rw [q] at q'; cases q'
      · exact .inr ⟨c, by simp [hc], by omega⟩
theorem Rs.fin (h : Rs M nx i (-1) l) : IsRow M nx i l := by
  refine ⟨?_, h.pw, h.rg, h.cl, h.pr, ?_⟩
  · rcases h.st with ⟨_, q⟩ | q
    · omega
    · exact q
  · rcases h.ls with q | q
    · rcases h.st with ⟨_, q'⟩ | ⟨t, q'⟩
      · omega
      · rw [q] at q'; cases q'
    · exact q
/-- How many marks contradict one from above. -/
def up (M : List Mrk) (v : Nat) : Nat := cnt (fun u => decide (ah M u v)) M.length
theorem up_lt (hk : ∀ x ∈ M, Mok x) {c v : Nat} (hc : c < M.length) (h : ah M c v) : up M c < up M v := by
  refine cnt_lt M.length (fun b hb q => ?_) c hc (decide_eq_false (ah_irr hk hc)) (decide_eq_true h)
  exact decide_eq_true (ah_trans hk hc (of_decide_eq_true q) h)
def dn (M : List Mrk) (v : Nat) : Nat := cnt (fun u => decide (ah M v u)) M.length
theorem dn_lt (hk : ∀ x ∈ M, Mok x) {c v : Nat} (hc : c < M.length) (hv : v < M.length) (h : ah M c v) : dn M v < dn M c := by
  refine cnt_lt M.length (fun b hb q => ?_) v hv (decide_eq_false (ah_irr hk hv)) (decide_eq_true h)
  exact decide_eq_true (ah_trans hk hv h (of_decide_eq_true q))
theorem IsRow.same (hk : ∀ x ∈ M, Mok x) (hM : Mtc M nx ls) (h : IsRow M nx i l) (h' : IsRow M nx j l') (hi : ls.getD i 0 = -1) (hj : ls.getD j 0 = -1) : ∀ (m v : Nat), up M v <= m -> v ∈ l -> v ∈ l' -> i = j := by
  intro m
  induction m with
  | zero =>
    intro v hm hv hv'
    rcases h.pr v hv with rfl | ⟨c, hc, q⟩
    · rcases h'.pr v hv' with rfl | ⟨c, hc, q⟩
      · rfl
      · have := (hM.ah (h'.rg c hc) q).2.1; omega
    · have := up_lt hk (h.rg c hc) (hM.ah (h.rg c hc) q).2.2; omega
  | succ m ih =>
    intro v hm hv hv'
    rcases h.pr v hv with rfl | ⟨c, hc, q⟩
    · rcases h'.pr v hv' with rfl | ⟨c, hc, q⟩
      · rfl
      · have := (hM.ah (h'.rg c hc) q).2.1; omega
    · have k1 := hM.ah (h.rg c hc) q
      rcases h'.pr v hv' with rfl | ⟨d, hd, q'⟩
      · omega
      · have k2 := hM.ah (h'.rg d hd) q'
        obtain rfl : c = d := by omega
        have := up_lt hk (h.rg c hc) k1.2.2
        exact ih c (by omega) hc hd
theorem has_row (hk : ∀ x ∈ M, Mok x) (hM : Mtc M nx ls) : ∀ (m v : Nat), up M v <= m -> v < M.length -> ∃ j, j < M.length /\ ls.getD j 0 = -1 /\ ∀ l, IsRow M nx j l -> v ∈ l := by
  intro m
  induction m with
  | zero =>
    intro v hm hv
    rcases hM.l v hv with q | ⟨c, hc, q1, q2, q3⟩
    · exact ⟨v, hv, q, fun l h => by obtain ⟨t, e⟩ := h.hd; rw [e]; simp⟩
    · have := up_lt hk hc q2; omega
  | succ m ih =>
    intro v hm hv
    rcases hM.l v hv with q | ⟨c, hc, q1, q2, q3⟩
    · exact ⟨v, hv, q, fun l h => by obtain ⟨t, e⟩ := h.hd; rw [e]; simp⟩
    · have := up_lt hk hc q2
      obtain ⟨j, hj, k1, k2⟩ := ih c (by omega) hc
      refine ⟨j, hj, k1, fun l h => ?_⟩
      rcases h.cl c (k2 l h) with k | ⟨w, hw, k⟩
      · omega
      · obtain rfl : v = w := by omega
        exact hw
/-- Marks of which no row leads into those that are closed. -/
def Xs (K : Nat -> Prop) (nx ls : List Int) (v : Nat) : Prop := (nx.getD v 0 = -1 ∨ ∃ b, K b /\ ls.getD b 0 = (v : Int)) /\ ¬K v
theorem Xs.anti (h : Tp M K M.length nx ls) {u v : Nat} (hu : Xs K nx ls u) (hv : Xs K nx ls v) (ul : u < M.length) (vl : v < M.length) : ¬ah M u v := fun ha => by
  rcases hu.1 with q | ⟨b, kb, q⟩
  · exact hv.2 (h.k u ul q v vl ha)
  · obtain ⟨_, c, hc, e, k⟩ := h.cl b kb
    obtain rfl : c = u := by omega
    exact hv.2 (k v vl ha)
theorem IsRow.pick (hk : ∀ x ∈ M, Mok x) (h : Tp M K M.length nx ls) (hr : IsRow M nx i l) (hi : ls.getD i 0 = -1) : ∃ v ∈ l, Xs K nx ls v := by
  refine Classical.byContradiction fun hc => ?_
  have no : ∀ v ∈ l, ¬Xs K nx ls v := fun v hv q => hc ⟨v, hv, q⟩
  have key : ∀ (m v : Nat), up M v <= m -> v ∈ l -> ¬K v := by
    intro m
    induction m with
    | zero =>
      intro v hm hv kv
      rcases hr.pr v hv with rfl | ⟨c, hcl, q⟩
      · obtain ⟨_, d, hd, e, _⟩ := h.cl v kv; omega
      · have := up_lt hk (hr.rg c hcl) (h.m.ah (hr.rg c hcl) q).2.2; omega
    | succ m ih =>
      intro v hm hv kv
      rcases hr.pr v hv with rfl | ⟨c, hcl, q⟩
      · obtain ⟨_, d, hd, e, _⟩ := h.cl v kv; omega
      · have k1 := h.m.ah (hr.rg c hcl) q
        have := up_lt hk (hr.rg c hcl) k1.2.2
        exact no c hcl ⟨.inr ⟨v, kv, k1.2.1⟩, ih c (by omega) hcl⟩
  obtain ⟨c, hcl, q⟩ := hr.en
  exact no c hcl ⟨.inl q, key _ c (Nat.le_refl _) hcl⟩
/-- Rows that hold each mark once, as few as there are marks that are true together. -/
structure RowsOk (M : List Mrk) (L : List (List Nat)) : Prop where
  ne : ∀ l ∈ L, l ≠ []
  pw : ∀ l ∈ L, l.Pairwise (ah M)
  rg : ∀ l ∈ L, ∀ v ∈ l, v < M.length
  cov : ∀ v, v < M.length -> ∃ l ∈ L, v ∈ l
  dis : L.Pairwise fun a b => ∀ v ∈ a, v ∉ b
  len : L.length <= M.length
  pick : ∃ X : Nat -> Prop, (∀ u v, X u -> X v -> u < M.length -> v < M.length -> ¬ah M u v) /\ ∀ l ∈ L, ∃ v ∈ l, X v
/-- Rows that are made of the first marks. -/
structure Rw (M : List Mrk) (nx ls : List Int) (i : Nat) (L : List (List Nat)) : Prop where
  ro : ∀ l ∈ L, ∃ j, j < i /\ ls.getD j 0 = -1 /\ IsRow M nx j l
  al : ∀ j, j < i -> ls.getD j 0 = -1 -> ∃ l ∈ L, IsRow M nx j l
  dis : L.Pairwise fun a b => ∀ v ∈ a, v ∉ b
  len : L.length <= i
theorem Rw.ok {L : List (List Nat)} (hk : ∀ x ∈ M, Mok x) (h : Tp M K M.length nx ls) (hr : Rw M nx ls M.length L) : RowsOk M L := by
  refine ⟨fun l hl => ?_, fun l hl => ?_, fun l hl => ?_, fun v hv => ?_, hr.dis, hr.len, Xs K nx ls, fun u v hu hv ul vl => Xs.anti h hu hv ul vl, fun l hl => ?_⟩
  · obtain ⟨j, _, _, q⟩ := hr.ro l hl
    obtain ⟨t, e⟩ := q.hd
    rw [e]; simp
  · obtain ⟨j, _, _, q⟩ := hr.ro l hl; exact q.pw
  · obtain ⟨j, _, _, q⟩ := hr.ro l hl; exact q.rg
  · obtain ⟨j, hj, e, q⟩ := has_row hk h.m _ v (Nat.le_refl _) hv
    obtain ⟨l, hl, k⟩ := hr.al j hj e
    exact ⟨l, hl, q l k⟩
  · obtain ⟨j, _, e, q⟩ := hr.ro l hl
    exact q.pick hk h e
theorem Rw.skip {L : List (List Nat)} (h : Rw M nx ls i L) (hi : ls.getD i 0 ≠ -1) : Rw M nx ls (i + 1) L :=
  ⟨fun l hl => by obtain ⟨j, hj, q⟩ := h.ro l hl; exact ⟨j, by omega, q⟩, fun j hj e => h.al j (by
    by_cases k : j = i
    · subst k; exact absurd e hi
    · omega) e, h.dis, by have := h.len; omega⟩
theorem Rw.step {L : List (List Nat)} (hk : ∀ x ∈ M, Mok x) (hM : Mtc M nx ls) (h : Rw M nx ls i L) (hi : ls.getD i 0 = -1) (hl : IsRow M nx i l) : Rw M nx ls (i + 1) (L ++ [l]) := by
  refine ⟨fun l' hl' => ?_, fun j hj e => ?_, ?_, by have := h.len; simp; omega⟩
  · rcases List.mem_append.1 hl' with hl' | hl'
    · obtain ⟨j, hj, q⟩ := h.ro l' hl'; exact ⟨j, by omega, q⟩
    · rw [List.mem_singleton] at hl'; rw [hl']; exact ⟨i, by omega, hi, hl⟩
  · by_cases k : j = i
    · subst k; exact ⟨l, by simp, hl⟩
    · obtain ⟨l', hl', q⟩ := h.al j (by omega) e
      exact ⟨l', by simp [hl'], q⟩
  · rw [List.pairwise_append]
    refine ⟨h.dis, by simp, fun a ha b hb v hv hv' => ?_⟩
    rw [List.mem_singleton] at hb
    subst hb
    obtain ⟨j, hj, e, q⟩ := h.ro a ha
    have := q.same hk hM hl e hi _ v (Nat.le_refl _) hv hv'
    omega
end
end Fl
end Go.Nm
namespace Go.Proofs.YtlemgioaakecpaaGreat
open Go Go.Nm
section
variable {S : List Sect} {M' : List Mrk} {R' : List Rch}
theorem row_out {nx ls : List Int} (hn : M'.length <= 16) (hk : ∀ x ∈ M', Fl.Mok x) (hM : Fl.Mtc M' nx ls) {i : Nat} (hi : i < M'.length) :
    (M.iter (zaS nx) ((i : Int), [])).Out (fun z => ∃ l, z = (Fl.ci l, Fl.ci l) /\ Fl.IsRow M' nx i l) := by
  have n1 := hM.n1
  refine M.o_iter (fun m (s : Int × List Int) => ∃ l, s.2 = Fl.ci l /\ Fl.Rs M' nx i s.1 l /\ m = if s.1 = -1 then 0 else Fl.dn M' (Int.toNat s.1) + 1) ?_ _ ((i : Int), []) ⟨[], rfl, ⟨.inl ⟨rfl, rfl⟩, List.Pairwise.nil, fun v hv => (by cases hv), .inr ⟨i, hi, rfl, fun u hu => (by cases hu)⟩, fun c hc => (by cases hc), fun v hv => (by cases hv), .inl rfl⟩, rfl⟩
  rintro m ⟨s, _⟩ ⟨l, rfl, h, rfl⟩
  dsimp only at h ⊢
  simp only [zaS]
  refine M.o_if (fun hb => ?_) (fun hb => ?_)
  · rw [bne_iff_ne] at hb
    rcases h.sv with q | ⟨k, hkl, rfl, hu⟩
    · exact absurd q hb
    · have := Fl.ch_len hk h.pw h.rg
      refine M.o_grd (decide_eq_true (by rw [Fl.ci_len]; simp; omega)) (M.o_grd (gA2 (by omega) (by omega)) (M.o_pure ⟨_, ?_, l ++ [k], ?_, h.step hk hM hkl rfl hu, rfl⟩))
      · rw [if_neg hb]
        dsimp only
        rw [Int.toNat_natCast]
        by_cases e : nx.getD k 0 = -1
        · rw [if_pos e]; omega
        · rw [if_neg e]
          rcases hM.n k hkl with q | ⟨b, hb', q1, q2⟩
          · exact absurd q e
          · have := Fl.dn_lt hk hkl hb' (hM.ah hkl q1).2.2
            rw [q1, Int.toNat_natCast]
            omega
      · unfold Fl.ci
        rw [List.map_append]
        rfl
  · rw [bne_eq_false_iff_eq] at hb
    subst hb
    exact M.o_pure ⟨l, rfl, h.fin⟩
theorem rows_out (hn : M'.length <= 16) (hk : ∀ x ∈ M', Fl.Mok x) : (zar S M' R').Out (fun z => ∃ L : List (List Nat), z = L.map Fl.ci /\ Fl.RowsOk M' L) := by
  unfold zar
  refine M.o_bind (linked_out hn) ?_
  rintro ⟨nx, ls⟩ ⟨K, h⟩
  dsimp only at h ⊢
  have l1 := h.m.l1
  refine M.o_bind (P := fun z => z.1 = z.2 /\ ∃ L : List (List Nat), z.2 = L.map Fl.ci /\ Fl.RowsOk M' L) ?_ (fun z hz => M.o_pure hz.2)
  refine M.o_for M'.length (fun i (s : Nat × List (List Int)) => s.1 = i /\ ∃ L : List (List Nat), s.2 = L.map Fl.ci /\ Fl.Rw M' nx ls i L) ?_ ?_ (s := (0, [])) ⟨rfl, [], rfl, ⟨fun l hl => (by cases hl), fun j hj => (by omega), List.Pairwise.nil, Nat.le_refl _⟩⟩
  · rintro _ ⟨i, _⟩ hi ⟨rfl, L, rfl, hr⟩
    dsimp only at hi hr ⊢
    simp only [zaX]
    refine M.o_t (decide_eq_true (by omega)) (M.o_grd (gA2 (by omega) (by omega)) (M.o_if (fun hb => ?_) (fun hb => ?_)))
    · rw [bne_iff_ne] at hb
      exact M.o_pure ⟨rfl, L, rfl, hr.skip hb⟩
    · rw [bne_eq_false_iff_eq] at hb
      refine M.o_bind (row_out hn hk h.m hi) ?_
      rintro _ ⟨l, rfl, hl⟩
      dsimp only
      have := hr.len
      refine M.o_grd (decide_eq_true (by simp; omega)) (M.o_pure ⟨rfl, L ++ [l], ?_, hr.step hk h.m hb hl⟩)
      rw [List.map_append]
      rfl
  · rintro ⟨_, _⟩ ⟨rfl, L, rfl, hr⟩
    simp only [zaX]
    exact M.o_f (decide_eq_false (by omega)) (M.o_pure ⟨rfl, L, rfl, hr.ok hk h⟩)
end
end Go.Proofs.YtlemgioaakecpaaGreat
namespace Go.Nm
namespace Fl
/-- The sum of what numbers below n give. -/
def sm (g : Nat -> Nat) : Nat -> Nat
  | 0 => 0
  | n + 1 => sm g n + g n
theorem sm_le {g h : Nat -> Nat} : ∀ n, (∀ i, i < n -> g i <= h i) -> sm g n <= sm h n
  | 0, _ => Nat.le_refl _
  | n + 1, k => by
    have := sm_le n (fun i hi => k i (by omega))
    have := k n (by omega)
    unfold sm
    omega
theorem sm_lt {g h : Nat -> Nat} : ∀ n, (∀ i, i < n -> g i <= h i) -> ∀ x, x < n -> g x < h x -> sm g n < sm h n
  | 0, _, _, hx, _ => by omega
  | n + 1, k, x, hx, hl => by
    have q := k n (by omega)
    unfold sm
    by_cases e : x = n
    · subst e
      have := sm_le x (fun i hi => k i (by omega))
      omega
    · have := sm_lt n (fun i hi => k i (by omega)) x (by omega) hl
      omega
section
variable {M : List Mrk} {L : List (List Nat)}
/-- The mark of a row that is looked at. -/
def cur (L : List (List Nat)) (at_ : List Int) (i : Nat) : Nat := (L.getD i []).getD (Int.toNat (at_.getD i 0)) 0
/-- Where the rows are looked at: no further on than where their marks stand that do not contradict one another. -/
structure At (L : List (List Nat)) (f : Nat -> Nat) (at_ : List Int) : Prop where
  n : at_.length = L.length
  le : ∀ i, i < L.length -> ∃ k : Nat, at_.getD i 0 = (k : Int) /\ k <= f i
theorem rowIn {i : Nat} (hi : i < L.length) : L.getD i [] ∈ L := by
  rw [getD_el L hi]
  exact List.getElem_mem hi
theorem pw_le (hk : ∀ x ∈ M, Mok x) {l : List Nat} (hp : l.Pairwise (ah M)) {a b : Nat} (hab : a <= b) (hb : b < l.length) : l.getD a 0 = l.getD b 0 ∨ ah M (l.getD a 0) (l.getD b 0) := by
  rcases Nat.lt_or_eq_of_le hab with h | h
  · right
    rw [getD_el l (by omega : a < l.length), getD_el l hb]
    exact List.pairwise_iff_getElem.1 hp a b (by omega) hb h
  · left; rw [h]
theorem At.step {f : Nat -> Nat} {X : Nat -> Prop} {at_ : List Int} (hk : ∀ x ∈ M, Mok x) (h : RowsOk M L) (hX : ∀ u v, X u -> X v -> u < M.length -> v < M.length -> ¬ah M u v) (hf : ∀ i, i < L.length -> f i < (L.getD i []).length /\ X ((L.getD i []).getD (f i) 0)) (ha : At L f at_) {i k : Nat} (hi : i < L.length) (hk' : k < L.length) (hah : ah M (cur L at_ i) (cur L at_ k)) :
    At L f (at_.set i (at_.getD i 0 + 1)) /\ sm (fun j => f j - Int.toNat ((at_.set i (at_.getD i 0 + 1)).getD j 0)) L.length < sm (fun j => f j - Int.toNat (at_.getD j 0)) L.length := by
  have n := ha.n
  have g : ∀ j, (at_.set i (at_.getD i 0 + 1)).getD j 0 = if j = i then at_.getD i 0 + 1 else at_.getD j 0 := fun j => gset at_ i j _ 0 (by omega)
  obtain ⟨a, ea, la⟩ := ha.le i hi
  obtain ⟨b, eb, lb⟩ := ha.le k hk'
  have fi := hf i hi
  have fk := hf k hk'
  have ri := h.rg _ (rowIn hi)
  have rk := h.rg _ (rowIn hk')
  have mem : ∀ j (l : List Nat), j < l.length -> l.getD j 0 ∈ l := fun j l hj => by rw [getD_el l hj]; exact List.getElem_mem hj
  have lt : a < f i := by
    refine Nat.lt_of_le_of_ne la (fun e => ?_)
    unfold cur at hah
    rw [ea, eb, Int.toNat_natCast, Int.toNat_natCast, e] at hah
    have m1 := ri _ (mem _ _ fi.1)
    have m2 := rk _ (mem _ _ fk.1)
    have m3 := rk _ (mem b (L.getD k []) (by omega))
    rcases pw_le hk (h.pw _ (rowIn hk')) lb fk.1 with q | q
    · rw [q] at hah
      exact hX _ _ fi.2 fk.2 m1 m2 hah
    · exact hX _ _ fi.2 fk.2 m1 m2 (ah_trans hk m3 hah q)
  refine ⟨⟨by rw [List.length_set]; exact n, fun j hj => ?_⟩, sm_lt L.length (fun j hj => ?_) i hi ?_⟩
  · rw [g]
    by_cases e : j = i
    · subst e
      rw [if_pos rfl]
      exact ⟨a + 1, by omega, by omega⟩
    · rw [if_neg e]
      exact ha.le j hj
  · rw [g]
    by_cases e : j = i
    · subst e
      rw [if_pos rfl]
      omega
    · rw [if_neg e]
      exact Nat.le_refl _
  · rw [g, if_pos rfl, ea]
    have : Int.toNat ((a : Int) + 1) = a + 1 := by omega
    rw [this, Int.toNat_natCast]
    omega
/-- What is chosen: one mark of each row. -/
def chs (L : List (List Nat)) (at_ : List Int) : List Nat := (List.range L.length).map (cur L at_)
theorem chs_len {at_ : List Int} : (chs L at_).length = L.length := by simp [chs]
theorem cur_in {f : Nat -> Nat} {at_ : List Int} (ha : At L f at_) (hf : ∀ i, i < L.length -> f i < (L.getD i []).length) {i : Nat} (hi : i < L.length) : cur L at_ i ∈ L.getD i [] := by
  obtain ⟨a, ea, la⟩ := ha.le i hi
  have := hf i hi
  unfold cur
  rw [ea, Int.toNat_natCast, getD_el _ (by omega : a < (L.getD i []).length)]
  exact List.getElem_mem _
theorem chs_nd {f : Nat -> Nat} {at_ : List Int} (h : RowsOk M L) (ha : At L f at_) (hf : ∀ i, i < L.length -> f i < (L.getD i []).length) : (chs L at_).Nodup := by
  unfold chs List.Nodup
  rw [List.pairwise_map]
  refine List.Pairwise.imp_of_mem ?_ List.pairwise_lt_range
  intro i j hi hj hij e
  have hi := List.mem_range.1 hi
  have hj := List.mem_range.1 hj
  have q := List.pairwise_iff_getElem.1 h.dis i j hi hj hij
  have c1 := cur_in ha hf hi
  have c2 := cur_in ha hf hj
  rw [getD_el L hi] at c1
  rw [getD_el L hj] at c2
  exact q _ c1 (by rw [e]; exact c2)
/-- Marks of which none contradicts another one, as many as there are rows. -/
structure Best (M : List Mrk) (L : List (List Nat)) (l : List Int) : Prop where
  n : l.length = L.length
  inc : Inc M l
  tog : Tog M l
theorem ah_iff {u v : Nat} : ah M u v ↔ ((M.getD (Int.toNat (u : Int)) default).place <= (M.getD (Int.toNat (v : Int)) default).place /\ (M.getD (Int.toNat (u : Int)) default).hi < (M.getD (Int.toNat (v : Int)) default).lo) := by
  rw [Int.toNat_natCast, Int.toNat_natCast]
  exact Iff.rfl
theorem Best.of {f : Nat -> Nat} {at_ : List Int} (hk : ∀ x ∈ M, Mok x) (h : RowsOk M L) (ha : At L f at_) (hf : ∀ i, i < L.length -> f i < (L.getD i []).length) (no : ∀ i k, i < L.length -> k < L.length -> i ≠ k -> ¬ah M (cur L at_ i) (cur L at_ k)) : Best M L (isort (ci (chs L at_))) := by
  have p := isort_perm (ci (chs L at_))
  have nd : (ci (chs L at_)).Nodup := by
    unfold ci List.Nodup
    rw [List.pairwise_map]
    exact List.Pairwise.imp (fun q e => q (by omega)) (chs_nd h ha hf)
  have mem : ∀ x ∈ isort (ci (chs L at_)), ∃ i, i < L.length /\ x = ((cur L at_ i : Nat) : Int) := fun x hx => by
    have hx := p.mem_iff.1 hx
    unfold ci chs at hx
    rw [List.map_map, List.mem_map] at hx
    obtain ⟨i, hi, rfl⟩ := hx
    exact ⟨i, List.mem_range.1 hi, rfl⟩
  have rg : ∀ i, i < L.length -> cur L at_ i < M.length := fun i hi => h.rg _ (rowIn hi) _ (cur_in ha hf hi)
  refine ⟨by rw [p.length_eq, ci_len, chs_len], ⟨?_, fun x hx => ?_⟩, fun a ha' b hb => ?_⟩
  · have s1 := isort_asc (ci (chs L at_))
    have s2 : (isort (ci (chs L at_))).Nodup := p.nodup_iff.2 nd
    exact List.Pairwise.imp₂ (fun a b (h1 : a <= b) (h2 : a ≠ b) => by omega) s1 s2
  · obtain ⟨i, hi, rfl⟩ := mem x hx
    have := rg i hi
    omega
  · obtain ⟨i, hi, rfl⟩ := mem a ha'
    obtain ⟨k, hkl, rfl⟩ := mem b hb
    rw [← ah_iff]
    by_cases e : i = k
    · subst e; exact ah_irr hk (rg i hi)
    · exact no i k hi hkl e
/-- Marks that are true together are no more than rows that hold all marks, each of which contradicts those ahead of it. -/
theorem few {X : List Nat} {L : List (List Nat)} (hX : X.Nodup) (hr : ∀ v ∈ X, v < M.length) (hno : ∀ u ∈ X, ∀ v ∈ X, ¬ah M u v) (cov : ∀ v, v < M.length -> ∃ l ∈ L, v ∈ l) (ch : ∀ l ∈ L, ∀ u ∈ l, ∀ v ∈ l, u ≠ v -> ah M u v ∨ ah M v u) : X.length <= L.length := by
  classical
  have w : ∀ v : Nat, ∃ i, v < M.length -> i < L.length /\ v ∈ L.getD i [] := fun v => by
    by_cases hv : v < M.length
    · obtain ⟨l, hl, q⟩ := cov v hv
      obtain ⟨i, hi, e⟩ := mem_getD hl []
      exact ⟨i, fun _ => ⟨hi, by rw [e]; exact q⟩⟩
    · exact ⟨0, fun q => absurd q hv⟩
  have hw := fun v => Classical.choose_spec (w v)
  generalize (fun v => Classical.choose (w v)) = g at hw
  have nd : (X.map fun v => Classical.choose (w v)).Nodup := by
    unfold List.Nodup
    rw [List.pairwise_map]
    refine List.Pairwise.imp_of_mem ?_ hX
    intro u v hu hv ne e
    have a := hw u (hr u hu)
    have b := hw v (hr v hv)
    rw [← e] at b
    rcases ch _ (rowIn a.1) u a.2 v b.2 ne with q | q
    · exact hno u hu v hv q
    · exact hno v hv u hu q
  have := sub_len _ (List.range L.length) nd (fun x hx => by
    obtain ⟨v, hv, rfl⟩ := List.mem_map.1 hx
    exact List.mem_range.2 (hw v (hr v hv)).1)
  rwa [List.length_map, List.length_range] at this
theorem pw_any {l : List Nat} (hp : l.Pairwise (ah M)) : ∀ u ∈ l, ∀ v ∈ l, u ≠ v -> ah M u v ∨ ah M v u := fun u hu v hv ne => by
  obtain ⟨i, hi, rfl⟩ := List.getElem_of_mem hu
  obtain ⟨j, hj, rfl⟩ := List.getElem_of_mem hv
  rcases Nat.lt_trichotomy i j with q | q | q
  · exact .inl (List.pairwise_iff_getElem.1 hp i j hi hj q)
  · subst q; exact absurd rfl ne
  · exact .inr (List.pairwise_iff_getElem.1 hp j i hj hi q)
end
end Fl
end Go.Nm
namespace Go.Proofs.YtlemgioaakecpaaGreat
open Go Go.Nm
section
variable {S : List Sect} {M' : List Mrk} {R' : List Rch}
theorem mostb5_out {L : List (List Nat)} {f : Nat -> Nat} {at_ : List Int} (hm : ∀ x ∈ M', Fl.Mok x) (hn : M'.length <= 16) (h : Fl.RowsOk M' L) (hf : ∀ i, i < L.length -> f i < (L.getD i []).length) (ha : Fl.At L f at_) {i : Nat} (hi : i < L.length) :
    (M.iter (zaK S M' R' (L.map Fl.ci) at_ i) 0).Out (fun z => match z with | .inl _ => ∃ k, k < L.length /\ i ≠ k /\ Fl.ah M' (Fl.cur L at_ i) (Fl.cur L at_ k) | .inr _ => ∀ k, k < L.length -> i ≠ k -> ¬Fl.ah M' (Fl.cur L at_ i) (Fl.cur L at_ k)) := by
  have n := ha.n
  obtain ⟨a, ea, la⟩ := ha.le i hi
  have fi := hf i hi
  refine M.o_for L.length (fun j (s : Nat) => s = j /\ ∀ k, k < j -> i ≠ k -> ¬Fl.ah M' (Fl.cur L at_ i) (Fl.cur L at_ k)) ?_ ?_ ⟨rfl, fun k hk => by omega⟩
  · rintro _ k hk ⟨rfl, hj⟩
    obtain ⟨b, eb, lb⟩ := ha.le k hk
    have fk := hf k hk
    simp only [zaK, List.length_map, Fl.cis_get, Fl.ci_len, Fl.ci_get]
    refine M.o_t (decide_eq_true (by omega)) (M.o_grd (decide_eq_true (by omega)) (M.o_grd (gOr (by omega)) (M.o_grd (gOr (by omega)) (M.o_grd (gOr (by omega)) (M.o_grd (gOr2 (by omega) (by omega)) (M.o_grd (gOr (by omega)) (M.o_grd (gOr2 (by omega) (by omega)) ?_)))))))
    have c1 := Fl.cur_in ha hf hi
    have c2 := Fl.cur_in ha hf hk
    have r1 := h.rg _ (Fl.rowIn hi) _ c1
    have r2 := h.rg _ (Fl.rowIn hk) _ c2
    have t : (((!((i : Int) == (k : Int))) && decide (at_.getD i 0 < (((L.getD i []).length : Nat) : Int))) && decide (at_.getD k 0 < (((L.getD k []).length : Nat) : Int))) = !((i : Int) == (k : Int)) := by
      rw [decide_eq_true (by omega), decide_eq_true (by omega), Bool.and_true, Bool.and_true]
    have t' : ((((i : Int) != (k : Int)) && decide (at_.getD i 0 < (((L.getD i []).length : Nat) : Int))) && decide (at_.getD k 0 < (((L.getD k []).length : Nat) : Int))) = !((i : Int) == (k : Int)) := t
    rw [t']
    by_cases e : i = k
    · subst e
      have ee : (!((i : Int) == (i : Int))) = false := by simp
      rw [ee]
      refine M.o_bindE (M.i_opt (r := false) (fun q => by cases q) (fun _ => rfl)) (M.o_f rfl (M.o_pure ⟨rfl, fun k hk' ne => ?_⟩))
      by_cases q : k = i
      · exact absurd q.symm ne
      · exact hj k (by omega) ne
    · have ee : (!((i : Int) == (k : Int))) = true := by rw [Bool.not_eq_true', beq_eq_false_iff_ne]; omega
      rw [ee]
      refine M.o_bindE (M.i_opt (r := decide (Fl.ah M' (Fl.cur L at_ i) (Fl.cur L at_ k))) (fun _ => ahN_ends r1 r2) (fun q => by cases q)) (M.o_if (fun hb => ?_) (fun hb => ?_))
      · rw [Bool.true_and] at hb
        exact M.o_grd (decide_eq_true (by omega)) (M.o_grd (gA2 (by omega) (by rw [ea]; have q := Fl.ch_len hm (h.pw _ (Fl.rowIn hi)) (h.rg _ (Fl.rowIn hi)); omega)) (M.o_pure ⟨k, hk, e, of_decide_eq_true hb⟩))
      · rw [Bool.true_and] at hb
        refine M.o_pure ⟨rfl, fun k' hk' ne => ?_⟩
        by_cases q : k' = k
        · subst q; exact of_decide_eq_false hb
        · exact hj k' (by omega) ne
  · rintro _ ⟨rfl, hj⟩
    simp only [zaK, List.length_map]
    exact M.o_f (decide_eq_false (by omega)) (M.o_pure hj)
theorem mostb6_out {L : List (List Nat)} {f : Nat -> Nat} {at_ : List Int} (hm : ∀ x ∈ M', Fl.Mok x) (hn : M'.length <= 16) (h : Fl.RowsOk M' L) (hf : ∀ i, i < L.length -> f i < (L.getD i []).length) (ha : Fl.At L f at_) :
    (M.iter (zaI S M' R' (L.map Fl.ci) at_) 0).Out (fun z => match z with | .inl (a, b) => a = b /\ ∃ i k, i < L.length /\ k < L.length /\ Fl.ah M' (Fl.cur L at_ i) (Fl.cur L at_ k) /\ b = at_.set i (at_.getD i 0 + 1) | .inr _ => ∀ i k, i < L.length -> k < L.length -> i ≠ k -> ¬Fl.ah M' (Fl.cur L at_ i) (Fl.cur L at_ k)) := by
  refine M.o_for L.length (fun j (s : Nat) => s = j /\ ∀ i k, i < j -> k < L.length -> i ≠ k -> ¬Fl.ah M' (Fl.cur L at_ i) (Fl.cur L at_ k)) ?_ ?_ ⟨rfl, fun i k hi => by omega⟩
  · rintro _ i hi ⟨rfl, hj⟩
    simp only [zaI, List.length_map]
    refine M.o_t (decide_eq_true (by omega)) (M.o_grd (decide_eq_true (by omega)) (M.o_bind (mostb5_out hm hn h hf ha hi) ?_))
    intro z hz
    match z, hz with
    | .inl _, hz =>
      obtain ⟨k, hk, _, q⟩ := hz
      exact M.o_pure ⟨rfl, i, k, hi, hk, q, rfl⟩
    | .inr _, hz =>
      refine M.o_pure ⟨rfl, fun i' k hi' hk ne => ?_⟩
      by_cases e : i' = i
      · subst e; exact hz k hk ne
      · exact hj i' k (by omega) hk ne
  · rintro _ ⟨rfl, hj⟩
    simp only [zaI, List.length_map]
    exact M.o_f (decide_eq_false (by omega)) (M.o_pure hj)
theorem mostb7_ends {L : List (List Nat)} {f : Nat -> Nat} {at_ : List Int} (hl : L.length <= 16) (hf : ∀ i, i < L.length -> f i < (L.getD i []).length) (ha : Fl.At L f at_) :
    (M.iter (zaC (L.map Fl.ci) at_) (0, [])).Ends (Fl.ci (Fl.chs L at_), Fl.ci (Fl.chs L at_)) := by
  have n := ha.n
  refine M.i_for (fun i => (i, Fl.ci ((List.range i).map (Fl.cur L at_)))) L.length (fun i hi => ?_) ?_
  · obtain ⟨a, ea, la⟩ := ha.le i hi
    have fi := hf i hi
    simp only [zaC, List.length_map, Fl.cis_get, Fl.ci_len, Fl.ci_get]
    refine M.i_t (decide_eq_true (by omega)) (M.i_grd (decide_eq_true (by omega)) (M.i_grd (decide_eq_true (by omega)) (M.i_t (decide_eq_true (by omega)) (M.i_grd (gA2 (by omega) (by omega)) (M.i_grd (decide_eq_true (by simp; omega)) ?_)))))
    have e : Fl.ci ((List.range (i + 1)).map (Fl.cur L at_)) = Fl.ci ((List.range i).map (Fl.cur L at_)) ++ [((Fl.cur L at_ i : Nat) : Int)] := by
      rw [List.range_succ, List.map_append]
      unfold Fl.ci
      rw [List.map_append]
      rfl
    rw [e]
    exact M.i_pure
  · simp only [zaC, List.length_map]
    exact M.i_f (decide_eq_false (by omega)) M.i_pure
theorem Most_best (h : Fl.Site S M' R') : (zaH S M' R').Out (fun x => x.2 = 0 /\ ∃ L : List (List Nat), (zar S M' R').Ends (L.map Fl.ci) /\ Fl.RowsOk M' L /\ Fl.Best M' L x.1) := by
  have hn := h.m
  have hm := h.mks
  unfold zaH
  obtain ⟨_, hE, L, rfl, hr⟩ := rows_out (S := S) (R' := R') hn.2 hm
  have hl := hr.len
  refine M.o_bindE (opened_ends h) (M.o_f rfl (M.o_bindE hE (M.o_grd (by rw [List.length_map]; exact gA3 (by omega) (by omega) (by omega)) ?_)))
  obtain ⟨X, hX, hp⟩ := hr.pick
  have hex : ∀ i, ∃ k, i < L.length -> k < (L.getD i []).length /\ X ((L.getD i []).getD k 0) := fun i => by
    by_cases hi : i < L.length
    · obtain ⟨v, hv, q⟩ := hp _ (Fl.rowIn hi)
      obtain ⟨k, hk, e⟩ := mem_getD hv 0
      exact ⟨k, fun _ => ⟨hk, by rw [e]; exact q⟩⟩
    · exact ⟨0, fun q => absurd q hi⟩
  have hf := fun i => Classical.choose_spec (hex i)
  generalize hg : (fun i => Classical.choose (hex i)) = f
  have hf : ∀ i, i < L.length -> f i < (L.getD i []).length /\ X ((L.getD i []).getD (f i) 0) := by subst hg; exact hf
  have hf1 := fun i hi => (hf i hi).1
  refine M.o_bind (P := fun z => Fl.Best M' L z.1) ?_ (fun z hz => M.o_pure ⟨rfl, L, hE, hr, hz⟩)
  rw [List.length_map]
  have rep : ∀ i, (List.replicate L.length (0 : Int)).getD i 0 = 0 := fun i => by
    simp only [List.getD, List.getElem?_replicate]
    split <;> rfl
  refine M.o_iter (fun m (at_ : List Int) => Fl.At L f at_ /\ m = Fl.sm (fun j => f j - Int.toNat (at_.getD j 0)) L.length) ?_ _ (List.replicate L.length (0 : Int)) ⟨⟨by simp, fun i hi => ⟨0, rep i, Nat.zero_le _⟩⟩, rfl⟩
  rintro m at_ ⟨ha, rfl⟩
  simp only [zbt]
  refine M.o_bind (mostb6_out hm hn.2 hr hf1 ha) ?_
  intro z hz
  match z, hz with
  | .inl (a, b), hz =>
    obtain ⟨rfl, i, k, hi, hk, q, rfl⟩ := hz
    have := ha.step hm hr hX hf hi hk q
    exact M.o_pure ⟨_, this.2, this.1, rfl⟩
  | .inr _, hz =>
    refine M.o_bindE (mostb7_ends (by omega) hf1 ha) (M.o_grd (decide_eq_true (by rw [Fl.ci_len, Fl.chs_len]; omega)) (M.o_pure ?_))
    exact Fl.Best.of hm hr ha hf1 hz
end
end Go.Proofs.YtlemgioaakecpaaGreat
namespace Go.Nm
namespace Fl
/-- A row of numbers in which each two contradict each other. -/
def Chn (M : List Mrk) (row : List Int) : Prop := ∀ j k, j < k -> k < row.length -> ah M (Int.toNat (row.getD k 0)) (Int.toNat (row.getD j 0)) ∨ ah M (Int.toNat (row.getD j 0)) (Int.toNat (row.getD k 0))
instance (M : List Mrk) (a b : Nat) : Decidable (ah M a b ∨ ah M b a) := inferInstance
/-- Rows that may be asked of. -/
structure Rws (n : Nat) (T : List (List Int)) : Prop where
  len : T.length <= 16
  row : ∀ r ∈ T, r ≠ [] /\ ∀ k ∈ r, 0 <= k /\ k < n
theorem ix_in {n : Nat} {r : List Int} (h : ∀ k ∈ r, 0 <= k /\ k < n) {i : Nat} (hi : i < r.length) : 0 <= r.getD i 0 /\ r.getD i 0 < n := h _ (by rw [getD_el r hi]; exact List.getElem_mem hi)
/-- What rows prove is so. -/
theorem prove_few {M : List Mrk} {T : List (List Int)} {l : List Int} (hx : Inc M l) (ht : Tog M l) (hr : ∀ r ∈ T, ∀ k ∈ r, 0 <= k /\ k < M.length) (hc : ∀ r ∈ T, Chn M r) (cov : ∀ v, v < M.length -> ∃ r ∈ T, (v : Int) ∈ r) : l.length <= T.length := by
  have := few (M := M) (X := l.map Int.toNat) (L := T.map fun r => r.map Int.toNat) ?_ ?_ ?_ ?_ ?_
  · rwa [List.length_map, List.length_map] at this
  · unfold List.Nodup
    rw [List.pairwise_map]
    refine List.Pairwise.imp_of_mem ?_ hx.1
    intro a b ha hb hab e
    have q1 := hx.2 a ha
    have q2 := hx.2 b hb
    omega
  · intro v hv
    obtain ⟨a, ha, rfl⟩ := List.mem_map.1 hv
    have := hx.2 a ha
    omega
  · intro u hu v hv q
    obtain ⟨a, ha, rfl⟩ := List.mem_map.1 hu
    obtain ⟨b, hb, rfl⟩ := List.mem_map.1 hv
    exact ht a ha b hb q
  · intro v hv
    obtain ⟨r, hr', q⟩ := cov v hv
    exact ⟨_, List.mem_map.2 ⟨r, hr', rfl⟩, List.mem_map.2 ⟨_, q, Int.toNat_natCast v⟩⟩
  · intro l' hl' u hu v hv ne
    obtain ⟨r, hr', rfl⟩ := List.mem_map.1 hl'
    obtain ⟨a, ha, rfl⟩ := List.mem_map.1 hu
    obtain ⟨b, hb, rfl⟩ := List.mem_map.1 hv
    obtain ⟨i, hi, rfl⟩ := mem_getD ha 0
    obtain ⟨j, hj, rfl⟩ := mem_getD hb 0
    rcases Nat.lt_trichotomy i j with q | q | q
    · rcases hc r hr' i j q hj with k | k
      · exact .inr k
      · exact .inl k
    · subst q; exact absurd rfl ne
    · exact hc r hr' j i q hi
end Fl
end Go.Nm
namespace Go.Proofs.YtlemgioaakecpaaGreat
open Go Go.Nm
section
variable {S : List Sect} {M' : List Mrk} {R' : List Rch} {ms : List Int}
theorem every_all (l : List Int) (so : Int -> M Bool) (f : Int -> Bool) (h : ∀ t ∈ l, (so t).Ends (f t)) : (zak l so).Out (fun b => b = true ↔ ∀ t ∈ l, f t = true) := by
  unfold zak zbk zbE
  refine M.o_bind (P := fun b => b = false ↔ ∀ t ∈ l, f t = true) (M.o_bind (P := fun i => i < 0 ↔ ∀ t ∈ l, f t = true) (M.o_bind (P := fun z => match z with | .inl i => 0 <= i /\ ∃ t ∈ l, f t = false | .inr _ => ∀ t ∈ l, f t = true) ?_ ?_) ?_) ?_
  · refine M.o_for l.length (fun i (s : Nat) => s = i /\ ∀ j, j < i -> f (l.getD j 0) = true) ?_ ?_ ⟨rfl, fun j hj => by omega⟩
    · rintro _ i hi ⟨rfl, hj⟩
      simp only [zav]
      have hm : l.getD i 0 ∈ l := by rw [getD_el l hi]; exact List.getElem_mem hi
      refine M.o_t (decide_eq_true (by omega)) (M.o_grd (decide_eq_true (by omega)) (M.o_bindE (a := !f (l.getD i 0)) ?_ (M.o_if (fun hb => ?_) (fun hb => ?_))))
      · unfold zaV
        exact M.i_bind (h _ hm) M.i_pure
      · exact M.o_pure ⟨by omega, _, hm, by simpa using hb⟩
      · refine M.o_pure ⟨rfl, fun j hj' => ?_⟩
        by_cases e : j = i
        · subst e; simpa using hb
        · exact hj j (by omega)
    · rintro _ ⟨rfl, hj⟩
      simp only [zav]
      refine M.o_f (decide_eq_false (by omega)) (M.o_pure fun t ht => ?_)
      obtain ⟨i, hi, rfl⟩ := mem_getD ht 0
      exact hj i hi
  · intro z hz
    match z, hz with
    | .inl i, hz =>
      refine M.o_pure ⟨fun q => by have := hz.1; omega, fun q => ?_⟩
      obtain ⟨_, t, ht, e⟩ := hz
      rw [q t ht] at e; cases e
    | .inr _, hz => exact M.o_pure ⟨fun _ => hz, fun _ => by decide⟩
  · intro i hi
    refine M.o_pure ?_
    rw [decide_eq_false_iff_not, ← hi]
    omega
  · intro b hb
    refine M.o_pure ?_
    rw [Bool.not_eq_true']
    exact hb
theorem ahI_ends {a b : Int} (ha : 0 <= a /\ a < M'.length) (hb : 0 <= b /\ b < M'.length) : (zaf S M' R' a b).Ends (decide (Fl.ah M' (Int.toNat a) (Int.toNat b))) := by
  have := ahN_ends (S := S) (R' := R') (M' := M') (a := Int.toNat a) (b := Int.toNat b) (by omega) (by omega)
  rwa [show ((Int.toNat a : Nat) : Int) = a by omega, show ((Int.toNat b : Nat) : Int) = b by omega] at this
theorem together_out (hx : Fl.Ixs M' ms) : (zat S M' R' ms).Out (fun b => b = true ↔ Fl.Tog M' ms) := by
  have inner : ∀ a ∈ ms, (zaq a ms S M' R').Ends (decide (∀ b ∈ ms, ¬Fl.ah M' (Int.toNat a) (Int.toNat b))) := fun a ha => by
    unfold zaq
    obtain ⟨r, h1, h2⟩ := every_all ms (fun xqz => zaw xqz S M' R' a) (fun b => !decide (Fl.ah M' (Int.toNat a) (Int.toNat b))) (fun b hb => by
      unfold zaw
      exact M.i_bind (ahI_ends (hx a ha) (hx b hb)) M.i_pure)
    refine M.i_bind h1 ?_
    have e : r = decide (∀ b ∈ ms, ¬Fl.ah M' (Int.toNat a) (Int.toNat b)) := by
      rw [Bool.eq_iff_iff, h2, decide_eq_true_iff]
      constructor
      · intro q b hb; simpa using q b hb
      · intro q b hb; simpa using q b hb
    rw [e]
    exact M.i_pure
  unfold zat
  refine M.o_bind (every_all ms (fun xqz => zaq xqz ms S M' R') (fun a => decide (∀ b ∈ ms, ¬Fl.ah M' (Int.toNat a) (Int.toNat b))) inner) (fun b hb => M.o_pure ?_)
  rw [hb]
  constructor
  · intro q a ha b hb'
    exact (of_decide_eq_true (q a ha)) b hb'
  · intro q a ha
    exact decide_eq_true fun b hb' => q a ha b hb'
theorem Surface_any (h : Fl.Site S M' R') (hc : Fl.Inc M' ms) : (zan S M' R' ms).Out (fun x => (x.2 = 0 /\ Fl.Tog M' ms) ∨ x.2 = 7) := by
  by_cases ht : Fl.Tog M' ms
  · exact M.o_of (Surface_ends h hc ht) (.inl ⟨rfl, ht⟩)
  · unfold zan
    refine M.o_bindE (chosen_ends h hc) (M.o_f rfl (M.o_bind (together_out hc.2) ?_))
    intro b hb
    have hb' : b = false := by
      cases b with
      | false => rfl
      | true => exact absurd (hb.1 rfl) ht
    subst hb'
    exact M.o_t rfl (M.o_pure (.inr rfl))
theorem read_out {row : List Int} {met : List Bool} (hn : M'.length <= 16) (h0 : row ≠ []) (hr : ∀ k ∈ row, 0 <= k /\ k < M'.length) (hm : met.length = 16) :
    (zbF S M' R' row met).Out (fun z => z.2.length = 16 /\ (∀ k : Nat, k < 16 -> (z.2.getD k false = true ↔ met.getD k false = true ∨ (k : Int) ∈ row)) /\ (z.1 = true ↔ Fl.Chn M' row)) := by
  have hl : 0 < row.length := List.length_pos_iff.2 h0
  unfold zbF
  have e0 : ((row.length : Int) == 0) = false := by rw [beq_eq_false_iff_ne]; omega
  rw [e0]
  refine M.o_bindE (a := true) (M.i_opt (fun _ => every_int _ _ fun k hk => ?_) (fun q => by cases q)) (M.o_f rfl (M.o_bind (P := fun z => z.2.length = 16 /\ (∀ k : Nat, k < 16 -> (z.2.getD k false = true ↔ met.getD k false = true ∨ (k : Int) ∈ row)) /\ (z.1 = true ↔ Fl.Chn M' row)) ?_ (fun z hz => M.o_pure hz)))
  · unfold zbI
    have := hr k hk
    exact M.i_bind (in_true (by omega) (by omega)) M.i_pure
  · refine M.o_for row.length (fun i (s : List Bool × Bool × Nat) => s.2.2 = i /\ s.1.length = 16 /\ (∀ k : Nat, k < 16 -> (s.1.getD k false = true ↔ met.getD k false = true ∨ ∃ j, j < i /\ row.getD j 0 = (k : Int))) /\ (s.2.1 = true ↔ ∀ j k, j < k -> k < i -> Fl.ah M' (Int.toNat (row.getD k 0)) (Int.toNat (row.getD j 0)) ∨ Fl.ah M' (Int.toNat (row.getD j 0)) (Int.toNat (row.getD k 0)))) ?_ ?_ (s := (met, true, 0)) ⟨rfl, hm, fun k hk => ⟨fun q => .inl q, fun q => by
        rcases q with q | ⟨j, hj, _⟩
        · exact q
        · omega⟩, ⟨fun _ j k _ hk => by omega, fun _ => rfl⟩⟩
    · rintro _ ⟨ar, out, i⟩ hi ⟨rfl, ha, hmt, hch⟩
      dsimp only at hi ha hmt hch ⊢
      have ri := Fl.ix_in hr hi
      simp only [za6]
      refine M.o_t (decide_eq_true (by omega)) (M.o_grd (decide_eq_true (by omega)) (M.o_grd (gA2 (by omega) (by omega)) (M.o_bind (P := fun r => (out && r) = true ↔ ∀ j k, j < k -> k < i + 1 -> Fl.ah M' (Int.toNat (row.getD k 0)) (Int.toNat (row.getD j 0)) ∨ Fl.ah M' (Int.toNat (row.getD j 0)) (Int.toNat (row.getD k 0))) ?_ ?_)))
      · refine M.o_opt (fun ho => ?_) (fun ho => ?_)
        · refine M.o_mono (every_all (row.take i) _ (fun t => decide (Fl.ah M' (Int.toNat (row.getD i 0)) (Int.toNat t)) || decide (Fl.ah M' (Int.toNat t) (Int.toNat (row.getD i 0)))) (fun t ht => ?_)) (fun r hr' => ?_)
          · have rt := hr t (List.mem_of_mem_take ht)
            unfold zbf
            refine M.i_bind (ahI_ends ri rt) (M.i_bind (a := bif (!decide (Fl.ah M' (Int.toNat (row.getD i 0)) (Int.toNat t))) then decide (Fl.ah M' (Int.toNat t) (Int.toNat (row.getD i 0))) else false) (M.i_opt (fun q => by rw [q]; exact ahI_ends rt ri) (fun q => by rw [q]; rfl)) ?_)
            have e : (decide (Fl.ah M' (Int.toNat (row.getD i 0)) (Int.toNat t)) || bif (!decide (Fl.ah M' (Int.toNat (row.getD i 0)) (Int.toNat t))) then decide (Fl.ah M' (Int.toNat t) (Int.toNat (row.getD i 0))) else false) = (decide (Fl.ah M' (Int.toNat (row.getD i 0)) (Int.toNat t)) || decide (Fl.ah M' (Int.toNat t) (Int.toNat (row.getD i 0)))) := by
              cases decide (Fl.ah M' (Int.toNat (row.getD i 0)) (Int.toNat t)) <;> rfl
            rw [e]
            exact M.i_pure
          · rw [ho, Bool.true_and, hr']
            have hch := hch.1 ho
            constructor
            · intro q j k hjk hk
              by_cases e : k = i
              · subst e
                have hj : row.getD j 0 ∈ row.take k := by
                  rw [getD_el row (by omega)]
                  exact List.mem_take_iff_getElem.2 ⟨j, by omega, rfl⟩
                have := q _ hj
                rw [Bool.or_eq_true, decide_eq_true_eq, decide_eq_true_eq] at this
                exact this
              · exact hch j k hjk (by omega)
            · intro q t ht
              obtain ⟨j, hj, rfl⟩ := List.mem_take_iff_getElem.1 ht
              have := q j i (by omega) (by omega)
              rw [getD_el row (show j < row.length by omega)] at this
              rw [Bool.or_eq_true, decide_eq_true_eq, decide_eq_true_eq]
              exact this
        · rw [ho, Bool.false_and]
          refine ⟨fun q => (by cases q), fun q => ?_⟩
          have := hch.2 fun j k hjk hk => q j k hjk (by omega)
          rw [ho] at this; cases this
      · intro r hr'
        refine M.o_pure ⟨rfl, by dsimp only; rw [List.length_set]; exact ha, fun k hk => ?_, hr'⟩
        dsimp only
        rw [gset ar (Int.toNat (row.getD i 0)) k true false (by omega)]
        by_cases e : k = Int.toNat (row.getD i 0)
        · rw [if_pos e]
          exact ⟨fun _ => .inr ⟨i, by omega, by omega⟩, fun _ => rfl⟩
        · rw [if_neg e, hmt k hk]
          constructor
          · rintro (q | ⟨j, hj, q⟩)
            · exact .inl q
            · exact .inr ⟨j, by omega, q⟩
          · rintro (q | ⟨j, hj, q⟩)
            · exact .inl q
            · by_cases e' : j = i
              · subst e'; omega
              · exact .inr ⟨j, by omega, q⟩
    · rintro ⟨ar, out, _⟩ ⟨rfl, ha, hmt, hch⟩
      dsimp only at ha hmt hch ⊢
      simp only [za6]
      refine M.o_f (decide_eq_false (by omega)) (M.o_pure ⟨ha, fun k hk => ?_, hch⟩)
      rw [hmt k hk]
      constructor
      · rintro (q | ⟨j, hj, q⟩)
        · exact .inl q
        · refine .inr ?_
          rw [← q, getD_el row hj]
          exact List.getElem_mem hj
      · rintro (q | q)
        · exact .inl q
        · obtain ⟨j, hj, e⟩ := mem_getD q 0
          exact .inr ⟨j, hj, e⟩
theorem every_bools (l : List Bool) : (zbv l (fun xqz => za2 xqz)).Out (fun b => b = true ↔ ∀ t ∈ l, t = true) := by
  unfold zbv zcb zch
  refine M.o_bind (P := fun b => b = false ↔ ∀ t ∈ l, t = true) (M.o_bind (P := fun i => i < 0 ↔ ∀ t ∈ l, t = true) (M.o_bind (P := fun z => match z with | .inl i => 0 <= i /\ ∃ t ∈ l, t = false | .inr _ => ∀ t ∈ l, t = true) ?_ ?_) ?_) ?_
  · refine M.o_for l.length (fun i (s : Nat) => s = i /\ ∀ j, j < i -> l.getD j false = true) ?_ ?_ ⟨rfl, fun j hj => by omega⟩
    · rintro _ i hi ⟨rfl, hj⟩
      simp only [za8]
      have hm : l.getD i false ∈ l := by rw [getD_el l hi]; exact List.getElem_mem hi
      refine M.o_t (decide_eq_true (by omega)) (M.o_grd (decide_eq_true (by omega)) (M.o_bindE (a := !(l.getD i false)) ?_ (M.o_if (fun hb => ?_) (fun hb => ?_))))
      · unfold zby za2
        exact M.i_bind M.i_pure M.i_pure
      · exact M.o_pure ⟨by omega, _, hm, by simpa using hb⟩
      · refine M.o_pure ⟨rfl, fun j hj' => ?_⟩
        by_cases e : j = i
        · subst e; simpa using hb
        · exact hj j (by omega)
    · rintro _ ⟨rfl, hj⟩
      simp only [za8]
      refine M.o_f (decide_eq_false (by omega)) (M.o_pure fun t ht => ?_)
      obtain ⟨i, hi, rfl⟩ := mem_getD ht false
      exact hj i hi
  · intro z hz
    match z, hz with
    | .inl i, hz =>
      refine M.o_pure ⟨fun q => by have := hz.1; omega, fun q => ?_⟩
      obtain ⟨_, t, ht, e⟩ := hz
      rw [q t ht] at e; cases e
    | .inr _, hz => exact M.o_pure ⟨fun _ => hz, fun _ => by decide⟩
  · intro i hi
    refine M.o_pure ?_
    rw [decide_eq_false_iff_not, ← hi]
    omega
  · intro b hb
    refine M.o_pure ?_
    rw [Bool.not_eq_true']
    exact hb
theorem Proves_out (h : Fl.Site S M' R') {many : Int} {T : List (List Int)} (hT : Fl.Rws M'.length T) :
    (zas S M' R' many T).Out (fun x => x.2 = 0 /\ (x.1 = true ↔ (T.length : Int) <= many /\ (∀ r ∈ T, Fl.Chn M' r) /\ ∀ v, v < M'.length -> ∃ r ∈ T, (v : Int) ∈ r)) := by
  have hn := h.m
  have hl := hT.len
  unfold zas
  refine M.o_bindE (opened_ends h) (M.o_f rfl (M.o_f (decide_eq_false (by omega)) (M.o_bind (P := fun z => z.2.length = 16 /\ (∀ k : Nat, k < 16 -> (z.2.getD k false = true ↔ ∃ r ∈ T, (k : Int) ∈ r)) /\ (z.1 = true ↔ (T.length : Int) <= many /\ ∀ r ∈ T, Fl.Chn M' r)) ?_ ?_)))
  · have rep : ∀ k : Nat, k < 16 -> (List.replicate 16 false).getD k false = false := fun k hk => by
      have : ∀ n j : Nat, (List.replicate n false).getD j false = false := fun n j => by
        simp only [List.getD, List.getElem?_replicate]
        split <;> rfl
      exact this 16 k
    refine M.o_for T.length (fun i (s : Bool × List Bool × Nat) => s.2.2 = i /\ s.2.1.length = 16 /\ (∀ k : Nat, k < 16 -> (s.2.1.getD k false = true ↔ ∃ j, j < i /\ (k : Int) ∈ T.getD j [])) /\ (s.1 = true ↔ (T.length : Int) <= many /\ ∀ j, j < i -> Fl.Chn M' (T.getD j []))) ?_ ?_ (s := (decide ((T.length : Int) <= many), List.replicate 16 false, 0)) ⟨rfl, by simp, fun k hk => ⟨fun q => (by rw [rep k hk] at q; cases q), fun q => (by obtain ⟨j, hj, _⟩ := q; omega)⟩, by
        show decide _ = true ↔ _
        rw [decide_eq_true_eq]
        exact ⟨fun q => ⟨q, fun j hj => by omega⟩, fun q => q.1⟩⟩
    · rintro _ ⟨is, ar, i⟩ hi ⟨rfl, ha, hmt, hch⟩
      dsimp only at hi ha hmt hch ⊢
      have hm : T.getD i [] ∈ T := by rw [getD_el T hi]; exact List.getElem_mem hi
      have hrow := hT.row _ hm
      simp only [zaR]
      refine M.o_t (decide_eq_true (by omega)) (M.o_grd (decide_eq_true (by omega)) (M.o_bind (read_out hn.2 hrow.1 hrow.2 ha) ?_))
      rintro ⟨r, met⟩ ⟨h1, h2, h3⟩
      dsimp only at h1 h2 h3 ⊢
      have hm' : ∀ k : Nat, k < 16 -> (met.getD k false = true ↔ ∃ j, j < i + 1 /\ (k : Int) ∈ T.getD j []) := fun k hk => by
        rw [h2 k hk, hmt k hk]
        constructor
        · rintro (⟨j, hj, q⟩ | q)
          · exact ⟨j, by omega, q⟩
          · exact ⟨i, by omega, q⟩
        · rintro ⟨j, hj, q⟩
          by_cases e : j = i
          · subst e; exact .inr q
          · exact .inl ⟨j, by omega, q⟩
      have hstep : (∀ j, j < i + 1 -> Fl.Chn M' (T.getD j [])) ↔ (∀ j, j < i -> Fl.Chn M' (T.getD j [])) /\ Fl.Chn M' (T.getD i []) := by
        constructor
        · intro q; exact ⟨fun j hj => q j (by omega), q i (by omega)⟩
        · rintro ⟨q1, q2⟩ j hj
          by_cases e : j = i
          · subst e; exact q2
          · exact q1 j (by omega)
      refine M.o_if (fun hb => ?_) (fun hb => ?_)
      · refine M.o_pure ⟨rfl, h1, hm', ?_⟩
        rw [Bool.not_eq_true'] at hb
        refine ⟨fun q => (by cases q), fun q => ?_⟩
        have := h3.2 (hstep.1 q.2).2
        rw [hb] at this; cases this
      · refine M.o_pure ⟨rfl, h1, hm', ?_⟩
        rw [Bool.not_eq_false'] at hb
        show is = true ↔ _
        rw [hch, hstep]
        exact ⟨fun q => ⟨q.1, q.2, h3.1 hb⟩, fun q => ⟨q.1, q.2.1⟩⟩
    · rintro ⟨is, ar, _⟩ ⟨rfl, ha, hmt, hch⟩
      dsimp only at ha hmt hch ⊢
      simp only [zaR]
      refine M.o_f (decide_eq_false (by omega)) (M.o_pure ⟨ha, fun k hk => ?_, ?_⟩)
      · show ar.getD k false = true ↔ _
        rw [hmt k hk]
        constructor
        · rintro ⟨j, hj, q⟩
          exact ⟨_, by rw [getD_el T hj]; exact List.getElem_mem hj, q⟩
        · rintro ⟨r, hr, q⟩
          obtain ⟨j, hj, rfl⟩ := mem_getD hr []
          exact ⟨j, hj, q⟩
      · show is = true ↔ _
        rw [hch]
        constructor
        · rintro ⟨q1, q2⟩
          refine ⟨q1, fun r hr => ?_⟩
          obtain ⟨j, hj, rfl⟩ := mem_getD hr []
          exact q2 j hj
        · rintro ⟨q1, q2⟩
          exact ⟨q1, fun j hj => q2 _ (by rw [getD_el T hj]; exact List.getElem_mem hj)⟩
  · rintro ⟨is, ar⟩ ⟨h1, h2, h3⟩
    dsimp only at h1 h2 h3 ⊢
    refine M.o_grd (gOr2 (by omega) (by omega)) (M.o_bind (P := fun r => (is && r) = true ↔ (T.length : Int) <= many /\ (∀ r ∈ T, Fl.Chn M' r) /\ ∀ v, v < M'.length -> ∃ r ∈ T, (v : Int) ∈ r) ?_ (fun r hr => M.o_pure ⟨rfl, hr⟩))
    rw [Int.toNat_natCast]
    refine M.o_opt (fun hi => ?_) (fun hi => ?_)
    · refine M.o_mono (every_bools _) (fun r hr => ?_)
      rw [hi, Bool.true_and, hr]
      have h3 := h3.1 hi
      have hlen : M'.length <= ar.length := by omega
      constructor
      · intro q
        refine ⟨h3.1, h3.2, fun v hv => (h2 v (by omega)).1 ?_⟩
        refine q _ ?_
        rw [getD_el ar (by omega)]
        exact List.mem_take_iff_getElem.2 ⟨v, by omega, rfl⟩
      · rintro ⟨_, _, q⟩ t ht
        obtain ⟨v, hv, rfl⟩ := List.mem_take_iff_getElem.1 ht
        have := (h2 v (by omega)).2 (q v (by omega))
        rwa [getD_el ar (by omega)] at this
    · rw [hi, Bool.false_and]
      refine ⟨fun q => (by cases q), fun q => ?_⟩
      have := h3.2 ⟨q.1, q.2.1⟩
      rw [hi] at this; cases this
end
end Go.Proofs.YtlemgioaakecpaaGreat
section
set_option maxRecDepth 100000
set_option maxHeartbeats 16000000
namespace Go.Proofs.YtlemgioaakecpaaGreat
open Go Go.Nm
def zbj (place : Int) (lo : Int) (hi : Int) : M (Int × Int × Int) :=
  M.pure (place, lo, hi)
theorem zb6 {R : List Chunk}  (place : Int) (lo : Int) (hi : Int)  {r : (Int × Int × Int)} (hM : (zbj place lo hi).Ends r) (w : World) (H : St w w [] R) : Ret Tryz.prog 61 #[I place, I lo, I hi] w fun v w' => ∃ (y0 : Int) (y1 : Int) (y2 : Int), (y0, y1, y2) = r /\ v = .agg #[I y0, I y1, I y2] /\ St w w' [] R := by
 refine ret_of_W Tryz.func61 rfl rfl rfl ?_
 refine W.seq ?_
 refine W.region rfl ?_
 refine t_alloc (cs := [I 0, I 0, I 0]) H Al70 rfl ?_
 intro ac ae H
 refine s_nil ?_
 refine W.seq ?_
 refine W.region rfl ?_
 refine zM (I place) rfl ?_
 refine zM (I lo) rfl ?_
 refine zM (I hi) rfl ?_
 refine s_val (x_bld (ps := [(0, I lo), (1, I hi)]) (zs := [I 0, I 0]) (L' := [I lo, I hi]) rfl Tryz.underlying54 Al54 rfl (Bd54 Tryz.underlying54) (.cons (cs := [I lo]) rfl rfl rfl rfl rfl <| .cons (cs := [I hi]) rfl rfl rfl rfl rfl <| .nil)) ?_
 refine s_val (x_bld (ps := [(0, I place), (1, .agg #[I lo, I hi])]) (zs := [I 0, I 0, I 0]) (L' := [I place, I lo, I hi]) rfl Tryz.underlying70 Al70 rfl (Bd70 Tryz.underlying70) (.cons (cs := [I place]) rfl rfl rfl rfl rfl <| .cons (cs := [I lo, I hi]) rfl rfl rfl rfl rfl <| .nil)) ?_
 refine t_sw 0 0 [I place, I lo, I hi] (.agg #[I place, I lo, I hi]) H rfl rfl Sz70 rfl rfl rfl rfl ?_
 intro ag H
 refine s_nil ?_
 refine W.ret ?_
 have aa := (H.bl 0)
 have ab := M.e_pure hM
 exact ⟨_, (resE_of1 (v := .agg #[I place, I lo, I hi]) rfl (.cell (v := .agg #[I place, I lo, I hi]) rfl (run_loadVar_ag (ds := [I place, I lo, I hi]) Ag70 Sz70 aa rfl rfl) <| .nil)), ⟨place, lo, hi, ab, rfl, (H.pk [])⟩⟩

def zaQ (marks : List Mrk) : M ((List Sect) × (List Mrk) × (List Rch)) :=
  M.bind (zbj 0 150 160) fun (r0, r1, r2) =>
  M.bind (zbj 100 100 110) fun (aa, ab, ac) =>
  M.grd (decide ((([(⟨(r0 : Int), (r1 : Int), (r2 : Int)⟩ : Mrk), (⟨(aa : Int), (ab : Int), (ac : Int)⟩ : Mrk)]).length + marks.length) * 24 <= 140737488355328)) <|
  M.pure (([(⟨(0 : Int), ([(⟨(0 : Int), (0 : Int)⟩ : FRow), (⟨(200 : Int), (2000 : Int)⟩ : FRow)])⟩ : Sect), (⟨(100 : Int), ([(⟨(0 : Int), (0 : Int)⟩ : FRow), (⟨(200 : Int), (2000 : Int)⟩ : FRow)])⟩ : Sect)]), (([(⟨(r0 : Int), (r1 : Int), (r2 : Int)⟩ : Mrk), (⟨(aa : Int), (ab : Int), (ac : Int)⟩ : Mrk)]) ++ marks), ([(⟨(0 : Int), (1 : Int), (50 : Int), (100 : Int), false⟩ : Rch)]))
theorem zbM {R : List Chunk} {av : Cells} {aq : Value} (marks : List Mrk) (aA : Reads R av) (aB : Sl av aq marks) {r : ((List Sect) × (List Mrk) × (List Rch))} (hM : (zaQ marks).Ends r) (w : World) (H : St w w [] R) : Ret Tryz.prog 60 #[aq] w fun v w' => ∃ (y0 : List Sect) (y1 : List Mrk) (y2 : List Rch) (u0 : Value) (rr1 : List (Raw 1)) (aw : Base) (u3 : Value) (u4 : Value), (y0, y1, y2) = r /\ v = .agg #[u0, u3, u4] /\ St w w' [cOwn (α := Raw 1) 68 u0 rr1, cRo aw, cOwn (α := Mrk) 70 u3 y1, cOwn (α := Rch) 58 u4 y2] R /\ RepR (α := Sect) aw.cells rr1 y0 := by
 refine ret_of_W Tryz.func60 rfl rfl rfl ?_
 refine W.seq ?_
 refine W.region rfl ?_
 refine t_alloc (cs := [.slice none 0 0, .slice none 0 0, .slice none 0 0]) H Al27 rfl ?_
 intro aL aM H
 refine s_nil ?_
 refine W.seq ?_
 refine W.region rfl ?_
 refine s_val (x_bld (ps := []) (zs := [I 0, I 0]) (L' := [I 0, I 0]) rfl Tryz.underlying109 Al109 rfl (Bd109 Tryz.underlying109) (.nil)) ?_
 refine s_val (x_bld (ps := [(0, I 200), (1, I 2000)]) (zs := [I 0, I 0]) (L' := [I 200, I 2000]) rfl Tryz.underlying109 Al109 rfl (Bd109 Tryz.underlying109) (.cons (cs := [I 200]) rfl rfl rfl rfl rfl <| .cons (cs := [I 2000]) rfl rfl rfl rfl rfl <| .nil)) ?_
 refine t_bs (α := FRow) T66 [.agg #[I 0, I 0], .agg #[I 200, I 2000]] [(⟨(0 : Int), (0 : Int)⟩ : FRow), (⟨(200 : Int), (2000 : Int)⟩ : FRow)] H rfl (.cons rfl (Flat.rep_enc _ (⟨(0 : Int), (0 : Int)⟩ : FRow)) <| .cons rfl (Flat.rep_enc _ (⟨(200 : Int), (2000 : Int)⟩ : FRow)) <| .nil) rfl rfl rfl ?_
 intro aa aN H
 refine zA aa rfl ?_
 refine s_nil ?_
 refine W.seq ?_
 refine W.region rfl ?_
 refine zM aa rfl ?_
 refine s_val (x_bld (ps := [(1, aa)]) (zs := [I 0, .slice none 0 0]) (L' := [I 0, aa]) rfl Tryz.underlying68 Al68 rfl (Bd68 Tryz.underlying68) (.cons (cs := [aa]) (Sl.cells (H.os 0)) rfl rfl rfl rfl <| .nil)) ?_
 refine zM aa rfl ?_
 refine s_val (x_bld (ps := [(0, I 100), (1, aa)]) (zs := [I 0, .slice none 0 0]) (L' := [I 100, aa]) rfl Tryz.underlying68 Al68 rfl (Bd68 Tryz.underlying68) (.cons (cs := [I 100]) rfl rfl rfl rfl rfl <| .cons (cs := [aa]) (Sl.cells (H.os 0)) rfl rfl rfl rfl <| .nil)) ?_
 obtain ⟨aO, H⟩ := H.emptyE
 obtain ⟨aP, H, aC⟩ := H.freezeE (k := 1) rfl
 replace H := H.nf
 have ag := aC
 obtain ⟨ax, H, aQ, aD⟩ := H.joinE (i := 0) (j := 1) rfl rfl
 replace ag := ag.mono aD
 obtain ⟨am, ay⟩ : ∃ r : Raw 1, r.cs = [I 0, aa] := ⟨Raw.of [I 0, aa] rfl (by simp only [List.all_cons, List.all_nil, Bool.true_and, Bool.and_true, Sl.oc ag]; try rfl), rfl⟩
 obtain ⟨ao, az⟩ : ∃ r : Raw 1, r.cs = [I 100, aa] := ⟨Raw.of [I 100, aa] rfl (by simp only [List.all_cons, List.all_nil, Bool.true_and, Bool.and_true, Sl.oc ag]; try rfl), rfl⟩
 have au : RepR (α := Sect) ax.cells [am, ao] [(⟨(0 : Int), ([(⟨(0 : Int), (0 : Int)⟩ : FRow), (⟨(200 : Int), (2000 : Int)⟩ : FRow)])⟩ : Sect), (⟨(100 : Int), ([(⟨(0 : Int), (0 : Int)⟩ : FRow), (⟨(200 : Int), (2000 : Int)⟩ : FRow)])⟩ : Sect)] := .cons (by rw [ay]; exact ⟨_, rfl, ag⟩) <| .cons (by rw [az]; exact ⟨_, rfl, ag⟩) <| .nil
 refine t_bs (α := Raw 1) T23 [.agg #[I 0, aa], .agg #[I 100, aa]] [am, ao] H rfl (.cons (by rw [show (Flat.enc am : List Value) = am.cs from rfl, ay]; rfl) (Flat.rep_enc _ _) <| .cons (by rw [show (Flat.enc ao : List Value) = ao.cs from rfl, az]; rfl) (Flat.rep_enc _ _) <| .nil) rfl rfl rfl ?_
 intro ab aR H
 replace H := H.nf
 obtain ⟨aS, aE, hM⟩ := M.e_bind hM
 refine s_call cf61 [I 0, I 150, I 160] rfl (zb6 0 150 160 aE _ (H.gt 5)) ?_
 rintro vq aT ⟨r0, r1, r2, aF, hvq, ap⟩
 subst aF
 subst vq
 try dsimp only at hM
 replace H := H.bk ap
 clear ap
 obtain ⟨aU, aG, hM⟩ := M.e_bind hM
 refine s_call cf61 [I 100, I 100, I 110] rfl (zb6 100 100 110 aG _ (H.gt 5)) ?_
 rintro vq aV ⟨ai, aj, ak, aH, hvq, ap⟩
 subst aH
 subst vq
 try dsimp only at hM
 replace H := H.bk ap
 clear ap
 refine t_bs (α := Mrk) T24 [.agg #[I r0, I r1, I r2], .agg #[I ai, I aj, I ak]] [(⟨(r0 : Int), (r1 : Int), (r2 : Int)⟩ : Mrk), (⟨(ai : Int), (aj : Int), (ak : Int)⟩ : Mrk)] H rfl (.cons rfl (Flat.rep_enc _ (⟨(r0 : Int), (r1 : Int), (r2 : Int)⟩ : Mrk)) <| .cons rfl (Flat.rep_enc _ (⟨(ai : Int), (aj : Int), (ak : Int)⟩ : Mrk)) <| .nil) rfl rfl rfl ?_
 intro aW aX H
 refine zM aq rfl ?_
 obtain ⟨aI, hM⟩ := M.e_grd hM
 simp only [Bool.and_eq_true, decide_eq_true_eq] at aI
 refine t_app (α := Mrk) (k := 0) (l := [(⟨(r0 : Int), (r1 : Int), (r2 : Int)⟩ : Mrk), (⟨(ai : Int), (aj : Int), (ak : Int)⟩ : Mrk)]) (l2 := marks) (l' := ([(⟨(r0 : Int), (r1 : Int), (r2 : Int)⟩ : Mrk), (⟨(ai : Int), (aj : Int), (ak : Int)⟩ : Mrk)]) ++ marks) (vy := aq) T24 rfl H rfl rfl rfl aB (aA.at H) (rfl) (by first | omega | (simp only [List.length_nil] at *; omega)) ?_
 intro ac aY H
 replace H := H.nf
 refine s_val (x_bld (ps := [(0, I 50), (1, I 100)]) (zs := [I 0, I 0]) (L' := [I 50, I 100]) rfl Tryz.underlying54 Al54 rfl (Bd54 Tryz.underlying54) (.cons (cs := [I 50]) rfl rfl rfl rfl rfl <| .cons (cs := [I 100]) rfl rfl rfl rfl rfl <| .nil)) ?_
 refine s_val (x_bld (ps := [(1, I 1), (2, .agg #[I 50, I 100])]) (zs := [I 0, I 0, I 0, I 0, B false]) (L' := [I 0, I 1, I 50, I 100, B false]) rfl Tryz.underlying58 Al58 rfl (Bd58 Tryz.underlying58) (.cons (cs := [I 1]) rfl rfl rfl rfl rfl <| .cons (cs := [I 50, I 100]) rfl rfl rfl rfl rfl <| .nil)) ?_
 refine t_bs (α := Rch) T25 [.agg #[I 0, I 1, I 50, I 100, B false]] [(⟨(0 : Int), (1 : Int), (50 : Int), (100 : Int), false⟩ : Rch)] H rfl (.cons rfl (Flat.rep_enc _ (⟨(0 : Int), (1 : Int), (50 : Int), (100 : Int), false⟩ : Rch)) <| .nil) rfl rfl rfl ?_
 intro ae aZ H
 refine s_val (x_bld (ps := [(0, ab), (1, ac), (2, ae)]) (zs := [.slice none 0 0, .slice none 0 0, .slice none 0 0]) (L' := [ab, ac, ae]) rfl Tryz.underlying27 Al27 rfl (Bd27 Tryz.underlying27) (.cons (cs := [ab]) (Sl.cells (rowSl rfl (H.get (k := 2) rfl) (roLe _ (H.get (k := 3) rfl)) au)) rfl rfl rfl rfl <| .cons (cs := [ac]) (Sl.cells (H.os 1)) rfl rfl rfl rfl <| .cons (cs := [ae]) (Sl.cells (H.os 0)) rfl rfl rfl rfl <| .nil)) ?_
 refine t_sw 6 0 [ab, ac, ae] (.agg #[ab, ac, ae]) H rfl rfl Sz27 rfl rfl rfl (by simp only [List.all_cons, List.all_nil, Bool.true_and, Bool.and_true, Sl.oc (rowSl rfl (H.get (k := 2) rfl) (roLe _ (H.get (k := 3) rfl)) au), Sl.oc (H.os 1), Sl.oc (H.os 0)]; try rfl) ?_
 intro a6 H
 refine s_nil ?_
 replace H := H.pk [0, 1, 2, 3, 6]
 refine W.ret ?_
 have aJ := (H.bl 4)
 have aK := M.e_pure hM
 exact ⟨_, (resE_of1 (v := .agg #[ab, ac, ae]) rfl (.cell (v := .agg #[ab, ac, ae]) rfl (run_loadVar_ag (ds := [ab, ac, ae]) Ag27 Sz27 aJ rfl rfl) <| .nil)), ⟨([(⟨(0 : Int), ([(⟨(0 : Int), (0 : Int)⟩ : FRow), (⟨(200 : Int), (2000 : Int)⟩ : FRow)])⟩ : Sect), (⟨(100 : Int), ([(⟨(0 : Int), (0 : Int)⟩ : FRow), (⟨(200 : Int), (2000 : Int)⟩ : FRow)])⟩ : Sect)]), (([(⟨(r0 : Int), (r1 : Int), (r2 : Int)⟩ : Mrk), (⟨(ai : Int), (aj : Int), (ak : Int)⟩ : Mrk)]) ++ marks), ([(⟨(0 : Int), (1 : Int), (50 : Int), (100 : Int), false⟩ : Rch)]), ab, [am, ao], ax, ac, ae, aK, rfl, (H.pk [2, 3, 1, 0]), au⟩⟩

def zbN : M Bool :=
  M.bind (zaQ ([] : List Mrk)) fun (r0, r1, r2) =>
  M.bind (zbX r0 r1 r2 ([(0 : Int), (1 : Int)]) 0) fun (ai, aj, ak) =>
  M.bind (zaQ ([] : List Mrk)) fun (aB, aC, aD) =>
  M.bind (zci aB aC aD 0 (⟨(160 : Int), (110 : Int), (50 : Int), (50 : Int)⟩ : Cas)) fun (am, ao) =>
  M.bind (zaQ ([] : List Mrk)) fun (aE, aF, ag) =>
  M.grd (decide (0 < (ag.length : Int))) <|
  M.bind (zbX aE aF (ag.set 0 ({ (ag.getD 0 default) with narrow := true })) ([(0 : Int), (1 : Int)]) 0) fun (aJ, ap, aq) =>
  M.bind (zbj 50 170 180) fun (aG, aH, aI) =>
  M.bind (zaQ ([(⟨(aG : Int), (aH : Int), (aI : Int)⟩ : Mrk)])) fun (aa, ab, ac) =>
  M.bind (zck aa ab ac 0 2) fun (au, av) =>
  M.bind (zaH aa ab ac) fun (aw, ax) =>
  M.bind (zas aa ab ac 2 ([[(0 : Int), (2 : Int)], [(1 : Int)]])) fun (ay, az) =>
  M.bind (zan aa ab ac ([(1 : Int), (2 : Int)])) fun (ae, aA) =>
  M.grd ((!((((((((((((((ak == 0) && (ao == 0)) && (aq == 0)) && (av == 0)) && (ax == 0)) && (az == 0)) && (aA == 0)) && (decide ((⟨(ai : Int), (aj : Int)⟩ : Span) = (⟨(812 : Int), (1959 : Int)⟩ : Span)))) && (am == 1876)) && (ap == 1557)) && au) && ((aw.length : Int) == 2)) && ay) && ((ae.length : Int) == 2)) || (decide (0 < (ae.length : Int))))) <|
  M.pure (((((((((((((((ak == 0) && (ao == 0)) && (aq == 0)) && (av == 0)) && (ax == 0)) && (az == 0)) && (aA == 0)) && (decide ((⟨(ai : Int), (aj : Int)⟩ : Span) = (⟨(812 : Int), (1959 : Int)⟩ : Span)))) && (am == 1876)) && (ap == 1557)) && au) && ((aw.length : Int) == 2)) && ay) && ((ae.length : Int) == 2)) && (decide ((ae.getD 0 default) = (⟨(170 : Int), (2000 : Int)⟩ : Span))))
theorem zcG {R : List Chunk}    {r : Bool} (hM : (zbN).Ends r) (w : World) (H : St w w [] R) : Ret Tryz.prog 16 #[] w fun v w' => ∃ (y0 : Bool), y0 = r /\ v = B y0 /\ St w w' [] R := by
 refine ret_of_W Tryz.func16 rfl rfl rfl ?_
 refine W.seq ?_
 refine W.region rfl ?_
 refine zA (B false) rfl ?_
 refine s_nil ?_
 refine W.seq ?_
 refine W.region rfl ?_
 refine t_bs (α := Int) T28 [I 0, I 1] [(0 : Int), (1 : Int)] H rfl (.cons rfl (Flat.rep_enc _ (0 : Int)) <| .cons rfl (Flat.rep_enc _ (1 : Int)) <| .nil) rfl rfl rfl ?_
 intro aL cc H
 refine zA aL rfl ?_
 refine s_nil ?_
 refine W.seq ?_
 refine W.region rfl ?_
 obtain ⟨cd, bg, hM⟩ := M.e_bind hM
 refine s_call cf60 [.slice none 0 0] rfl (zbM ([] : List Mrk) Reads.none (Sl.nil (fun _ => none)) bg _ (H.gt 1)) ?_
 rintro vq ce ⟨r0, r1, r2, bh, cf, cg, bi, bj, bm, hvq, au, bn⟩
 subst bm
 subst vq
 try dsimp only at hM
 replace H := H.bk au
 clear au
 refine zM aL rfl ?_
 obtain ⟨cj, bo, hM⟩ := M.e_bind hM
 refine s_call cf20 [.agg #[bh, bi, bj], aL, I 0] rfl (zcE r0 r1 r2 ([(0 : Int), (1 : Int)]) 0 (Reads.sup (rdo 0) (Reads.of (k := 1) rfl roLe)) (rowSl rfl (H.get (k := 0) rfl) (roLe _ (H.get (k := 1) rfl)) bn) (rdo 2) (H.os 2) (rdo 3) (H.os 3) (rdo 4) (H.os 4) bo _ (H.gt 5)) ?_
 rintro vq ck ⟨ak, am, aa, bp, hvq, au⟩
 subst bp
 subst vq
 try dsimp only at hM
 replace H := H.bk au
 clear au
 refine zM (.tuple #[.agg #[I ak, I am], I aa]) rfl ?_
 refine zX [.agg #[I ak, I am], I aa] (.agg #[I ak, I am]) rfl rfl ?_
 refine zX [.agg #[I ak, I am], I aa] (I aa) rfl rfl ?_
 refine t_alloc (cs := [I 0, I 0]) H Al54 rfl ?_
 intro a8 cn H
 refine t_sw 0 0 [I ak, I am] (.agg #[I ak, I am]) H rfl rfl Sz54 rfl rfl rfl rfl ?_
 intro co H
 refine zA (I aa) rfl ?_
 refine s_nil ?_
 replace H := H.pk [0, 5]
 refine W.seq ?_
 refine W.region rfl ?_
 obtain ⟨cp, bq, hM⟩ := M.e_bind hM
 refine s_call cf60 [.slice none 0 0] rfl (zbM ([] : List Mrk) Reads.none (Sl.nil (fun _ => none)) bq _ (H.gt 2)) ?_
 rintro vq cq ⟨br, bt, bu, bv, cr, ct, bw, bx, bz, hvq, au, bA⟩
 subst bz
 subst vq
 try dsimp only at hM
 replace H := H.bk au
 clear au
 refine s_val (x_bld (ps := [(0, I 160), (1, I 110), (2, I 50), (3, I 50)]) (zs := [I 0, I 0, I 0, I 0]) (L' := [I 160, I 110, I 50, I 50]) rfl Tryz.underlying61 Al61 rfl (Bd61 Tryz.underlying61) (.cons (cs := [I 160]) rfl rfl rfl rfl rfl <| .cons (cs := [I 110]) rfl rfl rfl rfl rfl <| .cons (cs := [I 50]) rfl rfl rfl rfl rfl <| .cons (cs := [I 50]) rfl rfl rfl rfl rfl <| .nil)) ?_
 obtain ⟨cu, bB, hM⟩ := M.e_bind hM
 refine s_call cf22 [.agg #[bv, bw, bx], I 0, .agg #[I 160, I 110, I 50, I 50]] rfl (zdc br bt bu 0 (⟨(160 : Int), (110 : Int), (50 : Int), (50 : Int)⟩ : Cas) (Reads.sup (rdo 0) (Reads.of (k := 1) rfl roLe)) (rowSl rfl (H.get (k := 0) rfl) (roLe _ (H.get (k := 1) rfl)) bA) (rdo 2) (H.os 2) (rdo 3) (H.os 3) bB _ (H.gt 6)) ?_
 rintro vq cv ⟨ao, ab, bC, hvq, au⟩
 subst bC
 subst vq
 try dsimp only at hM
 replace H := H.bk au
 clear au
 refine zM (.tuple #[I ao, I ab]) rfl ?_
 refine zX [I ao, I ab] (I ao) rfl rfl ?_
 refine zX [I ao, I ab] (I ab) rfl rfl ?_
 refine zA (I ao) rfl ?_
 refine zA (I ab) rfl ?_
 refine s_nil ?_
 replace H := H.pk [4, 5]
 refine W.seq ?_
 refine W.region rfl ?_
 obtain ⟨cw, bD, hM⟩ := M.e_bind hM
 refine s_call cf60 [.slice none 0 0] rfl (zbM ([] : List Mrk) Reads.none (Sl.nil (fun _ => none)) bD _ (H.gt 2)) ?_
 rintro vq cx ⟨bE, ba, aD, aF, bF, bG, aG, aE, bH, hvq, au, bb⟩
 subst bH
 subst vq
 try dsimp only at hM
 replace H := H.bk au
 clear au
 refine t_alloc (cs := [.slice none 0 0, .slice none 0 0, .slice none 0 0]) H Al27 rfl ?_
 intro aN cy H
 refine t_sw 0 0 [aF, aG, aE] (.agg #[aF, aG, aE]) H rfl rfl Sz27 rfl rfl rfl (by simp only [List.all_cons, List.all_nil, Bool.true_and, Bool.and_true, Sl.oc (rowSl rfl (H.get (k := 1) rfl) (roLe _ (H.get (k := 2) rfl)) bb), Sl.oc (H.os 3), Sl.oc (H.os 4)]; try rfl) ?_
 intro cz H
 refine s_nil ?_
 refine W.seq ?_
 refine W.region rfl ?_
 refine s_val (x_fa (a := Pq aN) (v := Oq aN 2) rfl (fa_blk (o := 0) Fd27_2 Sz25)) ?_
 refine s_val (x_ld (p := Oq aN 2) (v := aE) rfl (ldb_sc Sc25 (H.bl 0) rfl)) ?_
 obtain ⟨bI, hM⟩ := M.e_grd hM
 simp only [Bool.and_eq_true, decide_eq_true_eq] at bI
 refine s_val (x_ix (a := aE) (b := I 0) (v := vat aE 5 (Int.toNat 0)) rfl rfl (Sl.ix (α := Rch) T25.und T25.size (H.os 4) (by omega) (by omega))) ?_
 refine s_val (x_fa (a := vat aE 5 (Int.toNat 0)) (v := fat (vat aE 5 (Int.toNat 0)) 4) rfl (fa_pl Fd58_3 Sz4 (Sl.pl (i := 0) (H.os 4) (by omega) (by omega)))) ?_
 refine t_fst (α := Rch) (k := 4) (i := 0) (off := 4) (l := aD) (l' := aD.set 0 ({ (aD.getD 0 default) with narrow := true })) (val := B true) (L' := [cBlk aN [aF, aG, aE] 27, cOwn (α := Raw 1) 68 aF bF, cRo bG, cOwn (α := Mrk) 70 aG ba, cOwn (α := Rch) 58 aE (aD.set 0 ({ (aD.getD 0 default) with narrow := true })), cBlk a8 [I ak, I am] 54, cOwn (α := Int) 3 aL ([(0 : Int), (1 : Int)])]) H rfl Sz4 (by omega) (by omega) (aD.getD 0 default) ({ (aD.getD 0 default) with narrow := true }) (getD_some _ (by omega) _) rfl rfl [B true] rfl rfl rfl rfl rfl rfl rfl ?_
 intro cA H
 have cB : (aD.set 0 ({ (aD.getD 0 default) with narrow := true })).length = (aD).length := List.length_set
 refine s_nil ?_
 refine W.seq ?_
 refine W.region rfl ?_
 refine s_val (x_ld (p := Pq aN) (v := .agg #[aF, aG, aE]) rfl (ldb_ag (ds := [aF, aG, aE]) Ag27 Sz27 (H.bl 0) rfl rfl)) ?_
 refine zM aL rfl ?_
 obtain ⟨cC, bJ, hM⟩ := M.e_bind hM
 refine s_call cf20 [.agg #[aF, aG, aE], aL, I 0] rfl (zcE bE ba (aD.set 0 ({ (aD.getD 0 default) with narrow := true })) ([(0 : Int), (1 : Int)]) 0 (Reads.sup (rdo 1) (Reads.of (k := 2) rfl roLe)) (rowSl rfl (H.get (k := 1) rfl) (roLe _ (H.get (k := 2) rfl)) bb) (rdo 3) (H.os 3) (rdo 4) (H.os 4) (rdo 6) (H.os 6) bJ _ (H.gt 7)) ?_
 rintro vq cD ⟨aM, ap, ac, bK, hvq, au⟩
 subst bK
 subst vq
 try dsimp only at hM
 replace H := H.bk au
 clear au
 refine zM (.tuple #[.agg #[I aM, I ap], I ac]) rfl ?_
 refine zX [.agg #[I aM, I ap], I ac] (.agg #[I aM, I ap]) rfl rfl ?_
 refine zX [.agg #[I aM, I ap], I ac] (I ac) rfl rfl ?_
 refine t_alloc (cs := [I 0, I 0]) H Al54 rfl ?_
 intro aQ cE H
 refine t_sw 0 0 [I aM, I ap] (.agg #[I aM, I ap]) H rfl rfl Sz54 rfl rfl rfl rfl ?_
 intro cF H
 refine zA (I ac) rfl ?_
 refine s_nil ?_
 replace H := H.pk [0, 6]
 refine W.seq ?_
 refine W.region rfl ?_
 obtain ⟨cG, bL, hM⟩ := M.e_bind hM
 refine s_call cf61 [I 50, I 170, I 180] rfl (zb6 50 170 180 bL _ (H.gt 2)) ?_
 rintro vq cH ⟨aR, aS, aT, bM, hvq, au⟩
 subst bM
 subst vq
 try dsimp only at hM
 replace H := H.bk au
 clear au
 refine t_bs (α := Mrk) T24 [.agg #[I aR, I aS, I aT]] [(⟨(aR : Int), (aS : Int), (aT : Int)⟩ : Mrk)] H rfl (.cons rfl (Flat.rep_enc _ (⟨(aR : Int), (aS : Int), (aT : Int)⟩ : Mrk)) <| .nil) rfl rfl rfl ?_
 intro bN cI H
 obtain ⟨cJ, bO, hM⟩ := M.e_bind hM
 refine s_call cf60 [bN] rfl (zbM ([(⟨(aR : Int), (aS : Int), (aT : Int)⟩ : Mrk)]) (rdo 0) (H.os 0) bO _ (H.gt 3)) ?_
 rintro vq cK ⟨aU, aV, aW, az, cL, cM, aA, aB, bP, hvq, au, aO⟩
 subst bP
 subst vq
 try dsimp only at hM
 replace H := H.bk au
 clear au
 refine t_alloc (cs := [.slice none 0 0, .slice none 0 0, .slice none 0 0]) H Al27 rfl ?_
 intro aX cN H
 refine t_sw 0 0 [az, aA, aB] (.agg #[az, aA, aB]) H rfl rfl Sz27 rfl rfl rfl (by simp only [List.all_cons, List.all_nil, Bool.true_and, Bool.and_true, Sl.oc (rowSl rfl (H.get (k := 1) rfl) (roLe _ (H.get (k := 2) rfl)) aO), Sl.oc (H.os 3), Sl.oc (H.os 4)]; try rfl) ?_
 intro cO H
 refine s_nil ?_
 refine W.seq ?_
 refine W.region rfl ?_
 refine s_val (x_ld (p := Pq aX) (v := .agg #[az, aA, aB]) rfl (ldb_ag (ds := [az, aA, aB]) Ag27 Sz27 (H.bl 0) rfl rfl)) ?_
 obtain ⟨cP, bQ, hM⟩ := M.e_bind hM
 refine s_call cf30 [.agg #[az, aA, aB], I 0, I 2] rfl (zcU aU aV aW 0 2 (Reads.sup (rdo 1) (Reads.of (k := 2) rfl roLe)) (rowSl rfl (H.get (k := 1) rfl) (roLe _ (H.get (k := 2) rfl)) aO) (rdo 3) (H.os 3) (rdo 4) (H.os 4) bQ _ (H.gt 8)) ?_
 rintro vq cQ ⟨aq, ae, bR, hvq, au⟩
 subst bR
 subst vq
 try dsimp only at hM
 replace H := H.bk au
 clear au
 refine zM (.tuple #[B aq, I ae]) rfl ?_
 refine zX [B aq, I ae] (B aq) rfl rfl ?_
 refine zX [B aq, I ae] (I ae) rfl rfl ?_
 refine zA (B aq) rfl ?_
 refine zA (I ae) rfl ?_
 refine s_nil ?_
 refine W.seq ?_
 refine W.region rfl ?_
 refine s_val (x_ld (p := Pq aX) (v := .agg #[az, aA, aB]) rfl (ldb_ag (ds := [az, aA, aB]) Ag27 Sz27 (H.bl 0) rfl rfl)) ?_
 obtain ⟨cR, bS, hM⟩ := M.e_bind hM
 refine s_call cf10 [.agg #[az, aA, aB]] rfl (zb2 aU aV aW (Reads.sup (rdo 1) (Reads.of (k := 2) rfl roLe)) (rowSl rfl (H.get (k := 1) rfl) (roLe _ (H.get (k := 2) rfl)) aO) (rdo 3) (H.os 3) (rdo 4) (H.os 4) bS _ (H.gt 8)) ?_
 rintro vq cS ⟨av, ag, aH, bT, hvq, au⟩
 subst bT
 subst vq
 try dsimp only at hM
 replace H := H.bk au
 clear au
 refine zM (.tuple #[aH, I ag]) rfl ?_
 refine zX [aH, I ag] aH rfl rfl ?_
 refine zX [aH, I ag] (I ag) rfl rfl ?_
 refine zA aH rfl ?_
 refine zA (I ag) rfl ?_
 refine s_nil ?_
 refine W.seq ?_
 refine W.region rfl ?_
 refine s_val (x_ld (p := Pq aX) (v := .agg #[az, aA, aB]) rfl (ldb_ag (ds := [az, aA, aB]) Ag27 Sz27 (H.bl 1) rfl rfl)) ?_
 refine t_bs (α := Int) T28 [I 0, I 2] [(0 : Int), (2 : Int)] H rfl (.cons rfl (Flat.rep_enc _ (0 : Int)) <| .cons rfl (Flat.rep_enc _ (2 : Int)) <| .nil) rfl rfl rfl ?_
 intro a6 cT H
 refine t_bs (α := Int) T28 [I 1] [(1 : Int)] H rfl (.cons rfl (Flat.rep_enc _ (1 : Int)) <| .nil) rfl rfl rfl ?_
 intro a7 cU H
 obtain ⟨cV, H⟩ := H.emptyE
 obtain ⟨cW, H, bU⟩ := H.freezeE (k := 2) rfl
 replace H := H.nf
 have aI := bU
 obtain ⟨cX, H, cY, bV⟩ := H.joinE (i := 0) (j := 2) rfl rfl
 replace aI := aI.mono bV
 obtain ⟨cZ, H, bW⟩ := H.freezeE (k := 2) rfl
 replace H := H.nf
 have aP := bW
 obtain ⟨bX, H, bY, bZ⟩ := H.joinE (i := 0) (j := 2) rfl rfl
 replace aI := aI.mono bY
 replace aP := aP.mono bZ
 obtain ⟨aY, bc⟩ : ∃ r : Raw 0, r.cs = [a6] := ⟨Raw.of [a6] rfl (by simp only [List.all_cons, List.all_nil, Bool.true_and, Bool.and_true, Sl.oc aI]; try rfl), rfl⟩
 obtain ⟨aZ, bf⟩ : ∃ r : Raw 0, r.cs = [a7] := ⟨Raw.of [a7] rfl (by simp only [List.all_cons, List.all_nil, Bool.true_and, Bool.and_true, Sl.oc aP]; try rfl), rfl⟩
 have b3 : RepR (α := List Int) bX.cells [aY, aZ] [[(0 : Int), (2 : Int)], [(1 : Int)]] := .cons (by rw [bc]; exact ⟨_, rfl, aI⟩) <| .cons (by rw [bf]; exact ⟨_, rfl, aP⟩) <| .nil
 refine t_bs (α := Raw 0) T38 [a6, a7] [aY, aZ] H rfl (.cons (by rw [show (Flat.enc aY : List Value) = aY.cs from rfl, bc]; exact Sl.cells aI) (Flat.rep_enc _ _) <| .cons (by rw [show (Flat.enc aZ : List Value) = aZ.cs from rfl, bf]; exact Sl.cells aP) (Flat.rep_enc _ _) <| .nil) rfl rfl rfl ?_
 intro b4 c3 H
 replace H := H.nf
 obtain ⟨c4, b5, hM⟩ := M.e_bind hM
 refine s_call cf12 [.agg #[az, aA, aB], I 2, b4] rfl (zbq aU aV aW 2 ([[(0 : Int), (2 : Int)], [(1 : Int)]]) (Reads.sup (rdo 8) (Reads.of (k := 9) rfl roLe)) (rowSl rfl (H.get (k := 8) rfl) (roLe _ (H.get (k := 9) rfl)) aO) (rdo 10) (H.os 10) (rdo 11) (H.os 11) (Reads.sup (rdo 0) (Reads.of (k := 1) rfl roLe)) (rowSl rfl (H.get (k := 0) rfl) (roLe _ (H.get (k := 1) rfl)) b3) b5 _ (H.gt 15)) ?_
 rintro vq c5 ⟨aw, ai, b6, hvq, au⟩
 subst b6
 subst vq
 try dsimp only at hM
 replace H := H.bk au
 clear au
 refine zM (.tuple #[B aw, I ai]) rfl ?_
 refine zX [B aw, I ai] (B aw) rfl rfl ?_
 refine zX [B aw, I ai] (I ai) rfl rfl ?_
 refine zA (B aw) rfl ?_
 refine zA (I ai) rfl ?_
 refine s_nil ?_
 replace H := H.pk [6, 7, 8, 9, 10, 11, 13, 14]
 refine W.seq ?_
 refine W.region rfl ?_
 refine s_val (x_ld (p := Pq aX) (v := .agg #[az, aA, aB]) rfl (ldb_ag (ds := [az, aA, aB]) Ag27 Sz27 (H.bl 1) rfl rfl)) ?_
 refine t_bs (α := Int) T28 [I 1, I 2] [(1 : Int), (2 : Int)] H rfl (.cons rfl (Flat.rep_enc _ (1 : Int)) <| .cons rfl (Flat.rep_enc _ (2 : Int)) <| .nil) rfl rfl rfl ?_
 intro b7 c6 H
 obtain ⟨c7, b8, hM⟩ := M.e_bind hM
 refine s_call cf13 [.agg #[az, aA, aB], b7] rfl (zbT aU aV aW ([(1 : Int), (2 : Int)]) (Reads.sup (rdo 3) (Reads.of (k := 4) rfl roLe)) (rowSl rfl (H.get (k := 3) rfl) (roLe _ (H.get (k := 4) rfl)) aO) (rdo 5) (H.os 5) (rdo 6) (H.os 6) (rdo 0) (H.os 0) b8 _ (H.gt 9)) ?_
 rintro vq c8 ⟨ax, aj, aC, b9, hvq, au⟩
 subst b9
 subst vq
 try dsimp only at hM
 replace H := H.bk au
 clear au
 refine zM (.tuple #[aC, I aj]) rfl ?_
 refine zX [aC, I aj] aC rfl rfl ?_
 refine zX [aC, I aj] (I aj) rfl rfl ?_
 refine zA aC rfl ?_
 refine zA (I aj) rfl ?_
 refine s_nil ?_
 replace H := H.pk [0, 2, 8, 9]
 refine W.seq ?_
 refine W.region rfl ?_
 refine zM (I aa) rfl ?_
 refine zC aa 0 (aa == 0) rfl rfl rfl ?_
 refine zM (B (aa == 0)) rfl ?_
 refine g_val (aa == 0) (gy_t rfl) (fun hg => x_mv (v := I ab) rfl) ?_
 refine g_val (aa == 0) (gy_t rfl) (fun hg => x_cmp (kd := .i64) (a := ab) (b := 0) (r := ab == 0) (gd_of (c := aa == 0) hg (I ab)) rfl rfl) ?_
 refine s_val (x_pand (b := aa == 0) (r := ab == 0) rfl (fun hb => gd_of (c := aa == 0) (by first | exact hb | (rw [hb]; rfl) | simp_all) (B (ab == 0))) rfl) ?_
 refine zM (B ((aa == 0) && (ab == 0))) rfl ?_
 refine g_val ((aa == 0) && (ab == 0)) (gy_t rfl) (fun hg => x_mv (v := I ac) rfl) ?_
 refine g_val ((aa == 0) && (ab == 0)) (gy_t rfl) (fun hg => x_cmp (kd := .i64) (a := ac) (b := 0) (r := ac == 0) (gd_of (c := ((aa == 0) && (ab == 0))) hg (I ac)) rfl rfl) ?_
 refine s_val (x_pand (b := ((aa == 0) && (ab == 0))) (r := ac == 0) rfl (fun hb => gd_of (c := ((aa == 0) && (ab == 0))) (by first | exact hb | (rw [hb]; rfl) | simp_all) (B (ac == 0))) rfl) ?_
 refine zM (B (((aa == 0) && (ab == 0)) && (ac == 0))) rfl ?_
 refine g_val (((aa == 0) && (ab == 0)) && (ac == 0)) (gy_t rfl) (fun hg => x_mv (v := I ae) rfl) ?_
 refine g_val (((aa == 0) && (ab == 0)) && (ac == 0)) (gy_t rfl) (fun hg => x_cmp (kd := .i64) (a := ae) (b := 0) (r := ae == 0) (gd_of (c := (((aa == 0) && (ab == 0)) && (ac == 0))) hg (I ae)) rfl rfl) ?_
 refine s_val (x_pand (b := (((aa == 0) && (ab == 0)) && (ac == 0))) (r := ae == 0) rfl (fun hb => gd_of (c := (((aa == 0) && (ab == 0)) && (ac == 0))) (by first | exact hb | (rw [hb]; rfl) | simp_all) (B (ae == 0))) rfl) ?_
 refine zM (B ((((aa == 0) && (ab == 0)) && (ac == 0)) && (ae == 0))) rfl ?_
 refine g_val ((((aa == 0) && (ab == 0)) && (ac == 0)) && (ae == 0)) (gy_t rfl) (fun hg => x_mv (v := I ag) rfl) ?_
 refine g_val ((((aa == 0) && (ab == 0)) && (ac == 0)) && (ae == 0)) (gy_t rfl) (fun hg => x_cmp (kd := .i64) (a := ag) (b := 0) (r := ag == 0) (gd_of (c := ((((aa == 0) && (ab == 0)) && (ac == 0)) && (ae == 0))) hg (I ag)) rfl rfl) ?_
 refine s_val (x_pand (b := ((((aa == 0) && (ab == 0)) && (ac == 0)) && (ae == 0))) (r := ag == 0) rfl (fun hb => gd_of (c := ((((aa == 0) && (ab == 0)) && (ac == 0)) && (ae == 0))) (by first | exact hb | (rw [hb]; rfl) | simp_all) (B (ag == 0))) rfl) ?_
 refine zM (B (((((aa == 0) && (ab == 0)) && (ac == 0)) && (ae == 0)) && (ag == 0))) rfl ?_
 refine g_val (((((aa == 0) && (ab == 0)) && (ac == 0)) && (ae == 0)) && (ag == 0)) (gy_t rfl) (fun hg => x_mv (v := I ai) rfl) ?_
 refine g_val (((((aa == 0) && (ab == 0)) && (ac == 0)) && (ae == 0)) && (ag == 0)) (gy_t rfl) (fun hg => x_cmp (kd := .i64) (a := ai) (b := 0) (r := ai == 0) (gd_of (c := (((((aa == 0) && (ab == 0)) && (ac == 0)) && (ae == 0)) && (ag == 0))) hg (I ai)) rfl rfl) ?_
 refine s_val (x_pand (b := (((((aa == 0) && (ab == 0)) && (ac == 0)) && (ae == 0)) && (ag == 0))) (r := ai == 0) rfl (fun hb => gd_of (c := (((((aa == 0) && (ab == 0)) && (ac == 0)) && (ae == 0)) && (ag == 0))) (by first | exact hb | (rw [hb]; rfl) | simp_all) (B (ai == 0))) rfl) ?_
 refine zM (B ((((((aa == 0) && (ab == 0)) && (ac == 0)) && (ae == 0)) && (ag == 0)) && (ai == 0))) rfl ?_
 refine g_val ((((((aa == 0) && (ab == 0)) && (ac == 0)) && (ae == 0)) && (ag == 0)) && (ai == 0)) (gy_t rfl) (fun hg => x_mv (v := I aj) rfl) ?_
 refine g_val ((((((aa == 0) && (ab == 0)) && (ac == 0)) && (ae == 0)) && (ag == 0)) && (ai == 0)) (gy_t rfl) (fun hg => x_cmp (kd := .i64) (a := aj) (b := 0) (r := aj == 0) (gd_of (c := ((((((aa == 0) && (ab == 0)) && (ac == 0)) && (ae == 0)) && (ag == 0)) && (ai == 0))) hg (I aj)) rfl rfl) ?_
 refine s_val (x_pand (b := ((((((aa == 0) && (ab == 0)) && (ac == 0)) && (ae == 0)) && (ag == 0)) && (ai == 0))) (r := aj == 0) rfl (fun hb => gd_of (c := ((((((aa == 0) && (ab == 0)) && (ac == 0)) && (ae == 0)) && (ag == 0)) && (ai == 0))) (by first | exact hb | (rw [hb]; rfl) | simp_all) (B (aj == 0))) rfl) ?_
 refine zM (B (((((((aa == 0) && (ab == 0)) && (ac == 0)) && (ae == 0)) && (ag == 0)) && (ai == 0)) && (aj == 0))) rfl ?_
 refine g_val (((((((aa == 0) && (ab == 0)) && (ac == 0)) && (ae == 0)) && (ag == 0)) && (ai == 0)) && (aj == 0)) (gy_t rfl) (fun hg => x_ld (p := Pq a8) (v := .agg #[I ak, I am]) rfl (ldb_ag (ds := [I ak, I am]) Ag54 Sz54 (H.bl 3) rfl rfl)) ?_
 refine g_val (((((((aa == 0) && (ab == 0)) && (ac == 0)) && (ae == 0)) && (ag == 0)) && (ai == 0)) && (aj == 0)) (gy_t rfl) (fun hg => x_bld (ps := [(0, I 812), (1, I 1959)]) (zs := [I 0, I 0]) (L' := [I 812, I 1959]) rfl Tryz.underlying54 Al54 rfl (Bd54 Tryz.underlying54) (.cons (cs := [I 812]) rfl rfl rfl rfl rfl <| .cons (cs := [I 1959]) rfl rfl rfl rfl rfl <| .nil)) ?_
 refine g_val (((((((aa == 0) && (ab == 0)) && (ac == 0)) && (ae == 0)) && (ag == 0)) && (ai == 0)) && (aj == 0)) (gy_t rfl) (fun hg => x_eqS (eqT54 (⟨(ak : Int), (am : Int)⟩ : Span) (⟨(812 : Int), (1959 : Int)⟩ : Span) _) gdT54 (gd_of (c := (((((((aa == 0) && (ab == 0)) && (ac == 0)) && (ae == 0)) && (ag == 0)) && (ai == 0)) && (aj == 0))) hg (.agg #[I ak, I am])) (gd_of (c := (((((((aa == 0) && (ab == 0)) && (ac == 0)) && (ae == 0)) && (ag == 0)) && (ai == 0)) && (aj == 0))) hg (.agg #[I 812, I 1959]))) ?_
 refine s_val (x_pand (b := (((((((aa == 0) && (ab == 0)) && (ac == 0)) && (ae == 0)) && (ag == 0)) && (ai == 0)) && (aj == 0))) (r := decide ((⟨(ak : Int), (am : Int)⟩ : Span) = (⟨(812 : Int), (1959 : Int)⟩ : Span))) rfl (fun hb => gd_of (c := (((((((aa == 0) && (ab == 0)) && (ac == 0)) && (ae == 0)) && (ag == 0)) && (ai == 0)) && (aj == 0))) (by first | exact hb | (rw [hb]; rfl) | simp_all) (B (decide ((⟨(ak : Int), (am : Int)⟩ : Span) = (⟨(812 : Int), (1959 : Int)⟩ : Span))))) rfl) ?_
 refine zM (B ((((((((aa == 0) && (ab == 0)) && (ac == 0)) && (ae == 0)) && (ag == 0)) && (ai == 0)) && (aj == 0)) && (decide ((⟨(ak : Int), (am : Int)⟩ : Span) = (⟨(812 : Int), (1959 : Int)⟩ : Span))))) rfl ?_
 refine g_val ((((((((aa == 0) && (ab == 0)) && (ac == 0)) && (ae == 0)) && (ag == 0)) && (ai == 0)) && (aj == 0)) && (decide ((⟨(ak : Int), (am : Int)⟩ : Span) = (⟨(812 : Int), (1959 : Int)⟩ : Span)))) (gy_t rfl) (fun hg => x_mv (v := I ao) rfl) ?_
 refine g_val ((((((((aa == 0) && (ab == 0)) && (ac == 0)) && (ae == 0)) && (ag == 0)) && (ai == 0)) && (aj == 0)) && (decide ((⟨(ak : Int), (am : Int)⟩ : Span) = (⟨(812 : Int), (1959 : Int)⟩ : Span)))) (gy_t rfl) (fun hg => x_cmp (kd := .i64) (a := ao) (b := 1876) (r := ao == 1876) (gd_of (c := ((((((((aa == 0) && (ab == 0)) && (ac == 0)) && (ae == 0)) && (ag == 0)) && (ai == 0)) && (aj == 0)) && (decide ((⟨(ak : Int), (am : Int)⟩ : Span) = (⟨(812 : Int), (1959 : Int)⟩ : Span))))) hg (I ao)) rfl rfl) ?_
 refine s_val (x_pand (b := ((((((((aa == 0) && (ab == 0)) && (ac == 0)) && (ae == 0)) && (ag == 0)) && (ai == 0)) && (aj == 0)) && (decide ((⟨(ak : Int), (am : Int)⟩ : Span) = (⟨(812 : Int), (1959 : Int)⟩ : Span))))) (r := ao == 1876) rfl (fun hb => gd_of (c := ((((((((aa == 0) && (ab == 0)) && (ac == 0)) && (ae == 0)) && (ag == 0)) && (ai == 0)) && (aj == 0)) && (decide ((⟨(ak : Int), (am : Int)⟩ : Span) = (⟨(812 : Int), (1959 : Int)⟩ : Span))))) (by first | exact hb | (rw [hb]; rfl) | simp_all) (B (ao == 1876))) rfl) ?_
 refine zM (B (((((((((aa == 0) && (ab == 0)) && (ac == 0)) && (ae == 0)) && (ag == 0)) && (ai == 0)) && (aj == 0)) && (decide ((⟨(ak : Int), (am : Int)⟩ : Span) = (⟨(812 : Int), (1959 : Int)⟩ : Span)))) && (ao == 1876))) rfl ?_
 refine g_val (((((((((aa == 0) && (ab == 0)) && (ac == 0)) && (ae == 0)) && (ag == 0)) && (ai == 0)) && (aj == 0)) && (decide ((⟨(ak : Int), (am : Int)⟩ : Span) = (⟨(812 : Int), (1959 : Int)⟩ : Span)))) && (ao == 1876)) (gy_t rfl) (fun hg => x_fa (a := Pq aQ) (v := Oq aQ 1) rfl (fa_blk (o := 0) Fd54_1 Sz3)) ?_
 refine g_val (((((((((aa == 0) && (ab == 0)) && (ac == 0)) && (ae == 0)) && (ag == 0)) && (ai == 0)) && (aj == 0)) && (decide ((⟨(ak : Int), (am : Int)⟩ : Span) = (⟨(812 : Int), (1959 : Int)⟩ : Span)))) && (ao == 1876)) (gy_t rfl) (fun hg => x_ld (p := Oq aQ 1) (v := I ap) (gd_of (c := (((((((((aa == 0) && (ab == 0)) && (ac == 0)) && (ae == 0)) && (ag == 0)) && (ai == 0)) && (aj == 0)) && (decide ((⟨(ak : Int), (am : Int)⟩ : Span) = (⟨(812 : Int), (1959 : Int)⟩ : Span)))) && (ao == 1876))) hg (Oq aQ 1)) (ldb_sc Sc3 (H.bl 2) rfl)) ?_
 refine g_val (((((((((aa == 0) && (ab == 0)) && (ac == 0)) && (ae == 0)) && (ag == 0)) && (ai == 0)) && (aj == 0)) && (decide ((⟨(ak : Int), (am : Int)⟩ : Span) = (⟨(812 : Int), (1959 : Int)⟩ : Span)))) && (ao == 1876)) (gy_t rfl) (fun hg => x_cmp (kd := .i64) (a := ap) (b := 1557) (r := ap == 1557) (gd_of (c := (((((((((aa == 0) && (ab == 0)) && (ac == 0)) && (ae == 0)) && (ag == 0)) && (ai == 0)) && (aj == 0)) && (decide ((⟨(ak : Int), (am : Int)⟩ : Span) = (⟨(812 : Int), (1959 : Int)⟩ : Span)))) && (ao == 1876))) hg (I ap)) rfl rfl) ?_
 refine s_val (x_pand (b := (((((((((aa == 0) && (ab == 0)) && (ac == 0)) && (ae == 0)) && (ag == 0)) && (ai == 0)) && (aj == 0)) && (decide ((⟨(ak : Int), (am : Int)⟩ : Span) = (⟨(812 : Int), (1959 : Int)⟩ : Span)))) && (ao == 1876))) (r := ap == 1557) rfl (fun hb => gd_of (c := (((((((((aa == 0) && (ab == 0)) && (ac == 0)) && (ae == 0)) && (ag == 0)) && (ai == 0)) && (aj == 0)) && (decide ((⟨(ak : Int), (am : Int)⟩ : Span) = (⟨(812 : Int), (1959 : Int)⟩ : Span)))) && (ao == 1876))) (by first | exact hb | (rw [hb]; rfl) | simp_all) (B (ap == 1557))) rfl) ?_
 refine zM (B ((((((((((aa == 0) && (ab == 0)) && (ac == 0)) && (ae == 0)) && (ag == 0)) && (ai == 0)) && (aj == 0)) && (decide ((⟨(ak : Int), (am : Int)⟩ : Span) = (⟨(812 : Int), (1959 : Int)⟩ : Span)))) && (ao == 1876)) && (ap == 1557))) rfl ?_
 refine g_val ((((((((((aa == 0) && (ab == 0)) && (ac == 0)) && (ae == 0)) && (ag == 0)) && (ai == 0)) && (aj == 0)) && (decide ((⟨(ak : Int), (am : Int)⟩ : Span) = (⟨(812 : Int), (1959 : Int)⟩ : Span)))) && (ao == 1876)) && (ap == 1557)) (gy_t rfl) (fun hg => x_mv (v := B aq) rfl) ?_
 refine s_val (x_pand (b := ((((((((((aa == 0) && (ab == 0)) && (ac == 0)) && (ae == 0)) && (ag == 0)) && (ai == 0)) && (aj == 0)) && (decide ((⟨(ak : Int), (am : Int)⟩ : Span) = (⟨(812 : Int), (1959 : Int)⟩ : Span)))) && (ao == 1876)) && (ap == 1557))) (r := aq) rfl (fun hb => gd_of (c := ((((((((((aa == 0) && (ab == 0)) && (ac == 0)) && (ae == 0)) && (ag == 0)) && (ai == 0)) && (aj == 0)) && (decide ((⟨(ak : Int), (am : Int)⟩ : Span) = (⟨(812 : Int), (1959 : Int)⟩ : Span)))) && (ao == 1876)) && (ap == 1557))) (by first | exact hb | (rw [hb]; rfl) | simp_all) (B aq)) rfl) ?_
 refine zM (B (((((((((((aa == 0) && (ab == 0)) && (ac == 0)) && (ae == 0)) && (ag == 0)) && (ai == 0)) && (aj == 0)) && (decide ((⟨(ak : Int), (am : Int)⟩ : Span) = (⟨(812 : Int), (1959 : Int)⟩ : Span)))) && (ao == 1876)) && (ap == 1557)) && aq)) rfl ?_
 refine g_val (((((((((((aa == 0) && (ab == 0)) && (ac == 0)) && (ae == 0)) && (ag == 0)) && (ai == 0)) && (aj == 0)) && (decide ((⟨(ak : Int), (am : Int)⟩ : Span) = (⟨(812 : Int), (1959 : Int)⟩ : Span)))) && (ao == 1876)) && (ap == 1557)) && aq) (gy_t rfl) (fun hg => x_mv (v := aH) rfl) ?_
 refine g_val (((((((((((aa == 0) && (ab == 0)) && (ac == 0)) && (ae == 0)) && (ag == 0)) && (ai == 0)) && (aj == 0)) && (decide ((⟨(ak : Int), (am : Int)⟩ : Span) = (⟨(812 : Int), (1959 : Int)⟩ : Span)))) && (ao == 1876)) && (ap == 1557)) && aq) (gy_t rfl) (fun hg => x_lenS T28.und (gd_of (c := (((((((((((aa == 0) && (ab == 0)) && (ac == 0)) && (ae == 0)) && (ag == 0)) && (ai == 0)) && (aj == 0)) && (decide ((⟨(ak : Int), (am : Int)⟩ : Span) = (⟨(812 : Int), (1959 : Int)⟩ : Span)))) && (ao == 1876)) && (ap == 1557)) && aq)) hg (aH)) (H.os 1)) ?_
 refine g_val (((((((((((aa == 0) && (ab == 0)) && (ac == 0)) && (ae == 0)) && (ag == 0)) && (ai == 0)) && (aj == 0)) && (decide ((⟨(ak : Int), (am : Int)⟩ : Span) = (⟨(812 : Int), (1959 : Int)⟩ : Span)))) && (ao == 1876)) && (ap == 1557)) && aq) (gy_t rfl) (fun hg => x_cmp (kd := .i64) (a := (av.length : Int)) (b := 2) (r := (av.length : Int) == 2) (gd_of (c := (((((((((((aa == 0) && (ab == 0)) && (ac == 0)) && (ae == 0)) && (ag == 0)) && (ai == 0)) && (aj == 0)) && (decide ((⟨(ak : Int), (am : Int)⟩ : Span) = (⟨(812 : Int), (1959 : Int)⟩ : Span)))) && (ao == 1876)) && (ap == 1557)) && aq)) hg (I (av.length : Int))) rfl rfl) ?_
 refine s_val (x_pand (b := (((((((((((aa == 0) && (ab == 0)) && (ac == 0)) && (ae == 0)) && (ag == 0)) && (ai == 0)) && (aj == 0)) && (decide ((⟨(ak : Int), (am : Int)⟩ : Span) = (⟨(812 : Int), (1959 : Int)⟩ : Span)))) && (ao == 1876)) && (ap == 1557)) && aq)) (r := (av.length : Int) == 2) rfl (fun hb => gd_of (c := (((((((((((aa == 0) && (ab == 0)) && (ac == 0)) && (ae == 0)) && (ag == 0)) && (ai == 0)) && (aj == 0)) && (decide ((⟨(ak : Int), (am : Int)⟩ : Span) = (⟨(812 : Int), (1959 : Int)⟩ : Span)))) && (ao == 1876)) && (ap == 1557)) && aq)) (by first | exact hb | (rw [hb]; rfl) | simp_all) (B ((av.length : Int) == 2))) rfl) ?_
 refine zM (B ((((((((((((aa == 0) && (ab == 0)) && (ac == 0)) && (ae == 0)) && (ag == 0)) && (ai == 0)) && (aj == 0)) && (decide ((⟨(ak : Int), (am : Int)⟩ : Span) = (⟨(812 : Int), (1959 : Int)⟩ : Span)))) && (ao == 1876)) && (ap == 1557)) && aq) && ((av.length : Int) == 2))) rfl ?_
 refine g_val ((((((((((((aa == 0) && (ab == 0)) && (ac == 0)) && (ae == 0)) && (ag == 0)) && (ai == 0)) && (aj == 0)) && (decide ((⟨(ak : Int), (am : Int)⟩ : Span) = (⟨(812 : Int), (1959 : Int)⟩ : Span)))) && (ao == 1876)) && (ap == 1557)) && aq) && ((av.length : Int) == 2)) (gy_t rfl) (fun hg => x_mv (v := B aw) rfl) ?_
 refine s_val (x_pand (b := ((((((((((((aa == 0) && (ab == 0)) && (ac == 0)) && (ae == 0)) && (ag == 0)) && (ai == 0)) && (aj == 0)) && (decide ((⟨(ak : Int), (am : Int)⟩ : Span) = (⟨(812 : Int), (1959 : Int)⟩ : Span)))) && (ao == 1876)) && (ap == 1557)) && aq) && ((av.length : Int) == 2))) (r := aw) rfl (fun hb => gd_of (c := ((((((((((((aa == 0) && (ab == 0)) && (ac == 0)) && (ae == 0)) && (ag == 0)) && (ai == 0)) && (aj == 0)) && (decide ((⟨(ak : Int), (am : Int)⟩ : Span) = (⟨(812 : Int), (1959 : Int)⟩ : Span)))) && (ao == 1876)) && (ap == 1557)) && aq) && ((av.length : Int) == 2))) (by first | exact hb | (rw [hb]; rfl) | simp_all) (B aw)) rfl) ?_
 refine zM (B (((((((((((((aa == 0) && (ab == 0)) && (ac == 0)) && (ae == 0)) && (ag == 0)) && (ai == 0)) && (aj == 0)) && (decide ((⟨(ak : Int), (am : Int)⟩ : Span) = (⟨(812 : Int), (1959 : Int)⟩ : Span)))) && (ao == 1876)) && (ap == 1557)) && aq) && ((av.length : Int) == 2)) && aw)) rfl ?_
 refine g_val (((((((((((((aa == 0) && (ab == 0)) && (ac == 0)) && (ae == 0)) && (ag == 0)) && (ai == 0)) && (aj == 0)) && (decide ((⟨(ak : Int), (am : Int)⟩ : Span) = (⟨(812 : Int), (1959 : Int)⟩ : Span)))) && (ao == 1876)) && (ap == 1557)) && aq) && ((av.length : Int) == 2)) && aw) (gy_t rfl) (fun hg => x_mv (v := aC) rfl) ?_
 refine g_val (((((((((((((aa == 0) && (ab == 0)) && (ac == 0)) && (ae == 0)) && (ag == 0)) && (ai == 0)) && (aj == 0)) && (decide ((⟨(ak : Int), (am : Int)⟩ : Span) = (⟨(812 : Int), (1959 : Int)⟩ : Span)))) && (ao == 1876)) && (ap == 1557)) && aq) && ((av.length : Int) == 2)) && aw) (gy_t rfl) (fun hg => x_lenS T43.und (gd_of (c := (((((((((((((aa == 0) && (ab == 0)) && (ac == 0)) && (ae == 0)) && (ag == 0)) && (ai == 0)) && (aj == 0)) && (decide ((⟨(ak : Int), (am : Int)⟩ : Span) = (⟨(812 : Int), (1959 : Int)⟩ : Span)))) && (ao == 1876)) && (ap == 1557)) && aq) && ((av.length : Int) == 2)) && aw)) hg (aC)) (H.os 0)) ?_
 refine g_val (((((((((((((aa == 0) && (ab == 0)) && (ac == 0)) && (ae == 0)) && (ag == 0)) && (ai == 0)) && (aj == 0)) && (decide ((⟨(ak : Int), (am : Int)⟩ : Span) = (⟨(812 : Int), (1959 : Int)⟩ : Span)))) && (ao == 1876)) && (ap == 1557)) && aq) && ((av.length : Int) == 2)) && aw) (gy_t rfl) (fun hg => x_cmp (kd := .i64) (a := (ax.length : Int)) (b := 2) (r := (ax.length : Int) == 2) (gd_of (c := (((((((((((((aa == 0) && (ab == 0)) && (ac == 0)) && (ae == 0)) && (ag == 0)) && (ai == 0)) && (aj == 0)) && (decide ((⟨(ak : Int), (am : Int)⟩ : Span) = (⟨(812 : Int), (1959 : Int)⟩ : Span)))) && (ao == 1876)) && (ap == 1557)) && aq) && ((av.length : Int) == 2)) && aw)) hg (I (ax.length : Int))) rfl rfl) ?_
 refine s_val (x_pand (b := (((((((((((((aa == 0) && (ab == 0)) && (ac == 0)) && (ae == 0)) && (ag == 0)) && (ai == 0)) && (aj == 0)) && (decide ((⟨(ak : Int), (am : Int)⟩ : Span) = (⟨(812 : Int), (1959 : Int)⟩ : Span)))) && (ao == 1876)) && (ap == 1557)) && aq) && ((av.length : Int) == 2)) && aw)) (r := (ax.length : Int) == 2) rfl (fun hb => gd_of (c := (((((((((((((aa == 0) && (ab == 0)) && (ac == 0)) && (ae == 0)) && (ag == 0)) && (ai == 0)) && (aj == 0)) && (decide ((⟨(ak : Int), (am : Int)⟩ : Span) = (⟨(812 : Int), (1959 : Int)⟩ : Span)))) && (ao == 1876)) && (ap == 1557)) && aq) && ((av.length : Int) == 2)) && aw)) (by first | exact hb | (rw [hb]; rfl) | simp_all) (B ((ax.length : Int) == 2))) rfl) ?_
 refine zM (B ((((((((((((((aa == 0) && (ab == 0)) && (ac == 0)) && (ae == 0)) && (ag == 0)) && (ai == 0)) && (aj == 0)) && (decide ((⟨(ak : Int), (am : Int)⟩ : Span) = (⟨(812 : Int), (1959 : Int)⟩ : Span)))) && (ao == 1876)) && (ap == 1557)) && aq) && ((av.length : Int) == 2)) && aw) && ((ax.length : Int) == 2))) rfl ?_
 refine g_val ((((((((((((((aa == 0) && (ab == 0)) && (ac == 0)) && (ae == 0)) && (ag == 0)) && (ai == 0)) && (aj == 0)) && (decide ((⟨(ak : Int), (am : Int)⟩ : Span) = (⟨(812 : Int), (1959 : Int)⟩ : Span)))) && (ao == 1876)) && (ap == 1557)) && aq) && ((av.length : Int) == 2)) && aw) && ((ax.length : Int) == 2)) (gy_t rfl) (fun hg => x_mv (v := aC) rfl) ?_
 obtain ⟨aJ, hM⟩ := M.e_grd hM
 replace aJ := M.imp_of aJ
 simp only [Bool.and_eq_true, decide_eq_true_eq] at aJ
 refine g_val ((((((((((((((aa == 0) && (ab == 0)) && (ac == 0)) && (ae == 0)) && (ag == 0)) && (ai == 0)) && (aj == 0)) && (decide ((⟨(ak : Int), (am : Int)⟩ : Span) = (⟨(812 : Int), (1959 : Int)⟩ : Span)))) && (ao == 1876)) && (ap == 1557)) && aq) && ((av.length : Int) == 2)) && aw) && ((ax.length : Int) == 2)) (gy_t rfl) (fun hg => x_ix (a := aC) (b := I 0) (v := vat aC 2 (Int.toNat 0)) (gd_of (c := ((((((((((((((aa == 0) && (ab == 0)) && (ac == 0)) && (ae == 0)) && (ag == 0)) && (ai == 0)) && (aj == 0)) && (decide ((⟨(ak : Int), (am : Int)⟩ : Span) = (⟨(812 : Int), (1959 : Int)⟩ : Span)))) && (ao == 1876)) && (ap == 1557)) && aq) && ((av.length : Int) == 2)) && aw) && ((ax.length : Int) == 2))) hg (aC)) rfl (Sl.ix (α := Span) T43.und T43.size (H.os 0) (by have ay := aJ.resolve_left (by rw [hg]; decide); first | exact ay | exact ay.1 | exact ay.2 | omega | (have aK := hg; simp at aK; omega)) (by have ay := aJ.resolve_left (by rw [hg]; decide); first | exact ay | exact ay.1 | exact ay.2 | omega | (have aK := hg; simp at aK; omega)))) ?_
 refine g_val ((((((((((((((aa == 0) && (ab == 0)) && (ac == 0)) && (ae == 0)) && (ag == 0)) && (ai == 0)) && (aj == 0)) && (decide ((⟨(ak : Int), (am : Int)⟩ : Span) = (⟨(812 : Int), (1959 : Int)⟩ : Span)))) && (ao == 1876)) && (ap == 1557)) && aq) && ((av.length : Int) == 2)) && aw) && ((ax.length : Int) == 2)) (gy_t rfl) (fun hg => x_ld (p := vat aC 2 (Int.toNat 0)) (v := .agg #[I ((ax.getD 0 default).lo), I ((ax.getD 0 default).hi)]) (gd_of (c := ((((((((((((((aa == 0) && (ab == 0)) && (ac == 0)) && (ae == 0)) && (ag == 0)) && (ai == 0)) && (aj == 0)) && (decide ((⟨(ak : Int), (am : Int)⟩ : Span) = (⟨(812 : Int), (1959 : Int)⟩ : Span)))) && (ao == 1876)) && (ap == 1557)) && aq) && ((av.length : Int) == 2)) && aw) && ((ax.length : Int) == 2))) hg (vat aC 2 (Int.toNat 0))) (ld_ag Ag54 Sz54 (At.mono (Span_atA (H.os 0) (i := 0) (by have ay := aJ.resolve_left (by rw [hg]; decide); first | exact ay | exact ay.1 | exact ay.2 | omega | (have aK := hg; simp at aK; omega)) (by have ay := aJ.resolve_left (by rw [hg]; decide); first | exact ay | exact ay.1 | exact ay.2 | omega | (have aK := hg; simp at aK; omega))) (H.ol 0)))) ?_
 refine g_val ((((((((((((((aa == 0) && (ab == 0)) && (ac == 0)) && (ae == 0)) && (ag == 0)) && (ai == 0)) && (aj == 0)) && (decide ((⟨(ak : Int), (am : Int)⟩ : Span) = (⟨(812 : Int), (1959 : Int)⟩ : Span)))) && (ao == 1876)) && (ap == 1557)) && aq) && ((av.length : Int) == 2)) && aw) && ((ax.length : Int) == 2)) (gy_t rfl) (fun hg => x_bld (ps := [(0, I 170), (1, I 2000)]) (zs := [I 0, I 0]) (L' := [I 170, I 2000]) rfl Tryz.underlying54 Al54 rfl (Bd54 Tryz.underlying54) (.cons (cs := [I 170]) rfl rfl rfl rfl rfl <| .cons (cs := [I 2000]) rfl rfl rfl rfl rfl <| .nil)) ?_
 refine g_val ((((((((((((((aa == 0) && (ab == 0)) && (ac == 0)) && (ae == 0)) && (ag == 0)) && (ai == 0)) && (aj == 0)) && (decide ((⟨(ak : Int), (am : Int)⟩ : Span) = (⟨(812 : Int), (1959 : Int)⟩ : Span)))) && (ao == 1876)) && (ap == 1557)) && aq) && ((av.length : Int) == 2)) && aw) && ((ax.length : Int) == 2)) (gy_t rfl) (fun hg => x_eqS (eqT54 (ax.getD 0 default) (⟨(170 : Int), (2000 : Int)⟩ : Span) _) gdT54 (gd_of (c := ((((((((((((((aa == 0) && (ab == 0)) && (ac == 0)) && (ae == 0)) && (ag == 0)) && (ai == 0)) && (aj == 0)) && (decide ((⟨(ak : Int), (am : Int)⟩ : Span) = (⟨(812 : Int), (1959 : Int)⟩ : Span)))) && (ao == 1876)) && (ap == 1557)) && aq) && ((av.length : Int) == 2)) && aw) && ((ax.length : Int) == 2))) hg (.agg #[I ((ax.getD 0 default).lo), I ((ax.getD 0 default).hi)])) (gd_of (c := ((((((((((((((aa == 0) && (ab == 0)) && (ac == 0)) && (ae == 0)) && (ag == 0)) && (ai == 0)) && (aj == 0)) && (decide ((⟨(ak : Int), (am : Int)⟩ : Span) = (⟨(812 : Int), (1959 : Int)⟩ : Span)))) && (ao == 1876)) && (ap == 1557)) && aq) && ((av.length : Int) == 2)) && aw) && ((ax.length : Int) == 2))) hg (.agg #[I 170, I 2000]))) ?_
 refine s_val (x_pand (b := ((((((((((((((aa == 0) && (ab == 0)) && (ac == 0)) && (ae == 0)) && (ag == 0)) && (ai == 0)) && (aj == 0)) && (decide ((⟨(ak : Int), (am : Int)⟩ : Span) = (⟨(812 : Int), (1959 : Int)⟩ : Span)))) && (ao == 1876)) && (ap == 1557)) && aq) && ((av.length : Int) == 2)) && aw) && ((ax.length : Int) == 2))) (r := decide ((ax.getD 0 default) = (⟨(170 : Int), (2000 : Int)⟩ : Span))) rfl (fun hb => gd_of (c := ((((((((((((((aa == 0) && (ab == 0)) && (ac == 0)) && (ae == 0)) && (ag == 0)) && (ai == 0)) && (aj == 0)) && (decide ((⟨(ak : Int), (am : Int)⟩ : Span) = (⟨(812 : Int), (1959 : Int)⟩ : Span)))) && (ao == 1876)) && (ap == 1557)) && aq) && ((av.length : Int) == 2)) && aw) && ((ax.length : Int) == 2))) (by first | exact hb | (rw [hb]; rfl) | simp_all) (B (decide ((ax.getD 0 default) = (⟨(170 : Int), (2000 : Int)⟩ : Span))))) rfl) ?_
 refine zA (B (((((((((((((((aa == 0) && (ab == 0)) && (ac == 0)) && (ae == 0)) && (ag == 0)) && (ai == 0)) && (aj == 0)) && (decide ((⟨(ak : Int), (am : Int)⟩ : Span) = (⟨(812 : Int), (1959 : Int)⟩ : Span)))) && (ao == 1876)) && (ap == 1557)) && aq) && ((av.length : Int) == 2)) && aw) && ((ax.length : Int) == 2)) && (decide ((ax.getD 0 default) = (⟨(170 : Int), (2000 : Int)⟩ : Span))))) rfl ?_
 refine s_nil ?_
 replace H := H.pk []
 refine W.ret ?_
 have cb := M.e_pure hM
 exact ⟨_, resE_tmp rfl, ⟨(((((((((((((((aa == 0) && (ab == 0)) && (ac == 0)) && (ae == 0)) && (ag == 0)) && (ai == 0)) && (aj == 0)) && (decide ((⟨(ak : Int), (am : Int)⟩ : Span) = (⟨(812 : Int), (1959 : Int)⟩ : Span)))) && (ao == 1876)) && (ap == 1557)) && aq) && ((av.length : Int) == 2)) && aw) && ((ax.length : Int) == 2)) && (decide ((ax.getD 0 default) = (⟨(170 : Int), (2000 : Int)⟩ : Span)))), cb, rfl, H⟩⟩

end Go.Proofs.YtlemgioaakecpaaGreat
end
namespace Go.Proofs.YtlemgioaakecpaaGreat
open Go Go.Nm
set_option maxRecDepth 100000 in
theorem awake_ends : zbN.Ends true := ⟨400, by kernel_rfl⟩
end Go.Proofs.YtlemgioaakecpaaGreat
section
set_option maxRecDepth 100000
set_option maxHeartbeats 16000000
namespace Go.Proofs.YtlemgioaakecpaaGreat
open Go Go.Nm
def zbw (s_Sections : List Sect) (s_Marks : List Mrk) (s_Reaches : List Rch) : M ((List (List Int)) × Int) :=
  M.bind (zal s_Sections s_Marks s_Reaches) fun x_ => match x_ with
  | (.inl r1) => (
  bif r1 != 0 then (
  M.pure (([]), r1))
  else (
  M.fail))
  | (.inr aa) => (
  bif aa != 0 then (
  M.fail)
  else (
  M.bind (zar s_Sections s_Marks s_Reaches) fun r2 =>
  M.pure (r2, 0)))
theorem zdi {R : List Chunk} {ao : Cells} {ac : Value} {ap : Cells} {ae : Value} {aq : Cells} {ag : Value} (s_Sections : List Sect) (s_Marks : List Mrk) (s_Reaches : List Rch) (au : Reads R ao) (av : Sl ao ac s_Sections) (aw : Reads R ap) (ax : Sl ap ae s_Marks) (ay : Reads R aq) (az : Sl aq ag s_Reaches) {r : ((List (List Int)) × Int)} (hM : (zbw s_Sections s_Marks s_Reaches).Ends r) (w : World) (H : St w w [] R) : Ret Tryz.prog 11 #[.agg #[ac, ae, ag]] w fun v w' => ∃ (y0 : List (List Int)) (y1 : Int) (u0 : Value) (rr1 : List (Raw 0)) (aA : Base), (y0, y1) = r /\ v = .tuple #[u0, I y1] /\ St w w' [cOwn (α := Raw 0) 28 u0 rr1, cRo aA] R /\ RepR (α := List Int) aA.cells rr1 y0 := by
 refine ret_of_W Tryz.func11 rfl rfl rfl ?_
 refine W.seq ?_
 refine W.region rfl ?_
 refine t_box (v := .agg #[ac, ae, ag]) (cs := [ac, ae, ag]) H rfl rfl ?_
 intro aD aN H
 refine zA (.slice none 0 0) rfl ?_
 refine zA (I 0) rfl ?_
 refine s_nil ?_
 refine W.seq ?_
 refine W.region rfl ?_
 refine s_val (x_ld (p := Pq aD) (v := .agg #[ac, ae, ag]) rfl (ldb_ag (ds := [ac, ae, ag]) Ag27 Sz27 (H.bl 0) rfl rfl)) ?_
 obtain ⟨aO, aE, hM⟩ := M.e_bind hM
 refine s_call cf49 [.agg #[ac, ae, ag]] rfl (zax s_Sections s_Marks s_Reaches (au.app _) av (aw.app _) ax (ay.app _) az aE _ (H.gt 1)) ?_
 rintro vq aP (⟨r1, aF, hvq, ab⟩ | ⟨aa, ai, aQ, aG, hvq, ab⟩)
 ·subst aF
  subst vq
  try dsimp only at hM
  replace H := H.bk ab
  clear ab
  refine zM (.tuple #[.pointer none, I r1]) rfl ?_
  refine zX [.pointer none, I r1] (.pointer none) rfl rfl ?_
  refine zX [.pointer none, I r1] (I r1) rfl rfl ?_
  refine zA (.pointer none) rfl ?_
  refine zA (I r1) rfl ?_
  refine s_nil ?_
  refine W.seq ?_
  refine W.seq ?_
  refine W.region rfl ?_
  refine zM (I r1) rfl ?_
  refine zC r1 0 (r1 != 0) rfl rfl rfl ?_
  refine s_nil ?_
  refine W.cond (r1 != 0) rfl (fun aj => ?_) (fun aj => ?_)
  ·replace hM := M.e_t hM aj
   simp only [qy1, qy2, qy3, qy4, qy5, qy6, ne_eq, qy7] at aj
   refine W.seq ?_
   refine W.region rfl ?_
   refine zM (I r1) rfl ?_
   refine zA (.slice none 0 0) rfl ?_
   refine zA (I r1) rfl ?_
   refine s_nil ?_
   refine W.ret ?_
   have am := M.e_pure hM
   obtain ⟨aB, H⟩ := H.emptyE
   replace H := H.nilOwn (α := Raw 0) 28
   have aH : RepR (α := List Int) (n := 0) aB.cells [] [] := .nil
   exact ⟨_, resE_tmp2 rfl, ⟨([]), r1, (.slice none 0 0), [], aB, am, rfl, (H.pk [0, 1]), aH⟩⟩
  replace hM := M.e_f hM aj
  exact (M.e_fail hM).elim
 subst aG
 subst vq
 try dsimp only at hM
 replace H := H.bk ab
 clear ab
 refine zM (.tuple #[Pq ai, I aa]) rfl ?_
 refine zX [Pq ai, I aa] (Pq ai) rfl rfl ?_
 refine zX [Pq ai, I aa] (I aa) rfl rfl ?_
 refine zA (Pq ai) rfl ?_
 refine zA (I aa) rfl ?_
 refine s_nil ?_
 refine W.seq ?_
 refine W.seq ?_
 refine W.region rfl ?_
 refine zM (I aa) rfl ?_
 refine zC aa 0 (aa != 0) rfl rfl rfl ?_
 refine s_nil ?_
 refine W.cond (aa != 0) rfl (fun ak => ?_) (fun ak => ?_)
 ·replace hM := M.e_t hM ak
  exact (M.e_fail hM).elim
 replace hM := M.e_f hM ak
 simp only [qy1, qy2, qy3, qy4, qy5, qy6, ne_eq, qy7] at ak
 refine W.skip ?_
 refine W.seq ?_
 refine W.region rfl ?_
 refine zM (Pq ai) rfl ?_
 obtain ⟨aR, aI, hM⟩ := M.e_bind hM
 refine s_call cf50 [Pq ai] rfl (zcj s_Sections s_Marks s_Reaches (au.app _) av (aw.app _) ax (ay.app _) az (Has.here (k := 0) rfl) aI _ (H.gt 3)) ?_
 rintro vq aS ⟨r2, aC, aJ, aK, aL, hvq, ab, aM⟩
 subst aL
 subst vq
 try dsimp only at hM
 replace H := H.bk ab
 clear ab
 refine zA aC rfl ?_
 refine zA (I 0) rfl ?_
 refine s_nil ?_
 replace H := H.pk [0, 1]
 refine W.ret ?_
 have am := M.e_pure hM
 exact ⟨_, resE_tmp2 rfl, ⟨r2, 0, aC, aJ, aK, am, rfl, H, aM⟩⟩

def zbU (l : List Int) : M (List Int) :=
  M.grd (decide ((([] : List Int).length + l.length) * 8 <= 140737488355328)) <|
  M.pure l
theorem zc6 {R : List Chunk} {ab : Cells} {aa : Value} (l : List Int) (ae : Reads R ab) (ag : Sl ab aa l) {r : (List Int)} (hM : (zbU l).Ends r) (w : World) (H : St w w [] R) : Ret Tryz.prog 37 #[aa] w fun v w' => ∃ (y0 : List Int) (u0 : Value), y0 = r /\ v = u0 /\ St w w' [cOwn (α := Int) 3 u0 y0] R := by
 refine ret_of_W Tryz.func37 rfl rfl rfl ?_
 refine W.seq ?_
 refine W.region rfl ?_
 refine zA (.slice none 0 0) rfl ?_
 refine s_nil ?_
 refine W.seq ?_
 refine W.region rfl ?_
 refine zA (.slice none 0 0) rfl ?_
 refine s_nil ?_
 refine W.seq ?_
 refine W.region rfl ?_
 refine zM (.slice none 0 0) rfl ?_
 refine zM aa rfl ?_
 replace H := H.nilOwn (α := Int) 3
 obtain ⟨ai, hM⟩ := M.e_grd hM
 simp only [Bool.and_eq_true, decide_eq_true_eq] at ai
 refine t_app (α := Int) (k := 0) (l := []) (l2 := l) (l' := l) (vy := aa) T28 rfl H rfl rfl rfl ag (ae.at H) (List.nil_append _) (by first | omega | (simp only [List.length_nil] at *; omega)) ?_
 intro ac ak H
 replace H := H.nf
 refine zA ac rfl ?_
 refine s_nil ?_
 refine W.ret ?_
 have aj := M.e_pure hM
 exact ⟨_, resE_tmp rfl, ⟨l, ac, aj, rfl, H⟩⟩

def zba (l : List (List Int)) : (Nat × (List (List Int))) -> M ((Nat × (List (List Int))) ⊕ ((List (List Int)) × (List (List Int)))) := fun (i, l2) =>
  bif decide ((i : Int) < (l.length : Int)) then (
  M.grd (decide ((i : Int) < (l.length : Int))) <|
  M.bind (zbU (l.getD i ([]))) fun r2 =>
  M.grd (decide ((l2.length + ([r2]).length) * 24 <= 140737488355328)) <|
  M.pure (.inl (i + 1, l2 ++ [r2])))
  else (
  M.pure (.inr (l2, l2)))
def zbB (l : List (List Int)) : M (List (List Int)) :=
  M.bind (M.iter (zba l) (0, [])) fun (l3, l4) =>
  M.pure l4
theorem zds {R : List Chunk} {ap : Cells} {aa : Value} (l : List (List Int)) (aq : Reads R ap) (ai : Sl ap aa l) {r : (List (List Int))} (hM : (zbB l).Ends r) (w : World) (H : St w w [] R) : Ret Tryz.prog 15 #[aa] w fun v w' => ∃ (y0 : List (List Int)) (u0 : Value) (rr1 : List (Raw 0)) (aA : Base), y0 = r /\ v = u0 /\ St w w' [cDO 28 3 u0 rr1 y0, cRo aA] R /\ rr1.length = y0.length := by
 refine ret_of_W Tryz.func15 rfl rfl rfl ?_
 refine W.seq ?_
 refine W.region rfl ?_
 refine zA (.slice none 0 0) rfl ?_
 refine s_nil ?_
 refine W.seq ?_
 refine W.region rfl ?_
 refine zA (.slice none 0 0) rfl ?_
 refine s_nil ?_
 refine W.seq ?_
 refine W.seq ?_
 refine W.region rfl ?_
 refine zA (I 0) rfl ?_
 refine s_nil ?_
 refine W.block ?_
 obtain ⟨au, H⟩ := H.emptyE
 replace H : St w w [cDO 28 3 (.slice none 0 0) ([]) ([]), cRo au] R := H.nilDo 28 3
 have aB : ([] : List (Raw 0)).length = ([] : List (List Int)).length := rfl
 obtain ⟨aC, am, aD⟩ := M.e_bind hM
 obtain ⟨aQ, am⟩ := M.e_iter am
 refine W.loop (fun m σ W => ∃ (i : Nat) (l2 : List (List Int)) (ab : Value) (ac : List (Raw 0)) (B_l2 : Base) (ρ : Env), σ = upds ρ [(0, aa), (3, ab), (4, I (i : Int))] /\ M.iterN (zba l) m (i, l2) = some aC /\ St w W [cDO 28 3 ab ac l2, cRo B_l2] R /\ ac.length = l2.length) ?_ ?_
 ·exact ⟨_, 0, [], (.slice none 0 0), [], au, _, upds_of _ _ ⟨rfl, rfl, rfl, trivial⟩, am, H, aB⟩
 rintro aR σ aS ⟨i, l2, ab, ac, B_l2, ρ, rfl, av, H, aE⟩
 obtain ⟨aF, aG, aT, hM, aw⟩ := M.e_iterN av
 simp only [zba] at hM
 clear av
 refine W.seq ?_
 refine W.seq ?_
 refine W.region rfl ?_
 refine zM (I (i : Int)) rfl ?_
 refine zM aa rfl ?_
 have aU := (ai).len_le
 refine s_val (x_lenS T38.und rfl ai) ?_
 refine zC (i : Int) (l.length : Int) (decide ((i : Int) < (l.length : Int))) rfl rfl rfl ?_
 refine s_nil ?_
 refine W.cond (decide ((i : Int) < (l.length : Int))) rfl (fun ae => ?_) (fun ae => ?_)
 ·replace hM := M.e_t hM ae
  simp only [qy1, qy2, qy3, qy4, qy5, qy6, ne_eq, qy7] at ae
  refine W.skip ?_
  refine W.seq ?_
  refine W.block ?_
  refine W.region rfl ?_
  refine zM ab rfl ?_
  refine zM aa rfl ?_
  refine zM (I (i : Int)) rfl ?_
  obtain ⟨aH, hM⟩ := M.e_grd hM
  simp only [Bool.and_eq_true, decide_eq_true_eq] at aH
  refine s_val (x_ix (a := aa) (b := I (i : Int)) (v := vat aa 1 (Int.toNat (i : Int))) rfl rfl (Sl.ix (α := List Int) T38.und T38.size ai (by omega) (by omega))) ?_
  obtain ⟨ao, aI, aj⟩ := List_at ai (i := (i : Int)) (by omega) (by omega)
  replace aj : Sl _ ao (l.getD i ([])) := aj
  have aV := aj.len_le
  refine s_val (x_ld (p := vat aa 1 (Int.toNat (i : Int))) (v := ao) rfl (ld_sc Sc28 (At.mono (aI) (aq.at H)))) ?_
  obtain ⟨aW, aJ, hM⟩ := M.e_bind hM
  refine s_call cf37 [ao] rfl (zc6 (l.getD i ([])) (aq.app _) aj aJ _ (H.gt 2)) ?_
  rintro vq aX ⟨r2, ak, aK, hvq, ax⟩
  subst aK
  subst vq
  try dsimp only at hM
  replace H := H.bk ax
  clear ax
  obtain ⟨ag, ay⟩ : ∃ r : Raw 0, r.cs = [ak] := ⟨Raw.of [ak] rfl (by simp only [List.all_cons, List.all_nil, Bool.true_and, Bool.and_true, Sl.oc (H.os 0)]; try rfl), rfl⟩
  have aL := sl_one (H.os 0)
  refine t_bs (α := Raw 0) T38 [ak] [ag] H rfl (.cons (by rw [show (Flat.enc ag : List Value) = ag.cs from rfl, ay]; exact oneCell_cells aL) (Flat.rep_enc _ _) <| .nil) rfl rfl rfl ?_
  intro aY aZ H
  replace H := H.nf
  obtain ⟨aM, hM⟩ := M.e_grd hM
  simp only [Bool.and_eq_true, decide_eq_true_eq] at aM
  replace H := H.pk [2, 1, 0, 3]
  refine t_doapp (dl := l2) (o := r2) (sv := ag) (rv := ak) T38 rfl H ay rfl rfl (H.os 2) (H.ol 2) (by (try simp only [List.length_nil, List.length_cons] at *); omega) ?_
  intro az a6 H
  replace H := H.nf
  have aN := doLen (H.get (k := 0) rfl)
  refine zA az rfl ?_
  refine s_nil ?_
  refine W.region rfl ?_
  refine zM (I (i : Int)) rfl ?_
  refine zR (i : Int) 1 ((i : Int) + 1) rfl rfl rfl (by omega) ?_
  refine zA (I ((i : Int) + 1)) rfl ?_
  refine s_nil ?_
  exact ⟨aF, aG, i + 1, l2 ++ [r2], az, ac ++ [ag], B_l2, _, upds_of _ _ ⟨rfl, rfl, rfl, trivial⟩, M.e_inl hM aw, (H.pk [0, 2]), aN⟩
 replace hM := M.e_f hM ae
 simp only [qy1, qy2, qy3, qy4, qy5, qy6, ne_eq, qy7] at ae
 refine W.exit ?_
 have aO := M.e_inr hM aw
 subst aO
 replace hM := aD
 try dsimp only at hM
 refine W.seq ?_
 refine W.region rfl ?_
 refine zM ab rfl ?_
 refine zA ab rfl ?_
 refine s_nil ?_
 refine W.ret ?_
 have aP := M.e_pure hM
 exact ⟨_, resE_tmp rfl, ⟨l2, ab, ac, B_l2, aP, rfl, H, aE⟩⟩

def zb5 (l : List Mrk) : M (List Mrk) :=
  M.grd (decide ((([] : List Mrk).length + l.length) * 24 <= 140737488355328)) <|
  M.pure l
theorem zcC {R : List Chunk} {ab : Cells} {aa : Value} (l : List Mrk) (ae : Reads R ab) (ag : Sl ab aa l) {r : (List Mrk)} (hM : (zb5 l).Ends r) (w : World) (H : St w w [] R) : Ret Tryz.prog 62 #[aa] w fun v w' => ∃ (y0 : List Mrk) (u0 : Value), y0 = r /\ v = u0 /\ St w w' [cOwn (α := Mrk) 70 u0 y0] R := by
 refine ret_of_W Tryz.func62 rfl rfl rfl ?_
 refine W.seq ?_
 refine W.region rfl ?_
 refine zA (.slice none 0 0) rfl ?_
 refine s_nil ?_
 refine W.seq ?_
 refine W.region rfl ?_
 refine zA (.slice none 0 0) rfl ?_
 refine s_nil ?_
 refine W.seq ?_
 refine W.region rfl ?_
 refine zM (.slice none 0 0) rfl ?_
 refine zM aa rfl ?_
 replace H := H.nilOwn (α := Mrk) 70
 obtain ⟨ai, hM⟩ := M.e_grd hM
 simp only [Bool.and_eq_true, decide_eq_true_eq] at ai
 refine t_app (α := Mrk) (k := 0) (l := []) (l2 := l) (l' := l) (vy := aa) T24 rfl H rfl rfl rfl ag (ae.at H) (List.nil_append _) (by first | omega | (simp only [List.length_nil] at *; omega)) ?_
 intro ac ak H
 replace H := H.nf
 refine zA ac rfl ?_
 refine s_nil ?_
 refine W.ret ?_
 have aj := M.e_pure hM
 exact ⟨_, resE_tmp rfl, ⟨l, ac, aj, rfl, H⟩⟩

def zb3 (l : List Rch) : M (List Rch) :=
  M.grd (decide ((([] : List Rch).length + l.length) * 40 <= 140737488355328)) <|
  M.pure l
theorem zcc {R : List Chunk} {ab : Cells} {aa : Value} (l : List Rch) (ae : Reads R ab) (ag : Sl ab aa l) {r : (List Rch)} (hM : (zb3 l).Ends r) (w : World) (H : St w w [] R) : Ret Tryz.prog 63 #[aa] w fun v w' => ∃ (y0 : List Rch) (u0 : Value), y0 = r /\ v = u0 /\ St w w' [cOwn (α := Rch) 58 u0 y0] R := by
 refine ret_of_W Tryz.func63 rfl rfl rfl ?_
 refine W.seq ?_
 refine W.region rfl ?_
 refine zA (.slice none 0 0) rfl ?_
 refine s_nil ?_
 refine W.seq ?_
 refine W.region rfl ?_
 refine zA (.slice none 0 0) rfl ?_
 refine s_nil ?_
 refine W.seq ?_
 refine W.region rfl ?_
 refine zM (.slice none 0 0) rfl ?_
 refine zM aa rfl ?_
 replace H := H.nilOwn (α := Rch) 58
 obtain ⟨ai, hM⟩ := M.e_grd hM
 simp only [Bool.and_eq_true, decide_eq_true_eq] at ai
 refine t_app (α := Rch) (k := 0) (l := []) (l2 := l) (l' := l) (vy := aa) T25 rfl H rfl rfl rfl ag (ae.at H) (List.nil_append _) (by first | omega | (simp only [List.length_nil] at *; omega)) ?_
 intro ac ak H
 replace H := H.nf
 refine zA ac rfl ?_
 refine s_nil ?_
 refine W.ret ?_
 have aj := M.e_pure hM
 exact ⟨_, resE_tmp rfl, ⟨l, ac, aj, rfl, H⟩⟩

def zbD (l : List FRow) : M (List FRow) :=
  M.grd (decide ((([] : List FRow).length + l.length) * 16 <= 140737488355328)) <|
  M.pure l
theorem zaE {R : List Chunk} {ab : Cells} {aa : Value} (l : List FRow) (ae : Reads R ab) (ag : Sl ab aa l) {r : (List FRow)} (hM : (zbD l).Ends r) (w : World) (H : St w w [] R) : Ret Tryz.prog 64 #[aa] w fun v w' => ∃ (y0 : List FRow) (u0 : Value), y0 = r /\ v = u0 /\ St w w' [cOwn (α := FRow) 109 u0 y0] R := by
 refine ret_of_W Tryz.func64 rfl rfl rfl ?_
 refine W.seq ?_
 refine W.region rfl ?_
 refine zA (.slice none 0 0) rfl ?_
 refine s_nil ?_
 refine W.seq ?_
 refine W.region rfl ?_
 refine zA (.slice none 0 0) rfl ?_
 refine s_nil ?_
 refine W.seq ?_
 refine W.region rfl ?_
 refine zM (.slice none 0 0) rfl ?_
 refine zM aa rfl ?_
 replace H := H.nilOwn (α := FRow) 109
 obtain ⟨ai, hM⟩ := M.e_grd hM
 simp only [Bool.and_eq_true, decide_eq_true_eq] at ai
 refine t_app (α := FRow) (k := 0) (l := []) (l2 := l) (l' := l) (vy := aa) T66 rfl H rfl rfl rfl ag (ae.at H) (List.nil_append _) (by first | omega | (simp only [List.length_nil] at *; omega)) ?_
 intro ac ak H
 replace H := H.nf
 refine zA ac rfl ?_
 refine s_nil ?_
 refine W.ret ?_
 have aj := M.e_pure hM
 exact ⟨_, resE_tmp rfl, ⟨l, ac, aj, rfl, H⟩⟩

def zam (s_Sections : List Sect) : (Nat × (List Sect)) -> M ((Nat × (List Sect)) ⊕ ((List Sect) × (List Sect))) := fun (i, l) =>
  bif decide ((i : Int) < (s_Sections.length : Int)) then (
  M.grd (decide ((i : Int) < (s_Sections.length : Int))) <|
  M.bind (zbD ((s_Sections.getD i default).rows)) fun r4 =>
  M.grd (decide ((l.length + ([(⟨((s_Sections.getD i default).place : Int), r4⟩ : Sect)]).length) * 32 <= 140737488355328)) <|
  M.pure (.inl (i + 1, l ++ ([(⟨((s_Sections.getD i default).place : Int), r4⟩ : Sect)]))))
  else (
  M.pure (.inr (l, l)))
def zbL (s_Sections : List Sect) (s_Marks : List Mrk) (s_Reaches : List Rch) : M ((List Sect) × (List Mrk) × (List Rch)) :=
  M.bind (zb5 s_Marks) fun r2 =>
  M.bind (zb3 s_Reaches) fun r3 =>
  M.bind (M.iter (zam s_Sections) (0, [])) fun (l2, l3) =>
  M.pure (l3, r2, r3)
theorem zcR {R : List Chunk} {cg : Cells} {ae : Value} {cj : Cells} {aw : Value} {ck : Cells} {av : Value} (s_Sections : List Sect) (s_Marks : List Mrk) (s_Reaches : List Rch) (ax : Reads R cg) (ap : Sl cg ae s_Sections) (cn : Reads R cj) (co : Sl cj aw s_Marks) (bJ : Reads R ck) (bK : Sl ck av s_Reaches) {r : ((List Sect) × (List Mrk) × (List Rch))} (hM : (zbL s_Sections s_Marks s_Reaches).Ends r) (w : World) (H : St w w [] R) : Ret Tryz.prog 17 #[.agg #[ae, aw, av]] w fun v w' => ∃ (y0 : List Sect) (y1 : List Mrk) (y2 : List Rch) (u0 : Value) (rr1 : List (Raw 1)) (cp : Base) (u3 : Value) (u4 : Value), (y0, y1, y2) = r /\ v = .agg #[u0, u3, u4] /\ St w w' [cOwn (α := Raw 1) 68 u0 rr1, cRo cp, cOwn (α := Mrk) 70 u3 y1, cOwn (α := Rch) 58 u4 y2] R /\ RepR (α := Sect) cp.cells rr1 y0 := by
 refine ret_of_W Tryz.func17 rfl rfl rfl ?_
 refine W.seq ?_
 refine W.region rfl ?_
 refine t_box (v := .agg #[ae, aw, av]) (cs := [ae, aw, av]) H rfl rfl ?_
 intro am e9 H
 refine t_alloc (cs := [.slice none 0 0, .slice none 0 0, .slice none 0 0]) H Al27 rfl ?_
 intro aB fa H
 refine s_nil ?_
 refine W.seq ?_
 refine W.drawT (fun W => St w W [cBlk aB [.slice none 0 0, .slice none 0 0, .slice none 0 0] 27, cBlk am [ae, aw, av] 27] R) (.q 0 (.q 1 (.q 3 (.q 4 (.l2 2 (.l2 5 (.q 6 (.l 7 (.l 8 .nil))) 7 (.l 5 (.q 6 (.l 8 .nil)))) 7 (.l 2 (.l 5 (.q 6 (.l 8 .nil))))))))) mixed (by decide +kernel) rfl ?_
 intro fb ay
 replace H := H.ext ay
 clear ay
 refine ⟨(H.pk [0, 1]), ?_⟩
 refine t_q rfl (fun w' H => x_fa (a := Pq am) (v := Oq am 1) rfl (fa_blk (o := 0) Fd27_1 Sz24)) ?_
 refine t_q rfl (fun w' H => x_ld (p := Oq am 1) (v := aw) rfl (ldb_sc Sc24 (H.bl 1) rfl)) ?_
 refine t_q rfl (fun w' H => x_fa (a := Pq am) (v := Oq am 2) rfl (fa_blk (o := 0) Fd27_2 Sz25)) ?_
 refine t_q rfl (fun w' H => x_ld (p := Oq am 2) (v := av) rfl (ldb_sc Sc25 (H.bl 1) rfl)) ?_
 refine t_l2 rfl rfl ?_ ?_
 ·skip
  obtain ⟨fd, cI, hM⟩ := M.e_bind hM
  refine s_call cf62 [aw] rfl (zcC s_Marks (cn.app _) co cI _ (H.gt 2)) ?_
  rintro vq fe ⟨r2, aj, cJ, hvq, ao⟩
  subst cJ
  subst vq
  try dsimp only at hM
  replace H := H.bk ao
  clear ao
  have cq := Sl.cells (H.os 0)
  have ff := Sl.oc (H.os 0)
  refine s_nil ⟨(H.pk [1, 2]), ?_⟩
  refine t_l2 rfl rfl ?_ ?_
  ·skip
   obtain ⟨fg, cK, hM⟩ := M.e_bind hM
   refine s_call cf63 [av] rfl (zcc s_Reaches (bJ.app _) bK cK _ (H.gt 3)) ?_
   rintro vq fh ⟨r3, ag, cL, hvq, ao⟩
   subst cL
   subst vq
   try dsimp only at hM
   replace H := H.bk ao
   clear ao
   have cM := Sl.cells (H.os 0)
   have fj := Sl.oc (H.os 0)
   refine s_nil ⟨(H.pk [2, 3]), ?_⟩
   refine t_q rfl (fun w' H => x_bld (ps := [(1, aj), (2, ag)]) (zs := [.slice none 0 0, .slice none 0 0, .slice none 0 0]) (L' := [.slice none 0 0, aj, ag]) rfl Tryz.underlying27 Al27 rfl (Bd27 Tryz.underlying27) (.cons (cs := [aj]) cq rfl rfl rfl rfl <| .cons (cs := [ag]) cM rfl rfl rfl rfl <| .nil)) ?_
   refine t_l rfl ?_
   refine t_alloc (cs := [.slice none 0 0, .slice none 0 0, .slice none 0 0]) H Al27 rfl ?_
   intro ac fl H
   refine s_nil ⟨(H.pk [3, 4]), ?_⟩
   refine t_l rfl ?_
   refine t_sw 0 0 [.slice none 0 0, aj, ag] (.agg #[.slice none 0 0, aj, ag]) H rfl rfl Sz27 rfl rfl rfl (by simp only [List.all_cons, List.all_nil, Bool.true_and, Bool.and_true, Sl.oc (H.os 2), Sl.oc (H.os 1)]; try rfl) ?_
   intro fm H
   refine s_nil ⟨(H.pk [3, 4]), ?_⟩
   refine t_nil ?_
   refine W.seq ?_
   refine W.seq ?_
   refine W.region rfl ?_
   refine zA (I 0) rfl ?_
   refine s_nil ?_
   refine W.block ?_
   obtain ⟨aC, H⟩ := H.emptyE
   replace H := H.nilOwn (α := Raw 1) 68
   have cN : RepR (α := Sect) (n := 1) aC.cells [] [] := .nil
   obtain ⟨cO, bL, cP⟩ := M.e_bind hM
   obtain ⟨cr, bL⟩ := M.e_iter bL
   refine W.loop (fun m σ W => ∃ (i : Nat) (l : List Sect) (ak : Value) (ai : List (Raw 1)) (B_l : Base) (ρ : Env), σ = upds ρ [(1, Pq am), (2, Pq aB), (3, Pq ac), (4, I (i : Int))] /\ M.iterN (zam s_Sections) m (i, l) = some cO /\ St w W [cOwn (α := Raw 1) 68 ak ai, cRo B_l, cBlk ac [ak, aj, ag] 27, cOwn (α := Rch) 58 ag r3, cOwn (α := Mrk) 70 aj r2, cBlk aB [.slice none 0 0, .slice none 0 0, .slice none 0 0] 27, cBlk am [ae, aw, av] 27] R /\ RepR (α := Sect) B_l.cells ai l) ?_ ?_
   ·exact ⟨_, 0, [], (.slice none 0 0), [], aC, _, upds_of _ _ ⟨rfl, rfl, rfl, rfl, trivial⟩, bL, H, cN⟩
   rintro fo σ fp ⟨i, l, ak, ai, B_l, ρ, rfl, ct, H, ab⟩
   obtain ⟨aZ, a6, fq, hM, aP⟩ := M.e_iterN ct
   simp only [zam] at hM
   clear ct
   refine W.seq ?_
   refine W.seq ?_
   refine W.region rfl ?_
   refine zM (I (i : Int)) rfl ?_
   refine s_val (x_fa (a := Pq am) (v := Pq am) rfl (fa_blk (o := 0) Fd27_0 Sz23)) ?_
   refine s_val (x_ld (p := Pq am) (v := ae) rfl (ldb_sc Sc23 (H.bl 6) rfl)) ?_
   have fu := (ap).len_le
   refine s_val (x_lenS T23.und rfl ap) ?_
   refine zC (i : Int) (s_Sections.length : Int) (decide ((i : Int) < (s_Sections.length : Int))) rfl rfl rfl ?_
   refine s_nil ?_
   refine W.cond (decide ((i : Int) < (s_Sections.length : Int))) rfl (fun aQ => ?_) (fun aQ => ?_)
   ·replace hM := M.e_t hM aQ
    simp only [qy1, qy2, qy3, qy4, qy5, qy6, ne_eq, qy7] at aQ
    refine W.skip ?_
    refine W.seq ?_
    refine W.block ?_
    refine W.drawT (fun W => St w W [cRo B_l, cOwn (α := Rch) 58 ag r3, cOwn (α := Mrk) 70 aj r2, cBlk aB [.slice none 0 0, .slice none 0 0, .slice none 0 0] 27, cBlk am [ae, aw, av] 27] R) (.q 0 (.q 2 (.q 3 (.q 4 (.q 5 (.q 6 (.q 7 (.q 8 (.q 9 (.q 10 (.q 11 (.q 12 (.q 13 (.l2 1 (.l 14 (.l 15 (.l 16 (.l 17 (.q 18 (.l 19 .nil)))))) 14 (.l2 1 (.l 15 (.l 16 (.l 17 (.q 18 (.l 19 .nil))))) 15 (.l2 1 (.l 16 (.l 17 (.q 18 (.l 19 .nil)))) 16 (.l 1 (.l 17 (.q 18 (.l 19 .nil)))))))))))))))))))) mixed (by decide +kernel) rfl ?_
    intro fw ay
    replace H := H.ext ay
    clear ay
    refine ⟨(H.pk [1, 3, 4, 5, 6]), ?_⟩
    refine t_q rfl (fun w' H => x_fa (a := Pq ac) (v := Pq ac) rfl (fa_blk (o := 0) Fd27_0 Sz23)) ?_
    refine t_q rfl (fun w' H => x_fa (a := Pq am) (v := Pq am) rfl (fa_blk (o := 0) Fd27_0 Sz23)) ?_
    refine t_q rfl (fun w' H => x_ld (p := Pq am) (v := ae) rfl (ldb_sc Sc23 (H.bl 4) rfl)) ?_
    refine t_q rfl (fun w' H => x_mv (v := I (i : Int)) rfl) ?_
    obtain ⟨cQ, hM⟩ := M.e_grd hM
    simp only [Bool.and_eq_true, decide_eq_true_eq] at cQ
    refine t_q rfl (fun w' H => x_ix (a := ae) (b := I (i : Int)) (v := vat ae 2 (Int.toNat (i : Int))) rfl rfl (Sl.ix (α := Sect) T23.und T23.size ap (by omega) (by omega))) ?_
    refine t_q rfl (fun w' H => x_fa (a := vat ae 2 (Int.toNat (i : Int))) (v := fat (vat ae 2 (Int.toNat (i : Int))) 0) rfl (fa_pl Fd68_0 Sz3 (Sl.pl (i := (i : Int)) ap (by omega) (by omega)))) ?_
    refine t_q rfl (fun w' H => x_ld (p := fat (vat ae 2 (Int.toNat (i : Int))) 0) (v := I ((s_Sections.getD i default).place)) rfl (ld_sc Sc3 (At.mono (Sect_at0 ap (i := (i : Int)) (by omega) (by omega)) (ax.at H)))) ?_
    refine t_q rfl (fun w' H => x_fa (a := Pq am) (v := Pq am) rfl (fa_blk (o := 0) Fd27_0 Sz23)) ?_
    refine t_q rfl (fun w' H => x_ld (p := Pq am) (v := ae) rfl (ldb_sc Sc23 (H.bl 4) rfl)) ?_
    refine t_q rfl (fun w' H => x_mv (v := I (i : Int)) rfl) ?_
    refine t_q rfl (fun w' H => x_ix (a := ae) (b := I (i : Int)) (v := vat ae 2 (Int.toNat (i : Int))) rfl rfl (Sl.ix (α := Sect) T23.und T23.size ap (by omega) (by omega))) ?_
    refine t_q rfl (fun w' H => x_fa (a := vat ae 2 (Int.toNat (i : Int))) (v := fat (vat ae 2 (Int.toNat (i : Int))) 1) rfl (fa_pl Fd68_1 Sz66 (Sl.pl (i := (i : Int)) ap (by omega) (by omega)))) ?_
    obtain ⟨a7, cR, aR⟩ := Sect_at1 ap (i := (i : Int)) (by omega) (by omega)
    replace aR : Sl _ a7 (s_Sections.getD i default).rows := aR
    have fx := aR.len_le
    refine t_q rfl (fun w' H => x_ld (p := fat (vat ae 2 (Int.toNat (i : Int))) 1) (v := a7) rfl (ld_sc Sc66 (At.mono (cR) (ax.at H)))) ?_
    refine t_l2 rfl rfl ?_ ?_
    ·skip
     refine s_val (x_ld (p := Pq ac) (v := ak) rfl (ldb_sc Sc23 (H.bl 2) rfl)) ?_
     have fy := Sl.cells (H.os 0)
     have fA := Sl.oc (H.os 0)
     refine s_nil ⟨(H.pk [1, 3, 4, 5, 6]), ?_⟩
     refine t_l rfl ?_
     obtain ⟨fB, cS, hM⟩ := M.e_bind hM
     refine s_call cf64 [a7] rfl (zaE ((s_Sections.getD i default).rows) (ax.app _) aR cS _ (H.gt 7)) ?_
     rintro vq fC ⟨r4, aa, cT, hvq, ao⟩
     subst cT
     subst vq
     try dsimp only at hM
     replace H := H.bk ao
     clear ao
     have fD := Sl.cells (H.os 0)
     have fE := Sl.oc (H.os 0)
     refine s_nil ⟨(H.pk [2, 4, 5, 6, 7]), ?_⟩
     refine t_l rfl ?_
     refine s_val (x_bld (ps := [(0, I ((s_Sections.getD i default).place)), (1, aa)]) (zs := [I 0, .slice none 0 0]) (L' := [I ((s_Sections.getD i default).place), aa]) rfl Tryz.underlying68 Al68 rfl (Bd68 Tryz.underlying68) (.cons (cs := [I ((s_Sections.getD i default).place)]) rfl rfl rfl rfl rfl <| .cons (cs := [aa]) (Sl.cells (H.os 0)) rfl rfl rfl rfl <| .nil)) ?_
     refine s_nil ⟨(H.pk [2, 4, 5, 6, 7]), ?_⟩
     refine t_l rfl ?_
     obtain ⟨az, H⟩ := H.emptyE
     obtain ⟨aA, H, cU⟩ := H.freezeE (k := 1) rfl
     replace H := H.nf
     have a8 := cU
     obtain ⟨aq, H, fF, cV⟩ := H.joinE (i := 0) (j := 1) rfl rfl
     replace a8 := a8.mono cV
     obtain ⟨aD, cu⟩ : ∃ r : Raw 1, r.cs = [I ((s_Sections.getD i default).place), aa] := ⟨Raw.of [I ((s_Sections.getD i default).place), aa] rfl (by simp only [List.all_cons, List.all_nil, Bool.true_and, Bool.and_true, Sl.oc a8]; try rfl), rfl⟩
     have cW : RepR (α := Sect) aq.cells [aD] [(⟨((s_Sections.getD i default).place : Int), r4⟩ : Sect)] := .cons (by rw [cu]; exact ⟨_, rfl, a8⟩) <| .nil
     refine t_bs (α := Raw 1) T23 [.agg #[I ((s_Sections.getD i default).place), aa]] [aD] H rfl (.cons (by rw [show (Flat.enc aD : List Value) = aD.cs from rfl, cu]; rfl) (Flat.rep_enc _ _) <| .nil) rfl rfl rfl ?_
     intro cX fG H
     replace H := H.nf
     have fH := Sl.cells (H.os 0)
     have fI := Sl.oc (H.os 0)
     refine s_nil ⟨(H.pk [5, 7, 8, 9, 10]), ?_⟩
     refine t_l rfl ?_
     obtain ⟨cY, hM⟩ := M.e_grd hM
     simp only [Bool.and_eq_true, decide_eq_true_eq] at cY
     have ba := cW
     obtain ⟨au, H, cZ, c3⟩ := H.joinE (i := 5) (j := 1) rfl rfl
     replace ab := ab.mono cZ
     replace ba := ba.mono c3
     have bM := ab.app ba
     refine t_app (α := Raw 1) (k := 5) (l := ai) (l2 := [aD]) (l' := ai ++ ([aD])) (vy := cX) T23 rfl H rfl rfl rfl (H.os 1) (H.ol 1) (rfl) (by have a_ := ab.len; have b_ := ba.len; (try simp only [List.length_nil] at *); first | omega | (rw [a_, b_]; omega)) ?_
     intro bN fJ H
     replace H := H.nf
     have fK := Sl.cells (H.os 5)
     have fL := Sl.oc (H.os 5)
     refine s_nil ⟨(H.pk [6, 8, 9, 10, 11]), ?_⟩
     refine t_q rfl (fun w' H => x_fa (a := Pq ac) (v := Pq ac) rfl (fa_blk (o := 0) Fd27_0 Sz23)) ?_
     refine t_l rfl ?_
     refine t_sw 7 0 [bN] bN H rfl rfl Sz23 (Sl.cells (rowSl rfl (H.get (k := 5) rfl) (roLe _ (H.get (k := 0) rfl)) bM)) rfl rfl (by simp only [List.all_cons, List.all_nil, Bool.true_and, Bool.and_true, Sl.oc (rowSl rfl (H.get (k := 5) rfl) (roLe _ (H.get (k := 0) rfl)) bM)]; try rfl) ?_
     intro fM H
     refine s_nil ⟨(H.pk [6, 8, 9, 10, 11]), ?_⟩
     refine t_nil ?_
     replace H := H.pk [0, 5, 6, 7, 8, 9, 10, 11]
     refine W.region rfl ?_
     refine zM (I (i : Int)) rfl ?_
     refine zR (i : Int) 1 ((i : Int) + 1) rfl rfl rfl (by omega) ?_
     refine zA (I ((i : Int) + 1)) rfl ?_
     refine s_nil ?_
     exact ⟨aZ, a6, i + 1, l ++ ([(⟨((s_Sections.getD i default).place : Int), r4⟩ : Sect)]), bN, ai ++ ([aD]), au, _, upds_of _ _ ⟨rfl, rfl, rfl, rfl, trivial⟩, M.e_inl hM aP, (H.pk [1, 0, 3, 4, 5, 6, 7]), bM⟩
    skip
    obtain ⟨fN, c4, hM⟩ := M.e_bind hM
    refine s_call cf64 [a7] rfl (zaE ((s_Sections.getD i default).rows) (ax.app _) aR c4 _ (H.gt 7)) ?_
    rintro vq fO ⟨r4, aa, c5, hvq, ao⟩
    subst c5
    subst vq
    try dsimp only at hM
    replace H := H.bk ao
    clear ao
    have fP := Sl.cells (H.os 0)
    have fQ := Sl.oc (H.os 0)
    have fR := Sl.cells (H.os 1)
    have fS := Sl.oc (H.os 1)
    refine s_nil ⟨(H.pk [2, 4, 5, 6, 7]), ?_⟩
    obtain ⟨c6, hM⟩ := M.e_grd hM
    simp only [Bool.and_eq_true, decide_eq_true_eq] at c6
    refine t_l2 rfl rfl ?_ ?_
    ·skip
     refine s_val (x_ld (p := Pq ac) (v := ak) rfl (ldb_sc Sc23 (H.bl 3) rfl)) ?_
     refine s_nil ⟨(H.pk [2, 4, 5, 6, 7]), ?_⟩
     refine t_l rfl ?_
     refine s_val (x_bld (ps := [(0, I ((s_Sections.getD i default).place)), (1, aa)]) (zs := [I 0, .slice none 0 0]) (L' := [I ((s_Sections.getD i default).place), aa]) rfl Tryz.underlying68 Al68 rfl (Bd68 Tryz.underlying68) (.cons (cs := [I ((s_Sections.getD i default).place)]) rfl rfl rfl rfl rfl <| .cons (cs := [aa]) (Sl.cells (H.os 0)) rfl rfl rfl rfl <| .nil)) ?_
     refine s_nil ⟨(H.pk [2, 4, 5, 6, 7]), ?_⟩
     refine t_l rfl ?_
     obtain ⟨az, H⟩ := H.emptyE
     obtain ⟨aA, H, c7⟩ := H.freezeE (k := 1) rfl
     replace H := H.nf
     have bb := c7
     obtain ⟨aq, H, fT, c8⟩ := H.joinE (i := 0) (j := 1) rfl rfl
     replace bb := bb.mono c8
     obtain ⟨aE, cv⟩ : ∃ r : Raw 1, r.cs = [I ((s_Sections.getD i default).place), aa] := ⟨Raw.of [I ((s_Sections.getD i default).place), aa] rfl (by simp only [List.all_cons, List.all_nil, Bool.true_and, Bool.and_true, Sl.oc bb]; try rfl), rfl⟩
     have c9 : RepR (α := Sect) aq.cells [aE] [(⟨((s_Sections.getD i default).place : Int), r4⟩ : Sect)] := .cons (by rw [cv]; exact ⟨_, rfl, bb⟩) <| .nil
     refine t_bs (α := Raw 1) T23 [.agg #[I ((s_Sections.getD i default).place), aa]] [aE] H rfl (.cons (by rw [show (Flat.enc aE : List Value) = aE.cs from rfl, cv]; rfl) (Flat.rep_enc _ _) <| .nil) rfl rfl rfl ?_
     intro da fU H
     replace H := H.nf
     have fV := Sl.cells (H.os 0)
     have fW := Sl.oc (H.os 0)
     refine s_nil ⟨(H.pk [5, 7, 8, 9, 10]), ?_⟩
     refine t_l rfl ?_
     have bc := c9
     obtain ⟨au, H, db, dc⟩ := H.joinE (i := 5) (j := 1) rfl rfl
     replace ab := ab.mono db
     replace bc := bc.mono dc
     have bO := ab.app bc
     refine t_app (α := Raw 1) (k := 5) (l := ai) (l2 := [aE]) (l' := ai ++ ([aE])) (vy := da) T23 rfl H rfl rfl rfl (H.os 1) (H.ol 1) (rfl) (by have a_ := ab.len; have b_ := bc.len; (try simp only [List.length_nil] at *); first | omega | (rw [a_, b_]; omega)) ?_
     intro bP fX H
     replace H := H.nf
     have fY := Sl.cells (H.os 5)
     have fZ := Sl.oc (H.os 5)
     refine s_nil ⟨(H.pk [6, 8, 9, 10, 11]), ?_⟩
     refine t_q rfl (fun w' H => x_fa (a := Pq ac) (v := Pq ac) rfl (fa_blk (o := 0) Fd27_0 Sz23)) ?_
     refine t_l rfl ?_
     refine t_sw 7 0 [bP] bP H rfl rfl Sz23 (Sl.cells (rowSl rfl (H.get (k := 5) rfl) (roLe _ (H.get (k := 0) rfl)) bO)) rfl rfl (by simp only [List.all_cons, List.all_nil, Bool.true_and, Bool.and_true, Sl.oc (rowSl rfl (H.get (k := 5) rfl) (roLe _ (H.get (k := 0) rfl)) bO)]; try rfl) ?_
     intro f0 H
     refine s_nil ⟨(H.pk [6, 8, 9, 10, 11]), ?_⟩
     refine t_nil ?_
     replace H := H.pk [0, 5, 6, 7, 8, 9, 10, 11]
     refine W.region rfl ?_
     refine zM (I (i : Int)) rfl ?_
     refine zR (i : Int) 1 ((i : Int) + 1) rfl rfl rfl (by omega) ?_
     refine zA (I ((i : Int) + 1)) rfl ?_
     refine s_nil ?_
     exact ⟨aZ, a6, i + 1, l ++ ([(⟨((s_Sections.getD i default).place : Int), r4⟩ : Sect)]), bP, ai ++ ([aE]), au, _, upds_of _ _ ⟨rfl, rfl, rfl, rfl, trivial⟩, M.e_inl hM aP, (H.pk [1, 0, 3, 4, 5, 6, 7]), bO⟩
    skip
    refine s_val (x_bld (ps := [(0, I ((s_Sections.getD i default).place)), (1, aa)]) (zs := [I 0, .slice none 0 0]) (L' := [I ((s_Sections.getD i default).place), aa]) rfl Tryz.underlying68 Al68 rfl (Bd68 Tryz.underlying68) (.cons (cs := [I ((s_Sections.getD i default).place)]) rfl rfl rfl rfl rfl <| .cons (cs := [aa]) (Sl.cells (H.os 0)) rfl rfl rfl rfl <| .nil)) ?_
    refine s_nil ⟨(H.pk [2, 4, 5, 6, 7]), ?_⟩
    refine t_l2 rfl rfl ?_ ?_
    ·skip
     refine s_val (x_ld (p := Pq ac) (v := ak) rfl (ldb_sc Sc23 (H.bl 3) rfl)) ?_
     refine s_nil ⟨(H.pk [2, 4, 5, 6, 7]), ?_⟩
     refine t_l rfl ?_
     obtain ⟨az, H⟩ := H.emptyE
     obtain ⟨aA, H, dd⟩ := H.freezeE (k := 1) rfl
     replace H := H.nf
     have bf := dd
     obtain ⟨aq, H, f1, de⟩ := H.joinE (i := 0) (j := 1) rfl rfl
     replace bf := bf.mono de
     obtain ⟨aF, cw⟩ : ∃ r : Raw 1, r.cs = [I ((s_Sections.getD i default).place), aa] := ⟨Raw.of [I ((s_Sections.getD i default).place), aa] rfl (by simp only [List.all_cons, List.all_nil, Bool.true_and, Bool.and_true, Sl.oc bf]; try rfl), rfl⟩
     have dg : RepR (α := Sect) aq.cells [aF] [(⟨((s_Sections.getD i default).place : Int), r4⟩ : Sect)] := .cons (by rw [cw]; exact ⟨_, rfl, bf⟩) <| .nil
     refine t_bs (α := Raw 1) T23 [.agg #[I ((s_Sections.getD i default).place), aa]] [aF] H rfl (.cons (by rw [show (Flat.enc aF : List Value) = aF.cs from rfl, cw]; rfl) (Flat.rep_enc _ _) <| .nil) rfl rfl rfl ?_
     intro dh f2 H
     replace H := H.nf
     have f4 := Sl.cells (H.os 0)
     have f6 := Sl.oc (H.os 0)
     refine s_nil ⟨(H.pk [5, 7, 8, 9, 10]), ?_⟩
     refine t_l rfl ?_
     have bg := dg
     obtain ⟨au, H, di, dj⟩ := H.joinE (i := 5) (j := 1) rfl rfl
     replace ab := ab.mono di
     replace bg := bg.mono dj
     have bQ := ab.app bg
     refine t_app (α := Raw 1) (k := 5) (l := ai) (l2 := [aF]) (l' := ai ++ ([aF])) (vy := dh) T23 rfl H rfl rfl rfl (H.os 1) (H.ol 1) (rfl) (by have a_ := ab.len; have b_ := bg.len; (try simp only [List.length_nil] at *); first | omega | (rw [a_, b_]; omega)) ?_
     intro bR f9 H
     replace H := H.nf
     have ga := Sl.cells (H.os 5)
     have gc := Sl.oc (H.os 5)
     refine s_nil ⟨(H.pk [6, 8, 9, 10, 11]), ?_⟩
     refine t_q rfl (fun w' H => x_fa (a := Pq ac) (v := Pq ac) rfl (fa_blk (o := 0) Fd27_0 Sz23)) ?_
     refine t_l rfl ?_
     refine t_sw 7 0 [bR] bR H rfl rfl Sz23 (Sl.cells (rowSl rfl (H.get (k := 5) rfl) (roLe _ (H.get (k := 0) rfl)) bQ)) rfl rfl (by simp only [List.all_cons, List.all_nil, Bool.true_and, Bool.and_true, Sl.oc (rowSl rfl (H.get (k := 5) rfl) (roLe _ (H.get (k := 0) rfl)) bQ)]; try rfl) ?_
     intro gf H
     refine s_nil ⟨(H.pk [6, 8, 9, 10, 11]), ?_⟩
     refine t_nil ?_
     replace H := H.pk [0, 5, 6, 7, 8, 9, 10, 11]
     refine W.region rfl ?_
     refine zM (I (i : Int)) rfl ?_
     refine zR (i : Int) 1 ((i : Int) + 1) rfl rfl rfl (by omega) ?_
     refine zA (I ((i : Int) + 1)) rfl ?_
     refine s_nil ?_
     exact ⟨aZ, a6, i + 1, l ++ ([(⟨((s_Sections.getD i default).place : Int), r4⟩ : Sect)]), bR, ai ++ ([aF]), au, _, upds_of _ _ ⟨rfl, rfl, rfl, rfl, trivial⟩, M.e_inl hM aP, (H.pk [1, 0, 3, 4, 5, 6, 7]), bQ⟩
    skip
    obtain ⟨az, H⟩ := H.emptyE
    obtain ⟨aA, H, dk⟩ := H.freezeE (k := 1) rfl
    replace H := H.nf
    have bh := dk
    obtain ⟨aq, H, gg, dm⟩ := H.joinE (i := 0) (j := 1) rfl rfl
    replace bh := bh.mono dm
    obtain ⟨aG, cx⟩ : ∃ r : Raw 1, r.cs = [I ((s_Sections.getD i default).place), aa] := ⟨Raw.of [I ((s_Sections.getD i default).place), aa] rfl (by simp only [List.all_cons, List.all_nil, Bool.true_and, Bool.and_true, Sl.oc bh]; try rfl), rfl⟩
    have dp : RepR (α := Sect) aq.cells [aG] [(⟨((s_Sections.getD i default).place : Int), r4⟩ : Sect)] := .cons (by rw [cx]; exact ⟨_, rfl, bh⟩) <| .nil
    refine t_bs (α := Raw 1) T23 [.agg #[I ((s_Sections.getD i default).place), aa]] [aG] H rfl (.cons (by rw [show (Flat.enc aG : List Value) = aG.cs from rfl, cx]; rfl) (Flat.rep_enc _ _) <| .nil) rfl rfl rfl ?_
    intro dq gh H
    replace H := H.nf
    have gi := Sl.cells (H.os 0)
    have gj := Sl.oc (H.os 0)
    refine s_nil ⟨(H.pk [5, 7, 8, 9, 10]), ?_⟩
    refine t_l rfl ?_
    refine s_val (x_ld (p := Pq ac) (v := ak) rfl (ldb_sc Sc23 (H.bl 6) rfl)) ?_
    refine s_nil ⟨(H.pk [5, 7, 8, 9, 10]), ?_⟩
    refine t_l rfl ?_
    have bi := dp
    obtain ⟨au, H, dr, dt⟩ := H.joinE (i := 5) (j := 1) rfl rfl
    replace ab := ab.mono dr
    replace bi := bi.mono dt
    have bS := ab.app bi
    refine t_app (α := Raw 1) (k := 5) (l := ai) (l2 := [aG]) (l' := ai ++ ([aG])) (vy := dq) T23 rfl H rfl rfl rfl (H.os 1) (H.ol 1) (rfl) (by have a_ := ab.len; have b_ := bi.len; (try simp only [List.length_nil] at *); first | omega | (rw [a_, b_]; omega)) ?_
    intro bT gk H
    replace H := H.nf
    have gm := Sl.cells (H.os 5)
    have gp := Sl.oc (H.os 5)
    refine s_nil ⟨(H.pk [6, 8, 9, 10, 11]), ?_⟩
    refine t_q rfl (fun w' H => x_fa (a := Pq ac) (v := Pq ac) rfl (fa_blk (o := 0) Fd27_0 Sz23)) ?_
    refine t_l rfl ?_
    refine t_sw 7 0 [bT] bT H rfl rfl Sz23 (Sl.cells (rowSl rfl (H.get (k := 5) rfl) (roLe _ (H.get (k := 0) rfl)) bS)) rfl rfl (by simp only [List.all_cons, List.all_nil, Bool.true_and, Bool.and_true, Sl.oc (rowSl rfl (H.get (k := 5) rfl) (roLe _ (H.get (k := 0) rfl)) bS)]; try rfl) ?_
    intro gq H
    refine s_nil ⟨(H.pk [6, 8, 9, 10, 11]), ?_⟩
    refine t_nil ?_
    replace H := H.pk [0, 5, 6, 7, 8, 9, 10, 11]
    refine W.region rfl ?_
    refine zM (I (i : Int)) rfl ?_
    refine zR (i : Int) 1 ((i : Int) + 1) rfl rfl rfl (by omega) ?_
    refine zA (I ((i : Int) + 1)) rfl ?_
    refine s_nil ?_
    exact ⟨aZ, a6, i + 1, l ++ ([(⟨((s_Sections.getD i default).place : Int), r4⟩ : Sect)]), bT, ai ++ ([aG]), au, _, upds_of _ _ ⟨rfl, rfl, rfl, rfl, trivial⟩, M.e_inl hM aP, (H.pk [1, 0, 3, 4, 5, 6, 7]), bS⟩
   replace hM := M.e_f hM aQ
   simp only [qy1, qy2, qy3, qy4, qy5, qy6, ne_eq, qy7] at aQ
   refine W.exit ?_
   have dv := M.e_inr hM aP
   subst dv
   replace hM := cP
   try dsimp only at hM
   refine W.seq ?_
   refine W.region rfl ?_
   refine s_val (x_ld (p := Pq ac) (v := .agg #[ak, aj, ag]) rfl (ldb_ag (ds := [ak, aj, ag]) Ag27 Sz27 (H.bl 2) rfl rfl)) ?_
   refine t_sw 5 0 [ak, aj, ag] (.agg #[ak, aj, ag]) H rfl rfl Sz27 rfl rfl rfl (by simp only [List.all_cons, List.all_nil, Bool.true_and, Bool.and_true, Sl.oc (rowSl rfl (H.get (k := 0) rfl) (roLe _ (H.get (k := 1) rfl)) ab), Sl.oc (H.os 4), Sl.oc (H.os 3)]; try rfl) ?_
   intro gr H
   refine s_nil ?_
   replace H := H.pk [0, 1, 3, 4, 5]
   refine W.ret ?_
   have dw := (H.bl 4)
   have aS := M.e_pure hM
   exact ⟨_, (resE_of1 (v := .agg #[ak, aj, ag]) rfl (.cell (v := .agg #[ak, aj, ag]) rfl (run_loadVar_ag (ds := [ak, aj, ag]) Ag27 Sz27 dw rfl rfl) <| .nil)), ⟨l, r2, r3, ak, ai, B_l, aj, ag, aS, rfl, (H.pk [0, 1, 3, 2]), ab⟩⟩
  skip
  refine t_alloc (cs := [.slice none 0 0, .slice none 0 0, .slice none 0 0]) H Al27 rfl ?_
  intro ac gu H
  refine s_nil ⟨(H.pk [2, 3]), ?_⟩
  refine t_l rfl ?_
  obtain ⟨gv, dx, hM⟩ := M.e_bind hM
  refine s_call cf63 [av] rfl (zcc s_Reaches (bJ.app _) bK dx _ (H.gt 4)) ?_
  rintro vq gw ⟨r3, ag, dy, hvq, ao⟩
  subst dy
  subst vq
  try dsimp only at hM
  replace H := H.bk ao
  clear ao
  have dz := Sl.cells (H.os 0)
  have gx := Sl.oc (H.os 0)
  refine s_nil ⟨(H.pk [3, 4]), ?_⟩
  refine t_q rfl (fun w' H => x_bld (ps := [(1, aj), (2, ag)]) (zs := [.slice none 0 0, .slice none 0 0, .slice none 0 0]) (L' := [.slice none 0 0, aj, ag]) rfl Tryz.underlying27 Al27 rfl (Bd27 Tryz.underlying27) (.cons (cs := [aj]) cq rfl rfl rfl rfl <| .cons (cs := [ag]) dz rfl rfl rfl rfl <| .nil)) ?_
  refine t_l rfl ?_
  refine t_sw 1 0 [.slice none 0 0, aj, ag] (.agg #[.slice none 0 0, aj, ag]) H rfl rfl Sz27 rfl rfl rfl (by simp only [List.all_cons, List.all_nil, Bool.true_and, Bool.and_true, Sl.oc (H.os 2), Sl.oc (H.os 0)]; try rfl) ?_
  intro gy H
  refine s_nil ⟨(H.pk [3, 4]), ?_⟩
  refine t_nil ?_
  refine W.seq ?_
  refine W.seq ?_
  refine W.region rfl ?_
  refine zA (I 0) rfl ?_
  refine s_nil ?_
  refine W.block ?_
  obtain ⟨aC, H⟩ := H.emptyE
  replace H := H.nilOwn (α := Raw 1) 68
  have dA : RepR (α := Sect) (n := 1) aC.cells [] [] := .nil
  obtain ⟨dB, bU, dC⟩ := M.e_bind hM
  obtain ⟨cr, bU⟩ := M.e_iter bU
  refine W.loop (fun m σ W => ∃ (i : Nat) (l : List Sect) (ak : Value) (ai : List (Raw 1)) (B_l : Base) (ρ : Env), σ = upds ρ [(1, Pq am), (2, Pq aB), (3, Pq ac), (4, I (i : Int))] /\ M.iterN (zam s_Sections) m (i, l) = some dB /\ St w W [cOwn (α := Raw 1) 68 ak ai, cRo B_l, cOwn (α := Rch) 58 ag r3, cBlk ac [ak, aj, ag] 27, cOwn (α := Mrk) 70 aj r2, cBlk aB [.slice none 0 0, .slice none 0 0, .slice none 0 0] 27, cBlk am [ae, aw, av] 27] R /\ RepR (α := Sect) B_l.cells ai l) ?_ ?_
  ·exact ⟨_, 0, [], (.slice none 0 0), [], aC, _, upds_of _ _ ⟨rfl, rfl, rfl, rfl, trivial⟩, bU, H, dA⟩
  rintro gz σ gA ⟨i, l, ak, ai, B_l, ρ, rfl, cy, H, ab⟩
  obtain ⟨bj, bm, gB, hM, aT⟩ := M.e_iterN cy
  simp only [zam] at hM
  clear cy
  refine W.seq ?_
  refine W.seq ?_
  refine W.region rfl ?_
  refine zM (I (i : Int)) rfl ?_
  refine s_val (x_fa (a := Pq am) (v := Pq am) rfl (fa_blk (o := 0) Fd27_0 Sz23)) ?_
  refine s_val (x_ld (p := Pq am) (v := ae) rfl (ldb_sc Sc23 (H.bl 6) rfl)) ?_
  have gC := (ap).len_le
  refine s_val (x_lenS T23.und rfl ap) ?_
  refine zC (i : Int) (s_Sections.length : Int) (decide ((i : Int) < (s_Sections.length : Int))) rfl rfl rfl ?_
  refine s_nil ?_
  refine W.cond (decide ((i : Int) < (s_Sections.length : Int))) rfl (fun aU => ?_) (fun aU => ?_)
  ·replace hM := M.e_t hM aU
   simp only [qy1, qy2, qy3, qy4, qy5, qy6, ne_eq, qy7] at aU
   refine W.skip ?_
   refine W.seq ?_
   refine W.block ?_
   refine W.drawT (fun W => St w W [cRo B_l, cOwn (α := Rch) 58 ag r3, cOwn (α := Mrk) 70 aj r2, cBlk aB [.slice none 0 0, .slice none 0 0, .slice none 0 0] 27, cBlk am [ae, aw, av] 27] R) (.q 0 (.q 2 (.q 3 (.q 4 (.q 5 (.q 6 (.q 7 (.q 8 (.q 9 (.q 10 (.q 11 (.q 12 (.q 13 (.l2 1 (.l 14 (.l 15 (.l 16 (.l 17 (.q 18 (.l 19 .nil)))))) 14 (.l2 1 (.l 15 (.l 16 (.l 17 (.q 18 (.l 19 .nil))))) 15 (.l2 1 (.l 16 (.l 17 (.q 18 (.l 19 .nil)))) 16 (.l 1 (.l 17 (.q 18 (.l 19 .nil)))))))))))))))))))) mixed (by decide +kernel) rfl ?_
   intro gD ay
   replace H := H.ext ay
   clear ay
   refine ⟨(H.pk [1, 2, 4, 5, 6]), ?_⟩
   refine t_q rfl (fun w' H => x_fa (a := Pq ac) (v := Pq ac) rfl (fa_blk (o := 0) Fd27_0 Sz23)) ?_
   refine t_q rfl (fun w' H => x_fa (a := Pq am) (v := Pq am) rfl (fa_blk (o := 0) Fd27_0 Sz23)) ?_
   refine t_q rfl (fun w' H => x_ld (p := Pq am) (v := ae) rfl (ldb_sc Sc23 (H.bl 4) rfl)) ?_
   refine t_q rfl (fun w' H => x_mv (v := I (i : Int)) rfl) ?_
   obtain ⟨dD, hM⟩ := M.e_grd hM
   simp only [Bool.and_eq_true, decide_eq_true_eq] at dD
   refine t_q rfl (fun w' H => x_ix (a := ae) (b := I (i : Int)) (v := vat ae 2 (Int.toNat (i : Int))) rfl rfl (Sl.ix (α := Sect) T23.und T23.size ap (by omega) (by omega))) ?_
   refine t_q rfl (fun w' H => x_fa (a := vat ae 2 (Int.toNat (i : Int))) (v := fat (vat ae 2 (Int.toNat (i : Int))) 0) rfl (fa_pl Fd68_0 Sz3 (Sl.pl (i := (i : Int)) ap (by omega) (by omega)))) ?_
   refine t_q rfl (fun w' H => x_ld (p := fat (vat ae 2 (Int.toNat (i : Int))) 0) (v := I ((s_Sections.getD i default).place)) rfl (ld_sc Sc3 (At.mono (Sect_at0 ap (i := (i : Int)) (by omega) (by omega)) (ax.at H)))) ?_
   refine t_q rfl (fun w' H => x_fa (a := Pq am) (v := Pq am) rfl (fa_blk (o := 0) Fd27_0 Sz23)) ?_
   refine t_q rfl (fun w' H => x_ld (p := Pq am) (v := ae) rfl (ldb_sc Sc23 (H.bl 4) rfl)) ?_
   refine t_q rfl (fun w' H => x_mv (v := I (i : Int)) rfl) ?_
   refine t_q rfl (fun w' H => x_ix (a := ae) (b := I (i : Int)) (v := vat ae 2 (Int.toNat (i : Int))) rfl rfl (Sl.ix (α := Sect) T23.und T23.size ap (by omega) (by omega))) ?_
   refine t_q rfl (fun w' H => x_fa (a := vat ae 2 (Int.toNat (i : Int))) (v := fat (vat ae 2 (Int.toNat (i : Int))) 1) rfl (fa_pl Fd68_1 Sz66 (Sl.pl (i := (i : Int)) ap (by omega) (by omega)))) ?_
   obtain ⟨bn, dE, aV⟩ := Sect_at1 ap (i := (i : Int)) (by omega) (by omega)
   replace aV : Sl _ bn (s_Sections.getD i default).rows := aV
   have gE := aV.len_le
   refine t_q rfl (fun w' H => x_ld (p := fat (vat ae 2 (Int.toNat (i : Int))) 1) (v := bn) rfl (ld_sc Sc66 (At.mono (dE) (ax.at H)))) ?_
   refine t_l2 rfl rfl ?_ ?_
   ·skip
    refine s_val (x_ld (p := Pq ac) (v := ak) rfl (ldb_sc Sc23 (H.bl 3) rfl)) ?_
    have gF := Sl.cells (H.os 0)
    have gG := Sl.oc (H.os 0)
    refine s_nil ⟨(H.pk [1, 2, 4, 5, 6]), ?_⟩
    refine t_l rfl ?_
    obtain ⟨gH, dF, hM⟩ := M.e_bind hM
    refine s_call cf64 [bn] rfl (zaE ((s_Sections.getD i default).rows) (ax.app _) aV dF _ (H.gt 7)) ?_
    rintro vq gI ⟨r4, aa, dG, hvq, ao⟩
    subst dG
    subst vq
    try dsimp only at hM
    replace H := H.bk ao
    clear ao
    have gJ := Sl.cells (H.os 0)
    have gK := Sl.oc (H.os 0)
    refine s_nil ⟨(H.pk [2, 3, 5, 6, 7]), ?_⟩
    refine t_l rfl ?_
    refine s_val (x_bld (ps := [(0, I ((s_Sections.getD i default).place)), (1, aa)]) (zs := [I 0, .slice none 0 0]) (L' := [I ((s_Sections.getD i default).place), aa]) rfl Tryz.underlying68 Al68 rfl (Bd68 Tryz.underlying68) (.cons (cs := [I ((s_Sections.getD i default).place)]) rfl rfl rfl rfl rfl <| .cons (cs := [aa]) (Sl.cells (H.os 0)) rfl rfl rfl rfl <| .nil)) ?_
    refine s_nil ⟨(H.pk [2, 3, 5, 6, 7]), ?_⟩
    refine t_l rfl ?_
    obtain ⟨az, H⟩ := H.emptyE
    obtain ⟨aA, H, dH⟩ := H.freezeE (k := 1) rfl
    replace H := H.nf
    have bo := dH
    obtain ⟨aq, H, gL, dI⟩ := H.joinE (i := 0) (j := 1) rfl rfl
    replace bo := bo.mono dI
    obtain ⟨aH, cz⟩ : ∃ r : Raw 1, r.cs = [I ((s_Sections.getD i default).place), aa] := ⟨Raw.of [I ((s_Sections.getD i default).place), aa] rfl (by simp only [List.all_cons, List.all_nil, Bool.true_and, Bool.and_true, Sl.oc bo]; try rfl), rfl⟩
    have dJ : RepR (α := Sect) aq.cells [aH] [(⟨((s_Sections.getD i default).place : Int), r4⟩ : Sect)] := .cons (by rw [cz]; exact ⟨_, rfl, bo⟩) <| .nil
    refine t_bs (α := Raw 1) T23 [.agg #[I ((s_Sections.getD i default).place), aa]] [aH] H rfl (.cons (by rw [show (Flat.enc aH : List Value) = aH.cs from rfl, cz]; rfl) (Flat.rep_enc _ _) <| .nil) rfl rfl rfl ?_
    intro dK gM H
    replace H := H.nf
    have gN := Sl.cells (H.os 0)
    have gO := Sl.oc (H.os 0)
    refine s_nil ⟨(H.pk [5, 6, 8, 9, 10]), ?_⟩
    refine t_l rfl ?_
    obtain ⟨dL, hM⟩ := M.e_grd hM
    simp only [Bool.and_eq_true, decide_eq_true_eq] at dL
    have bp := dJ
    obtain ⟨au, H, dM, dN⟩ := H.joinE (i := 5) (j := 1) rfl rfl
    replace ab := ab.mono dM
    replace bp := bp.mono dN
    have bV := ab.app bp
    refine t_app (α := Raw 1) (k := 5) (l := ai) (l2 := [aH]) (l' := ai ++ ([aH])) (vy := dK) T23 rfl H rfl rfl rfl (H.os 1) (H.ol 1) (rfl) (by have a_ := ab.len; have b_ := bp.len; (try simp only [List.length_nil] at *); first | omega | (rw [a_, b_]; omega)) ?_
    intro bW gP H
    replace H := H.nf
    have gQ := Sl.cells (H.os 5)
    have gR := Sl.oc (H.os 5)
    refine s_nil ⟨(H.pk [6, 7, 9, 10, 11]), ?_⟩
    refine t_q rfl (fun w' H => x_fa (a := Pq ac) (v := Pq ac) rfl (fa_blk (o := 0) Fd27_0 Sz23)) ?_
    refine t_l rfl ?_
    refine t_sw 8 0 [bW] bW H rfl rfl Sz23 (Sl.cells (rowSl rfl (H.get (k := 5) rfl) (roLe _ (H.get (k := 0) rfl)) bV)) rfl rfl (by simp only [List.all_cons, List.all_nil, Bool.true_and, Bool.and_true, Sl.oc (rowSl rfl (H.get (k := 5) rfl) (roLe _ (H.get (k := 0) rfl)) bV)]; try rfl) ?_
    intro gS H
    refine s_nil ⟨(H.pk [6, 7, 9, 10, 11]), ?_⟩
    refine t_nil ?_
    replace H := H.pk [0, 5, 6, 7, 8, 9, 10, 11]
    refine W.region rfl ?_
    refine zM (I (i : Int)) rfl ?_
    refine zR (i : Int) 1 ((i : Int) + 1) rfl rfl rfl (by omega) ?_
    refine zA (I ((i : Int) + 1)) rfl ?_
    refine s_nil ?_
    exact ⟨bj, bm, i + 1, l ++ ([(⟨((s_Sections.getD i default).place : Int), r4⟩ : Sect)]), bW, ai ++ ([aH]), au, _, upds_of _ _ ⟨rfl, rfl, rfl, rfl, trivial⟩, M.e_inl hM aT, (H.pk [1, 0, 3, 4, 5, 6, 7]), bV⟩
   skip
   obtain ⟨gT, dO, hM⟩ := M.e_bind hM
   refine s_call cf64 [bn] rfl (zaE ((s_Sections.getD i default).rows) (ax.app _) aV dO _ (H.gt 7)) ?_
   rintro vq gU ⟨r4, aa, dP, hvq, ao⟩
   subst dP
   subst vq
   try dsimp only at hM
   replace H := H.bk ao
   clear ao
   have gV := Sl.cells (H.os 0)
   have gW := Sl.oc (H.os 0)
   have gX := Sl.cells (H.os 1)
   have gY := Sl.oc (H.os 1)
   refine s_nil ⟨(H.pk [2, 3, 5, 6, 7]), ?_⟩
   obtain ⟨dQ, hM⟩ := M.e_grd hM
   simp only [Bool.and_eq_true, decide_eq_true_eq] at dQ
   refine t_l2 rfl rfl ?_ ?_
   ·skip
    refine s_val (x_ld (p := Pq ac) (v := ak) rfl (ldb_sc Sc23 (H.bl 4) rfl)) ?_
    refine s_nil ⟨(H.pk [2, 3, 5, 6, 7]), ?_⟩
    refine t_l rfl ?_
    refine s_val (x_bld (ps := [(0, I ((s_Sections.getD i default).place)), (1, aa)]) (zs := [I 0, .slice none 0 0]) (L' := [I ((s_Sections.getD i default).place), aa]) rfl Tryz.underlying68 Al68 rfl (Bd68 Tryz.underlying68) (.cons (cs := [I ((s_Sections.getD i default).place)]) rfl rfl rfl rfl rfl <| .cons (cs := [aa]) (Sl.cells (H.os 0)) rfl rfl rfl rfl <| .nil)) ?_
    refine s_nil ⟨(H.pk [2, 3, 5, 6, 7]), ?_⟩
    refine t_l rfl ?_
    obtain ⟨az, H⟩ := H.emptyE
    obtain ⟨aA, H, dR⟩ := H.freezeE (k := 1) rfl
    replace H := H.nf
    have bq := dR
    obtain ⟨aq, H, gZ, dS⟩ := H.joinE (i := 0) (j := 1) rfl rfl
    replace bq := bq.mono dS
    obtain ⟨aI, cA⟩ : ∃ r : Raw 1, r.cs = [I ((s_Sections.getD i default).place), aa] := ⟨Raw.of [I ((s_Sections.getD i default).place), aa] rfl (by simp only [List.all_cons, List.all_nil, Bool.true_and, Bool.and_true, Sl.oc bq]; try rfl), rfl⟩
    have dT : RepR (α := Sect) aq.cells [aI] [(⟨((s_Sections.getD i default).place : Int), r4⟩ : Sect)] := .cons (by rw [cA]; exact ⟨_, rfl, bq⟩) <| .nil
    refine t_bs (α := Raw 1) T23 [.agg #[I ((s_Sections.getD i default).place), aa]] [aI] H rfl (.cons (by rw [show (Flat.enc aI : List Value) = aI.cs from rfl, cA]; rfl) (Flat.rep_enc _ _) <| .nil) rfl rfl rfl ?_
    intro dU g0 H
    replace H := H.nf
    have hG := Sl.cells (H.os 0)
    have hO := Sl.oc (H.os 0)
    refine s_nil ⟨(H.pk [5, 6, 8, 9, 10]), ?_⟩
    refine t_l rfl ?_
    have br := dT
    obtain ⟨au, H, dV, dW⟩ := H.joinE (i := 5) (j := 1) rfl rfl
    replace ab := ab.mono dV
    replace br := br.mono dW
    have bX := ab.app br
    refine t_app (α := Raw 1) (k := 5) (l := ai) (l2 := [aI]) (l' := ai ++ ([aI])) (vy := dU) T23 rfl H rfl rfl rfl (H.os 1) (H.ol 1) (rfl) (by have a_ := ab.len; have b_ := br.len; (try simp only [List.length_nil] at *); first | omega | (rw [a_, b_]; omega)) ?_
    intro bY hP H
    replace H := H.nf
    have hZ := Sl.cells (H.os 5)
    have h9 := Sl.oc (H.os 5)
    refine s_nil ⟨(H.pk [6, 7, 9, 10, 11]), ?_⟩
    refine t_q rfl (fun w' H => x_fa (a := Pq ac) (v := Pq ac) rfl (fa_blk (o := 0) Fd27_0 Sz23)) ?_
    refine t_l rfl ?_
    refine t_sw 8 0 [bY] bY H rfl rfl Sz23 (Sl.cells (rowSl rfl (H.get (k := 5) rfl) (roLe _ (H.get (k := 0) rfl)) bX)) rfl rfl (by simp only [List.all_cons, List.all_nil, Bool.true_and, Bool.and_true, Sl.oc (rowSl rfl (H.get (k := 5) rfl) (roLe _ (H.get (k := 0) rfl)) bX)]; try rfl) ?_
    intro ia H
    refine s_nil ⟨(H.pk [6, 7, 9, 10, 11]), ?_⟩
    refine t_nil ?_
    replace H := H.pk [0, 5, 6, 7, 8, 9, 10, 11]
    refine W.region rfl ?_
    refine zM (I (i : Int)) rfl ?_
    refine zR (i : Int) 1 ((i : Int) + 1) rfl rfl rfl (by omega) ?_
    refine zA (I ((i : Int) + 1)) rfl ?_
    refine s_nil ?_
    exact ⟨bj, bm, i + 1, l ++ ([(⟨((s_Sections.getD i default).place : Int), r4⟩ : Sect)]), bY, ai ++ ([aI]), au, _, upds_of _ _ ⟨rfl, rfl, rfl, rfl, trivial⟩, M.e_inl hM aT, (H.pk [1, 0, 3, 4, 5, 6, 7]), bX⟩
   skip
   refine s_val (x_bld (ps := [(0, I ((s_Sections.getD i default).place)), (1, aa)]) (zs := [I 0, .slice none 0 0]) (L' := [I ((s_Sections.getD i default).place), aa]) rfl Tryz.underlying68 Al68 rfl (Bd68 Tryz.underlying68) (.cons (cs := [I ((s_Sections.getD i default).place)]) rfl rfl rfl rfl rfl <| .cons (cs := [aa]) (Sl.cells (H.os 0)) rfl rfl rfl rfl <| .nil)) ?_
   refine s_nil ⟨(H.pk [2, 3, 5, 6, 7]), ?_⟩
   refine t_l2 rfl rfl ?_ ?_
   ·skip
    refine s_val (x_ld (p := Pq ac) (v := ak) rfl (ldb_sc Sc23 (H.bl 4) rfl)) ?_
    refine s_nil ⟨(H.pk [2, 3, 5, 6, 7]), ?_⟩
    refine t_l rfl ?_
    obtain ⟨az, H⟩ := H.emptyE
    obtain ⟨aA, H, dX⟩ := H.freezeE (k := 1) rfl
    replace H := H.nf
    have bt := dX
    obtain ⟨aq, H, ib, dY⟩ := H.joinE (i := 0) (j := 1) rfl rfl
    replace bt := bt.mono dY
    obtain ⟨aJ, cB⟩ : ∃ r : Raw 1, r.cs = [I ((s_Sections.getD i default).place), aa] := ⟨Raw.of [I ((s_Sections.getD i default).place), aa] rfl (by simp only [List.all_cons, List.all_nil, Bool.true_and, Bool.and_true, Sl.oc bt]; try rfl), rfl⟩
    have dZ : RepR (α := Sect) aq.cells [aJ] [(⟨((s_Sections.getD i default).place : Int), r4⟩ : Sect)] := .cons (by rw [cB]; exact ⟨_, rfl, bt⟩) <| .nil
    refine t_bs (α := Raw 1) T23 [.agg #[I ((s_Sections.getD i default).place), aa]] [aJ] H rfl (.cons (by rw [show (Flat.enc aJ : List Value) = aJ.cs from rfl, cB]; rfl) (Flat.rep_enc _ _) <| .nil) rfl rfl rfl ?_
    intro d2 ic H
    replace H := H.nf
    have ie := Sl.cells (H.os 0)
    have ig := Sl.oc (H.os 0)
    refine s_nil ⟨(H.pk [5, 6, 8, 9, 10]), ?_⟩
    refine t_l rfl ?_
    have bu := dZ
    obtain ⟨au, H, d3, d4⟩ := H.joinE (i := 5) (j := 1) rfl rfl
    replace ab := ab.mono d3
    replace bu := bu.mono d4
    have bZ := ab.app bu
    refine t_app (α := Raw 1) (k := 5) (l := ai) (l2 := [aJ]) (l' := ai ++ ([aJ])) (vy := d2) T23 rfl H rfl rfl rfl (H.os 1) (H.ol 1) (rfl) (by have a_ := ab.len; have b_ := bu.len; (try simp only [List.length_nil] at *); first | omega | (rw [a_, b_]; omega)) ?_
    intro b3 ii H
    replace H := H.nf
    have ij := Sl.cells (H.os 5)
    have ik := Sl.oc (H.os 5)
    refine s_nil ⟨(H.pk [6, 7, 9, 10, 11]), ?_⟩
    refine t_q rfl (fun w' H => x_fa (a := Pq ac) (v := Pq ac) rfl (fa_blk (o := 0) Fd27_0 Sz23)) ?_
    refine t_l rfl ?_
    refine t_sw 8 0 [b3] b3 H rfl rfl Sz23 (Sl.cells (rowSl rfl (H.get (k := 5) rfl) (roLe _ (H.get (k := 0) rfl)) bZ)) rfl rfl (by simp only [List.all_cons, List.all_nil, Bool.true_and, Bool.and_true, Sl.oc (rowSl rfl (H.get (k := 5) rfl) (roLe _ (H.get (k := 0) rfl)) bZ)]; try rfl) ?_
    intro il H
    refine s_nil ⟨(H.pk [6, 7, 9, 10, 11]), ?_⟩
    refine t_nil ?_
    replace H := H.pk [0, 5, 6, 7, 8, 9, 10, 11]
    refine W.region rfl ?_
    refine zM (I (i : Int)) rfl ?_
    refine zR (i : Int) 1 ((i : Int) + 1) rfl rfl rfl (by omega) ?_
    refine zA (I ((i : Int) + 1)) rfl ?_
    refine s_nil ?_
    exact ⟨bj, bm, i + 1, l ++ ([(⟨((s_Sections.getD i default).place : Int), r4⟩ : Sect)]), b3, ai ++ ([aJ]), au, _, upds_of _ _ ⟨rfl, rfl, rfl, rfl, trivial⟩, M.e_inl hM aT, (H.pk [1, 0, 3, 4, 5, 6, 7]), bZ⟩
   skip
   obtain ⟨az, H⟩ := H.emptyE
   obtain ⟨aA, H, d5⟩ := H.freezeE (k := 1) rfl
   replace H := H.nf
   have bv := d5
   obtain ⟨aq, H, im, d6⟩ := H.joinE (i := 0) (j := 1) rfl rfl
   replace bv := bv.mono d6
   obtain ⟨aK, cC⟩ : ∃ r : Raw 1, r.cs = [I ((s_Sections.getD i default).place), aa] := ⟨Raw.of [I ((s_Sections.getD i default).place), aa] rfl (by simp only [List.all_cons, List.all_nil, Bool.true_and, Bool.and_true, Sl.oc bv]; try rfl), rfl⟩
   have d7 : RepR (α := Sect) aq.cells [aK] [(⟨((s_Sections.getD i default).place : Int), r4⟩ : Sect)] := .cons (by rw [cC]; exact ⟨_, rfl, bv⟩) <| .nil
   refine t_bs (α := Raw 1) T23 [.agg #[I ((s_Sections.getD i default).place), aa]] [aK] H rfl (.cons (by rw [show (Flat.enc aK : List Value) = aK.cs from rfl, cC]; rfl) (Flat.rep_enc _ _) <| .nil) rfl rfl rfl ?_
   intro d8 io H
   replace H := H.nf
   have iq := Sl.cells (H.os 0)
   have ir := Sl.oc (H.os 0)
   refine s_nil ⟨(H.pk [5, 6, 8, 9, 10]), ?_⟩
   refine t_l rfl ?_
   refine s_val (x_ld (p := Pq ac) (v := ak) rfl (ldb_sc Sc23 (H.bl 7) rfl)) ?_
   refine s_nil ⟨(H.pk [5, 6, 8, 9, 10]), ?_⟩
   refine t_l rfl ?_
   have bw := d7
   obtain ⟨au, H, d9, ec⟩ := H.joinE (i := 5) (j := 1) rfl rfl
   replace ab := ab.mono d9
   replace bw := bw.mono ec
   have b4 := ab.app bw
   refine t_app (α := Raw 1) (k := 5) (l := ai) (l2 := [aK]) (l' := ai ++ ([aK])) (vy := d8) T23 rfl H rfl rfl rfl (H.os 1) (H.ol 1) (rfl) (by have a_ := ab.len; have b_ := bw.len; (try simp only [List.length_nil] at *); first | omega | (rw [a_, b_]; omega)) ?_
   intro b5 iw H
   replace H := H.nf
   have iy := Sl.cells (H.os 5)
   have iz := Sl.oc (H.os 5)
   refine s_nil ⟨(H.pk [6, 7, 9, 10, 11]), ?_⟩
   refine t_q rfl (fun w' H => x_fa (a := Pq ac) (v := Pq ac) rfl (fa_blk (o := 0) Fd27_0 Sz23)) ?_
   refine t_l rfl ?_
   refine t_sw 8 0 [b5] b5 H rfl rfl Sz23 (Sl.cells (rowSl rfl (H.get (k := 5) rfl) (roLe _ (H.get (k := 0) rfl)) b4)) rfl rfl (by simp only [List.all_cons, List.all_nil, Bool.true_and, Bool.and_true, Sl.oc (rowSl rfl (H.get (k := 5) rfl) (roLe _ (H.get (k := 0) rfl)) b4)]; try rfl) ?_
   intro iA H
   refine s_nil ⟨(H.pk [6, 7, 9, 10, 11]), ?_⟩
   refine t_nil ?_
   replace H := H.pk [0, 5, 6, 7, 8, 9, 10, 11]
   refine W.region rfl ?_
   refine zM (I (i : Int)) rfl ?_
   refine zR (i : Int) 1 ((i : Int) + 1) rfl rfl rfl (by omega) ?_
   refine zA (I ((i : Int) + 1)) rfl ?_
   refine s_nil ?_
   exact ⟨bj, bm, i + 1, l ++ ([(⟨((s_Sections.getD i default).place : Int), r4⟩ : Sect)]), b5, ai ++ ([aK]), au, _, upds_of _ _ ⟨rfl, rfl, rfl, rfl, trivial⟩, M.e_inl hM aT, (H.pk [1, 0, 3, 4, 5, 6, 7]), b4⟩
  replace hM := M.e_f hM aU
  simp only [qy1, qy2, qy3, qy4, qy5, qy6, ne_eq, qy7] at aU
  refine W.exit ?_
  have ed := M.e_inr hM aT
  subst ed
  replace hM := dC
  try dsimp only at hM
  refine W.seq ?_
  refine W.region rfl ?_
  refine s_val (x_ld (p := Pq ac) (v := .agg #[ak, aj, ag]) rfl (ldb_ag (ds := [ak, aj, ag]) Ag27 Sz27 (H.bl 3) rfl rfl)) ?_
  refine t_sw 5 0 [ak, aj, ag] (.agg #[ak, aj, ag]) H rfl rfl Sz27 rfl rfl rfl (by simp only [List.all_cons, List.all_nil, Bool.true_and, Bool.and_true, Sl.oc (rowSl rfl (H.get (k := 0) rfl) (roLe _ (H.get (k := 1) rfl)) ab), Sl.oc (H.os 4), Sl.oc (H.os 2)]; try rfl) ?_
  intro iB H
  refine s_nil ?_
  replace H := H.pk [0, 1, 2, 4, 5]
  refine W.ret ?_
  have ef := (H.bl 4)
  have aS := M.e_pure hM
  exact ⟨_, (resE_of1 (v := .agg #[ak, aj, ag]) rfl (.cell (v := .agg #[ak, aj, ag]) rfl (run_loadVar_ag (ds := [ak, aj, ag]) Ag27 Sz27 ef rfl rfl) <| .nil)), ⟨l, r2, r3, ak, ai, B_l, aj, ag, aS, rfl, (H.pk [0, 1, 3, 2]), ab⟩⟩
 skip
 refine t_alloc (cs := [.slice none 0 0, .slice none 0 0, .slice none 0 0]) H Al27 rfl ?_
 intro ac iC H
 refine s_nil ⟨(H.pk [1, 2]), ?_⟩
 refine t_l rfl ?_
 obtain ⟨iD, eg, hM⟩ := M.e_bind hM
 refine s_call cf62 [aw] rfl (zcC s_Marks (cn.app _) co eg _ (H.gt 3)) ?_
 rintro vq iE ⟨r2, aj, ei, hvq, ao⟩
 subst ei
 subst vq
 try dsimp only at hM
 replace H := H.bk ao
 clear ao
 have ej := Sl.cells (H.os 0)
 have iF := Sl.oc (H.os 0)
 refine s_nil ⟨(H.pk [2, 3]), ?_⟩
 refine t_l rfl ?_
 obtain ⟨iG, ek, hM⟩ := M.e_bind hM
 refine s_call cf63 [av] rfl (zcc s_Reaches (bJ.app _) bK ek _ (H.gt 4)) ?_
 rintro vq iH ⟨r3, ag, em, hvq, ao⟩
 subst em
 subst vq
 try dsimp only at hM
 replace H := H.bk ao
 clear ao
 have eo := Sl.cells (H.os 0)
 have iI := Sl.oc (H.os 0)
 refine s_nil ⟨(H.pk [3, 4]), ?_⟩
 refine t_q rfl (fun w' H => x_bld (ps := [(1, aj), (2, ag)]) (zs := [.slice none 0 0, .slice none 0 0, .slice none 0 0]) (L' := [.slice none 0 0, aj, ag]) rfl Tryz.underlying27 Al27 rfl (Bd27 Tryz.underlying27) (.cons (cs := [aj]) ej rfl rfl rfl rfl <| .cons (cs := [ag]) eo rfl rfl rfl rfl <| .nil)) ?_
 refine t_l rfl ?_
 refine t_sw 2 0 [.slice none 0 0, aj, ag] (.agg #[.slice none 0 0, aj, ag]) H rfl rfl Sz27 rfl rfl rfl (by simp only [List.all_cons, List.all_nil, Bool.true_and, Bool.and_true, Sl.oc (H.os 1), Sl.oc (H.os 0)]; try rfl) ?_
 intro iJ H
 refine s_nil ⟨(H.pk [3, 4]), ?_⟩
 refine t_nil ?_
 refine W.seq ?_
 refine W.seq ?_
 refine W.region rfl ?_
 refine zA (I 0) rfl ?_
 refine s_nil ?_
 refine W.block ?_
 obtain ⟨aC, H⟩ := H.emptyE
 replace H := H.nilOwn (α := Raw 1) 68
 have ep : RepR (α := Sect) (n := 1) aC.cells [] [] := .nil
 obtain ⟨eq, b6, er⟩ := M.e_bind hM
 obtain ⟨cr, b6⟩ := M.e_iter b6
 refine W.loop (fun m σ W => ∃ (i : Nat) (l : List Sect) (ak : Value) (ai : List (Raw 1)) (B_l : Base) (ρ : Env), σ = upds ρ [(1, Pq am), (2, Pq aB), (3, Pq ac), (4, I (i : Int))] /\ M.iterN (zam s_Sections) m (i, l) = some eq /\ St w W [cOwn (α := Raw 1) 68 ak ai, cRo B_l, cOwn (α := Rch) 58 ag r3, cOwn (α := Mrk) 70 aj r2, cBlk ac [ak, aj, ag] 27, cBlk aB [.slice none 0 0, .slice none 0 0, .slice none 0 0] 27, cBlk am [ae, aw, av] 27] R /\ RepR (α := Sect) B_l.cells ai l) ?_ ?_
 ·exact ⟨_, 0, [], (.slice none 0 0), [], aC, _, upds_of _ _ ⟨rfl, rfl, rfl, rfl, trivial⟩, b6, H, ep⟩
 rintro iK σ iL ⟨i, l, ak, ai, B_l, ρ, rfl, cD, H, ab⟩
 obtain ⟨bx, bz, iM, hM, aW⟩ := M.e_iterN cD
 simp only [zam] at hM
 clear cD
 refine W.seq ?_
 refine W.seq ?_
 refine W.region rfl ?_
 refine zM (I (i : Int)) rfl ?_
 refine s_val (x_fa (a := Pq am) (v := Pq am) rfl (fa_blk (o := 0) Fd27_0 Sz23)) ?_
 refine s_val (x_ld (p := Pq am) (v := ae) rfl (ldb_sc Sc23 (H.bl 6) rfl)) ?_
 have iN := (ap).len_le
 refine s_val (x_lenS T23.und rfl ap) ?_
 refine zC (i : Int) (s_Sections.length : Int) (decide ((i : Int) < (s_Sections.length : Int))) rfl rfl rfl ?_
 refine s_nil ?_
 refine W.cond (decide ((i : Int) < (s_Sections.length : Int))) rfl (fun aX => ?_) (fun aX => ?_)
 ·replace hM := M.e_t hM aX
  simp only [qy1, qy2, qy3, qy4, qy5, qy6, ne_eq, qy7] at aX
  refine W.skip ?_
  refine W.seq ?_
  refine W.block ?_
  refine W.drawT (fun W => St w W [cRo B_l, cOwn (α := Rch) 58 ag r3, cOwn (α := Mrk) 70 aj r2, cBlk aB [.slice none 0 0, .slice none 0 0, .slice none 0 0] 27, cBlk am [ae, aw, av] 27] R) (.q 0 (.q 2 (.q 3 (.q 4 (.q 5 (.q 6 (.q 7 (.q 8 (.q 9 (.q 10 (.q 11 (.q 12 (.q 13 (.l2 1 (.l 14 (.l 15 (.l 16 (.l 17 (.q 18 (.l 19 .nil)))))) 14 (.l2 1 (.l 15 (.l 16 (.l 17 (.q 18 (.l 19 .nil))))) 15 (.l2 1 (.l 16 (.l 17 (.q 18 (.l 19 .nil)))) 16 (.l 1 (.l 17 (.q 18 (.l 19 .nil)))))))))))))))))))) mixed (by decide +kernel) rfl ?_
  intro iO ay
  replace H := H.ext ay
  clear ay
  refine ⟨(H.pk [1, 2, 3, 5, 6]), ?_⟩
  refine t_q rfl (fun w' H => x_fa (a := Pq ac) (v := Pq ac) rfl (fa_blk (o := 0) Fd27_0 Sz23)) ?_
  refine t_q rfl (fun w' H => x_fa (a := Pq am) (v := Pq am) rfl (fa_blk (o := 0) Fd27_0 Sz23)) ?_
  refine t_q rfl (fun w' H => x_ld (p := Pq am) (v := ae) rfl (ldb_sc Sc23 (H.bl 4) rfl)) ?_
  refine t_q rfl (fun w' H => x_mv (v := I (i : Int)) rfl) ?_
  obtain ⟨ew, hM⟩ := M.e_grd hM
  simp only [Bool.and_eq_true, decide_eq_true_eq] at ew
  refine t_q rfl (fun w' H => x_ix (a := ae) (b := I (i : Int)) (v := vat ae 2 (Int.toNat (i : Int))) rfl rfl (Sl.ix (α := Sect) T23.und T23.size ap (by omega) (by omega))) ?_
  refine t_q rfl (fun w' H => x_fa (a := vat ae 2 (Int.toNat (i : Int))) (v := fat (vat ae 2 (Int.toNat (i : Int))) 0) rfl (fa_pl Fd68_0 Sz3 (Sl.pl (i := (i : Int)) ap (by omega) (by omega)))) ?_
  refine t_q rfl (fun w' H => x_ld (p := fat (vat ae 2 (Int.toNat (i : Int))) 0) (v := I ((s_Sections.getD i default).place)) rfl (ld_sc Sc3 (At.mono (Sect_at0 ap (i := (i : Int)) (by omega) (by omega)) (ax.at H)))) ?_
  refine t_q rfl (fun w' H => x_fa (a := Pq am) (v := Pq am) rfl (fa_blk (o := 0) Fd27_0 Sz23)) ?_
  refine t_q rfl (fun w' H => x_ld (p := Pq am) (v := ae) rfl (ldb_sc Sc23 (H.bl 4) rfl)) ?_
  refine t_q rfl (fun w' H => x_mv (v := I (i : Int)) rfl) ?_
  refine t_q rfl (fun w' H => x_ix (a := ae) (b := I (i : Int)) (v := vat ae 2 (Int.toNat (i : Int))) rfl rfl (Sl.ix (α := Sect) T23.und T23.size ap (by omega) (by omega))) ?_
  refine t_q rfl (fun w' H => x_fa (a := vat ae 2 (Int.toNat (i : Int))) (v := fat (vat ae 2 (Int.toNat (i : Int))) 1) rfl (fa_pl Fd68_1 Sz66 (Sl.pl (i := (i : Int)) ap (by omega) (by omega)))) ?_
  obtain ⟨bA, ey, aY⟩ := Sect_at1 ap (i := (i : Int)) (by omega) (by omega)
  replace aY : Sl _ bA (s_Sections.getD i default).rows := aY
  have iP := aY.len_le
  refine t_q rfl (fun w' H => x_ld (p := fat (vat ae 2 (Int.toNat (i : Int))) 1) (v := bA) rfl (ld_sc Sc66 (At.mono (ey) (ax.at H)))) ?_
  refine t_l2 rfl rfl ?_ ?_
  ·skip
   refine s_val (x_ld (p := Pq ac) (v := ak) rfl (ldb_sc Sc23 (H.bl 4) rfl)) ?_
   have iQ := Sl.cells (H.os 0)
   have iR := Sl.oc (H.os 0)
   refine s_nil ⟨(H.pk [1, 2, 3, 5, 6]), ?_⟩
   refine t_l rfl ?_
   obtain ⟨iS, ez, hM⟩ := M.e_bind hM
   refine s_call cf64 [bA] rfl (zaE ((s_Sections.getD i default).rows) (ax.app _) aY ez _ (H.gt 7)) ?_
   rintro vq iT ⟨r4, aa, eA, hvq, ao⟩
   subst eA
   subst vq
   try dsimp only at hM
   replace H := H.bk ao
   clear ao
   have iU := Sl.cells (H.os 0)
   have iV := Sl.oc (H.os 0)
   refine s_nil ⟨(H.pk [2, 3, 4, 6, 7]), ?_⟩
   refine t_l rfl ?_
   refine s_val (x_bld (ps := [(0, I ((s_Sections.getD i default).place)), (1, aa)]) (zs := [I 0, .slice none 0 0]) (L' := [I ((s_Sections.getD i default).place), aa]) rfl Tryz.underlying68 Al68 rfl (Bd68 Tryz.underlying68) (.cons (cs := [I ((s_Sections.getD i default).place)]) rfl rfl rfl rfl rfl <| .cons (cs := [aa]) (Sl.cells (H.os 0)) rfl rfl rfl rfl <| .nil)) ?_
   refine s_nil ⟨(H.pk [2, 3, 4, 6, 7]), ?_⟩
   refine t_l rfl ?_
   obtain ⟨az, H⟩ := H.emptyE
   obtain ⟨aA, H, eB⟩ := H.freezeE (k := 1) rfl
   replace H := H.nf
   have bB := eB
   obtain ⟨aq, H, iW, eC⟩ := H.joinE (i := 0) (j := 1) rfl rfl
   replace bB := bB.mono eC
   obtain ⟨aL, cE⟩ : ∃ r : Raw 1, r.cs = [I ((s_Sections.getD i default).place), aa] := ⟨Raw.of [I ((s_Sections.getD i default).place), aa] rfl (by simp only [List.all_cons, List.all_nil, Bool.true_and, Bool.and_true, Sl.oc bB]; try rfl), rfl⟩
   have eD : RepR (α := Sect) aq.cells [aL] [(⟨((s_Sections.getD i default).place : Int), r4⟩ : Sect)] := .cons (by rw [cE]; exact ⟨_, rfl, bB⟩) <| .nil
   refine t_bs (α := Raw 1) T23 [.agg #[I ((s_Sections.getD i default).place), aa]] [aL] H rfl (.cons (by rw [show (Flat.enc aL : List Value) = aL.cs from rfl, cE]; rfl) (Flat.rep_enc _ _) <| .nil) rfl rfl rfl ?_
   intro eE iX H
   replace H := H.nf
   have iY := Sl.cells (H.os 0)
   have iZ := Sl.oc (H.os 0)
   refine s_nil ⟨(H.pk [5, 6, 7, 9, 10]), ?_⟩
   refine t_l rfl ?_
   obtain ⟨eF, hM⟩ := M.e_grd hM
   simp only [Bool.and_eq_true, decide_eq_true_eq] at eF
   have bC := eD
   obtain ⟨au, H, eG, eH⟩ := H.joinE (i := 5) (j := 1) rfl rfl
   replace ab := ab.mono eG
   replace bC := bC.mono eH
   have b7 := ab.app bC
   refine t_app (α := Raw 1) (k := 5) (l := ai) (l2 := [aL]) (l' := ai ++ ([aL])) (vy := eE) T23 rfl H rfl rfl rfl (H.os 1) (H.ol 1) (rfl) (by have a_ := ab.len; have b_ := bC.len; (try simp only [List.length_nil] at *); first | omega | (rw [a_, b_]; omega)) ?_
   intro b8 i0 H
   replace H := H.nf
   have i6 := Sl.cells (H.os 5)
   have i7 := Sl.oc (H.os 5)
   refine s_nil ⟨(H.pk [6, 7, 8, 10, 11]), ?_⟩
   refine t_q rfl (fun w' H => x_fa (a := Pq ac) (v := Pq ac) rfl (fa_blk (o := 0) Fd27_0 Sz23)) ?_
   refine t_l rfl ?_
   refine t_sw 9 0 [b8] b8 H rfl rfl Sz23 (Sl.cells (rowSl rfl (H.get (k := 5) rfl) (roLe _ (H.get (k := 0) rfl)) b7)) rfl rfl (by simp only [List.all_cons, List.all_nil, Bool.true_and, Bool.and_true, Sl.oc (rowSl rfl (H.get (k := 5) rfl) (roLe _ (H.get (k := 0) rfl)) b7)]; try rfl) ?_
   intro i8 H
   refine s_nil ⟨(H.pk [6, 7, 8, 10, 11]), ?_⟩
   refine t_nil ?_
   replace H := H.pk [0, 5, 6, 7, 8, 9, 10, 11]
   refine W.region rfl ?_
   refine zM (I (i : Int)) rfl ?_
   refine zR (i : Int) 1 ((i : Int) + 1) rfl rfl rfl (by omega) ?_
   refine zA (I ((i : Int) + 1)) rfl ?_
   refine s_nil ?_
   exact ⟨bx, bz, i + 1, l ++ ([(⟨((s_Sections.getD i default).place : Int), r4⟩ : Sect)]), b8, ai ++ ([aL]), au, _, upds_of _ _ ⟨rfl, rfl, rfl, rfl, trivial⟩, M.e_inl hM aW, (H.pk [1, 0, 3, 4, 5, 6, 7]), b7⟩
  skip
  obtain ⟨i9, eI, hM⟩ := M.e_bind hM
  refine s_call cf64 [bA] rfl (zaE ((s_Sections.getD i default).rows) (ax.app _) aY eI _ (H.gt 7)) ?_
  rintro vq ja ⟨r4, aa, eJ, hvq, ao⟩
  subst eJ
  subst vq
  try dsimp only at hM
  replace H := H.bk ao
  clear ao
  have jb := Sl.cells (H.os 0)
  have jc := Sl.oc (H.os 0)
  have jd := Sl.cells (H.os 1)
  have je := Sl.oc (H.os 1)
  refine s_nil ⟨(H.pk [2, 3, 4, 6, 7]), ?_⟩
  obtain ⟨eK, hM⟩ := M.e_grd hM
  simp only [Bool.and_eq_true, decide_eq_true_eq] at eK
  refine t_l2 rfl rfl ?_ ?_
  ·skip
   refine s_val (x_ld (p := Pq ac) (v := ak) rfl (ldb_sc Sc23 (H.bl 5) rfl)) ?_
   refine s_nil ⟨(H.pk [2, 3, 4, 6, 7]), ?_⟩
   refine t_l rfl ?_
   refine s_val (x_bld (ps := [(0, I ((s_Sections.getD i default).place)), (1, aa)]) (zs := [I 0, .slice none 0 0]) (L' := [I ((s_Sections.getD i default).place), aa]) rfl Tryz.underlying68 Al68 rfl (Bd68 Tryz.underlying68) (.cons (cs := [I ((s_Sections.getD i default).place)]) rfl rfl rfl rfl rfl <| .cons (cs := [aa]) (Sl.cells (H.os 0)) rfl rfl rfl rfl <| .nil)) ?_
   refine s_nil ⟨(H.pk [2, 3, 4, 6, 7]), ?_⟩
   refine t_l rfl ?_
   obtain ⟨az, H⟩ := H.emptyE
   obtain ⟨aA, H, eL⟩ := H.freezeE (k := 1) rfl
   replace H := H.nf
   have bD := eL
   obtain ⟨aq, H, jf, eM⟩ := H.joinE (i := 0) (j := 1) rfl rfl
   replace bD := bD.mono eM
   obtain ⟨aM, cF⟩ : ∃ r : Raw 1, r.cs = [I ((s_Sections.getD i default).place), aa] := ⟨Raw.of [I ((s_Sections.getD i default).place), aa] rfl (by simp only [List.all_cons, List.all_nil, Bool.true_and, Bool.and_true, Sl.oc bD]; try rfl), rfl⟩
   have eN : RepR (α := Sect) aq.cells [aM] [(⟨((s_Sections.getD i default).place : Int), r4⟩ : Sect)] := .cons (by rw [cF]; exact ⟨_, rfl, bD⟩) <| .nil
   refine t_bs (α := Raw 1) T23 [.agg #[I ((s_Sections.getD i default).place), aa]] [aM] H rfl (.cons (by rw [show (Flat.enc aM : List Value) = aM.cs from rfl, cF]; rfl) (Flat.rep_enc _ _) <| .nil) rfl rfl rfl ?_
   intro eO jg H
   replace H := H.nf
   have jh := Sl.cells (H.os 0)
   have ji := Sl.oc (H.os 0)
   refine s_nil ⟨(H.pk [5, 6, 7, 9, 10]), ?_⟩
   refine t_l rfl ?_
   have bE := eN
   obtain ⟨au, H, eP, eQ⟩ := H.joinE (i := 5) (j := 1) rfl rfl
   replace ab := ab.mono eP
   replace bE := bE.mono eQ
   have b9 := ab.app bE
   refine t_app (α := Raw 1) (k := 5) (l := ai) (l2 := [aM]) (l' := ai ++ ([aM])) (vy := eO) T23 rfl H rfl rfl rfl (H.os 1) (H.ol 1) (rfl) (by have a_ := ab.len; have b_ := bE.len; (try simp only [List.length_nil] at *); first | omega | (rw [a_, b_]; omega)) ?_
   intro cb jj H
   replace H := H.nf
   have jk := Sl.cells (H.os 5)
   have jl := Sl.oc (H.os 5)
   refine s_nil ⟨(H.pk [6, 7, 8, 10, 11]), ?_⟩
   refine t_q rfl (fun w' H => x_fa (a := Pq ac) (v := Pq ac) rfl (fa_blk (o := 0) Fd27_0 Sz23)) ?_
   refine t_l rfl ?_
   refine t_sw 9 0 [cb] cb H rfl rfl Sz23 (Sl.cells (rowSl rfl (H.get (k := 5) rfl) (roLe _ (H.get (k := 0) rfl)) b9)) rfl rfl (by simp only [List.all_cons, List.all_nil, Bool.true_and, Bool.and_true, Sl.oc (rowSl rfl (H.get (k := 5) rfl) (roLe _ (H.get (k := 0) rfl)) b9)]; try rfl) ?_
   intro jm H
   refine s_nil ⟨(H.pk [6, 7, 8, 10, 11]), ?_⟩
   refine t_nil ?_
   replace H := H.pk [0, 5, 6, 7, 8, 9, 10, 11]
   refine W.region rfl ?_
   refine zM (I (i : Int)) rfl ?_
   refine zR (i : Int) 1 ((i : Int) + 1) rfl rfl rfl (by omega) ?_
   refine zA (I ((i : Int) + 1)) rfl ?_
   refine s_nil ?_
   exact ⟨bx, bz, i + 1, l ++ ([(⟨((s_Sections.getD i default).place : Int), r4⟩ : Sect)]), cb, ai ++ ([aM]), au, _, upds_of _ _ ⟨rfl, rfl, rfl, rfl, trivial⟩, M.e_inl hM aW, (H.pk [1, 0, 3, 4, 5, 6, 7]), b9⟩
  skip
  refine s_val (x_bld (ps := [(0, I ((s_Sections.getD i default).place)), (1, aa)]) (zs := [I 0, .slice none 0 0]) (L' := [I ((s_Sections.getD i default).place), aa]) rfl Tryz.underlying68 Al68 rfl (Bd68 Tryz.underlying68) (.cons (cs := [I ((s_Sections.getD i default).place)]) rfl rfl rfl rfl rfl <| .cons (cs := [aa]) (Sl.cells (H.os 0)) rfl rfl rfl rfl <| .nil)) ?_
  refine s_nil ⟨(H.pk [2, 3, 4, 6, 7]), ?_⟩
  refine t_l2 rfl rfl ?_ ?_
  ·skip
   refine s_val (x_ld (p := Pq ac) (v := ak) rfl (ldb_sc Sc23 (H.bl 5) rfl)) ?_
   refine s_nil ⟨(H.pk [2, 3, 4, 6, 7]), ?_⟩
   refine t_l rfl ?_
   obtain ⟨az, H⟩ := H.emptyE
   obtain ⟨aA, H, eR⟩ := H.freezeE (k := 1) rfl
   replace H := H.nf
   have bF := eR
   obtain ⟨aq, H, jn, eS⟩ := H.joinE (i := 0) (j := 1) rfl rfl
   replace bF := bF.mono eS
   obtain ⟨aN, cG⟩ : ∃ r : Raw 1, r.cs = [I ((s_Sections.getD i default).place), aa] := ⟨Raw.of [I ((s_Sections.getD i default).place), aa] rfl (by simp only [List.all_cons, List.all_nil, Bool.true_and, Bool.and_true, Sl.oc bF]; try rfl), rfl⟩
   have eT : RepR (α := Sect) aq.cells [aN] [(⟨((s_Sections.getD i default).place : Int), r4⟩ : Sect)] := .cons (by rw [cG]; exact ⟨_, rfl, bF⟩) <| .nil
   refine t_bs (α := Raw 1) T23 [.agg #[I ((s_Sections.getD i default).place), aa]] [aN] H rfl (.cons (by rw [show (Flat.enc aN : List Value) = aN.cs from rfl, cG]; rfl) (Flat.rep_enc _ _) <| .nil) rfl rfl rfl ?_
   intro eU jo H
   replace H := H.nf
   have jp := Sl.cells (H.os 0)
   have jq := Sl.oc (H.os 0)
   refine s_nil ⟨(H.pk [5, 6, 7, 9, 10]), ?_⟩
   refine t_l rfl ?_
   have bG := eT
   obtain ⟨au, H, eV, eW⟩ := H.joinE (i := 5) (j := 1) rfl rfl
   replace ab := ab.mono eV
   replace bG := bG.mono eW
   have cc := ab.app bG
   refine t_app (α := Raw 1) (k := 5) (l := ai) (l2 := [aN]) (l' := ai ++ ([aN])) (vy := eU) T23 rfl H rfl rfl rfl (H.os 1) (H.ol 1) (rfl) (by have a_ := ab.len; have b_ := bG.len; (try simp only [List.length_nil] at *); first | omega | (rw [a_, b_]; omega)) ?_
   intro cd jr H
   replace H := H.nf
   have js := Sl.cells (H.os 5)
   have jt := Sl.oc (H.os 5)
   refine s_nil ⟨(H.pk [6, 7, 8, 10, 11]), ?_⟩
   refine t_q rfl (fun w' H => x_fa (a := Pq ac) (v := Pq ac) rfl (fa_blk (o := 0) Fd27_0 Sz23)) ?_
   refine t_l rfl ?_
   refine t_sw 9 0 [cd] cd H rfl rfl Sz23 (Sl.cells (rowSl rfl (H.get (k := 5) rfl) (roLe _ (H.get (k := 0) rfl)) cc)) rfl rfl (by simp only [List.all_cons, List.all_nil, Bool.true_and, Bool.and_true, Sl.oc (rowSl rfl (H.get (k := 5) rfl) (roLe _ (H.get (k := 0) rfl)) cc)]; try rfl) ?_
   intro ju H
   refine s_nil ⟨(H.pk [6, 7, 8, 10, 11]), ?_⟩
   refine t_nil ?_
   replace H := H.pk [0, 5, 6, 7, 8, 9, 10, 11]
   refine W.region rfl ?_
   refine zM (I (i : Int)) rfl ?_
   refine zR (i : Int) 1 ((i : Int) + 1) rfl rfl rfl (by omega) ?_
   refine zA (I ((i : Int) + 1)) rfl ?_
   refine s_nil ?_
   exact ⟨bx, bz, i + 1, l ++ ([(⟨((s_Sections.getD i default).place : Int), r4⟩ : Sect)]), cd, ai ++ ([aN]), au, _, upds_of _ _ ⟨rfl, rfl, rfl, rfl, trivial⟩, M.e_inl hM aW, (H.pk [1, 0, 3, 4, 5, 6, 7]), cc⟩
  skip
  obtain ⟨az, H⟩ := H.emptyE
  obtain ⟨aA, H, eX⟩ := H.freezeE (k := 1) rfl
  replace H := H.nf
  have bH := eX
  obtain ⟨aq, H, jv, eY⟩ := H.joinE (i := 0) (j := 1) rfl rfl
  replace bH := bH.mono eY
  obtain ⟨aO, cH⟩ : ∃ r : Raw 1, r.cs = [I ((s_Sections.getD i default).place), aa] := ⟨Raw.of [I ((s_Sections.getD i default).place), aa] rfl (by simp only [List.all_cons, List.all_nil, Bool.true_and, Bool.and_true, Sl.oc bH]; try rfl), rfl⟩
  have eZ : RepR (α := Sect) aq.cells [aO] [(⟨((s_Sections.getD i default).place : Int), r4⟩ : Sect)] := .cons (by rw [cH]; exact ⟨_, rfl, bH⟩) <| .nil
  refine t_bs (α := Raw 1) T23 [.agg #[I ((s_Sections.getD i default).place), aa]] [aO] H rfl (.cons (by rw [show (Flat.enc aO : List Value) = aO.cs from rfl, cH]; rfl) (Flat.rep_enc _ _) <| .nil) rfl rfl rfl ?_
  intro e4 jw H
  replace H := H.nf
  have jx := Sl.cells (H.os 0)
  have jy := Sl.oc (H.os 0)
  refine s_nil ⟨(H.pk [5, 6, 7, 9, 10]), ?_⟩
  refine t_l rfl ?_
  refine s_val (x_ld (p := Pq ac) (v := ak) rfl (ldb_sc Sc23 (H.bl 8) rfl)) ?_
  refine s_nil ⟨(H.pk [5, 6, 7, 9, 10]), ?_⟩
  refine t_l rfl ?_
  have bI := eZ
  obtain ⟨au, H, e5, e6⟩ := H.joinE (i := 5) (j := 1) rfl rfl
  replace ab := ab.mono e5
  replace bI := bI.mono e6
  have ce := ab.app bI
  refine t_app (α := Raw 1) (k := 5) (l := ai) (l2 := [aO]) (l' := ai ++ ([aO])) (vy := e4) T23 rfl H rfl rfl rfl (H.os 1) (H.ol 1) (rfl) (by have a_ := ab.len; have b_ := bI.len; (try simp only [List.length_nil] at *); first | omega | (rw [a_, b_]; omega)) ?_
  intro cf jz H
  replace H := H.nf
  have jA := Sl.cells (H.os 5)
  have jB := Sl.oc (H.os 5)
  refine s_nil ⟨(H.pk [6, 7, 8, 10, 11]), ?_⟩
  refine t_q rfl (fun w' H => x_fa (a := Pq ac) (v := Pq ac) rfl (fa_blk (o := 0) Fd27_0 Sz23)) ?_
  refine t_l rfl ?_
  refine t_sw 9 0 [cf] cf H rfl rfl Sz23 (Sl.cells (rowSl rfl (H.get (k := 5) rfl) (roLe _ (H.get (k := 0) rfl)) ce)) rfl rfl (by simp only [List.all_cons, List.all_nil, Bool.true_and, Bool.and_true, Sl.oc (rowSl rfl (H.get (k := 5) rfl) (roLe _ (H.get (k := 0) rfl)) ce)]; try rfl) ?_
  intro jC H
  refine s_nil ⟨(H.pk [6, 7, 8, 10, 11]), ?_⟩
  refine t_nil ?_
  replace H := H.pk [0, 5, 6, 7, 8, 9, 10, 11]
  refine W.region rfl ?_
  refine zM (I (i : Int)) rfl ?_
  refine zR (i : Int) 1 ((i : Int) + 1) rfl rfl rfl (by omega) ?_
  refine zA (I ((i : Int) + 1)) rfl ?_
  refine s_nil ?_
  exact ⟨bx, bz, i + 1, l ++ ([(⟨((s_Sections.getD i default).place : Int), r4⟩ : Sect)]), cf, ai ++ ([aO]), au, _, upds_of _ _ ⟨rfl, rfl, rfl, rfl, trivial⟩, M.e_inl hM aW, (H.pk [1, 0, 3, 4, 5, 6, 7]), ce⟩
 replace hM := M.e_f hM aX
 simp only [qy1, qy2, qy3, qy4, qy5, qy6, ne_eq, qy7] at aX
 refine W.exit ?_
 have e7 := M.e_inr hM aW
 subst e7
 replace hM := er
 try dsimp only at hM
 refine W.seq ?_
 refine W.region rfl ?_
 refine s_val (x_ld (p := Pq ac) (v := .agg #[ak, aj, ag]) rfl (ldb_ag (ds := [ak, aj, ag]) Ag27 Sz27 (H.bl 4) rfl rfl)) ?_
 refine t_sw 5 0 [ak, aj, ag] (.agg #[ak, aj, ag]) H rfl rfl Sz27 rfl rfl rfl (by simp only [List.all_cons, List.all_nil, Bool.true_and, Bool.and_true, Sl.oc (rowSl rfl (H.get (k := 0) rfl) (roLe _ (H.get (k := 1) rfl)) ab), Sl.oc (H.os 3), Sl.oc (H.os 2)]; try rfl) ?_
 intro jD H
 refine s_nil ?_
 replace H := H.pk [0, 1, 2, 3, 5]
 refine W.ret ?_
 have e8 := (H.bl 4)
 have aS := M.e_pure hM
 exact ⟨_, (resE_of1 (v := .agg #[ak, aj, ag]) rfl (.cell (v := .agg #[ak, aj, ag]) rfl (run_loadVar_ag (ds := [ak, aj, ag]) Ag27 Sz27 e8 rfl rfl) <| .nil)), ⟨l, r2, r3, ak, ai, B_l, aj, ag, aS, rfl, (H.pk [0, 1, 3, 2]), ab⟩⟩

end Go.Proofs.YtlemgioaakecpaaGreat
end
section
set_option maxRecDepth 100000
set_option maxHeartbeats 16000000
namespace Go.Proofs.YtlemgioaakecpaaGreat
open Go Go.Nm
def zaG (tries : List UInt8) (ac : List Mrk) : (Int × Int × Nat × (List Int)) -> M ((Int × Int × Nat × (List Int)) ⊕ (Int × Int × (List Int) × (List Int))) := fun (s, s2, i, l) =>
  bif decide ((i : Int) < (ac.length : Int)) then (
  M.bind (zab tries s s2 2) fun (r3, aa, ab) =>
  bif r3 == 0 then (
  M.grd (decide ((l.length + ([(i : Int)]).length) * 8 <= 140737488355328)) <|
  M.pure (.inl (aa, ab, i + 1, l ++ ([(i : Int)]))))
  else (
  M.pure (.inl (aa, ab, i + 1, l))))
  else (
  M.pure (.inr (s, s2, l, l)))
def zag (tries : List UInt8) (ac : List Sect) (ae : List Mrk) (ag : List Rch) (r0 : List Int) (n : Nat) (l4 : List (List Int)) (s5 : Int) (s6 : Int) : M ((Int × Int × Nat) ⊕ ((Int × Int) ⊕ (Int × Int))) :=
  M.grd (decide ((-9223372036854775808 : Int) <= ((r0.length : Int) + 1)) && decide (((r0.length : Int) + 1) <= (9223372036854775807 : Int))) <|
  M.bind (zab tries s5 s6 ((r0.length : Int) + 1)) fun (r9, aa, ab) =>
  M.bind (zas ac ae ag r9 l4) fun (ai, aj) =>
  bif ((aj != 0) || (ai && (decide (r9 < (r0.length : Int))))) then (
  M.pure (.inr (.inl (aa, ab))))
  else (
  M.pure (.inl (aa, ab, n + 1)))
def zaA (tries : List UInt8) (ab : List Sect) (aa : List Mrk) (ac : List Rch) (r0 : List Int) (ap : List (List Int)) : (Int × Int × Nat) -> M ((Int × Int × Nat) ⊕ ((Int × Int) ⊕ (Int × Int))) := fun (s7, s8, n) =>
  bif decide ((n : Int) < 6) then (
  M.bind (M.iter (zaG tries aa) (s7, s8, 0, [])) fun (s3, s4, l2, l3) =>
  M.bind (zan ab aa ac l3) fun (av, ai) =>
  bif (((ai != 0) && (ai != 7)) || ((ai == 0) && (decide ((r0.length : Int) < (l3.length : Int))))) then (
  M.pure (.inr (.inl (s3, s4))))
  else (
  M.bind (zbB ap) fun r4 =>
  bif decide (1 < (r4.length : Int)) then (
  M.bind (zab tries s3 s4 2) fun (r5, aj, ak) =>
  bif ((decide (1 < (r4.length : Int))) && (r5 == 0)) then (
  M.bind (zab tries aj ak (r4.length : Int)) fun (r6, aq, au) =>
  M.bind (zab tries aq au (r4.length : Int)) fun (r7, am, ao) =>
  bif r6 != r7 then (
  M.grd (decide ((0 : Int) <= r6) && decide (r6 < (r4.length : Int))) <|
  M.grd (decide ((0 : Int) <= r7) && decide (r7 < (r4.length : Int))) <|
  M.grd (decide (((r4.getD (Int.toNat r6) default).length + (r4.getD (Int.toNat r7) default).length) * 8 <= 140737488355328)) <|
  M.grd (decide ((0 : Int) <= r7) && decide (r7 < ((r4.set (Int.toNat r6) (r4.getD (Int.toNat r6) default ++ r4.getD (Int.toNat r7) default)).length : Int))) <|
  M.grd (decide (r7 + 1 <= (9223372036854775807 : Int))) <|
  zag tries ab aa ac r0 n ((r4.set (Int.toNat r6) (r4.getD (Int.toNat r6) default ++ r4.getD (Int.toNat r7) default)).take (Int.toNat r7) ++ (r4.set (Int.toNat r6) (r4.getD (Int.toNat r6) default ++ r4.getD (Int.toNat r7) default)).drop ((Int.toNat r7) + 1)) am ao)
  else (
  zag tries ab aa ac r0 n r4 am ao))
  else (
  M.bind (zab tries aj ak (r4.length : Int)) fun (r8, ae, ag) =>
  M.grd (decide ((0 : Int) <= r8) && decide (r8 < (r4.length : Int))) <|
  M.grd (decide (0 < ((r4.getD (Int.toNat r8) default).length : Int))) <|
  M.grd (decide ((0 : Int) <= r8) && decide (r8 < ((r4.set (Int.toNat r8) ((r4.getD (Int.toNat r8) default).take (Int.toNat 0) ++ (r4.getD (Int.toNat r8) default).drop (Int.toNat 0 + 1))).length : Int))) <|
  bif (((r4.set (Int.toNat r8) ((r4.getD (Int.toNat r8) default).take (Int.toNat 0) ++ (r4.getD (Int.toNat r8) default).drop (Int.toNat 0 + 1))).getD (Int.toNat r8) ([])).length : Int) == 0 then (
  M.grd (decide (r8 + 1 <= (9223372036854775807 : Int))) <|
  zag tries ab aa ac r0 n ((r4.set (Int.toNat r8) ((r4.getD (Int.toNat r8) default).take (Int.toNat 0) ++ (r4.getD (Int.toNat r8) default).drop (Int.toNat 0 + 1))).take (Int.toNat r8) ++ (r4.set (Int.toNat r8) ((r4.getD (Int.toNat r8) default).take (Int.toNat 0) ++ (r4.getD (Int.toNat r8) default).drop (Int.toNat 0 + 1))).drop ((Int.toNat r8) + 1)) ae ag)
  else (
  zag tries ab aa ac r0 n (r4.set (Int.toNat r8) ((r4.getD (Int.toNat r8) default).take (Int.toNat 0) ++ (r4.getD (Int.toNat r8) default).drop (Int.toNat 0 + 1))) ae ag)))
  else (
  M.bind (zab tries s3 s4 (r4.length : Int)) fun (r8, ae, ag) =>
  M.grd (decide ((0 : Int) <= r8) && decide (r8 < (r4.length : Int))) <|
  M.grd (decide (0 < ((r4.getD (Int.toNat r8) default).length : Int))) <|
  M.grd (decide ((0 : Int) <= r8) && decide (r8 < ((r4.set (Int.toNat r8) ((r4.getD (Int.toNat r8) default).take (Int.toNat 0) ++ (r4.getD (Int.toNat r8) default).drop (Int.toNat 0 + 1))).length : Int))) <|
  bif (((r4.set (Int.toNat r8) ((r4.getD (Int.toNat r8) default).take (Int.toNat 0) ++ (r4.getD (Int.toNat r8) default).drop (Int.toNat 0 + 1))).getD (Int.toNat r8) ([])).length : Int) == 0 then (
  M.grd (decide (r8 + 1 <= (9223372036854775807 : Int))) <|
  zag tries ab aa ac r0 n ((r4.set (Int.toNat r8) ((r4.getD (Int.toNat r8) default).take (Int.toNat 0) ++ (r4.getD (Int.toNat r8) default).drop (Int.toNat 0 + 1))).take (Int.toNat r8) ++ (r4.set (Int.toNat r8) ((r4.getD (Int.toNat r8) default).take (Int.toNat 0) ++ (r4.getD (Int.toNat r8) default).drop (Int.toNat 0 + 1))).drop ((Int.toNat r8) + 1)) ae ag)
  else (
  zag tries ab aa ac r0 n (r4.set (Int.toNat r8) ((r4.getD (Int.toNat r8) default).take (Int.toNat 0) ++ (r4.getD (Int.toNat r8) default).drop (Int.toNat 0 + 1))) ae ag))))
  else (
  M.pure (.inr (.inr (s7, s8))))
def zbS (numbers : List UInt8) (tries : List UInt8) : M Bool :=
  M.bind (zaT numbers) fun (r1, r2) =>
  M.bind (zbn numbers r1 r2 9 true) fun (ab, aa, ac, aC, aD, q1, q2) =>
  M.bind (zaT tries) fun (ak, am) =>
  M.bind (zaH ab aa ac) fun (r0, ao) =>
  M.bind (zbw ab aa ac) fun (ag, ap) =>
  bif ((((ao != 0) || (ap != 0)) || ((r0.length : Int) == 0)) || ((ag.length : Int) != (r0.length : Int))) then (
  M.pure false)
  else (
  M.bind (zas ab aa ac (r0.length : Int) ag) fun (aq, au) =>
  M.bind (zas ab aa ac ((r0.length : Int) - 1) ag) fun (av, aw) =>
  M.bind (zan ab aa ac r0) fun (aE, ax) =>
  bif (((((au != 0) || (aw != 0)) || (ax != 0)) || (!aq)) || av) then (
  M.pure false)
  else (
  M.bind (M.iter (zaA tries ab aa ac r0 ag) (ak, am, 0)) fun x_ => match x_ with
  | (.inl (s9, aF)) => (
  M.pure false)
  | (.inr (aG, aH)) => (
  bif (aa.length : Int) == 1 then (
  M.bind (zbN) fun ay =>
  M.pure ay)
  else (
  M.bind (zbL ab aa ac) fun (az, aj, aA) =>
  M.grd (decide (1 <= (aj.length : Int))) <|
  M.bind (zaH az (aj.drop 1) aA) fun (ae, ai) =>
  M.grd ((!((ai == 0) && (decide ((ae.length : Int) <= (r0.length : Int)))) || (decide ((-9223372036854775808 : Int) <= ((r0.length : Int) - 1)) && decide (((r0.length : Int) - 1) <= (9223372036854775807 : Int))))) <|
  M.bind (M.opt (((ai == 0) && (decide ((ae.length : Int) <= (r0.length : Int)))) && (decide (((r0.length : Int) - 1) <= (ae.length : Int)))) (zbN) false) fun aB =>
  M.pure ((((ai == 0) && (decide ((ae.length : Int) <= (r0.length : Int)))) && (decide (((r0.length : Int) - 1) <= (ae.length : Int)))) && aB)))))
theorem zc5 {R : List Chunk} {bS : Cells} {bw : Value} {bT : Cells} {aJ : Value} (numbers : List UInt8) (tries : List UInt8) (bU : Reads R bS) (bV : Sl bS bw numbers) (aY : Reads R bT) (aZ : Sl bT aJ tries) {r : Bool} (hM : (zbS numbers tries).Ends r) (w : World) (H : St w w [] R) : Ret Tryz.prog 3 #[bw, aJ] w fun v w' => ∃ (y0 : Bool), y0 = r /\ v = B y0 /\ St w w' [] R := by
 refine ret_of_W Tryz.func3 rfl rfl rfl ?_
 refine W.seq ?_
 refine W.region rfl ?_
 refine zA (B false) rfl ?_
 refine s_nil ?_
 refine W.seq ?_
 refine W.region rfl ?_
 refine zM bw rfl ?_
 obtain ⟨eA, cq, hM⟩ := M.e_bind hM
 refine s_call cf9 [bw] rfl (zcB numbers (bU.app _) bV cq _ (H.gt 0)) ?_
 rintro vq eB ⟨r1, r2, cr, ct, hvq, ac⟩
 subst ct
 subst vq
 try dsimp only at hM
 replace H := H.bk ac
 clear ac
 obtain ⟨eC, cu, hM⟩ := M.e_bind hM
 refine s_call cf8 [Pq cr, I 9, B true] rfl (zdo numbers r1 r2 9 true (bU.app _) bV cu _ (H.gt 0)) ?_
 rintro vq eD ⟨aM, aw, aC, eE, eF, q1, q2, ag, aO, aP, ae, ai, a8, ba, cv, hvq, ac, aQ⟩
 subst cv
 subst vq
 try dsimp only at hM
 replace H := H.bk ac
 clear ac
 refine zM (.tuple #[.agg #[ag, ae, ai], .agg #[a8, ba]]) rfl ?_
 refine zX [.agg #[ag, ae, ai], .agg #[a8, ba]] (.agg #[ag, ae, ai]) rfl rfl ?_
 refine zX [.agg #[ag, ae, ai], .agg #[a8, ba]] (.agg #[a8, ba]) rfl rfl ?_
 refine t_alloc (cs := [.slice none 0 0, .slice none 0 0, .slice none 0 0]) H Al27 rfl ?_
 intro ax eG H
 refine t_alloc (cs := [.slice none 0 0, .slice none 0 0]) H Al30 rfl ?_
 intro eH eI H
 refine t_sw 1 0 [ag, ae, ai] (.agg #[ag, ae, ai]) H rfl rfl Sz27 rfl rfl rfl (by simp only [List.all_cons, List.all_nil, Bool.true_and, Bool.and_true, Sl.oc (rowSl rfl (H.get (k := 2) rfl) (roLe _ (H.get (k := 3) rfl)) aQ), Sl.oc (H.os 4), Sl.oc (H.os 5)]; try rfl) ?_
 intro eJ H
 refine t_sw 0 0 [a8, ba] (.agg #[a8, ba]) H rfl rfl Sz30 rfl rfl rfl (by simp only [List.all_cons, List.all_nil, Bool.true_and, Bool.and_true, Sl.oc (H.os 6), Sl.oc (H.os 7)]; try rfl) ?_
 intro eK H
 refine s_nil ?_
 replace H := H.pk [1, 2, 3, 4, 5]
 refine W.seq ?_
 refine W.region rfl ?_
 refine zM aJ rfl ?_
 obtain ⟨eL, cw, hM⟩ := M.e_bind hM
 refine s_call cf9 [aJ] rfl (zcB tries (aY.app _) aZ cw _ (H.gt 5)) ?_
 rintro vq eM ⟨cx, cy, au, cz, hvq, ac⟩
 subst cz
 subst vq
 try dsimp only at hM
 replace H := H.bk ac
 clear ac
 refine zA (Pq au) rfl ?_
 refine s_nil ?_
 refine W.seq ?_
 refine W.region rfl ?_
 refine s_val (x_ld (p := Pq ax) (v := .agg #[ag, ae, ai]) rfl (ldb_ag (ds := [ag, ae, ai]) Ag27 Sz27 (H.bl 1) rfl rfl)) ?_
 obtain ⟨eN, cA, hM⟩ := M.e_bind hM
 refine s_call cf10 [.agg #[ag, ae, ai]] rfl (zb2 aM aw aC (Reads.sup (rdo 2) (Reads.of (k := 3) rfl roLe)) (rowSl rfl (H.get (k := 2) rfl) (roLe _ (H.get (k := 3) rfl)) aQ) (rdo 4) (H.os 4) (rdo 5) (H.os 5) cA _ (H.gt 6)) ?_
 rintro vq eO ⟨r0, am, ao, cB, hvq, ac⟩
 subst cB
 subst vq
 try dsimp only at hM
 replace H := H.bk ac
 clear ac
 refine zM (.tuple #[ao, I am]) rfl ?_
 refine zX [ao, I am] ao rfl rfl ?_
 refine zX [ao, I am] (I am) rfl rfl ?_
 refine zA ao rfl ?_
 refine zA (I am) rfl ?_
 refine s_nil ?_
 refine W.seq ?_
 refine W.region rfl ?_
 refine s_val (x_ld (p := Pq ax) (v := .agg #[ag, ae, ai]) rfl (ldb_ag (ds := [ag, ae, ai]) Ag27 Sz27 (H.bl 2) rfl rfl)) ?_
 obtain ⟨eP, cC, hM⟩ := M.e_bind hM
 refine s_call cf11 [.agg #[ag, ae, ai]] rfl (zdi aM aw aC (Reads.sup (rdo 3) (Reads.of (k := 4) rfl roLe)) (rowSl rfl (H.get (k := 3) rfl) (roLe _ (H.get (k := 4) rfl)) aQ) (rdo 5) (H.os 5) (rdo 6) (H.os 6) cC _ (H.gt 7)) ?_
 rintro vq eQ ⟨aN, ap, ay, aR, aS, cD, hvq, ac, bx⟩
 subst cD
 subst vq
 try dsimp only at hM
 replace H := H.bk ac
 clear ac
 refine zM (.tuple #[ay, I ap]) rfl ?_
 refine zX [ay, I ap] ay rfl rfl ?_
 refine zX [ay, I ap] (I ap) rfl rfl ?_
 refine zA ay rfl ?_
 refine zA (I ap) rfl ?_
 refine s_nil ?_
 refine W.seq ?_
 refine W.seq ?_
 refine W.region rfl ?_
 refine zM (I am) rfl ?_
 refine zC am 0 (am != 0) rfl rfl rfl ?_
 refine zM (B (am != 0)) rfl ?_
 refine g_val (!(am != 0)) (gy_f rfl) (fun hg => x_mv (v := I ap) rfl) ?_
 refine g_val (!(am != 0)) (gy_f rfl) (fun hg => x_cmp (kd := .i64) (a := ap) (b := 0) (r := ap != 0) (gd_of (c := !(am != 0)) hg (I ap)) rfl rfl) ?_
 refine s_val (x_por (b := am != 0) (r := ap != 0) rfl rfl (fun hb => gd_of (c := !(am != 0)) (by first | exact hb | (rw [hb]; rfl) | simp_all) (B (ap != 0)))) ?_
 refine zM (B ((am != 0) || (ap != 0))) rfl ?_
 refine g_val (!((am != 0) || (ap != 0))) (gy_f rfl) (fun hg => x_mv (v := ao) rfl) ?_
 refine g_val (!((am != 0) || (ap != 0))) (gy_f rfl) (fun hg => x_lenS T28.und (gd_of (c := !((am != 0) || (ap != 0))) hg (ao)) (H.os 2)) ?_
 refine g_val (!((am != 0) || (ap != 0))) (gy_f rfl) (fun hg => x_cmp (kd := .i64) (a := (r0.length : Int)) (b := 0) (r := (r0.length : Int) == 0) (gd_of (c := !((am != 0) || (ap != 0))) hg (I (r0.length : Int))) rfl rfl) ?_
 refine s_val (x_por (b := ((am != 0) || (ap != 0))) (r := (r0.length : Int) == 0) rfl rfl (fun hb => gd_of (c := !((am != 0) || (ap != 0))) (by first | exact hb | (rw [hb]; rfl) | simp_all) (B ((r0.length : Int) == 0)))) ?_
 refine zM (B (((am != 0) || (ap != 0)) || ((r0.length : Int) == 0))) rfl ?_
 refine g_val (!(((am != 0) || (ap != 0)) || ((r0.length : Int) == 0))) (gy_f rfl) (fun hg => x_mv (v := ay) rfl) ?_
 refine g_val (!(((am != 0) || (ap != 0)) || ((r0.length : Int) == 0))) (gy_f rfl) (fun hg => x_lenS T38.und (gd_of (c := !(((am != 0) || (ap != 0)) || ((r0.length : Int) == 0))) hg (ay)) (rowSl rfl (H.get (k := 0) rfl) (roLe _ (H.get (k := 1) rfl)) bx)) ?_
 refine g_val (!(((am != 0) || (ap != 0)) || ((r0.length : Int) == 0))) (gy_f rfl) (fun hg => x_mv (v := ao) rfl) ?_
 refine g_val (!(((am != 0) || (ap != 0)) || ((r0.length : Int) == 0))) (gy_f rfl) (fun hg => x_lenS T28.und (gd_of (c := !(((am != 0) || (ap != 0)) || ((r0.length : Int) == 0))) hg (ao)) (H.os 2)) ?_
 refine g_val (!(((am != 0) || (ap != 0)) || ((r0.length : Int) == 0))) (gy_f rfl) (fun hg => x_cmp (kd := .i64) (a := (aN.length : Int)) (b := (r0.length : Int)) (r := (aN.length : Int) != (r0.length : Int)) (gd_of (c := !(((am != 0) || (ap != 0)) || ((r0.length : Int) == 0))) hg (I (aN.length : Int))) (gd_of (c := !(((am != 0) || (ap != 0)) || ((r0.length : Int) == 0))) hg (I (r0.length : Int))) rfl) ?_
 refine s_val (x_por (b := (((am != 0) || (ap != 0)) || ((r0.length : Int) == 0))) (r := (aN.length : Int) != (r0.length : Int)) rfl rfl (fun hb => gd_of (c := !(((am != 0) || (ap != 0)) || ((r0.length : Int) == 0))) (by first | exact hb | (rw [hb]; rfl) | simp_all) (B ((aN.length : Int) != (r0.length : Int))))) ?_
 refine s_nil ?_
 refine W.cond ((((am != 0) || (ap != 0)) || ((r0.length : Int) == 0)) || ((aN.length : Int) != (r0.length : Int))) rfl (fun bE => ?_) (fun bE => ?_)
 ·replace hM := M.e_t hM bE
  refine W.seq ?_
  refine W.region rfl ?_
  refine zA (B false) rfl ?_
  refine s_nil ?_
  replace H := H.pk []
  refine W.ret ?_
  have aE := M.e_pure hM
  exact ⟨_, resE_tmp rfl, ⟨false, aE, rfl, H⟩⟩
 replace hM := M.e_f hM bE
 refine W.skip ?_
 refine W.seq ?_
 refine W.region rfl ?_
 refine s_val (x_ld (p := Pq ax) (v := .agg #[ag, ae, ai]) rfl (ldb_ag (ds := [ag, ae, ai]) Ag27 Sz27 (H.bl 4) rfl rfl)) ?_
 refine zM ao rfl ?_
 have eR := ((H.os 2)).len_le
 refine s_val (x_lenS T28.und rfl (H.os 2)) ?_
 refine zM ay rfl ?_
 obtain ⟨eS, cE, hM⟩ := M.e_bind hM
 refine s_call cf12 [.agg #[ag, ae, ai], I (r0.length : Int), ay] rfl (zbq aM aw aC (r0.length : Int) aN (Reads.sup (rdo 5) (Reads.of (k := 6) rfl roLe)) (rowSl rfl (H.get (k := 5) rfl) (roLe _ (H.get (k := 6) rfl)) aQ) (rdo 7) (H.os 7) (rdo 8) (H.os 8) (Reads.sup (rdo 0) (Reads.of (k := 1) rfl roLe)) (rowSl rfl (H.get (k := 0) rfl) (roLe _ (H.get (k := 1) rfl)) bx) cE _ (H.gt 9)) ?_
 rintro vq eT ⟨aG, aq, cF, hvq, ac⟩
 subst cF
 subst vq
 try dsimp only at hM
 replace H := H.bk ac
 clear ac
 refine zM (.tuple #[B aG, I aq]) rfl ?_
 refine zX [B aG, I aq] (B aG) rfl rfl ?_
 refine zX [B aG, I aq] (I aq) rfl rfl ?_
 refine zA (B aG) rfl ?_
 refine zA (I aq) rfl ?_
 refine s_nil ?_
 refine W.seq ?_
 refine W.region rfl ?_
 refine s_val (x_ld (p := Pq ax) (v := .agg #[ag, ae, ai]) rfl (ldb_ag (ds := [ag, ae, ai]) Ag27 Sz27 (H.bl 4) rfl rfl)) ?_
 refine zM ao rfl ?_
 have eU := ((H.os 2)).len_le
 refine s_val (x_lenS T28.und rfl (H.os 2)) ?_
 refine zR (r0.length : Int) 1 ((r0.length : Int) - 1) rfl rfl rfl (by omega) ?_
 refine zM ay rfl ?_
 obtain ⟨eV, cG, hM⟩ := M.e_bind hM
 refine s_call cf12 [.agg #[ag, ae, ai], I ((r0.length : Int) - 1), ay] rfl (zbq aM aw aC ((r0.length : Int) - 1) aN (Reads.sup (rdo 5) (Reads.of (k := 6) rfl roLe)) (rowSl rfl (H.get (k := 5) rfl) (roLe _ (H.get (k := 6) rfl)) aQ) (rdo 7) (H.os 7) (rdo 8) (H.os 8) (Reads.sup (rdo 0) (Reads.of (k := 1) rfl roLe)) (rowSl rfl (H.get (k := 0) rfl) (roLe _ (H.get (k := 1) rfl)) bx) cG _ (H.gt 9)) ?_
 rintro vq eW ⟨aT, av, cH, hvq, ac⟩
 subst cH
 subst vq
 try dsimp only at hM
 replace H := H.bk ac
 clear ac
 refine zM (.tuple #[B aT, I av]) rfl ?_
 refine zX [B aT, I av] (B aT) rfl rfl ?_
 refine zX [B aT, I av] (I av) rfl rfl ?_
 refine zA (B aT) rfl ?_
 refine zA (I av) rfl ?_
 refine s_nil ?_
 refine W.seq ?_
 refine W.region rfl ?_
 refine s_val (x_ld (p := Pq ax) (v := .agg #[ag, ae, ai]) rfl (ldb_ag (ds := [ag, ae, ai]) Ag27 Sz27 (H.bl 4) rfl rfl)) ?_
 refine zM ao rfl ?_
 obtain ⟨eX, cI, hM⟩ := M.e_bind hM
 refine s_call cf13 [.agg #[ag, ae, ai], ao] rfl (zbT aM aw aC r0 (Reads.sup (rdo 5) (Reads.of (k := 6) rfl roLe)) (rowSl rfl (H.get (k := 5) rfl) (roLe _ (H.get (k := 6) rfl)) aQ) (rdo 7) (H.os 7) (rdo 8) (H.os 8) (rdo 2) (H.os 2) cI _ (H.gt 9)) ?_
 rintro vq eY ⟨aU, aA, aH, cJ, hvq, ac⟩
 subst cJ
 subst vq
 try dsimp only at hM
 replace H := H.bk ac
 clear ac
 refine zM (.tuple #[aH, I aA]) rfl ?_
 refine zX [aH, I aA] aH rfl rfl ?_
 refine zX [aH, I aA] (I aA) rfl rfl ?_
 refine zA aH rfl ?_
 refine zA (I aA) rfl ?_
 refine s_nil ?_
 refine W.seq ?_
 refine W.seq ?_
 refine W.region rfl ?_
 refine zM (I aq) rfl ?_
 refine zC aq 0 (aq != 0) rfl rfl rfl ?_
 refine zM (B (aq != 0)) rfl ?_
 refine g_val (!(aq != 0)) (gy_f rfl) (fun hg => x_mv (v := I av) rfl) ?_
 refine g_val (!(aq != 0)) (gy_f rfl) (fun hg => x_cmp (kd := .i64) (a := av) (b := 0) (r := av != 0) (gd_of (c := !(aq != 0)) hg (I av)) rfl rfl) ?_
 refine s_val (x_por (b := aq != 0) (r := av != 0) rfl rfl (fun hb => gd_of (c := !(aq != 0)) (by first | exact hb | (rw [hb]; rfl) | simp_all) (B (av != 0)))) ?_
 refine zM (B ((aq != 0) || (av != 0))) rfl ?_
 refine g_val (!((aq != 0) || (av != 0))) (gy_f rfl) (fun hg => x_mv (v := I aA) rfl) ?_
 refine g_val (!((aq != 0) || (av != 0))) (gy_f rfl) (fun hg => x_cmp (kd := .i64) (a := aA) (b := 0) (r := aA != 0) (gd_of (c := !((aq != 0) || (av != 0))) hg (I aA)) rfl rfl) ?_
 refine s_val (x_por (b := ((aq != 0) || (av != 0))) (r := aA != 0) rfl rfl (fun hb => gd_of (c := !((aq != 0) || (av != 0))) (by first | exact hb | (rw [hb]; rfl) | simp_all) (B (aA != 0)))) ?_
 refine zM (B (((aq != 0) || (av != 0)) || (aA != 0))) rfl ?_
 refine g_val (!(((aq != 0) || (av != 0)) || (aA != 0))) (gy_f rfl) (fun hg => x_mv (v := B aG) rfl) ?_
 refine g_val (!(((aq != 0) || (av != 0)) || (aA != 0))) (gy_f rfl) (fun hg => x_not (b := aG) (gd_of (c := !(((aq != 0) || (av != 0)) || (aA != 0))) hg (B aG))) ?_
 refine s_val (x_por (b := (((aq != 0) || (av != 0)) || (aA != 0))) (r := !aG) rfl rfl (fun hb => gd_of (c := !(((aq != 0) || (av != 0)) || (aA != 0))) (by first | exact hb | (rw [hb]; rfl) | simp_all) (B (!aG)))) ?_
 refine zM (B ((((aq != 0) || (av != 0)) || (aA != 0)) || (!aG))) rfl ?_
 refine g_val (!((((aq != 0) || (av != 0)) || (aA != 0)) || (!aG))) (gy_f rfl) (fun hg => x_mv (v := B aT) rfl) ?_
 refine s_val (x_por (b := ((((aq != 0) || (av != 0)) || (aA != 0)) || (!aG))) (r := aT) rfl rfl (fun hb => gd_of (c := !((((aq != 0) || (av != 0)) || (aA != 0)) || (!aG))) (by first | exact hb | (rw [hb]; rfl) | simp_all) (B aT))) ?_
 refine s_nil ?_
 refine W.cond (((((aq != 0) || (av != 0)) || (aA != 0)) || (!aG)) || aT) rfl (fun bF => ?_) (fun bF => ?_)
 ·replace hM := M.e_t hM bF
  refine W.seq ?_
  refine W.region rfl ?_
  refine zA (B false) rfl ?_
  refine s_nil ?_
  replace H := H.pk []
  refine W.ret ?_
  have aE := M.e_pure hM
  exact ⟨_, resE_tmp rfl, ⟨false, aE, rfl, H⟩⟩
 replace hM := M.e_f hM bF
 refine W.skip ?_
 refine W.seq ?_
 refine W.seq ?_
 refine W.region rfl ?_
 refine zA (I 0) rfl ?_
 refine s_nil ?_
 refine W.block ?_
 obtain ⟨cK, bG, bH⟩ := M.e_bind hM
 obtain ⟨cL, bG⟩ := M.e_iter bG
 refine W.loop (fun m σ W => ∃ (s7 : Int) (s8 : Int) (n : Nat) (ρ : Env), σ = upds ρ [(5, Pq ax), (7, Pq au), (8, ao), (10, ay), (16, I (n : Int))] /\ M.iterN (zaA tries aM aw aC r0 aN) m (s7, s8, n) = some cK /\ St w W [cOwn (α := Span) 54 aH aU, cOwn (α := Raw 0) 28 ay aR, cRo aS, cOwn (α := Int) 3 ao r0, cBlk au [aJ, I s7, I s8] 111, cBlk ax [ag, ae, ai] 27, cOwn (α := Raw 1) 68 ag aO, cRo aP, cOwn (α := Mrk) 70 ae aw, cOwn (α := Rch) 58 ai aC] R) ?_ ?_
 ·exact ⟨_, cx, cy, 0, _, upds_of _ _ ⟨rfl, rfl, rfl, rfl, rfl, trivial⟩, bG, H⟩
 rintro eZ σ e4 ⟨s7, s8, n, ρ, rfl, bW, H⟩
 obtain ⟨cM, cN, cO, hM, bz⟩ := M.e_iterN bW
 simp only [zaA] at hM
 clear bW
 refine W.seq ?_
 refine W.seq ?_
 refine W.region rfl ?_
 refine zM (I (n : Int)) rfl ?_
 refine zC (n : Int) 6 (decide ((n : Int) < 6)) rfl rfl rfl ?_
 refine s_nil ?_
 refine W.cond (decide ((n : Int) < 6)) rfl (fun bc => ?_) (fun bc => ?_)
 ·replace hM := M.e_t hM bc
  simp only [qy1, qy2, qy3, qy4, qy5, qy6, ne_eq, qy7] at bc
  refine W.skip ?_
  refine W.seq ?_
  refine W.block ?_
  refine W.seq ?_
  refine W.region rfl ?_
  refine zA (.slice none 0 0) rfl ?_
  refine s_nil ?_
  refine W.seq ?_
  refine W.seq ?_
  refine W.region rfl ?_
  refine zA (I 0) rfl ?_
  refine s_nil ?_
  refine W.block ?_
  replace H := H.nilOwn (α := Int) 3
  obtain ⟨cP, bI, cQ⟩ := M.e_bind hM
  obtain ⟨cL, bI⟩ := M.e_iter bI
  refine W.loop (fun m σ W => ∃ (s : Int) (s2 : Int) (i : Nat) (l : List Int) (aF : Value) (ρ : Env), σ = upds ρ [(5, Pq ax), (7, Pq au), (8, ao), (10, ay), (16, I (n : Int)), (17, aF), (18, I (i : Int))] /\ M.iterN (zaG tries aw) m (s, s2, i, l) = some cP /\ St w W [cOwn (α := Int) 3 aF l, cOwn (α := Span) 54 aH aU, cOwn (α := Raw 0) 28 ay aR, cRo aS, cOwn (α := Int) 3 ao r0, cBlk au [aJ, I s, I s2] 111, cBlk ax [ag, ae, ai] 27, cOwn (α := Raw 1) 68 ag aO, cRo aP, cOwn (α := Mrk) 70 ae aw, cOwn (α := Rch) 58 ai aC] R) ?_ ?_
  ·exact ⟨_, s7, s8, 0, [], (.slice none 0 0), _, upds_of _ _ ⟨rfl, rfl, rfl, rfl, rfl, rfl, rfl, trivial⟩, bI, H⟩
  rintro e5 σ e6 ⟨s, s2, i, l, aF, ρ, rfl, bX, H⟩
  obtain ⟨bY, bZ, e7, hM, bJ⟩ := M.e_iterN bX
  simp only [zaG] at hM
  clear bX
  refine W.seq ?_
  refine W.seq ?_
  refine W.region rfl ?_
  refine zM (I (i : Int)) rfl ?_
  refine s_val (x_fa (a := Pq ax) (v := Oq ax 1) rfl (fa_blk (o := 0) Fd27_1 Sz24)) ?_
  refine s_val (x_ld (p := Oq ax 1) (v := ae) rfl (ldb_sc Sc24 (H.bl 6) rfl)) ?_
  have e8 := ((H.os 9)).len_le
  refine s_val (x_lenS T24.und rfl (H.os 9)) ?_
  refine zC (i : Int) (aw.length : Int) (decide ((i : Int) < (aw.length : Int))) rfl rfl rfl ?_
  refine s_nil ?_
  refine W.cond (decide ((i : Int) < (aw.length : Int))) rfl (fun bf => ?_) (fun bf => ?_)
  ·replace hM := M.e_t hM bf
   simp only [qy1, qy2, qy3, qy4, qy5, qy6, ne_eq, qy7] at bf
   refine W.skip ?_
   refine W.seq ?_
   refine W.block ?_
   refine W.seq ?_
   refine W.region rfl ?_
   refine zM (Pq au) rfl ?_
   obtain ⟨e9, cR, hM⟩ := M.e_bind hM
   refine s_call cf14 [Pq au, I 2] rfl (zad tries s s2 2 (aY.app _) aZ cR _ ((H.pk [5, 0, 1, 2, 3, 4, 6, 7, 8, 9, 10]).gt 10)) ?_
   rintro vq fa ⟨r3, b3, b4, cS, hvq, ac⟩
   subst cS
   subst vq
   try dsimp only at hM
   replace H := H.pk [5, 0, 1, 2, 3, 4, 6, 7, 8, 9, 10] |>.bk ac
   clear ac
   refine zC r3 0 (r3 == 0) rfl rfl rfl ?_
   refine s_nil ?_
   refine W.cond (r3 == 0) rfl (fun bg => ?_) (fun bg => ?_)
   ·replace hM := M.e_t hM bg
    simp only [qy1, qy2, qy3, qy4, qy5, qy6, ne_eq, qy7] at bg
    refine W.region rfl ?_
    refine zM aF rfl ?_
    refine zM (I (i : Int)) rfl ?_
    refine t_bs (α := Int) T28 [I (i : Int)] [(i : Int)] H rfl (.cons rfl (Flat.rep_enc _ (i : Int)) <| .nil) rfl rfl rfl ?_
    intro cT fb H
    obtain ⟨cU, hM⟩ := M.e_grd hM
    simp only [Bool.and_eq_true, decide_eq_true_eq] at cU
    refine t_app (α := Int) (k := 2) (l := l) (l2 := [(i : Int)]) (l' := l ++ ([(i : Int)])) (vy := cT) T28 rfl H rfl rfl rfl (H.os 0) (H.ol 0) (rfl) (by first | omega | (simp only [List.length_nil] at *; omega)) ?_
    intro b5 fd H
    replace H := H.nf
    refine zA b5 rfl ?_
    refine s_nil ?_
    refine W.region rfl ?_
    refine zM (I (i : Int)) rfl ?_
    refine zR (i : Int) 1 ((i : Int) + 1) rfl rfl rfl (by omega) ?_
    refine zA (I ((i : Int) + 1)) rfl ?_
    refine s_nil ?_
    exact ⟨bY, bZ, b3, b4, i + 1, l ++ ([(i : Int)]), b5, _, upds_of _ _ ⟨rfl, rfl, rfl, rfl, rfl, rfl, rfl, trivial⟩, M.e_inl hM bJ, (H.pk [2, 3, 4, 5, 6, 1, 7, 8, 9, 10, 11])⟩
   replace hM := M.e_f hM bg
   simp only [qy1, qy2, qy3, qy4, qy5, qy6, ne_eq, qy7] at bg
   refine W.skip ?_
   refine W.region rfl ?_
   refine zM (I (i : Int)) rfl ?_
   refine zR (i : Int) 1 ((i : Int) + 1) rfl rfl rfl (by omega) ?_
   refine zA (I ((i : Int) + 1)) rfl ?_
   refine s_nil ?_
   exact ⟨bY, bZ, b3, b4, i + 1, l, aF, _, upds_of _ _ ⟨rfl, rfl, rfl, rfl, rfl, rfl, rfl, trivial⟩, M.e_inl hM bJ, (H.pk [1, 2, 3, 4, 5, 0, 6, 7, 8, 9, 10])⟩
  replace hM := M.e_f hM bf
  simp only [qy1, qy2, qy3, qy4, qy5, qy6, ne_eq, qy7] at bf
  refine W.exit ?_
  have cV := M.e_inr hM bJ
  subst cV
  replace hM := cQ
  try dsimp only at hM
  refine W.seq ?_
  refine W.seq ?_
  refine W.region rfl ?_
  refine s_val (x_ld (p := Pq ax) (v := .agg #[ag, ae, ai]) rfl (ldb_ag (ds := [ag, ae, ai]) Ag27 Sz27 (H.bl 6) rfl rfl)) ?_
  refine zM aF rfl ?_
  obtain ⟨fe, cW, hM⟩ := M.e_bind hM
  refine s_call cf13 [.agg #[ag, ae, ai], aF] rfl (zbT aM aw aC l (Reads.sup (rdo 7) (Reads.of (k := 8) rfl roLe)) (rowSl rfl (H.get (k := 7) rfl) (roLe _ (H.get (k := 8) rfl)) aQ) (rdo 9) (H.os 9) (rdo 10) (H.os 10) (rdo 0) (H.os 0) cW _ (H.gt 11)) ?_
  rintro vq ff ⟨a6, aa, aK, cX, hvq, ac⟩
  subst cX
  subst vq
  try dsimp only at hM
  replace H := H.bk ac
  clear ac
  refine zM (.tuple #[aK, I aa]) rfl ?_
  refine zX [aK, I aa] aK rfl rfl ?_
  refine zX [aK, I aa] (I aa) rfl rfl ?_
  refine zA aK rfl ?_
  refine zA (I aa) rfl ?_
  refine s_nil ?_
  refine W.seq ?_
  refine W.region rfl ?_
  refine zM (I aa) rfl ?_
  refine zC aa 0 (aa != 0) rfl rfl rfl ?_
  refine zM (B (aa != 0)) rfl ?_
  refine g_val (aa != 0) (gy_t rfl) (fun hg => x_mv (v := I aa) rfl) ?_
  refine g_val (aa != 0) (gy_t rfl) (fun hg => x_cmp (kd := .i64) (a := aa) (b := 7) (r := aa != 7) (gd_of (c := aa != 0) hg (I aa)) rfl rfl) ?_
  refine s_val (x_pand (b := aa != 0) (r := aa != 7) rfl (fun hb => gd_of (c := aa != 0) (by first | exact hb | (rw [hb]; rfl) | simp_all) (B (aa != 7))) rfl) ?_
  refine zM (B ((aa != 0) && (aa != 7))) rfl ?_
  refine g_val (!((aa != 0) && (aa != 7))) (gy_f rfl) (fun hg => x_mv (v := I aa) rfl) ?_
  refine g_val (!((aa != 0) && (aa != 7))) (gy_f rfl) (fun hg => x_cmp (kd := .i64) (a := aa) (b := 0) (r := aa == 0) (gd_of (c := !((aa != 0) && (aa != 7))) hg (I aa)) rfl rfl) ?_
  refine g_val (!((aa != 0) && (aa != 7))) (gy_f rfl) (fun hg => x_mv (v := B (aa == 0)) (gd_of (c := !((aa != 0) && (aa != 7))) hg (B (aa == 0)))) ?_
  refine g_val ((!((aa != 0) && (aa != 7))) && (aa == 0)) (gy_gt rfl rfl) (fun hg => x_mv (v := aF) rfl) ?_
  refine g_val ((!((aa != 0) && (aa != 7))) && (aa == 0)) (gy_gt rfl rfl) (fun hg => x_lenS T28.und (gd_of (c := ((!((aa != 0) && (aa != 7))) && (aa == 0))) hg (aF)) (H.os 1)) ?_
  refine g_val ((!((aa != 0) && (aa != 7))) && (aa == 0)) (gy_gt rfl rfl) (fun hg => x_mv (v := ao) rfl) ?_
  refine g_val ((!((aa != 0) && (aa != 7))) && (aa == 0)) (gy_gt rfl rfl) (fun hg => x_lenS T28.und (gd_of (c := ((!((aa != 0) && (aa != 7))) && (aa == 0))) hg (ao)) (H.os 5)) ?_
  refine g_val ((!((aa != 0) && (aa != 7))) && (aa == 0)) (gy_gt rfl rfl) (fun hg => x_cmp (kd := .i64) (a := (l.length : Int)) (b := (r0.length : Int)) (r := decide ((r0.length : Int) < (l.length : Int))) (gd_of (c := ((!((aa != 0) && (aa != 7))) && (aa == 0))) hg (I (l.length : Int))) (gd_of (c := ((!((aa != 0) && (aa != 7))) && (aa == 0))) hg (I (r0.length : Int))) rfl) ?_
  refine g_val (!((aa != 0) && (aa != 7))) (gy_f rfl) (fun hg => x_pand (b := aa == 0) (r := decide ((r0.length : Int) < (l.length : Int))) (gd_of (c := !((aa != 0) && (aa != 7))) hg (B (aa == 0))) (fun hb => gd_of (c := ((!((aa != 0) && (aa != 7))) && (aa == 0))) (by first | exact hb | (rw [hb]; rfl) | simp_all) (B (decide ((r0.length : Int) < (l.length : Int))))) rfl) ?_
  refine s_val (x_por (b := ((aa != 0) && (aa != 7))) (r := ((aa == 0) && (decide ((r0.length : Int) < (l.length : Int))))) rfl rfl (fun hb => gd_of (c := !((aa != 0) && (aa != 7))) (by first | exact hb | (rw [hb]; rfl) | simp_all) (B ((aa == 0) && (decide ((r0.length : Int) < (l.length : Int))))))) ?_
  refine s_nil ?_
  refine W.cond (((aa != 0) && (aa != 7)) || ((aa == 0) && (decide ((r0.length : Int) < (l.length : Int))))) rfl (fun bK => ?_) (fun bK => ?_)
  ·replace hM := M.e_t hM bK
   refine W.seq ?_
   refine W.region rfl ?_
   refine zA (B false) rfl ?_
   refine s_nil ?_
   replace H := H.pk [2, 3, 4, 5, 6, 7, 8, 9, 10, 11]
   refine W.ret ?_
   have cY := M.e_inr hM bz
   subst cY
   replace hM := bH
   try dsimp only at hM
   have aE := M.e_pure hM
   exact ⟨_, resE_tmp rfl, ⟨false, aE, rfl, (H.pk [])⟩⟩
  replace hM := M.e_f hM bK
  refine W.skip ?_
  refine W.seq ?_
  refine W.region rfl ?_
  refine zM ay rfl ?_
  obtain ⟨fg, cZ, hM⟩ := M.e_bind hM
  refine s_call cf15 [ay] rfl (zds aN (Reads.sup (rdo 3) (Reads.of (k := 4) rfl roLe)) (rowSl rfl (H.get (k := 3) rfl) (roLe _ (H.get (k := 4) rfl)) bx) cZ _ (H.gt 12)) ?_
  rintro vq fh ⟨r4, ab, aI, aL, c3, hvq, ac, c4⟩
  subst c3
  subst vq
  try dsimp only at hM
  replace H := H.bk ac
  clear ac
  refine zA ab rfl ?_
  refine s_nil ?_
  refine W.seqJ (fun σ W => ∃ (l4 : List (List Int)) (s5 : Int) (s6 : Int) (bh : Value) (bL : List (Raw 0)) (B_l4 : Base) (ρ : Env), σ = upds ρ [(5, Pq ax), (7, Pq au), (8, ao), (10, ay), (16, I (n : Int)), (21, bh)] /\ (zag tries aM aw aC r0 n l4 s5 s6).Ends cO /\ St w W [cBlk au [aJ, I s5, I s6] 111, cDO 28 3 bh bL l4, cRo B_l4, cOwn (α := Span) 54 aK a6, cOwn (α := Int) 3 aF l, cOwn (α := Span) 54 aH aU, cOwn (α := Raw 0) 28 ay aR, cRo aS, cOwn (α := Int) 3 ao r0, cBlk ax [ag, ae, ai] 27, cOwn (α := Raw 1) 68 ag aO, cRo aP, cOwn (α := Mrk) 70 ae aw, cOwn (α := Rch) 58 ai aC] R /\ bL.length = l4.length) ?_ ?_
  ·skip
   refine W.seq ?_
   refine W.region rfl ?_
   refine zM ab rfl ?_
   have fj := ((deSl (H.get (k := 0) rfl))).len_le
   refine s_val (x_lenS T38.und rfl (deSl (H.get (k := 0) rfl))) ?_
   refine zC (r4.length : Int) 1 (decide (1 < (r4.length : Int))) rfl rfl rfl ?_
   refine zM (B (decide (1 < (r4.length : Int)))) rfl ?_
   refine g_val (decide (1 < (r4.length : Int))) (gy_t rfl) (fun hg => x_mv (v := Pq au) rfl) ?_
   refine g_splitV (decide (1 < (r4.length : Int))) (I 0) (gy_t rfl) (fun bi => ?_) (fun bi => ?_)
   ·replace hM := M.e_t hM bi
    obtain ⟨fl, c5, hM⟩ := M.e_bind hM
    refine s_call cf14 [Pq au, I 2] (lst2 (gd_of (c := decide (1 < (r4.length : Int))) bi (Pq au)) rfl) (zad tries s s2 2 (aY.app _) aZ c5 _ ((H.pk [8, 0, 1, 2, 3, 4, 5, 6, 7, 9, 10, 11, 12, 13]).gt 13)) ?_
    rintro vq fm ⟨r5, b6, b7, c6, hvq, ac⟩
    subst c6
    subst vq
    try dsimp only at hM
    replace H := H.pk [8, 0, 1, 2, 3, 4, 5, 6, 7, 9, 10, 11, 12, 13] |>.bk ac
    clear ac
    refine g_val (decide (1 < (r4.length : Int))) (gy_t rfl) (fun hg => x_cmp (kd := .i64) (a := r5) (b := 0) (r := r5 == 0) rfl rfl rfl) ?_
    refine s_val (x_pand (b := decide (1 < (r4.length : Int))) (r := r5 == 0) rfl (fun hb => gd_of (c := decide (1 < (r4.length : Int))) (by first | exact hb | (rw [hb]; rfl) | simp_all) (B (r5 == 0))) rfl) ?_
    refine s_nil ?_
    refine W.cond ((decide (1 < (r4.length : Int))) && (r5 == 0)) rfl (fun bM => ?_) (fun bM => ?_)
    ·replace hM := M.e_t hM bM
     refine W.seq ?_
     refine W.region rfl ?_
     refine zM (Pq au) rfl ?_
     refine zM ab rfl ?_
     have fo := ((deSl (H.get (k := 1) rfl))).len_le
     refine s_val (x_lenS T38.und rfl (deSl (H.get (k := 1) rfl))) ?_
     obtain ⟨fp, c7, hM⟩ := M.e_bind hM
     refine s_call cf14 [Pq au, I (r4.length : Int)] rfl (zad tries b6 b7 (r4.length : Int) (aY.app _) aZ c7 _ (H.gt 13)) ?_
     rintro vq fq ⟨r6, c8, c9, da, hvq, ac⟩
     subst da
     subst vq
     try dsimp only at hM
     replace H := H.bk ac
     clear ac
     refine zM (Pq au) rfl ?_
     refine zM ab rfl ?_
     have fu := ((deSl (H.get (k := 1) rfl))).len_le
     refine s_val (x_lenS T38.und rfl (deSl (H.get (k := 1) rfl))) ?_
     obtain ⟨fw, db, hM⟩ := M.e_bind hM
     refine s_call cf14 [Pq au, I (r4.length : Int)] rfl (zad tries c8 c9 (r4.length : Int) (aY.app _) aZ db _ (H.gt 13)) ?_
     rintro vq fx ⟨r7, bA, bB, dc, hvq, ac⟩
     subst dc
     subst vq
     try dsimp only at hM
     replace H := H.bk ac
     clear ac
     refine zA (I r6) rfl ?_
     refine zA (I r7) rfl ?_
     refine s_nil ?_
     refine W.seq ?_
     refine W.region rfl ?_
     refine zM (I r6) rfl ?_
     refine zM (I r7) rfl ?_
     refine zC r6 r7 (r6 != r7) rfl rfl rfl ?_
     refine s_nil ?_
     refine W.cond (r6 != r7) rfl (fun bj => ?_) (fun bj => ?_)
     ·replace hM := M.e_t hM bj
      simp only [qy1, qy2, qy3, qy4, qy5, qy6, ne_eq, qy7] at bj
      refine W.seq ?_
      obtain ⟨dd, hM⟩ := M.e_grd hM
      simp only [Bool.and_eq_true, decide_eq_true_eq] at dd
      obtain ⟨de, hM⟩ := M.e_grd hM
      simp only [Bool.and_eq_true, decide_eq_true_eq] at de
      obtain ⟨dg, hM⟩ := M.e_grd hM
      simp only [Bool.and_eq_true, decide_eq_true_eq] at dg
      have bN := deSl (H.get (k := 1) rfl)
      refine W.drawTU (fun W => St w W [cBlk au [aJ, I bA, I bB] 111, cDO 28 3 ab aI r4, cRo aL, cOwn (α := Span) 54 aK a6, cOwn (α := Int) 3 aF l, cOwn (α := Span) 54 aH aU, cOwn (α := Raw 0) 28 ay aR, cRo aS, cOwn (α := Int) 3 ao r0, cBlk ax [ag, ae, ai] 27, cOwn (α := Raw 1) 68 ag aO, cRo aP, cOwn (α := Mrk) 70 ae aw, cOwn (α := Rch) 58 ai aC] R) (.q 0 (.q 1 (.q 2 (.q 3 (.q 4 (.q 5 (.q 6 (.q 7 (.q 8 (.q 9 .nil)))))))))) 10 [10, 11, 12] [0, 1] mixed (by decide +kernel) rfl ?_
      intro fy aD
      replace H := H.ext aD
      clear aD
      refine ⟨H, ?_⟩
      refine tu_f rfl (fun w' => x_mv (v := ab) rfl) ?_
      refine tu_f rfl (fun w' => x_mv (v := I r6) rfl) ?_
      refine tu_q rfl rfl (fun w' H => x_mv (v := ab) rfl) ?_
      refine tu_q rfl rfl (fun w' H => x_mv (v := I r6) rfl) ?_
      refine tu_q rfl rfl (fun w' H => x_ix (a := ab) (b := I r6) (v := vat ab 1 (Int.toNat r6)) rfl rfl (Sl.ix (α := List Int) T38.und T38.size bN (by omega) (by omega))) ?_
      refine tu_q rfl rfl (fun w' H => x_ld (p := vat ab 1 (Int.toNat r6)) (v := ivO (aI.getD (Int.toNat r6) default)) rfl (ld_sc Sc28 (doLd (i := r6) (H.get (k := 1) rfl) (by omega) (by omega)))) ?_
      refine tu_q rfl rfl (fun w' H => x_mv (v := ab) rfl) ?_
      refine tu_q rfl rfl (fun w' H => x_mv (v := I r7) rfl) ?_
      refine tu_q rfl rfl (fun w' H => x_ix (a := ab) (b := I r7) (v := vat ab 1 (Int.toNat r7)) rfl rfl (Sl.ix (α := List Int) T38.und T38.size bN (by omega) (by omega))) ?_
      refine tu_q rfl rfl (fun w' H => x_ld (p := vat ab 1 (Int.toNat r7)) (v := ivO (aI.getD (Int.toNat r7) default)) rfl (ld_sc Sc28 (doLd (i := r7) (H.get (k := 1) rfl) (by omega) (by omega)))) ?_
      refine tu_nil ?_
      refine sr_l rfl ?_
      refine t_dogrow (k := 1) (i := r6) T28 rfl H rfl (by omega) (by omega) rfl rfl (ownSl (doRow (H.get (k := 1) rfl) (i := (Int.toNat r7)) (by omega))) (ownLe _ (doRow (H.get (k := 1) rfl) (i := (Int.toNat r7)) (by omega))) (by omega) ?_
      intro fA fB dh H
      refine s_nil ⟨trivial, ?_⟩
      refine sr_l rfl ?_
      refine s_val (x_ix (a := ab) (b := I r6) (v := vat ab 1 (Int.toNat r6)) rfl rfl (Sl.ix (α := List Int) T38.und T38.size bN (by omega) (by omega))) ?_
      refine s_nil ⟨trivial, ?_⟩
      refine sr_l rfl ?_
      refine t_doput (k := 1) (i := r6) (dl := r4) H rfl Sz28 (by omega) (by omega) rfl rfl dh ?_
      intro fC di dj H
      replace H := H.nf
      refine s_nil ⟨trivial, ?_⟩
      refine sr_nil ?_
      obtain ⟨dk, hM⟩ := M.e_grd hM
      simp only [Bool.and_eq_true, decide_eq_true_eq] at dk
      obtain ⟨dm, hM⟩ := M.e_grd hM
      simp only [Bool.and_eq_true, decide_eq_true_eq] at dm
      have fD := deSl (H.get (k := 1) rfl)
      obtain ⟨fE, fF, dp, dq, dr⟩ := own_del T38 (doOuter (H.get (k := 1) rfl)) (i := r7) (by omega) (by have aE := dj; omega)
      refine W.drawTU (fun W => St w W [cBlk au [aJ, I bA, I bB] 111, cDO 28 3 ab di (r4.set (Int.toNat r6) (r4.getD (Int.toNat r6) default ++ r4.getD (Int.toNat r7) default)), cRo aL, cOwn (α := Span) 54 aK a6, cOwn (α := Int) 3 aF l, cOwn (α := Span) 54 aH aU, cOwn (α := Raw 0) 28 ay aR, cRo aS, cOwn (α := Int) 3 ao r0, cBlk ax [ag, ae, ai] 27, cOwn (α := Raw 1) 68 ag aO, cRo aP, cOwn (α := Mrk) 70 ae aw, cOwn (α := Rch) 58 ai aC] R) (.q 0 (.q 1 (.q 2 (.q 3 (.q 4 (.q 5 (.q 6 .nil))))))) 7 [7, 8] [] mixed (by decide +kernel) rfl ?_
      intro fG aD
      replace H := H.ext aD
      clear aD
      refine ⟨H, ?_⟩
      refine tu_q rfl rfl (fun w' H => x_mv (v := ab) rfl) ?_
      refine tu_q rfl rfl (fun w' H => x_mv (v := I r7) rfl) ?_
      refine tu_q rfl rfl (fun w' H => x_sl (v := ab) rfl rfl rfl rfl (dp w')) ?_
      refine tu_q rfl rfl (fun w' H => x_mv (v := ab) rfl) ?_
      refine tu_q rfl rfl (fun w' H => x_mv (v := I r7) rfl) ?_
      refine tu_q rfl rfl (fun w' H => x_ari (a := r7) (b := 1) (r := r7 + 1) rfl rfl rfl (by omega)) ?_
      refine tu_q rfl rfl (fun w' H => x_sl (v := ab) rfl rfl rfl rfl (dq w')) ?_
      refine tu_nil ?_
      refine sr_l rfl ?_
      refine t_dodel (k := 1) (i := r7) H rfl (by omega) (by omega) rfl rfl dr ?_
      intro b8 fH dt dv H
      replace H := H.nf
      refine s_nil ⟨trivial, ?_⟩
      refine sr_l rfl ?_
      refine zA b8 rfl ?_
      refine s_nil ⟨trivial, ?_⟩
      refine sr_nil ?_
      exact ⟨(r4.set (Int.toNat r6) (r4.getD (Int.toNat r6) default ++ r4.getD (Int.toNat r7) default)).take (Int.toNat r7) ++ (r4.set (Int.toNat r6) (r4.getD (Int.toNat r6) default ++ r4.getD (Int.toNat r7) default)).drop ((Int.toNat r7) + 1), bA, bB, b8, dt, aL, _, upds_of _ _ ⟨rfl, rfl, rfl, rfl, rfl, rfl, trivial⟩, hM, H, dv⟩
     replace hM := M.e_f hM bj
     simp only [qy1, qy2, qy3, qy4, qy5, qy6, ne_eq, qy7] at bj
     refine W.skip ?_
     exact ⟨r4, bA, bB, ab, aI, aL, _, upds_of _ _ ⟨rfl, rfl, rfl, rfl, rfl, rfl, trivial⟩, hM, H, c4⟩
    replace hM := M.e_f hM bM
    refine W.seq ?_
    refine W.region rfl ?_
    refine zM (Pq au) rfl ?_
    refine zM ab rfl ?_
    have fI := ((deSl (H.get (k := 1) rfl))).len_le
    refine s_val (x_lenS T38.und rfl (deSl (H.get (k := 1) rfl))) ?_
    obtain ⟨fJ, dw, hM⟩ := M.e_bind hM
    refine s_call cf14 [Pq au, I (r4.length : Int)] rfl (zad tries b6 b7 (r4.length : Int) (aY.app _) aZ dw _ (H.gt 13)) ?_
    rintro vq fK ⟨r8, aV, aW, dx, hvq, ac⟩
    subst dx
    subst vq
    try dsimp only at hM
    replace H := H.bk ac
    clear ac
    refine zA (I r8) rfl ?_
    refine s_nil ?_
    refine W.seq ?_
    obtain ⟨dy, hM⟩ := M.e_grd hM
    simp only [Bool.and_eq_true, decide_eq_true_eq] at dy
    obtain ⟨dz, hM⟩ := M.e_grd hM
    simp only [Bool.and_eq_true, decide_eq_true_eq] at dz
    have bO := deSl (H.get (k := 1) rfl)
    obtain ⟨fL, fM, dA, dB, dC⟩ := own_del (i := 0) T28 (doRow (H.get (k := 1) rfl) (i := (Int.toNat r8)) (by omega)) (by omega) (by omega)
    refine W.drawTU (fun W => St w W [cBlk au [aJ, I aV, I aW] 111, cDO 28 3 ab aI r4, cRo aL, cOwn (α := Span) 54 aK a6, cOwn (α := Int) 3 aF l, cOwn (α := Span) 54 aH aU, cOwn (α := Raw 0) 28 ay aR, cRo aS, cOwn (α := Int) 3 ao r0, cBlk ax [ag, ae, ai] 27, cOwn (α := Raw 1) 68 ag aO, cRo aP, cOwn (α := Mrk) 70 ae aw, cOwn (α := Rch) 58 ai aC] R) (.q 0 (.q 1 (.q 2 (.q 3 (.q 4 (.q 5 (.q 6 (.q 7 (.q 8 (.q 9 (.q 10 (.q 11 .nil)))))))))))) 12 [12, 13, 14] [0, 1] mixed (by decide +kernel) rfl ?_
    intro fN aD
    replace H := H.ext aD
    clear aD
    refine ⟨H, ?_⟩
    refine tu_f rfl (fun w' => x_mv (v := ab) rfl) ?_
    refine tu_f rfl (fun w' => x_mv (v := I r8) rfl) ?_
    refine tu_q rfl rfl (fun w' H => x_mv (v := ab) rfl) ?_
    refine tu_q rfl rfl (fun w' H => x_mv (v := I r8) rfl) ?_
    refine tu_q rfl rfl (fun w' H => x_ix (a := ab) (b := I r8) (v := vat ab 1 (Int.toNat r8)) rfl rfl (Sl.ix (α := List Int) T38.und T38.size bO (by omega) (by omega))) ?_
    refine tu_q rfl rfl (fun w' H => x_ld (p := vat ab 1 (Int.toNat r8)) (v := ivO (aI.getD (Int.toNat r8) default)) rfl (ld_sc Sc28 (doLd (i := r8) (H.get (k := 1) rfl) (by omega) (by omega)))) ?_
    refine tu_q rfl rfl (fun w' H => x_sl (v := ivO (aI.getD (Int.toNat r8) default)) rfl rfl rfl rfl (dA w')) ?_
    refine tu_q rfl rfl (fun w' H => x_mv (v := ab) rfl) ?_
    refine tu_q rfl rfl (fun w' H => x_mv (v := I r8) rfl) ?_
    refine tu_q rfl rfl (fun w' H => x_ix (a := ab) (b := I r8) (v := vat ab 1 (Int.toNat r8)) rfl rfl (Sl.ix (α := List Int) T38.und T38.size bO (by omega) (by omega))) ?_
    refine tu_q rfl rfl (fun w' H => x_ld (p := vat ab 1 (Int.toNat r8)) (v := ivO (aI.getD (Int.toNat r8) default)) rfl (ld_sc Sc28 (doLd (i := r8) (H.get (k := 1) rfl) (by omega) (by omega)))) ?_
    refine tu_q rfl rfl (fun w' H => x_sl (v := ivO (aI.getD (Int.toNat r8) default)) rfl rfl rfl rfl (dB w')) ?_
    refine tu_nil ?_
    refine sr_l rfl ?_
    refine t_doshrink (k := 1) (i := r8) (j := 0) H rfl (by omega) (by omega) rfl rfl dC ?_
    intro fO fP dD H
    refine s_nil ⟨trivial, ?_⟩
    refine sr_l rfl ?_
    refine s_val (x_ix (a := ab) (b := I r8) (v := vat ab 1 (Int.toNat r8)) rfl rfl (Sl.ix (α := List Int) T38.und T38.size bO (by omega) (by omega))) ?_
    refine s_nil ⟨trivial, ?_⟩
    refine sr_l rfl ?_
    refine t_doput (k := 1) (i := r8) (dl := r4) H rfl Sz28 (by omega) (by omega) rfl rfl dD ?_
    intro fQ b9 cb H
    replace H := H.nf
    refine s_nil ⟨trivial, ?_⟩
    refine sr_nil ?_
    refine W.seq ?_
    refine W.region rfl ?_
    refine zM ab rfl ?_
    refine zM (I r8) rfl ?_
    obtain ⟨dE, hM⟩ := M.e_grd hM
    simp only [Bool.and_eq_true, decide_eq_true_eq] at dE
    refine s_val (x_ix (a := ab) (b := I r8) (v := vat ab 1 (Int.toNat r8)) rfl rfl (Sl.ix (α := List Int) T38.und T38.size (deSl (H.get (k := 1) rfl)) (by omega) (by omega))) ?_
    obtain ⟨cc, dF, bm⟩ := List_at (deSl (H.get (k := 1) rfl)) (i := r8) (by omega) (by omega)
    replace bm : Sl _ cc ((r4.set (Int.toNat r8) ((r4.getD (Int.toNat r8) default).take (Int.toNat 0) ++ (r4.getD (Int.toNat r8) default).drop (Int.toNat 0 + 1))).getD (Int.toNat r8) ([])) := bm
    have fR := bm.len_le
    refine s_val (x_ld (p := vat ab 1 (Int.toNat r8)) (v := cc) rfl (ld_sc Sc28 (At.mono (dF) (deLe _ (H.get (k := 1) rfl))))) ?_
    have fS := (bm).len_le
    refine s_val (x_lenS T28.und rfl bm) ?_
    refine zC (((r4.set (Int.toNat r8) ((r4.getD (Int.toNat r8) default).take (Int.toNat 0) ++ (r4.getD (Int.toNat r8) default).drop (Int.toNat 0 + 1))).getD (Int.toNat r8) ([])).length : Int) 0 ((((r4.set (Int.toNat r8) ((r4.getD (Int.toNat r8) default).take (Int.toNat 0) ++ (r4.getD (Int.toNat r8) default).drop (Int.toNat 0 + 1))).getD (Int.toNat r8) ([])).length : Int) == 0) rfl rfl rfl ?_
    refine s_nil ?_
    refine W.cond ((((r4.set (Int.toNat r8) ((r4.getD (Int.toNat r8) default).take (Int.toNat 0) ++ (r4.getD (Int.toNat r8) default).drop (Int.toNat 0 + 1))).getD (Int.toNat r8) ([])).length : Int) == 0) rfl (fun bn => ?_) (fun bn => ?_)
    ·replace hM := M.e_t hM bn
     simp only [qy1, qy2, qy3, qy4, qy5, qy6, ne_eq, qy7] at bn
     obtain ⟨dG, hM⟩ := M.e_grd hM
     simp only [Bool.and_eq_true, decide_eq_true_eq] at dG
     have fT := deSl (H.get (k := 1) rfl)
     obtain ⟨fU, fV, dH, dI, dJ⟩ := own_del T38 (doOuter (H.get (k := 1) rfl)) (i := r8) (by omega) (by have aE := cb; omega)
     refine W.drawTU (fun W => St w W [cBlk au [aJ, I aV, I aW] 111, cDO 28 3 ab b9 (r4.set (Int.toNat r8) ((r4.getD (Int.toNat r8) default).take (Int.toNat 0) ++ (r4.getD (Int.toNat r8) default).drop (Int.toNat 0 + 1))), cRo aL, cOwn (α := Span) 54 aK a6, cOwn (α := Int) 3 aF l, cOwn (α := Span) 54 aH aU, cOwn (α := Raw 0) 28 ay aR, cRo aS, cOwn (α := Int) 3 ao r0, cBlk ax [ag, ae, ai] 27, cOwn (α := Raw 1) 68 ag aO, cRo aP, cOwn (α := Mrk) 70 ae aw, cOwn (α := Rch) 58 ai aC] R) (.q 0 (.q 1 (.q 2 (.q 3 (.q 4 (.q 5 (.q 6 .nil))))))) 7 [7, 8] [] mixed (by decide +kernel) rfl ?_
     intro fW aD
     replace H := H.ext aD
     clear aD
     refine ⟨H, ?_⟩
     refine tu_q rfl rfl (fun w' H => x_mv (v := ab) rfl) ?_
     refine tu_q rfl rfl (fun w' H => x_mv (v := I r8) rfl) ?_
     refine tu_q rfl rfl (fun w' H => x_sl (v := ab) rfl rfl rfl rfl (dH w')) ?_
     refine tu_q rfl rfl (fun w' H => x_mv (v := ab) rfl) ?_
     refine tu_q rfl rfl (fun w' H => x_mv (v := I r8) rfl) ?_
     refine tu_q rfl rfl (fun w' H => x_ari (a := r8) (b := 1) (r := r8 + 1) rfl rfl rfl (by omega)) ?_
     refine tu_q rfl rfl (fun w' H => x_sl (v := ab) rfl rfl rfl rfl (dI w')) ?_
     refine tu_nil ?_
     refine sr_l rfl ?_
     refine t_dodel (k := 1) (i := r8) H rfl (by omega) (by omega) rfl rfl dJ ?_
     intro cd fX dK dL H
     replace H := H.nf
     refine s_nil ⟨trivial, ?_⟩
     refine sr_l rfl ?_
     refine zA cd rfl ?_
     refine s_nil ⟨trivial, ?_⟩
     refine sr_nil ?_
     exact ⟨(r4.set (Int.toNat r8) ((r4.getD (Int.toNat r8) default).take (Int.toNat 0) ++ (r4.getD (Int.toNat r8) default).drop (Int.toNat 0 + 1))).take (Int.toNat r8) ++ (r4.set (Int.toNat r8) ((r4.getD (Int.toNat r8) default).take (Int.toNat 0) ++ (r4.getD (Int.toNat r8) default).drop (Int.toNat 0 + 1))).drop ((Int.toNat r8) + 1), aV, aW, cd, dK, aL, _, upds_of _ _ ⟨rfl, rfl, rfl, rfl, rfl, rfl, trivial⟩, hM, H, dL⟩
    replace hM := M.e_f hM bn
    simp only [qy1, qy2, qy3, qy4, qy5, qy6, ne_eq, qy7] at bn
    refine W.skip ?_
    exact ⟨r4.set (Int.toNat r8) ((r4.getD (Int.toNat r8) default).take (Int.toNat 0) ++ (r4.getD (Int.toNat r8) default).drop (Int.toNat 0 + 1)), aV, aW, ab, b9, aL, _, upds_of _ _ ⟨rfl, rfl, rfl, rfl, rfl, rfl, trivial⟩, hM, H, cb⟩
   replace hM := M.e_f hM bi
   refine g_val (v := B false) (decide (1 < (r4.length : Int))) (gy_t rfl) (fun hg => Bool.noConfusion (bi.symm.trans hg)) ?_
   refine s_val (x_pand0 (b := decide (1 < (r4.length : Int))) rfl (fun hb => gd_of (c := decide (1 < (r4.length : Int))) (by first | exact hb | (rw [hb]; rfl) | simp_all) (B false)) rfl) ?_
   refine s_nil ?_
   refine W.cond false rfl (fun ce => ?_) (fun ce => ?_)
   ·skip
    exact absurd ce (by decide)
   skip
   refine W.seq ?_
   refine W.region rfl ?_
   refine zM (Pq au) rfl ?_
   refine zM ab rfl ?_
   have fY := ((deSl (H.get (k := 0) rfl))).len_le
   refine s_val (x_lenS T38.und rfl (deSl (H.get (k := 0) rfl))) ?_
   obtain ⟨fZ, dM, hM⟩ := M.e_bind hM
   refine s_call cf14 [Pq au, I (r4.length : Int)] rfl (zad tries s s2 (r4.length : Int) (aY.app _) aZ dM _ ((H.pk [8, 0, 1, 2, 3, 4, 5, 6, 7, 9, 10, 11, 12, 13]).gt 13)) ?_
   rintro vq f0 ⟨r8, aV, aW, dN, hvq, ac⟩
   subst dN
   subst vq
   try dsimp only at hM
   replace H := H.pk [8, 0, 1, 2, 3, 4, 5, 6, 7, 9, 10, 11, 12, 13] |>.bk ac
   clear ac
   refine zA (I r8) rfl ?_
   refine s_nil ?_
   refine W.seq ?_
   obtain ⟨dO, hM⟩ := M.e_grd hM
   simp only [Bool.and_eq_true, decide_eq_true_eq] at dO
   obtain ⟨dP, hM⟩ := M.e_grd hM
   simp only [Bool.and_eq_true, decide_eq_true_eq] at dP
   have bP := deSl (H.get (k := 1) rfl)
   obtain ⟨f1, f2, dQ, dR, dS⟩ := own_del (i := 0) T28 (doRow (H.get (k := 1) rfl) (i := (Int.toNat r8)) (by omega)) (by omega) (by omega)
   refine W.drawTU (fun W => St w W [cBlk au [aJ, I aV, I aW] 111, cDO 28 3 ab aI r4, cRo aL, cOwn (α := Span) 54 aK a6, cOwn (α := Int) 3 aF l, cOwn (α := Span) 54 aH aU, cOwn (α := Raw 0) 28 ay aR, cRo aS, cOwn (α := Int) 3 ao r0, cBlk ax [ag, ae, ai] 27, cOwn (α := Raw 1) 68 ag aO, cRo aP, cOwn (α := Mrk) 70 ae aw, cOwn (α := Rch) 58 ai aC] R) (.q 0 (.q 1 (.q 2 (.q 3 (.q 4 (.q 5 (.q 6 (.q 7 (.q 8 (.q 9 (.q 10 (.q 11 .nil)))))))))))) 12 [12, 13, 14] [0, 1] mixed (by decide +kernel) rfl ?_
   intro f4 aD
   replace H := H.ext aD
   clear aD
   refine ⟨H, ?_⟩
   refine tu_f rfl (fun w' => x_mv (v := ab) rfl) ?_
   refine tu_f rfl (fun w' => x_mv (v := I r8) rfl) ?_
   refine tu_q rfl rfl (fun w' H => x_mv (v := ab) rfl) ?_
   refine tu_q rfl rfl (fun w' H => x_mv (v := I r8) rfl) ?_
   refine tu_q rfl rfl (fun w' H => x_ix (a := ab) (b := I r8) (v := vat ab 1 (Int.toNat r8)) rfl rfl (Sl.ix (α := List Int) T38.und T38.size bP (by omega) (by omega))) ?_
   refine tu_q rfl rfl (fun w' H => x_ld (p := vat ab 1 (Int.toNat r8)) (v := ivO (aI.getD (Int.toNat r8) default)) rfl (ld_sc Sc28 (doLd (i := r8) (H.get (k := 1) rfl) (by omega) (by omega)))) ?_
   refine tu_q rfl rfl (fun w' H => x_sl (v := ivO (aI.getD (Int.toNat r8) default)) rfl rfl rfl rfl (dQ w')) ?_
   refine tu_q rfl rfl (fun w' H => x_mv (v := ab) rfl) ?_
   refine tu_q rfl rfl (fun w' H => x_mv (v := I r8) rfl) ?_
   refine tu_q rfl rfl (fun w' H => x_ix (a := ab) (b := I r8) (v := vat ab 1 (Int.toNat r8)) rfl rfl (Sl.ix (α := List Int) T38.und T38.size bP (by omega) (by omega))) ?_
   refine tu_q rfl rfl (fun w' H => x_ld (p := vat ab 1 (Int.toNat r8)) (v := ivO (aI.getD (Int.toNat r8) default)) rfl (ld_sc Sc28 (doLd (i := r8) (H.get (k := 1) rfl) (by omega) (by omega)))) ?_
   refine tu_q rfl rfl (fun w' H => x_sl (v := ivO (aI.getD (Int.toNat r8) default)) rfl rfl rfl rfl (dR w')) ?_
   refine tu_nil ?_
   refine sr_l rfl ?_
   refine t_doshrink (k := 1) (i := r8) (j := 0) H rfl (by omega) (by omega) rfl rfl dS ?_
   intro f6 f9 dT H
   refine s_nil ⟨trivial, ?_⟩
   refine sr_l rfl ?_
   refine s_val (x_ix (a := ab) (b := I r8) (v := vat ab 1 (Int.toNat r8)) rfl rfl (Sl.ix (α := List Int) T38.und T38.size bP (by omega) (by omega))) ?_
   refine s_nil ⟨trivial, ?_⟩
   refine sr_l rfl ?_
   refine t_doput (k := 1) (i := r8) (dl := r4) H rfl Sz28 (by omega) (by omega) rfl rfl dT ?_
   intro ga cf cg H
   replace H := H.nf
   refine s_nil ⟨trivial, ?_⟩
   refine sr_nil ?_
   refine W.seq ?_
   refine W.region rfl ?_
   refine zM ab rfl ?_
   refine zM (I r8) rfl ?_
   obtain ⟨dU, hM⟩ := M.e_grd hM
   simp only [Bool.and_eq_true, decide_eq_true_eq] at dU
   refine s_val (x_ix (a := ab) (b := I r8) (v := vat ab 1 (Int.toNat r8)) rfl rfl (Sl.ix (α := List Int) T38.und T38.size (deSl (H.get (k := 1) rfl)) (by omega) (by omega))) ?_
   obtain ⟨cj, dV, bo⟩ := List_at (deSl (H.get (k := 1) rfl)) (i := r8) (by omega) (by omega)
   replace bo : Sl _ cj ((r4.set (Int.toNat r8) ((r4.getD (Int.toNat r8) default).take (Int.toNat 0) ++ (r4.getD (Int.toNat r8) default).drop (Int.toNat 0 + 1))).getD (Int.toNat r8) ([])) := bo
   have gc := bo.len_le
   refine s_val (x_ld (p := vat ab 1 (Int.toNat r8)) (v := cj) rfl (ld_sc Sc28 (At.mono (dV) (deLe _ (H.get (k := 1) rfl))))) ?_
   have gf := (bo).len_le
   refine s_val (x_lenS T28.und rfl bo) ?_
   refine zC (((r4.set (Int.toNat r8) ((r4.getD (Int.toNat r8) default).take (Int.toNat 0) ++ (r4.getD (Int.toNat r8) default).drop (Int.toNat 0 + 1))).getD (Int.toNat r8) ([])).length : Int) 0 ((((r4.set (Int.toNat r8) ((r4.getD (Int.toNat r8) default).take (Int.toNat 0) ++ (r4.getD (Int.toNat r8) default).drop (Int.toNat 0 + 1))).getD (Int.toNat r8) ([])).length : Int) == 0) rfl rfl rfl ?_
   refine s_nil ?_
   refine W.cond ((((r4.set (Int.toNat r8) ((r4.getD (Int.toNat r8) default).take (Int.toNat 0) ++ (r4.getD (Int.toNat r8) default).drop (Int.toNat 0 + 1))).getD (Int.toNat r8) ([])).length : Int) == 0) rfl (fun bp => ?_) (fun bp => ?_)
   ·replace hM := M.e_t hM bp
    simp only [qy1, qy2, qy3, qy4, qy5, qy6, ne_eq, qy7] at bp
    obtain ⟨dW, hM⟩ := M.e_grd hM
    simp only [Bool.and_eq_true, decide_eq_true_eq] at dW
    have gg := deSl (H.get (k := 1) rfl)
    obtain ⟨gh, gi, dX, dY, dZ⟩ := own_del T38 (doOuter (H.get (k := 1) rfl)) (i := r8) (by omega) (by have aE := cg; omega)
    refine W.drawTU (fun W => St w W [cBlk au [aJ, I aV, I aW] 111, cDO 28 3 ab cf (r4.set (Int.toNat r8) ((r4.getD (Int.toNat r8) default).take (Int.toNat 0) ++ (r4.getD (Int.toNat r8) default).drop (Int.toNat 0 + 1))), cRo aL, cOwn (α := Span) 54 aK a6, cOwn (α := Int) 3 aF l, cOwn (α := Span) 54 aH aU, cOwn (α := Raw 0) 28 ay aR, cRo aS, cOwn (α := Int) 3 ao r0, cBlk ax [ag, ae, ai] 27, cOwn (α := Raw 1) 68 ag aO, cRo aP, cOwn (α := Mrk) 70 ae aw, cOwn (α := Rch) 58 ai aC] R) (.q 0 (.q 1 (.q 2 (.q 3 (.q 4 (.q 5 (.q 6 .nil))))))) 7 [7, 8] [] mixed (by decide +kernel) rfl ?_
    intro gj aD
    replace H := H.ext aD
    clear aD
    refine ⟨H, ?_⟩
    refine tu_q rfl rfl (fun w' H => x_mv (v := ab) rfl) ?_
    refine tu_q rfl rfl (fun w' H => x_mv (v := I r8) rfl) ?_
    refine tu_q rfl rfl (fun w' H => x_sl (v := ab) rfl rfl rfl rfl (dX w')) ?_
    refine tu_q rfl rfl (fun w' H => x_mv (v := ab) rfl) ?_
    refine tu_q rfl rfl (fun w' H => x_mv (v := I r8) rfl) ?_
    refine tu_q rfl rfl (fun w' H => x_ari (a := r8) (b := 1) (r := r8 + 1) rfl rfl rfl (by omega)) ?_
    refine tu_q rfl rfl (fun w' H => x_sl (v := ab) rfl rfl rfl rfl (dY w')) ?_
    refine tu_nil ?_
    refine sr_l rfl ?_
    refine t_dodel (k := 1) (i := r8) H rfl (by omega) (by omega) rfl rfl dZ ?_
    intro ck gk d2 d3 H
    replace H := H.nf
    refine s_nil ⟨trivial, ?_⟩
    refine sr_l rfl ?_
    refine zA ck rfl ?_
    refine s_nil ⟨trivial, ?_⟩
    refine sr_nil ?_
    exact ⟨(r4.set (Int.toNat r8) ((r4.getD (Int.toNat r8) default).take (Int.toNat 0) ++ (r4.getD (Int.toNat r8) default).drop (Int.toNat 0 + 1))).take (Int.toNat r8) ++ (r4.set (Int.toNat r8) ((r4.getD (Int.toNat r8) default).take (Int.toNat 0) ++ (r4.getD (Int.toNat r8) default).drop (Int.toNat 0 + 1))).drop ((Int.toNat r8) + 1), aV, aW, ck, d2, aL, _, upds_of _ _ ⟨rfl, rfl, rfl, rfl, rfl, rfl, trivial⟩, hM, H, d3⟩
   replace hM := M.e_f hM bp
   simp only [qy1, qy2, qy3, qy4, qy5, qy6, ne_eq, qy7] at bp
   refine W.skip ?_
   exact ⟨r4.set (Int.toNat r8) ((r4.getD (Int.toNat r8) default).take (Int.toNat 0) ++ (r4.getD (Int.toNat r8) default).drop (Int.toNat 0 + 1)), aV, aW, ab, cf, aL, _, upds_of _ _ ⟨rfl, rfl, rfl, rfl, rfl, rfl, trivial⟩, hM, H, cg⟩
  rintro _ gm ⟨l4, s5, s6, bh, bL, B_l4, ρ, rfl, hM, H, gp⟩
  unfold zag at hM
  refine W.seq ?_
  refine W.region rfl ?_
  refine zM (Pq au) rfl ?_
  refine zM ao rfl ?_
  have gq := ((H.os 8)).len_le
  refine s_val (x_lenS T28.und rfl (H.os 8)) ?_
  obtain ⟨d4, hM⟩ := M.e_grd hM
  simp only [Bool.and_eq_true, decide_eq_true_eq] at d4
  refine zR (r0.length : Int) 1 ((r0.length : Int) + 1) rfl rfl rfl (by omega) ?_
  obtain ⟨gr, d5, hM⟩ := M.e_bind hM
  refine s_call cf14 [Pq au, I ((r0.length : Int) + 1)] rfl (zad tries s5 s6 ((r0.length : Int) + 1) (aY.app _) aZ d5 _ (H.gt 13)) ?_
  rintro vq gu ⟨r9, d6, d7, d8, hvq, ac⟩
  subst d8
  subst vq
  try dsimp only at hM
  replace H := H.bk ac
  clear ac
  refine zA (I r9) rfl ?_
  refine s_nil ?_
  replace H := H.pk [0, 1, 2, 5, 6, 7, 8, 9, 10, 11, 12, 13]
  refine W.seq ?_
  refine W.region rfl ?_
  refine s_val (x_ld (p := Pq ax) (v := .agg #[ag, ae, ai]) rfl (ldb_ag (ds := [ag, ae, ai]) Ag27 Sz27 (H.bl 7) rfl rfl)) ?_
  refine zM (I r9) rfl ?_
  refine zM bh rfl ?_
  obtain ⟨gv, d9, hM⟩ := M.e_bind hM
  refine s_call cf12 [.agg #[ag, ae, ai], I r9, bh] rfl (zbq aM aw aC r9 l4 (Reads.sup (rdo 8) (Reads.of (k := 9) rfl roLe)) (rowSl rfl (H.get (k := 8) rfl) (roLe _ (H.get (k := 9) rfl)) aQ) (rdo 10) (H.os 10) (rdo 11) (H.os 11) (Reads.of (k := 1) rfl deLe) (deSl (H.get (k := 1) rfl)) d9 _ (H.gt 12)) ?_
  rintro vq gw ⟨aB, az, ec, hvq, ac⟩
  subst ec
  subst vq
  try dsimp only at hM
  replace H := H.bk ac
  clear ac
  refine zM (.tuple #[B aB, I az]) rfl ?_
  refine zX [B aB, I az] (B aB) rfl rfl ?_
  refine zX [B aB, I az] (I az) rfl rfl ?_
  refine zA (B aB) rfl ?_
  refine zA (I az) rfl ?_
  refine s_nil ?_
  replace H := H.pk [0, 3, 4, 5, 6, 7, 8, 9, 10, 11]
  refine W.seq ?_
  refine W.region rfl ?_
  refine zM (I az) rfl ?_
  refine zC az 0 (az != 0) rfl rfl rfl ?_
  refine zM (B (az != 0)) rfl ?_
  refine g_val (!(az != 0)) (gy_f rfl) (fun hg => x_mv (v := B aB) rfl) ?_
  refine g_val (!(az != 0)) (gy_f rfl) (fun hg => x_mv (v := B aB) (gd_of (c := !(az != 0)) hg (B aB))) ?_
  refine g_val ((!(az != 0)) && aB) (gy_gt rfl rfl) (fun hg => x_mv (v := I r9) rfl) ?_
  refine g_val ((!(az != 0)) && aB) (gy_gt rfl rfl) (fun hg => x_mv (v := ao) rfl) ?_
  refine g_val ((!(az != 0)) && aB) (gy_gt rfl rfl) (fun hg => x_lenS T28.und (gd_of (c := ((!(az != 0)) && aB)) hg (ao)) (H.os 4)) ?_
  refine g_val ((!(az != 0)) && aB) (gy_gt rfl rfl) (fun hg => x_cmp (kd := .i64) (a := r9) (b := (r0.length : Int)) (r := decide (r9 < (r0.length : Int))) (gd_of (c := ((!(az != 0)) && aB)) hg (I r9)) (gd_of (c := ((!(az != 0)) && aB)) hg (I (r0.length : Int))) rfl) ?_
  refine g_val (!(az != 0)) (gy_f rfl) (fun hg => x_pand (b := aB) (r := decide (r9 < (r0.length : Int))) (gd_of (c := !(az != 0)) hg (B aB)) (fun hb => gd_of (c := ((!(az != 0)) && aB)) (by first | exact hb | (rw [hb]; rfl) | simp_all) (B (decide (r9 < (r0.length : Int))))) rfl) ?_
  refine s_val (x_por (b := az != 0) (r := (aB && (decide (r9 < (r0.length : Int))))) rfl rfl (fun hb => gd_of (c := !(az != 0)) (by first | exact hb | (rw [hb]; rfl) | simp_all) (B (aB && (decide (r9 < (r0.length : Int))))))) ?_
  refine s_nil ?_
  refine W.cond ((az != 0) || (aB && (decide (r9 < (r0.length : Int))))) rfl (fun bQ => ?_) (fun bQ => ?_)
  ·replace hM := M.e_t hM bQ
   refine W.seq ?_
   refine W.region rfl ?_
   refine zA (B false) rfl ?_
   refine s_nil ?_
   refine W.ret ?_
   have ed := M.e_inr hM bz
   subst ed
   replace hM := bH
   try dsimp only at hM
   have aE := M.e_pure hM
   exact ⟨_, resE_tmp rfl, ⟨false, aE, rfl, (H.pk [])⟩⟩
  replace hM := M.e_f hM bQ
  refine W.skip ?_
  refine W.region rfl ?_
  refine zM (I (n : Int)) rfl ?_
  refine zR (n : Int) 1 ((n : Int) + 1) rfl rfl rfl (by omega) ?_
  refine zA (I ((n : Int) + 1)) rfl ?_
  refine s_nil ?_
  exact ⟨cM, cN, d6, d7, n + 1, _, upds_of _ _ ⟨rfl, rfl, rfl, rfl, rfl, trivial⟩, M.e_inl hM bz, (H.pk [1, 2, 3, 4, 0, 5, 6, 7, 8, 9])⟩
 replace hM := M.e_f hM bc
 simp only [qy1, qy2, qy3, qy4, qy5, qy6, ne_eq, qy7] at bc
 refine W.exit ?_
 have ef := M.e_inr hM bz
 subst ef
 replace hM := bH
 try dsimp only at hM
 replace H := H.pk [3, 5, 6, 7, 8, 9]
 refine W.seq ?_
 refine W.seq ?_
 refine W.region rfl ?_
 refine s_val (x_fa (a := Pq ax) (v := Oq ax 1) rfl (fa_blk (o := 0) Fd27_1 Sz24)) ?_
 refine s_val (x_ld (p := Oq ax 1) (v := ae) rfl (ldb_sc Sc24 (H.bl 1) rfl)) ?_
 have gx := ((H.os 4)).len_le
 refine s_val (x_lenS T24.und rfl (H.os 4)) ?_
 refine zC (aw.length : Int) 1 ((aw.length : Int) == 1) rfl rfl rfl ?_
 refine s_nil ?_
 refine W.cond ((aw.length : Int) == 1) rfl (fun bq => ?_) (fun bq => ?_)
 ·replace hM := M.e_t hM bq
  simp only [qy1, qy2, qy3, qy4, qy5, qy6, ne_eq, qy7] at bq
  refine W.seq ?_
  refine W.region rfl ?_
  obtain ⟨gy, eg, hM⟩ := M.e_bind hM
  refine s_call cf16 [] rfl (zcG eg _ (H.gt 6)) ?_
  rintro vq gz ⟨cn, ei, hvq, ac⟩
  subst ei
  subst vq
  try dsimp only at hM
  replace H := H.bk ac
  clear ac
  refine zA (B cn) rfl ?_
  refine s_nil ?_
  replace H := H.pk []
  refine W.ret ?_
  have aE := M.e_pure hM
  exact ⟨_, resE_tmp rfl, ⟨cn, aE, rfl, H⟩⟩
 replace hM := M.e_f hM bq
 simp only [qy1, qy2, qy3, qy4, qy5, qy6, ne_eq, qy7] at bq
 refine W.skip ?_
 refine W.seq ?_
 refine W.region rfl ?_
 refine s_val (x_ld (p := Pq ax) (v := .agg #[ag, ae, ai]) rfl (ldb_ag (ds := [ag, ae, ai]) Ag27 Sz27 (H.bl 1) rfl rfl)) ?_
 obtain ⟨gA, ej, hM⟩ := M.e_bind hM
 refine s_call cf17 [.agg #[ag, ae, ai]] rfl (zcR aM aw aC (Reads.sup (rdo 2) (Reads.of (k := 3) rfl roLe)) (rowSl rfl (H.get (k := 2) rfl) (roLe _ (H.get (k := 3) rfl)) aQ) (rdo 4) (H.os 4) (rdo 5) (H.os 5) ej _ (H.gt 6)) ?_
 rintro vq gB ⟨ek, co, em, br, gC, gD, bC, bt, eo, hvq, ac, cp⟩
 subst eo
 subst vq
 try dsimp only at hM
 replace H := H.bk ac
 clear ac
 refine t_alloc (cs := [.slice none 0 0, .slice none 0 0, .slice none 0 0]) H Al27 rfl ?_
 intro bb gE H
 refine t_sw 0 0 [br, bC, bt] (.agg #[br, bC, bt]) H rfl rfl Sz27 rfl rfl rfl (by simp only [List.all_cons, List.all_nil, Bool.true_and, Bool.and_true, Sl.oc (rowSl rfl (H.get (k := 1) rfl) (roLe _ (H.get (k := 2) rfl)) cp), Sl.oc (H.os 3), Sl.oc (H.os 4)]; try rfl) ?_
 intro gF H
 refine s_nil ?_
 replace H := H.pk [0, 1, 2, 3, 4, 5]
 refine W.seq ?_
 refine W.region rfl ?_
 refine s_val (x_fa (a := Pq bb) (v := Oq bb 1) rfl (fa_blk (o := 0) Fd27_1 Sz24)) ?_
 refine s_val (x_ld (p := Oq bb 1) (v := bC) rfl (ldb_sc Sc24 (H.bl 0) rfl)) ?_
 obtain ⟨ep, hM⟩ := M.e_grd hM
 simp only [Bool.and_eq_true, decide_eq_true_eq] at ep
 obtain ⟨a7, eq, bu⟩ := sl_lo T24.und T24.size (H.os 3) (i := 1) (by omega) (by omega)
 replace bu : Sl _ a7 (co.drop 1) := bu
 refine s_val (x_sl (v := bC) (u := a7) (lo' := some (I 1)) (hi' := none) (mx' := none) rfl rfl rfl rfl (eq _)) ?_
 refine s_val (x_fa (a := Pq bb) (v := Oq bb 1) rfl (fa_blk (o := 0) Fd27_1 Sz24)) ?_
 refine t_sw 0 1 [a7] a7 H rfl rfl Sz24 (Sl.cells bu) rfl rfl (by simp only [List.all_cons, List.all_nil, Bool.true_and, Bool.and_true, Sl.oc bu]; try rfl) ?_
 intro gG H
 refine s_nil ?_
 refine W.seq ?_
 refine W.region rfl ?_
 refine s_val (x_ld (p := Pq bb) (v := .agg #[br, a7, bt]) rfl (ldb_ag (ds := [br, a7, bt]) Ag27 Sz27 (H.bl 0) rfl rfl)) ?_
 obtain ⟨gH, er, hM⟩ := M.e_bind hM
 refine s_call cf10 [.agg #[br, a7, bt]] rfl (zb2 ek (co.drop 1) em (Reads.sup (rdo 1) (Reads.of (k := 2) rfl roLe)) (rowSl rfl (H.get (k := 1) rfl) (roLe _ (H.get (k := 2) rfl)) cp) (rdo 3) bu (rdo 4) (H.os 4) er _ (H.gt 6)) ?_
 rintro vq gI ⟨ak, aj, aX, ew, hvq, ac⟩
 subst ew
 subst vq
 try dsimp only at hM
 replace H := H.bk ac
 clear ac
 refine zM (.tuple #[aX, I aj]) rfl ?_
 refine zX [aX, I aj] aX rfl rfl ?_
 refine zX [aX, I aj] (I aj) rfl rfl ?_
 refine zA aX rfl ?_
 refine zA (I aj) rfl ?_
 refine s_nil ?_
 replace H := H.pk [0, 6]
 refine W.seq ?_
 refine W.region rfl ?_
 refine zM (I aj) rfl ?_
 refine zC aj 0 (aj == 0) rfl rfl rfl ?_
 refine zM (B (aj == 0)) rfl ?_
 refine g_val (aj == 0) (gy_t rfl) (fun hg => x_mv (v := aX) rfl) ?_
 refine g_val (aj == 0) (gy_t rfl) (fun hg => x_lenS T28.und (gd_of (c := aj == 0) hg (aX)) (H.os 0)) ?_
 refine g_val (aj == 0) (gy_t rfl) (fun hg => x_mv (v := ao) rfl) ?_
 refine g_val (aj == 0) (gy_t rfl) (fun hg => x_lenS T28.und (gd_of (c := aj == 0) hg (ao)) (H.os 1)) ?_
 refine g_val (aj == 0) (gy_t rfl) (fun hg => x_cmp (kd := .i64) (a := (ak.length : Int)) (b := (r0.length : Int)) (r := decide ((ak.length : Int) <= (r0.length : Int))) (gd_of (c := aj == 0) hg (I (ak.length : Int))) (gd_of (c := aj == 0) hg (I (r0.length : Int))) rfl) ?_
 refine s_val (x_pand (b := aj == 0) (r := decide ((ak.length : Int) <= (r0.length : Int))) rfl (fun hb => gd_of (c := aj == 0) (by first | exact hb | (rw [hb]; rfl) | simp_all) (B (decide ((ak.length : Int) <= (r0.length : Int))))) rfl) ?_
 refine zM (B ((aj == 0) && (decide ((ak.length : Int) <= (r0.length : Int))))) rfl ?_
 refine g_val ((aj == 0) && (decide ((ak.length : Int) <= (r0.length : Int)))) (gy_t rfl) (fun hg => x_mv (v := aX) rfl) ?_
 refine g_val ((aj == 0) && (decide ((ak.length : Int) <= (r0.length : Int)))) (gy_t rfl) (fun hg => x_lenS T28.und (gd_of (c := ((aj == 0) && (decide ((ak.length : Int) <= (r0.length : Int))))) hg (aX)) (H.os 0)) ?_
 refine g_val ((aj == 0) && (decide ((ak.length : Int) <= (r0.length : Int)))) (gy_t rfl) (fun hg => x_mv (v := ao) rfl) ?_
 refine g_val ((aj == 0) && (decide ((ak.length : Int) <= (r0.length : Int)))) (gy_t rfl) (fun hg => x_lenS T28.und (gd_of (c := ((aj == 0) && (decide ((ak.length : Int) <= (r0.length : Int))))) hg (ao)) (H.os 1)) ?_
 obtain ⟨bD, hM⟩ := M.e_grd hM
 replace bD := M.imp_of bD
 simp only [Bool.and_eq_true, decide_eq_true_eq] at bD
 refine g_val ((aj == 0) && (decide ((ak.length : Int) <= (r0.length : Int)))) (gy_t rfl) (fun hg => x_ari (a := (r0.length : Int)) (b := 1) (r := (r0.length : Int) - 1) (gd_of (c := ((aj == 0) && (decide ((ak.length : Int) <= (r0.length : Int))))) hg (I (r0.length : Int))) rfl rfl (by have bR := bD.resolve_left (by rw [hg]; decide); first | exact bR | exact bR.1 | exact bR.2 | omega | (have aD := hg; simp at aD; omega))) ?_
 refine g_val ((aj == 0) && (decide ((ak.length : Int) <= (r0.length : Int)))) (gy_t rfl) (fun hg => x_cmp (kd := .i64) (a := (ak.length : Int)) (b := (r0.length : Int) - 1) (r := decide (((r0.length : Int) - 1) <= (ak.length : Int))) (gd_of (c := ((aj == 0) && (decide ((ak.length : Int) <= (r0.length : Int))))) hg (I (ak.length : Int))) (gd_of (c := ((aj == 0) && (decide ((ak.length : Int) <= (r0.length : Int))))) hg (I ((r0.length : Int) - 1))) rfl) ?_
 refine s_val (x_pand (b := ((aj == 0) && (decide ((ak.length : Int) <= (r0.length : Int))))) (r := decide (((r0.length : Int) - 1) <= (ak.length : Int))) rfl (fun hb => gd_of (c := ((aj == 0) && (decide ((ak.length : Int) <= (r0.length : Int))))) (by first | exact hb | (rw [hb]; rfl) | simp_all) (B (decide (((r0.length : Int) - 1) <= (ak.length : Int))))) rfl) ?_
 refine zM (B (((aj == 0) && (decide ((ak.length : Int) <= (r0.length : Int)))) && (decide (((r0.length : Int) - 1) <= (ak.length : Int))))) rfl ?_
 obtain ⟨bv, ey, hM⟩ := M.e_bind hM
 refine t_gcall (((aj == 0) && (decide ((ak.length : Int) <= (r0.length : Int)))) && (decide (((r0.length : Int) - 1) <= (ak.length : Int)))) (gy_t rfl) cf16 (B bv) (fun _ => []) (fun _ => rfl) H (fun hg => (zcG (M.e_opt ey hg) _ (H.give (A := []) rfl)).mono fun v_ w_ ⟨y_, aE, ez, H_⟩ => by subst aE; exact ⟨ez, H.via H_⟩) ?_
 intro gJ H
 refine s_val (x_pand (b := (((aj == 0) && (decide ((ak.length : Int) <= (r0.length : Int)))) && (decide (((r0.length : Int) - 1) <= (ak.length : Int))))) (r := bv) rfl (fun hb => gd_of (c := (((aj == 0) && (decide ((ak.length : Int) <= (r0.length : Int)))) && (decide (((r0.length : Int) - 1) <= (ak.length : Int))))) (by first | exact hb | (rw [hb]; rfl) | simp_all) (B bv)) rfl) ?_
 refine zA (B ((((aj == 0) && (decide ((ak.length : Int) <= (r0.length : Int)))) && (decide (((r0.length : Int) - 1) <= (ak.length : Int)))) && bv)) rfl ?_
 refine s_nil ?_
 replace H := H.pk []
 refine W.ret ?_
 have aE := M.e_pure hM
 exact ⟨_, resE_tmp rfl, ⟨((((aj == 0) && (decide ((ak.length : Int) <= (r0.length : Int)))) && (decide (((r0.length : Int) - 1) <= (ak.length : Int)))) && bv), aE, rfl, H⟩⟩

end Go.Proofs.YtlemgioaakecpaaGreat
end
namespace Go.Nm
namespace Fl
section
variable {M M1 : List Mrk}
/-- As many as rows hold, if marks go over into others so that contradictions stay. -/
theorem best_le {L L' : List (List Nat)} {l l' : List Int} (h : Best M L l) (hr : RowsOk M1 L') (h' : Best M1 L' l') {g : Nat -> Nat} (hg : ∀ i, i < M.length -> g i < M1.length) (hi : ∀ i j, i < M.length -> j < M.length -> g i = g j -> i = j) (ha : ∀ i j, i < M.length -> j < M.length -> ah M1 (g i) (g j) -> ah M i j) : l.length <= l'.length := by
  have := few (M := M1) (X := l.map fun k => g (Int.toNat k)) (L := L') ?_ ?_ ?_ hr.cov (fun r hr' => pw_any (hr.pw r hr'))
  · rw [List.length_map] at this
    rw [h'.n]
    exact this
  · unfold List.Nodup
    rw [List.pairwise_map]
    refine List.Pairwise.imp_of_mem ?_ h.inc.1
    intro a b ha' hb hab e
    have q1 := h.inc.2 a ha'
    have q2 := h.inc.2 b hb
    have := hi _ _ (by omega) (by omega) e
    omega
  · intro v hv
    obtain ⟨a, ha', rfl⟩ := List.mem_map.1 hv
    have q1 := h.inc.2 a ha'
    exact hg _ (by omega)
  · intro u hu v hv q
    obtain ⟨a, ha', rfl⟩ := List.mem_map.1 hu
    obtain ⟨b, hb, rfl⟩ := List.mem_map.1 hv
    have q1 := h.inc.2 a ha'
    have q2 := h.inc.2 b hb
    exact h.tog a ha' b hb (ha _ _ (by omega) (by omega) q)
/-- With one mark less there is at most one less. -/
theorem less_one {L L1 : List (List Nat)} {l l1 : List Int} (h : Best M L l) (hr1 : RowsOk (M.drop 1) L1) (h1 : Best (M.drop 1) L1 l1) : l.length <= l1.length + 1 := by
  match l, h with
  | [], _ => simp
  | x :: r, h =>
    have hx := h.inc.2 x (by simp)
    have gt : ∀ a ∈ r, x < a := fun a ha => (List.pairwise_cons.1 h.inc.1).1 a ha
    have hr := (List.pairwise_cons.1 h.inc.1).2
    have in_ : ∀ a ∈ r, 1 <= a /\ a < M.length := fun a ha => by
      have := gt a ha
      have := h.inc.2 a (by simp [ha])
      omega
    have e : ∀ a ∈ r, (M.drop 1).getD (Int.toNat a - 1) default = M.getD (Int.toNat a) default := fun a ha => by
      have := in_ a ha
      simp only [List.getD, List.getElem?_drop]
      rw [show 1 + (Int.toNat a - 1) = Int.toNat a by omega]
    have := few (M := M.drop 1) (X := r.map fun k => Int.toNat k - 1) (L := L1) ?_ ?_ ?_ hr1.cov (fun s hs => pw_any (hr1.pw s hs))
    · rw [List.length_map] at this
      rw [h1.n, List.length_cons]
      omega
    · unfold List.Nodup
      rw [List.pairwise_map]
      refine List.Pairwise.imp_of_mem ?_ hr
      intro a b ha hb hab e
      have := in_ a ha
      have := in_ b hb
      omega
    · intro v hv
      obtain ⟨a, ha, rfl⟩ := List.mem_map.1 hv
      have := in_ a ha
      rw [List.length_drop]
      omega
    · intro u hu v hv q
      obtain ⟨a, ha, rfl⟩ := List.mem_map.1 hu
      obtain ⟨b, hb, rfl⟩ := List.mem_map.1 hv
      unfold ah at q
      rw [e a ha, e b hb] at q
      exact h.tog a (by simp [ha]) b (by simp [hb]) q
theorem ci_mem {l : List Nat} {k : Int} : k ∈ ci l ↔ ∃ v ∈ l, k = (v : Int) := by
  unfold ci
  rw [List.mem_map]
  constructor
  · rintro ⟨v, hv, rfl⟩; exact ⟨v, hv, rfl⟩
  · rintro ⟨v, hv, rfl⟩; exact ⟨v, hv, rfl⟩
theorem RowsOk.rws {L : List (List Nat)} (h : RowsOk M L) (hn : M.length <= 16) : Rws M.length (L.map ci) := by
  have := h.len
  refine ⟨by rw [List.length_map]; omega, fun r hr => ?_⟩
  obtain ⟨l, hl, rfl⟩ := List.mem_map.1 hr
  refine ⟨fun e => h.ne l hl (by unfold ci at e; exact List.map_eq_nil_iff.1 e), fun k hk => ?_⟩
  obtain ⟨v, hv, rfl⟩ := ci_mem.1 hk
  have := h.rg l hl v hv
  omega
theorem RowsOk.proves {L : List (List Nat)} (h : RowsOk M L) : (∀ r ∈ L.map ci, Chn M r) /\ ∀ v, v < M.length -> ∃ r ∈ L.map ci, (v : Int) ∈ r := by
  refine ⟨fun r hr j k hjk hk => ?_, fun v hv => ?_⟩
  · obtain ⟨l, hl, rfl⟩ := List.mem_map.1 hr
    rw [ci_len] at hk
    rw [ci_get, ci_get, Int.toNat_natCast, Int.toNat_natCast, getD_el l hk, getD_el l (by omega : j < l.length)]
    exact .inr (List.pairwise_iff_getElem.1 (h.pw l hl) j k (by omega) hk hjk)
  · obtain ⟨l, hl, q⟩ := h.cov v hv
    exact ⟨_, List.mem_map.2 ⟨l, hl, rfl⟩, ci_mem.2 ⟨v, q, rfl⟩⟩
theorem RowsOk.pos {L : List (List Nat)} (h : RowsOk M L) (hn : 1 <= M.length) : 1 <= L.length := by
  obtain ⟨l, hl, _⟩ := h.cov 0 hn
  exact List.length_pos_of_mem hl
theorem Rws.set {n : Nat} {T : List (List Int)} (h : Rws n T) {a : Nat} {r : List Int} (hr : r ≠ [] /\ ∀ k ∈ r, 0 <= k /\ k < n) : Rws n (T.set a r) :=
  ⟨by rw [List.length_set]; exact h.len, fun x hx => by
    rcases List.mem_or_eq_of_mem_set hx with hx | rfl
    · exact h.row x hx
    · exact hr⟩
theorem Rws.del {n : Nat} {T : List (List Int)} (h : Rws n T) (a : Nat) : Rws n (T.take a ++ T.drop (a + 1)) :=
  ⟨by have := h.len; simp only [List.length_append, List.length_take, List.length_drop]; omega, fun x hx => by
    rcases List.mem_append.1 hx with hx | hx
    · exact h.row x (List.mem_of_mem_take hx)
    · exact h.row x (List.mem_of_mem_drop hx)⟩
theorem set_del {T : List (List Int)} {a : Nat} {r : List Int} : (T.set a r).take a ++ (T.set a r).drop (a + 1) = T.take a ++ T.drop (a + 1) := by
  congr 1
  · refine List.ext_getElem? fun j => ?_
    simp only [List.getElem?_take]
    by_cases e : j < a
    · rw [if_pos e, if_pos e, List.getElem?_set_ne (by omega)]
    · rw [if_neg e, if_neg e]
  · refine List.ext_getElem? fun j => ?_
    rw [List.getElem?_drop, List.getElem?_drop, List.getElem?_set_ne (by omega)]
end
end Fl
end Go.Nm
namespace Go.Proofs.YtlemgioaakecpaaGreat
open Go Go.Nm
section
variable {S : List Sect} {M' : List Mrk} {R' : List Rch} {L : List (List Nat)} {l : List Int}
theorem copy_row (l : List FRow) (h : l.length <= 1000) : (zbD l).Ends l := by
  unfold zbD
  exact M.i_grd (decide_eq_true (by simp; omega)) M.i_pure
theorem copy_ends (h : Fl.Site S M' R') : (zbL S M' R').Ends (S, M', R') := by
  have h1 := h.m
  have h2 := h.r
  have h3 := h.s.n
  unfold zbL zb5 zb3
  refine M.i_bind (M.i_grd (decide_eq_true (by simp; omega)) M.i_pure) (M.i_bind (M.i_grd (decide_eq_true (by simp; omega)) M.i_pure) (M.i_bind (a := (S, S)) ?_ M.i_pure))
  refine M.i_for (fun i => (i, S.take i)) S.length (fun i hi => ?_) ?_
  · simp only [zam]
    refine M.i_t (decide_eq_true (by omega)) (M.i_grd (decide_eq_true (by omega)) (M.i_bind (copy_row _ (by have := (h.s.rows i hi).2.2; omega)) (M.i_grd (decide_eq_true (by simp; omega)) ?_)))
    rw [← take_succ_D S i hi default]
    exact M.i_pure
  · simp only [zam]
    rw [List.take_length]
    exact M.i_f (decide_eq_false (by omega)) M.i_pure
theorem Rows_ends (h : Fl.Site S M' R') {T : List (List Int)} (hE : (zar S M' R').Ends T) : (zbw S M' R').Ends (T, 0) := by
  unfold zbw
  exact M.i_bind (opened_ends h) (M.i_f rfl (M.i_bind hE M.i_pure))
theorem lists_ends {T : List (List Int)} (hl : T.length <= 16) (hr : ∀ r ∈ T, r.length <= 16) : (zbB T).Ends T := by
  unfold zbB
  refine M.i_bind (a := (T, T)) ?_ M.i_pure
  refine M.i_for (fun i => (i, T.take i)) T.length (fun i hi => ?_) ?_
  · have hm : T.getD i [] ∈ T := by rw [getD_el T hi]; exact List.getElem_mem hi
    have := hr _ hm
    simp only [zba]
    refine M.i_t (decide_eq_true (by omega)) (M.i_grd (decide_eq_true (by omega)) (M.i_bind (a := T.getD i []) ?_ (M.i_grd (decide_eq_true (by simp; omega)) ?_)))
    · unfold zbU
      exact M.i_grd (decide_eq_true (by simp only [List.length_nil]; omega)) M.i_pure
    · rw [← take_succ_D T i hi []]
      exact M.i_pure
  · simp only [zba]
    rw [List.take_length]
    exact M.i_f (decide_eq_false (by omega)) M.i_pure
theorem mine_out {b : List UInt8} {c u x : Int} (hS : SOk c u x) (hc : c <= 100000) (hn : M'.length <= 16) :
    (M.iter (zaG b M') (u, x, 0, [])).Out (fun z => SOk (c + 16) z.1 z.2.1 /\ Fl.Inc M' z.2.2.2) := by
  refine M.o_for M'.length (fun i (s : Int × Int × Nat × List Int) => s.2.2.1 = i /\ SOk (c + i) s.1 s.2.1 /\ s.2.2.2.Pairwise (· < ·) /\ s.2.2.2.length <= i /\ ∀ k ∈ s.2.2.2, 0 <= k /\ k < (i : Int)) ?_ ?_ (s := (u, x, 0, [])) ⟨rfl, by simpa using hS, List.Pairwise.nil, Nat.le_refl _, fun k hk => by cases hk⟩
  · rintro _ ⟨u, x, i, l⟩ hi ⟨rfl, hS, hp, hl, hk⟩
    dsimp only at hi hS hp hl hk ⊢
    simp only [zaG]
    refine M.o_t (decide_eq_true (by omega)) (M.o_bind (next_out hS (by omega) (by omega)) ?_)
    rintro ⟨r, u1, x1⟩ ⟨k1, _, _⟩
    dsimp only at k1 ⊢
    refine M.o_if (fun _ => ?_) (fun _ => ?_)
    · refine M.o_grd (decide_eq_true (by simp; omega)) (M.o_pure ⟨rfl, k1.mono (by omega), ?_, by simp; omega, fun k h => ?_⟩)
      · dsimp only
        rw [List.pairwise_append]
        refine ⟨hp, by simp, fun a ha b hb => ?_⟩
        rw [List.mem_singleton] at hb
        have := hk a ha
        omega
      · rcases List.mem_append.1 h with h | h
        · have := hk k h; omega
        · rw [List.mem_singleton] at h; omega
    · exact M.o_pure ⟨rfl, k1.mono (by omega), hp, by dsimp only; omega, fun k h => by have := hk k h; omega⟩
  · rintro ⟨u, x, _, l⟩ ⟨rfl, hS, hp, hl, hk⟩
    dsimp only at hS hp hl hk ⊢
    simp only [zaG]
    exact M.o_f (decide_eq_false (by omega)) (M.o_pure ⟨hS.mono (by omega), hp, hk⟩)
theorem try_out (h : Fl.Site S M' R') (hb : Fl.Best M' L l) (hl : l.length <= 16) {b : List UInt8} {c u x : Int} {n : Nat} (hS : SOk c u x) (hc : c <= 100000) {T : List (List Int)} (hT : Fl.Rws M'.length T) :
    (zag b S M' R' l n T u x).Out (fun z => match z with | .inl s => s.2.2 = n + 1 /\ SOk (c + 1) s.1 s.2.1 | .inr _ => False) := by
  unfold zag
  refine M.o_grd (gA2 (by omega) (by omega)) (M.o_bind (next_out hS (by omega) (by omega)) ?_)
  rintro ⟨r, u1, x1⟩ ⟨k1, _, _⟩
  dsimp only at k1 ⊢
  refine M.o_bind (Proves_out h hT) ?_
  rintro ⟨is, _⟩ ⟨rfl, hi⟩
  dsimp only at hi ⊢
  refine M.o_f ?_ (M.o_pure ⟨rfl, k1⟩)
  cases is with
  | false => rfl
  | true =>
    obtain ⟨q1, q2, q3⟩ := hi.1 rfl
    have := Fl.prove_few hb.inc hb.tog (fun r hr => (hT.row r hr).2) q2 q3
    show ((0 : Int) != 0 || (true && decide (r < (l.length : Int)))) = false
    rw [decide_eq_false (by omega)]
    rfl
def RPost (n : Nat) : (Int × Int × Nat) ⊕ ((Int × Int) ⊕ (Int × Int)) -> Prop
  | .inl s => s.2.2 = n + 1 /\ SOk (100 * ((n + 1 : Nat) : Int)) s.1 s.2.1
  | .inr (.inl _) => False
  | .inr (.inr _) => True
theorem rounds_out (h : Fl.Site S M' R') (hr : Fl.RowsOk M' L) (hb : Fl.Best M' L l) {b : List UInt8} :
    (M.iter (zaA b S M' R' l (L.map Fl.ci)) (0, 0, 0)).Out (fun z => match z with | .inl _ => False | .inr _ => True) := by
  have hm := h.m
  have hlen := hr.len
  have hbn := hb.n
  have hT := hr.rws hm.2
  have hpos := hr.pos hm.1
  have hrl : ∀ r ∈ L.map Fl.ci, r.length <= 16 := fun r q => by
    obtain ⟨y, hy, rfl⟩ := List.mem_map.1 q
    rw [Fl.ci_len]
    have := Fl.ch_len h.mks (hr.pw y hy) (hr.rg y hy)
    omega
  have hTl : (L.map Fl.ci).length = L.length := List.length_map _
  have rin : ∀ a : Nat, a < L.length -> ((L.map Fl.ci).getD a default ∈ L.map Fl.ci) := fun a ha => by rw [getD_el _ (by omega)]; exact List.getElem_mem _
  refine M.o_for 6 (fun i (s : Int × Int × Nat) => s.2.2 = i /\ SOk (100 * i) s.1 s.2.1) ?_ ?_ (s := (0, 0, 0)) ⟨rfl, by simpa using SOk.zero⟩
  · rintro _ ⟨u, x, n⟩ hn ⟨rfl, hS⟩
    dsimp only at hn hS ⊢
    simp only [zaA]
    refine M.o_mono (P := RPost n) ?_ (fun z hz => ?_)
    rotate_left
    · rcases z with s | (r | r)
      · exact hz
      · exact hz.elim
      · trivial
    refine M.o_t (decide_eq_true (by omega)) (M.o_bind (mine_out hS (by omega) hm.2) ?_)
    rintro ⟨u1, x1, mine0, mine⟩ ⟨k1, hinc⟩
    dsimp only at k1 hinc ⊢
    refine M.o_bind (Surface_any h hinc) ?_
    rintro ⟨sp, e⟩ he
    dsimp only at he ⊢
    have hno : (((e != 0) && (e != 7)) || ((e == 0) && (decide ((l.length : Int) < (mine.length : Int))))) = false := by
      rcases he with ⟨rfl, ht⟩ | rfl
      · have := Fl.prove_few hinc ht (fun r q => (hT.row r q).2) hr.proves.1 hr.proves.2
        rw [decide_eq_false (by omega)]
        rfl
      · rfl
    refine M.o_f hno (M.o_bindE (lists_ends hT.len hrl) ?_)
    have fin : ∀ {c u x : Int} {T : List (List Int)}, SOk c u x -> c <= 100 * (n : Int) + 50 -> Fl.Rws M'.length T -> (zag b S M' R' l n T u x).Out (RPost n) := fun {c u x T} k hc hT => by
      refine M.o_mono (try_out h hb (by omega) k (by omega) hT) ?_
      rintro (z | z) hz
      · exact ⟨hz.1, hz.2.mono (by omega)⟩
      · exact hz.elim
    -- the first element of a row is taken away
    have shr : ∀ {c u x : Int}, SOk c u x -> c <= 100 * (n : Int) + 40 →
        (M.bind (zab b u x ((L.map Fl.ci).length : Int)) fun (r8, q16, q26) =>
          M.grd (decide ((0 : Int) <= r8) && decide (r8 < ((L.map Fl.ci).length : Int))) <|
          M.grd (decide (0 < (((L.map Fl.ci).getD (Int.toNat r8) default).length : Int))) <|
          M.grd (decide ((0 : Int) <= r8) && decide (r8 < (((L.map Fl.ci).set (Int.toNat r8) (((L.map Fl.ci).getD (Int.toNat r8) default).take (Int.toNat 0) ++ ((L.map Fl.ci).getD (Int.toNat r8) default).drop (Int.toNat 0 + 1))).length : Int))) <|
          bif ((((L.map Fl.ci).set (Int.toNat r8) (((L.map Fl.ci).getD (Int.toNat r8) default).take (Int.toNat 0) ++ ((L.map Fl.ci).getD (Int.toNat r8) default).drop (Int.toNat 0 + 1))).getD (Int.toNat r8) ([])).length : Int) == 0 then (
          M.grd (decide (r8 + 1 <= (9223372036854775807 : Int))) <|
          zag b S M' R' l n (((L.map Fl.ci).set (Int.toNat r8) (((L.map Fl.ci).getD (Int.toNat r8) default).take (Int.toNat 0) ++ ((L.map Fl.ci).getD (Int.toNat r8) default).drop (Int.toNat 0 + 1))).take (Int.toNat r8) ++ ((L.map Fl.ci).set (Int.toNat r8) (((L.map Fl.ci).getD (Int.toNat r8) default).take (Int.toNat 0) ++ ((L.map Fl.ci).getD (Int.toNat r8) default).drop (Int.toNat 0 + 1))).drop ((Int.toNat r8) + 1)) q16 q26)
          else (
          zag b S M' R' l n ((L.map Fl.ci).set (Int.toNat r8) (((L.map Fl.ci).getD (Int.toNat r8) default).take (Int.toNat 0) ++ ((L.map Fl.ci).getD (Int.toNat r8) default).drop (Int.toNat 0 + 1))) q16 q26)).Out (RPost n) := fun {c u x} k hc => by
      refine M.o_bind (next_out k (by omega) (by omega)) ?_
      rintro ⟨a, u2, x2⟩ ⟨k2, g2, _⟩
      have g2 := g2 (by omega)
      dsimp only at k2 g2 ⊢
      have ha : Int.toNat a < L.length := by omega
      have row := hT.row _ (rin _ ha)
      have rp := List.length_pos_iff.2 row.1
      refine M.o_grd (gA2 (by omega) (by omega)) (M.o_grd (decide_eq_true (by omega)) (M.o_grd (gA2 (by omega) (by rw [List.length_set]; omega)) (M.o_if (fun hz => ?_) (fun hz => ?_))))
      · refine M.o_grd (decide_eq_true (by omega)) (fin k2 (by omega) ?_)
        rw [Fl.set_del]
        exact hT.del _
      · refine fin k2 (by omega) (hT.set ⟨fun e => ?_, fun y hy => ?_⟩)
        · rw [e, gset _ _ _ _ _ (by omega), if_pos rfl] at hz
          simp at hz
        · rcases List.mem_append.1 hy with hy | hy
          · exact row.2 y (List.mem_of_mem_take hy)
          · exact row.2 y (List.mem_of_mem_drop hy)
    refine M.o_if (fun hl1 => ?_) (fun hl1 => ?_)
    · refine M.o_bind (next_out k1 (by omega) (by omega)) ?_
      rintro ⟨r5, u2, x2⟩ ⟨k2, _, _⟩
      dsimp only at k2 ⊢
      refine M.o_if (fun _ => ?_) (fun _ => shr k2 (by omega))
      refine M.o_bind (next_out k2 (by omega) (by omega)) ?_
      rintro ⟨a, u3, x3⟩ ⟨k3, g3, _⟩
      have g3 := g3 (by omega)
      dsimp only at k3 g3 ⊢
      refine M.o_bind (next_out k3 (by omega) (by omega)) ?_
      rintro ⟨c, u4, x4⟩ ⟨k4, g4, _⟩
      have g4 := g4 (by omega)
      dsimp only at k4 g4 ⊢
      have ha : Int.toNat a < L.length := by omega
      have hc : Int.toNat c < L.length := by omega
      have ra := hT.row _ (rin _ ha)
      have rc := hT.row _ (rin _ hc)
      have la := hrl _ (rin _ ha)
      have lc := hrl _ (rin _ hc)
      refine M.o_if (fun _ => ?_) (fun _ => fin k4 (by omega) hT)
      refine M.o_grd (gA2 (by omega) (by omega)) (M.o_grd (gA2 (by omega) (by omega)) (M.o_grd (decide_eq_true (by omega)) (M.o_grd (gA2 (by omega) (by rw [List.length_set]; omega)) (M.o_grd (decide_eq_true (by omega)) (fin k4 (by omega) ((hT.set ⟨fun e => ?_, fun y hy => ?_⟩).del _))))))
      · exact ra.1 (List.append_eq_nil_iff.1 e).1
      · rcases List.mem_append.1 hy with hy | hy
        · exact ra.2 y hy
        · exact rc.2 y hy
    · exact shr k1 (by omega)
  · rintro ⟨u, x, _⟩ ⟨rfl, _⟩
    simp only [zaA]
    exact M.o_f (decide_eq_false (by decide)) (M.o_pure trivial)
end
theorem zdj (numbers tries : List UInt8) : (zbS numbers tries).Ends true := by
  refine M.Out.ends ?_
  unfold zbS
  refine M.o_bindE (by unfold zaT; exact M.i_pure) (M.o_bind (Made_lim (K := 9) (lies := true) (by omega)) ?_)
  rintro ⟨S, M', R', t, ro, u, x⟩ h
  dsimp only at h ⊢
  have site := h.site
  have hm := site.m
  refine M.o_bindE (by unfold zaT; exact M.i_pure) (M.o_bind (Most_best site) ?_)
  rintro ⟨l, _⟩ ⟨rfl, L, hE, hr, hb⟩
  dsimp only at hb ⊢
  have hbn := hb.n
  have hlen := hr.len
  have hpos := hr.pos hm.1
  have hT := hr.rws hm.2
  have hTl : (L.map Fl.ci).length = L.length := List.length_map _
  refine M.o_bindE (Rows_ends site hE) (M.o_f ?_ ?_)
  · have e1 : ((l.length : Int) == 0) = false := by rw [beq_eq_false_iff_ne]; omega
    have e2 : (((L.map Fl.ci).length : Int) != (l.length : Int)) = false := by rw [hTl, hbn]; simp
    rw [e1, e2]
    rfl
  refine M.o_bind (Proves_out site hT) ?_
  rintro ⟨p1, _⟩ ⟨rfl, h1⟩
  refine M.o_bind (Proves_out site hT) ?_
  rintro ⟨p2, _⟩ ⟨rfl, h2⟩
  dsimp only at h1 h2 ⊢
  have hlb : ((L.map Fl.ci).length : Int) = (l.length : Int) := by rw [hTl, hbn]
  have e1 : p1 = true := h1.2 ⟨by rw [hlb]; exact Int.le_refl _, hr.proves⟩
  have e2 : p2 = false := by
    cases p2 with
    | false => rfl
    | true =>
      have := (h2.1 rfl).1
      rw [hlb] at this
      omega
  subst e1 e2
  refine M.o_bindE (Surface_ends site hb.inc hb.tog) (M.o_f rfl (M.o_bind (rounds_out site hr hb) ?_))
  intro z hz
  match z, hz with
  | .inr (s11, s12), _ =>
    refine M.o_if (fun _ => M.o_bindE awake_ends (M.o_pure rfl)) (fun h1 => ?_)
    have h1 : (M'.length : Int) ≠ 1 := by rw [beq_eq_false_iff_ne] at h1; exact h1
    have site1 : Fl.Site S (M'.drop 1) R' := ⟨site.s, by rw [List.length_drop]; omega, site.r, fun m q => site.mks m (List.mem_of_mem_drop q), site.rks⟩
    refine M.o_bindE (copy_ends site) ?_
    dsimp only
    refine M.o_grd (decide_eq_true (by omega)) (M.o_bind (Most_best site1) ?_)
    rintro ⟨k, _⟩ ⟨rfl, L1, _, hr1, hk⟩
    dsimp only at hk ⊢
    have q1 := Fl.less_one hb hr1 hk
    have gd : ∀ i, (M'.drop 1).getD i default = M'.getD (i + 1) default := fun i => by
      simp only [List.getD, List.getElem?_drop]
      rw [Nat.add_comm]
    have q2 := Fl.best_le hk hr hb (g := fun i => i + 1) (fun i hi => by rw [List.length_drop] at hi; omega) (fun i j _ _ e => by omega) (fun i j _ _ q => by
      unfold Fl.ah at q ⊢
      rw [gd, gd]
      exact q)
    have key : ((((0 : Int) == 0) && (decide ((k.length : Int) <= (l.length : Int)))) && (decide (((l.length : Int) - 1) <= (k.length : Int)))) = true := by
      rw [decide_eq_true (by omega), decide_eq_true (by omega)]; rfl
    refine M.o_grd (gOr2 (by omega) (by omega)) (M.o_bindE (M.i_opt (fun _ => awake_ends) (fun q => by rw [key] at q; cases q)) (M.o_pure ?_))
    rw [key]
    rfl
end Go.Proofs.YtlemgioaakecpaaGreat
