/- Part 6 of the texts on which the proof rests. Conditions: none. -/
import Derived.Test.YtndobgodeicloaaZ5
set_option linter.unusedVariables false
set_option linter.unusedSimpArgs false
set_option linter.unusedSectionVars false
namespace Go.Proofs.Ytndobgodeicloaa
open Go Go.Nm
variable {ws : List Work} {rv : List Int}
theorem fc_list {b : List UInt8} {c u x : Int} (h : SOk c u x) (hc : c ≤ 1000000000) (hw : ws.length ≤ 30) :
    (M.iter (m_nilometerlaw13_NotesFenced_b6 b ws rv) (u, x, 0, [])).Out (fun y => SOk (c + 60) y.1 y.2.1 ∧ y.2.2.2.Pairwise (· < ·) ∧ (∀ x ∈ y.2.2.2, 0 ≤ x ∧ x < (ws.length : Int))) := by
  refine M.o_for ws.length (fun i st => st.2.2.1 = i ∧ SOk (c + 2 * (i : Int)) st.1 st.2.1 ∧ st.2.2.2.Pairwise (· < ·) ∧ (∀ x ∈ st.2.2.2, 0 ≤ x ∧ x < (i : Int)) ∧ st.2.2.2.length ≤ i) ?_ ?_ (s := (u, x, 0, [])) ⟨rfl, h.mono (by omega), by simp, by simp, by simp⟩
  · rintro i ⟨u, x, j, l⟩ hi ⟨rfl, ok, hp, hl, hle⟩
    dsimp only at hi ok hp hl hle ⊢
    have put : ∀ y ∈ l ++ [(j : Int)], 0 ≤ y ∧ y < ((j + 1 : Nat) : Int) := fun y hy => by
      rcases List.mem_append.1 hy with hy | hy
      · have := hl y hy; omega
      · rw [List.mem_singleton.1 hy]; omega
    have hp1 : (l ++ [(j : Int)]).Pairwise (· < ·) := pair_snoc hp (fun y hy => (hl y hy).2)
    have skip : ∀ y ∈ l, 0 ≤ y ∧ y < ((j + 1 : Nat) : Int) := fun y hy => by have := hl y hy; omega
    have hcon : (m_slices_ContainsFunc_int ((ws.getD j default).of) (fun xqz => m_nilometerlaw13_NotesFenced_1 xqz l)).Ends ((ws.getD j default).of.any fun k => l.contains k) := containsFunc_ends (fun x _ => M.i_pure)
    simp only [m_nilometerlaw13_NotesFenced_b6]
    refine M.o_t (by simpa using hi) ?_
    cases hrc : rv.contains (j : Int) with
    | false =>
      refine M.o_t rfl (M.o_bind (next_out ok (by omega) (by omega)) ?_)
      rintro ⟨r1, u1, x1⟩ ⟨ok1, _, _⟩
      dsimp only at ok1 ⊢
      cases hr1 : (r1 == 0) with
      | false =>
        refine M.o_t rfl (M.o_bind (next_out ok1 (by omega) (by omega)) ?_)
        rintro ⟨r2, u2, x2⟩ ⟨ok2, _, _⟩
        dsimp only at ok2 ⊢
        refine M.o_grd (gOr (by omega)) ?_
        refine M.o_bind (P := fun _ => True) ?_ ?_
        · exact M.o_opt (fun _ => M.o_of hcon trivial) (fun _ => trivial)
        · intro r7 _
          refine M.o_if (fun _ => ?_) (fun _ => ?_)
          · exact M.o_grdD (by simp only [List.length_cons, List.length_nil]; omega) (M.o_pure ⟨rfl, ok2.mono (by omega), hp1, put, by simp only [List.length_append, List.length_cons, List.length_nil]; omega⟩)
          · exact M.o_pure ⟨rfl, ok2.mono (by omega), hp, skip, by dsimp only; omega⟩
      | true =>
        refine M.o_f rfl (M.o_grd rfl (M.o_bindE (a := false) M.i_pure (M.o_t rfl ?_)))
        exact M.o_grdD (by simp only [List.length_cons, List.length_nil]; omega) (M.o_pure ⟨rfl, ok1.mono (by omega), hp1, put, by simp only [List.length_append, List.length_cons, List.length_nil]; omega⟩)
    | true =>
      refine M.o_f rfl (M.o_f rfl (M.o_grd rfl (M.o_bindE (a := false) M.i_pure (M.o_t rfl ?_))))
      exact M.o_grdD (by simp only [List.length_cons, List.length_nil]; omega) (M.o_pure ⟨rfl, ok.mono (by omega), hp1, put, by simp only [List.length_append, List.length_cons, List.length_nil]; omega⟩)
  · rintro ⟨u, x, j, l⟩ ⟨rfl, ok, hp, hl, hle⟩
    dsimp only at ok hp hl hle ⊢
    simp only [m_nilometerlaw13_NotesFenced_b6]
    exact M.o_f (by simp) (M.o_pure ⟨ok.mono (by omega), hp, hl⟩)
theorem fc_has {l f : List Int} {r : Bool} (h : r = true → ∀ x ∈ l, x ∈ f) : (M.iter (m_nilometerlaw13_NotesFenced_b7 l f r) 0).Ends (.inr ()) := by
  have s0 := M.i_scan (b := m_nilometerlaw13_NotesFenced_b7 l f r) l.length (fun _ => false) (fun i hi _ => ?_) (fun _ => ?_)
  · rw [show (List.range l.length).any (fun _ => false) = false from by simp] at s0
    exact s0
  · simp only [m_nilometerlaw13_NotesFenced_b7]
    refine M.i_t (by simpa using hi) (M.grdD (by omega) (M.i_f ?_ M.i_pure))
    cases r with
    | false => rfl
    | true =>
      have := h rfl _ (getD_memN l (by omega : (i : Int) < _) 0)
      rw [← List.contains_iff_mem] at this
      rw [this]
      rfl
  · simp only [m_nilometerlaw13_NotesFenced_b7]
    exact M.i_f (by simp) M.i_pure
structure FcOk (ws : List Work) (rv f : List Int) : Prop where
  fence : FenceW ws rv f
  asc : f.Pairwise (· < ·)
  rng : ∀ x ∈ f, 0 ≤ x ∧ x < (ws.length : Int)
theorem fc_tries (hB : Built ws) (hA : askedE ws rv = 0) {b : List UInt8} {c u x : Int} (h : SOk c u x) (hc : c ≤ 100000000) (hw : ws.length ≤ 30) :
    (M.iter (m_nilometerlaw13_NotesFenced_b9 b ws rv (staleR ws rv)) (u, x, 0, [])).Out (fun y => ∃ z, y = .inr z ∧ SOk (c + 1000) z.1 z.2.1 ∧ ∀ f ∈ z.2.2.2, FcOk ws rv f) := by
  refine M.o_for 6 (fun i st => st.2.2.1 = i ∧ SOk (c + 100 * (i : Int)) st.1 st.2.1 ∧ (∀ f ∈ st.2.2.2, FcOk ws rv f) ∧ st.2.2.2.length ≤ i) ?_ ?_ (s := (u, x, 0, [])) ⟨rfl, h.mono (by omega), by simp, by simp⟩
  · rintro i ⟨u, x, j, l⟩ hi ⟨rfl, ok, hf, hle⟩
    dsimp only at hi ok hf hle ⊢
    simp only [m_nilometerlaw13_NotesFenced_b9]
    refine M.o_t (by simp; omega) (M.o_bind (fc_list ok (by omega) hw) ?_)
    rintro ⟨u1, x1, la, g⟩ ⟨ok1, hp, hr⟩
    dsimp only at ok1 hp hr ⊢
    have hE := fencesE_of hA hr hp
    have hfe := notesFences_ends ws rv g
    rw [hE] at hfe
    refine M.o_bindE hfe (M.o_f rfl ?_)
    cases hR : fencesR ws rv g with
    | true =>
      have hF := (fence_iff hE).1 hR
      refine M.o_t rfl (M.o_grdD (by simp only [List.length_cons, List.length_nil]; omega) (M.o_bindE (fc_has (fun _ x hx => ?_)) (M.o_pure ⟨rfl, ok1.mono (by omega), fun f hf' => ?_, by simp only [List.length_append, List.length_cons, List.length_nil]; omega⟩)))
      · have hm := (staleL_mem hA x).1 hx
        have := hF.all hB x.toNat (by omega) hm.2.2
        rwa [Int.toNat_of_nonneg hm.1] at this
      · rcases List.mem_append.1 hf' with hf' | hf'
        · exact hf f hf'
        · rw [List.mem_singleton.1 hf']; exact ⟨hF, hp, hr⟩
    | false =>
      refine M.o_f rfl (M.o_bindE (fc_has (fun h => by cases h)) (M.o_pure ⟨rfl, ok1.mono (by omega), hf, by dsimp only; omega⟩))
  · rintro ⟨u, x, j, l⟩ ⟨rfl, ok, hf, hle⟩
    dsimp only at ok hf hle ⊢
    simp only [m_nilometerlaw13_NotesFenced_b9]
    exact M.o_f rfl (M.o_pure ⟨_, rfl, ok.mono (by omega), hf⟩)
/-- What two lists have in common, or together, up to a number. -/
structure Both (n i : Nat) (f g bl al : List Int) : Prop where
  b : ∀ x, x ∈ bl ↔ 0 ≤ x ∧ x < (i : Int) ∧ x ∈ f ∧ x ∈ g
  a : ∀ x, x ∈ al ↔ 0 ≤ x ∧ x < (i : Int) ∧ (x ∈ f ∨ x ∈ g)
  basc : bl.Pairwise (· < ·)
  aasc : al.Pairwise (· < ·)
  blen : bl.length ≤ i
  alen : al.length ≤ i
theorem mem_snoc_i {l : List Int} {p : Int → Prop} {i : Nat} (h : ∀ x, x ∈ l ↔ 0 ≤ x ∧ x < (i : Int) ∧ p x) (hp : p (i : Int)) : ∀ x, x ∈ l ++ [(i : Int)] ↔ 0 ≤ x ∧ x < ((i + 1 : Nat) : Int) ∧ p x := by
  intro x
  rw [List.mem_append, List.mem_singleton, h x]
  constructor
  · rintro (⟨h1, h2, h3⟩ | rfl)
    · exact ⟨h1, by omega, h3⟩
    · exact ⟨by omega, by omega, hp⟩
  · rintro ⟨h1, h2, h3⟩
    by_cases e : x = (i : Int)
    · exact .inr e
    · exact .inl ⟨h1, by omega, h3⟩
theorem mem_skip_i {l : List Int} {p : Int → Prop} {i : Nat} (h : ∀ x, x ∈ l ↔ 0 ≤ x ∧ x < (i : Int) ∧ p x) (hp : ¬ p (i : Int)) : ∀ x, x ∈ l ↔ 0 ≤ x ∧ x < ((i + 1 : Nat) : Int) ∧ p x := by
  intro x
  rw [h x]
  constructor
  · rintro ⟨h1, h2, h3⟩
    exact ⟨h1, by omega, h3⟩
  · rintro ⟨h1, h2, h3⟩
    refine ⟨h1, ?_, h3⟩
    by_cases e : x = (i : Int)
    · rw [e] at h3; exact absurd h3 hp
    · omega
theorem fc_both {l : List (List Int)} (hl : 1 < l.length) (hw : ws.length ≤ 30) :
    (M.iter (m_nilometerlaw13_NotesFenced_b10 ws l) (0, [], [])).Out (fun y => Both ws.length ws.length (l.getD 0 []) (l.getD 1 []) y.2.2.2 y.2.2.1) := by
  refine M.o_for ws.length (fun i st => st.1 = i ∧ Both ws.length i (l.getD 0 []) (l.getD 1 []) st.2.1 st.2.2) ?_ ?_ (s := (0, [], [])) ⟨rfl, ⟨fun x => by simp; omega, fun x => by simp; omega, by simp, by simp, by simp, by simp⟩⟩
  · rintro i ⟨j, b, a⟩ hi ⟨rfl, hb⟩
    dsimp only at hi hb ⊢
    obtain ⟨h1, h2, h3, h4, h5, h6⟩ := hb
    have p1 : (b ++ [(j : Int)]).Pairwise (· < ·) := pair_snoc h3 (fun y hy => ((h1 y).1 hy).2.1)
    have p2 : (a ++ [(j : Int)]).Pairwise (· < ·) := pair_snoc h4 (fun y hy => ((h2 y).1 hy).2.1)
    have e0 : (l.getD 0 []).contains (j : Int) = true ↔ (j : Int) ∈ l.getD 0 [] := List.contains_iff_mem
    have e1 : (l.getD 1 []).contains (j : Int) = true ↔ (j : Int) ∈ l.getD 1 [] := List.contains_iff_mem
    simp only [m_nilometerlaw13_NotesFenced_b10]
    refine M.o_t (by simpa using hi) (M.o_grdD (by omega) ?_)
    cases c0 : (l.getD 0 []).contains (j : Int) with
    | true =>
      have m0 := e0.1 c0
      cases c1 : (l.getD 1 []).contains (j : Int) with
      | true =>
        have m1 := e1.1 c1
        exact M.o_t rfl (M.o_grdD (by simp only [List.length_cons, List.length_nil]; omega) (M.o_t rfl (M.o_grdD (by simp only [List.length_cons, List.length_nil]; omega) (M.o_pure ⟨rfl, mem_snoc_i h1 ⟨m0, m1⟩, mem_snoc_i h2 (.inl m0), p1, p2, by simp only [List.length_append, List.length_cons, List.length_nil]; omega, by simp only [List.length_append, List.length_cons, List.length_nil]; omega⟩))))
      | false =>
        have m1 : (j : Int) ∉ l.getD 1 [] := fun h => by rw [e1.2 h] at c1; cases c1
        exact M.o_f rfl (M.o_t rfl (M.o_grdD (by simp only [List.length_cons, List.length_nil]; omega) (M.o_pure ⟨rfl, mem_skip_i h1 (fun h => m1 h.2), mem_snoc_i h2 (.inl m0), h3, p2, by dsimp only; omega, by simp only [List.length_append, List.length_cons, List.length_nil]; omega⟩)))
    | false =>
      have m0 : (j : Int) ∉ l.getD 0 [] := fun h => by rw [e0.2 h] at c0; cases c0
      cases c1 : (l.getD 1 []).contains (j : Int) with
      | true =>
        have m1 := e1.1 c1
        exact M.o_f rfl (M.o_t rfl (M.o_grdD (by simp only [List.length_cons, List.length_nil]; omega) (M.o_pure ⟨rfl, mem_skip_i h1 (fun h => m0 h.1), mem_snoc_i h2 (.inr m1), h3, p2, by dsimp only; omega, by simp only [List.length_append, List.length_cons, List.length_nil]; omega⟩)))
      | false =>
        have m1 : (j : Int) ∉ l.getD 1 [] := fun h => by rw [e1.2 h] at c1; cases c1
        exact M.o_f rfl (M.o_f rfl (M.o_pure ⟨rfl, mem_skip_i h1 (fun h => m0 h.1), mem_skip_i h2 (fun h => h.elim m0 m1), h3, h4, by dsimp only; omega, by dsimp only; omega⟩))
  · rintro ⟨j, b, a⟩ ⟨rfl, hb⟩
    dsimp only at hb ⊢
    simp only [m_nilometerlaw13_NotesFenced_b10]
    exact M.o_f (by simp) (M.o_pure hb)
theorem fc_few {l f : List Int} (h : ∀ x ∈ f, x ∈ l) : (M.iter (m_nilometerlaw13_NotesFenced_b12 l f) 0).Ends (.inr ()) := by
  have s0 := M.i_scan (b := m_nilometerlaw13_NotesFenced_b12 l f) f.length (fun _ => false) (fun i hi _ => ?_) (fun _ => ?_)
  · rw [show (List.range f.length).any (fun _ => false) = false from by simp] at s0
    exact s0
  · simp only [m_nilometerlaw13_NotesFenced_b12]
    have := h _ (getD_memN f (by omega : (i : Int) < _) 0)
    rw [← List.contains_iff_mem] at this
    exact M.i_t (by simpa using hi) (M.grdD (by omega) (M.i_f (by rw [this]; rfl) M.i_pure))
  · simp only [m_nilometerlaw13_NotesFenced_b12]
    exact M.i_f (by simp) M.i_pure
theorem notesFenced_out (a b : List UInt8) : (m_nilometerlaw13_NotesFenced a b).Out (fun r => r = true) := by
  unfold m_nilometerlaw13_NotesFenced
  have s0 : SOk 0 0 0 := ⟨Int.le_refl _, Int.le_refl _, Int.le_refl _, by omega⟩
  refine M.o_bindE M.i_pure (M.o_bindE M.i_pure (M.o_bind (made_out s0 (by omega) (by omega) (by omega)) ?_))
  rintro ⟨ws, u1, x1⟩ ⟨hW, ok1⟩
  dsimp only at hW ok1 ⊢
  have hB := hW.built
  have hO := hB.opened
  have h2 := hW.two
  have h14 := hW.most
  refine M.o_bind (revised_out ok1 (by omega) (by omega) (by omega)) ?_
  rintro ⟨rv, u2, x2⟩ ⟨hv, _⟩
  dsimp only at hv ⊢
  have hA := hv.asked hO
  have hsF := stale_fence hO hA
  have hsr := stale_range hA
  have hsa := stale_asc ws rv
  have hsl : 1 ≤ (staleR ws rv).length := by
    obtain ⟨x, hx⟩ := List.exists_mem_of_ne_nil rv hv.some
    exact List.length_pos_of_mem (hsF.rev x hx)
  have hsl2 : (staleR ws rv).length ≤ 30 := by
    unfold staleR
    rw [if_pos hA]
    have := stT_len ws rv ws.length
    omega
  have hrl : 1 ≤ rv.length := List.length_pos_iff.2 hv.some
  rw [hA]
  refine M.o_bindE M.i_pure ?_
  dsimp only
  refine M.o_f (by simp; intro e; rw [e] at hsl; simp at hsl) (M.o_bind (fc_tries hB hA s0 (by omega) (by omega)) ?_)
  rintro _ ⟨⟨u3, x3, la, l⟩, rfl, ok3, hl⟩
  dsimp only at ok3 hl ⊢
  refine M.o_bind (next_out ok3 (by omega) (by omega)) ?_
  rintro ⟨q, u4, x4⟩ ⟨_, lt, _⟩
  dsimp only at lt ⊢
  have lt := lt (by omega)
  have eq1 : Int.toNat (q + 1) = q.toNat + 1 := by omega
  rw [eq1]
  -- one that is stale is taken away
  have hsub : (staleR ws rv).take q.toNat ++ (staleR ws rv).drop (q.toNat + 1) = (staleR ws rv).eraseIdx q.toNat := (List.eraseIdx_eq_take_drop_succ _ _).symm
  have hE1 : fencesE ws rv ((staleR ws rv).take q.toNat ++ (staleR ws rv).drop (q.toNat + 1)) = 0 := by
    rw [hsub]
    exact fencesE_of hA (fun x hx => hsr x (List.mem_of_mem_eraseIdx hx)) (hsa.sublist (List.eraseIdx_sublist _ _))
  have hR1 : fencesR ws rv ((staleR ws rv).take q.toNat ++ (staleR ws rv).drop (q.toNat + 1)) = false := by
    cases hc : fencesR ws rv ((staleR ws rv).take q.toNat ++ (staleR ws rv).drop (q.toNat + 1)) with
    | false => rfl
    | true =>
      exfalso
      have hF := (fence_iff hE1).1 hc
      have hm := (staleL_mem hA _).1 (getD_memN (staleR ws rv) (i := q.toNat) (by omega) 0)
      have h1 := hF.all hB _ (by omega) hm.2.2
      rw [Int.toNat_of_nonneg hm.1] at h1
      have hp := hsa
      rw [← List.take_append_drop q.toNat (staleR ws rv), List.pairwise_append] at hp
      have hd : (staleR ws rv).drop q.toNat = (staleR ws rv).getD q.toNat 0 :: (staleR ws rv).drop (q.toNat + 1) := by
        rw [getD_el _ (by omega : q.toNat < _) 0]
        exact List.drop_eq_getElem_cons (by omega)
      rw [hd] at hp
      rcases List.mem_append.1 h1 with h1 | h1
      · have := hp.2.2 _ h1 _ (List.mem_cons_self ..)
        omega
      · have := (List.pairwise_cons.1 hp.2.1).1 _ h1
        omega
  have hfe := notesFences_ends ws rv ((staleR ws rv).take q.toNat ++ (staleR ws rv).drop (q.toNat + 1))
  rw [hE1, hR1] at hfe
  refine M.o_grdD (by omega) (M.o_grd (gA2 (by omega) (by omega)) (M.o_grd (gA3 lt.1 (by omega) (by omega)) (M.o_bindE hfe (M.o_f rfl ?_))))
  -- what comes last
  have hA2 : askedE ws (staleR ws rv) = 0 := by rw [asked_list hO]; exact listed_of hsr hsa
  have hmore : staleR ws (staleR ws rv) = staleR ws rv := by
    refine staleR_eq hA2 hA fun i hi => ?_
    rw [Bool.eq_iff_iff]
    refine ⟨stale_more hB (fun x hx => .inr ((staleL_mem hA x).1 hx).2.2) i hi, stale_more hB (fun x hx => .inl (hsF.rev x hx)) i hi⟩
  have ht1 : ∀ x ∈ rv.take 1, x ∈ rv := fun x hx => List.mem_of_mem_take hx
  have hA3 : askedE ws (rv.take 1) = 0 := by
    rw [asked_list hO]
    exact listed_of (fun x hx => hv.lt x (ht1 x hx)) (hv.asc.sublist (List.take_sublist _ _))
  have hfew : ∀ x ∈ staleR ws (rv.take 1), x ∈ staleR ws rv := by
    intro x hx
    have h1 := (staleL_mem hA3 x).1 hx
    rw [staleL_mem hA]
    exact ⟨h1.1, h1.2.1, stale_more hB (fun y hy => .inl (ht1 y hy)) x.toNat (by omega) h1.2.2⟩
  have tail : (M.bind (M.pure (staleR ws (staleR ws rv), askedE ws (staleR ws rv))) fun (l15, e2) =>
      bif ((e2 != 0) || (!(decide (l15 = staleR ws rv)))) then (
      M.pure false)
      else (
      M.grd (decide (1 ≤ (rv.length : Int))) <|
      M.bind (M.pure (staleR ws (rv.take 1), askedE ws (rv.take 1))) fun (l16, e3) =>
      bif e3 != 0 then (
      M.pure false)
      else (
      M.bind (M.iter (m_nilometerlaw13_NotesFenced_b12 (staleR ws rv) l16) 0) fun x_ => match x_ with
      | (.inl (_ : Unit)) => (
      M.pure false)
      | (.inr (_ : Unit)) => (
      M.bind (m_nilometerlaw13_awake) fun r60 =>
      M.pure r60)))).Out (fun r => r = true) := by
    rw [hA2, hA3, hmore]
    refine M.o_bindE M.i_pure (M.o_f (by simp) (M.o_grdD (by omega) (M.o_bindE M.i_pure (M.o_f rfl ?_))))
    exact M.o_bindE (fc_few hfew) (M.o_bindE awake_ends (M.o_pure rfl))
  refine M.o_if (fun hb => ?_) (fun hb => tail)
  have h2l : 1 < l.length := by
    simp only [decide_eq_true_eq] at hb
    omega
  refine M.o_bind (fc_both h2l (by omega)) ?_
  rintro ⟨lb, la2, any_, both⟩ hbo
  dsimp only at hbo ⊢
  have f0 := hl _ (getD_memN l (i := 0) (by omega) [])
  have f1 := hl _ (getD_memN l (i := 1) (by omega) [])
  have hEb : fencesE ws rv both = 0 := fencesE_of hA (fun x hx => by have := (hbo.b x).1 hx; exact ⟨this.1, this.2.1⟩) hbo.basc
  have hEa : fencesE ws rv any_ = 0 := fencesE_of hA (fun x hx => by have := (hbo.a x).1 hx; exact ⟨this.1, this.2.1⟩) hbo.aasc
  have hRb : fencesR ws rv both = true := (fence_iff hEb).2 ⟨fun x hx => (hbo.b x).2 ⟨(hv.lt x hx).1, (hv.lt x hx).2, f0.fence.rev x hx, f1.fence.rev x hx⟩, fun i hi k hk hf => by
    have := (hbo.b k).1 hf
    exact (hbo.b _).2 ⟨by omega, by omega, f0.fence.cl i hi k hk this.2.2.1, f1.fence.cl i hi k hk this.2.2.2⟩⟩
  have hRa : fencesR ws rv any_ = true := (fence_iff hEa).2 ⟨fun x hx => (hbo.a x).2 ⟨(hv.lt x hx).1, (hv.lt x hx).2, .inl (f0.fence.rev x hx)⟩, fun i hi k hk hf => by
    have := (hbo.a k).1 hf
    refine (hbo.a _).2 ⟨by omega, by omega, ?_⟩
    rcases this.2.2 with h | h
    · exact .inl (f0.fence.cl i hi k hk h)
    · exact .inr (f1.fence.cl i hi k hk h)⟩
  have hfb := notesFences_ends ws rv both
  have hfa := notesFences_ends ws rv any_
  rw [hEb, hRb] at hfb
  rw [hEa, hRa] at hfa
  exact M.o_bindE hfb (M.o_bindE hfa (M.o_f rfl tail))
theorem notesFenced_ends (a b : List UInt8) : (m_nilometerlaw13_NotesFenced a b).Ends true := by
  obtain ⟨r, h, rfl⟩ := notesFenced_out a b
  exact h
end Go.Proofs.Ytndobgodeicloaa
