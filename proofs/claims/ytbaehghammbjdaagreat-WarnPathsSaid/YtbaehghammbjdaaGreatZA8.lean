/- Part 8 of the texts on which the proof rests. Conditions: none. -/
import Derived.Test.YtbaehghammbjdaaGreatZA7
set_option linter.unusedVariables false
set_option linter.unusedSimpArgs false
set_option linter.unusedSectionVars false
namespace Go.Proofs.YtbaehghammbjdaaGreat
open Go Go.Nm
variable {dn : List Int} {tr : List Span} {sp : List Int} {tw : List Town} {dl dh : Int} {fl : List Flood}
theorem path_ends (R : Wn.Rv dn tr sp tw dl dh fl) {s : Int} (h0 : 0 <= s) (h1 : s < dn.length) : (zar dn tr sp tw dl dh fl s).Ends (Wn.P dn s, 0) := by
  refine M.Out.ends ?_
  unfold zar
  refine M.o_bindE (opened_ends R) ?_
  dsimp only
  have hp : (zak dn tr sp tw dl dh fl s).Ends (s, dl, dh) := M.i_pure
  have hst : Wn.Stn dn s := .inr ⟨h0, h1⟩
  have h12 := R.n12
  have hsh := Wn.P_short R.nx hst
  refine M.o_f rfl (M.o_bindE (station_true R h0 h1) (M.o_f rfl (M.o_bindE hp ?_)))
  dsimp only
  refine M.o_bind (path_out (Q := fun x => x = (.inl (Wn.P dn s) : List Int ⊕ Unit)) R.nx R.n12 hst (fun k (l : List Int) => l = (Wn.P dn s).take k) (by simp) ?_ ?_ _ _ _ _ _ _) ?_
  · rintro k hk _ rfl
    simp only [zay]
    exact M.o_grdD (by simp; omega) (M.o_pure (List.take_succ_eq_append_getElem hk).symm)
  · rintro _ rfl
    rw [List.take_length]
  · rintro ⟨x, q⟩ hq
    dsimp only at hq
    subst hq
    exact M.o_pure rfl
theorem travelsx_ends (R : Wn.Rv dn tr sp tw dl dh fl) {s y : Int} (h0 : 0 <= s) (h1 : s < dn.length) (h2 : 0 <= y) (h3 : y < dn.length) :
    (zaM dn tr sp tw dl dh fl s y).Ends (if y ∈ Wn.P dn s then (Wn.sm (Wn.lo tr) (Wn.upto (Wn.P dn s) y), Wn.sm (Wn.hi tr) (Wn.upto (Wn.P dn s) y), 0) else (0, 0, 5)) := by
  unfold zaM
  refine M.i_bind (opened_ends R) ?_
  dsimp only
  refine M.i_f rfl (M.i_bind (station_true R h0 h1) (M.i_bind (M.i_opt (fun _ => station_true R h2 h3) (fun h => by cases h)) (M.i_f rfl (M.i_bind (travels_ends R (.inr ⟨h0, h1⟩) y) ?_))))
  by_cases hy : y ∈ Wn.P dn s
  · rw [if_pos hy, if_pos hy]
    exact M.i_f rfl M.i_pure
  · rw [if_neg hy, if_neg hy]
    exact M.i_t rfl M.i_pure
theorem same_int (l : List Int) : (zad l l).Ends true := by
  unfold zad
  refine M.i_f (by simp) (M.i_bind (a := (.inr () : Unit ⊕ Unit)) ?_ M.i_pure)
  refine M.i_for (fun i => i) l.length (fun i hi => ?_) ?_
  · simp only [za8]
    exact M.i_t (decide_eq_true (by omega)) (M.i_grd (decide_eq_true (by omega)) (M.i_grd (decide_eq_true (by omega)) (M.i_f (by simp) M.i_pure)))
  · simp only [za8]
    exact M.i_f (by simp) M.i_pure
theorem same_span (l : List Span) : (zbF l l).Ends true := by
  unfold zbF
  refine M.i_f (by simp) (M.i_bind (a := (.inr () : Unit ⊕ Unit)) ?_ M.i_pure)
  refine M.i_for (fun i => i) l.length (fun i hi => ?_) ?_
  · simp only [zbd]
    exact M.i_t (decide_eq_true (by omega)) (M.i_grd (decide_eq_true (by omega)) (M.i_grd (decide_eq_true (by omega)) (M.i_f (by simp) M.i_pure)))
  · simp only [zbd]
    exact M.i_f (by simp) M.i_pure
theorem same_town (l : List Town) : (zbG l l).Ends true := by
  unfold zbG
  refine M.i_f (by simp) (M.i_bind (a := (.inr () : Unit ⊕ Unit)) ?_ M.i_pure)
  refine M.i_for (fun i => i) l.length (fun i hi => ?_) ?_
  · simp only [zbg]
    exact M.i_t (decide_eq_true (by omega)) (M.i_grd (decide_eq_true (by omega)) (M.i_grd (decide_eq_true (by omega)) (M.i_f (by simp) M.i_pure)))
  · simp only [zbg]
    exact M.i_f (by simp) M.i_pure
theorem opened_err {e : Int} (h : (zaq dn tr sp tw dl dh fl).Ends e) (he : e ≠ 0) : (zal dn tr sp tw dl dh fl).Ends (.inl e) := by
  unfold zal
  exact M.i_bind h (M.i_t (bne_iff_ne.2 he) M.i_pure)
theorem station_ends (n : Int) : (zao dn tr sp tw dl dh fl n).Ends (decide (0 <= n) && decide (n <= (dn.length : Int) - 1)) := by
  unfold zao
  exact M.i_bind (in_ends _ _ _) M.i_pure
theorem paths_same (s : Int) : ∃ y, (zar dn tr sp tw dl dh fl s).Ends y /\ (zaQ dn tr sp tw dl dh fl s).Ends y := by
  obtain ⟨e, h1, h2, h3⟩ := checks dn tr sp tw dl dh fl
  by_cases he : e = 0
  · subst he
    have R := h3 rfl
    by_cases hs : 0 <= s /\ s < (dn.length : Int)
    · refine ⟨_, path_ends R hs.1 hs.2, ?_⟩
      unfold zaQ
      exact M.i_bind h2 (M.i_f rfl (M.i_bind (outside_ends _ _ _) (M.i_f (by rw [decide_eq_false (by omega), decide_eq_false (by omega)]; rfl) (M.i_bind (refpath_ends R.nx R.n12 (.inr hs) _ _ _ _ _ _) M.i_pure))))
    · refine ⟨([], 2), ?_, ?_⟩
      · unfold zar
        refine M.i_bind (opened_ends R) ?_
        dsimp only
        refine M.i_f rfl (M.i_bind (station_ends _) (M.i_t ?_ M.i_pure))
        simp only [Bool.not_eq_true', Bool.and_eq_false_iff, decide_eq_false_iff_not]
        omega
      · unfold zaQ
        refine M.i_bind h2 (M.i_f rfl (M.i_bind (outside_ends _ _ _) (M.i_t ?_ M.i_pure)))
        simp only [Bool.or_eq_true, decide_eq_true_eq]
        omega
  · refine ⟨([], e), ?_, ?_⟩
    · unfold zar
      exact M.i_bind (opened_err h1 he) (M.i_t (bne_iff_ne.2 he) M.i_pure)
    · unfold zaQ
      exact M.i_bind h2 (M.i_t (bne_iff_ne.2 he) M.i_pure)
theorem sm_take (f : Int -> Int) (p : List Int) {i : Nat} (hi : i < p.length) : Wn.sm f (p.take (i + 1)) = Wn.sm f (p.take i) + f p[i] := by
  rw [List.take_succ_eq_append_getElem hi, Wn.sm_app]
  unfold Wn.sm
  simp
theorem sm_small (R : Wn.Rv dn tr sp tw dl dh fl) {s : Int} (hs : Wn.Stn dn s) (q : List Int) (hq : ∀ x ∈ q, x ∈ Wn.P dn s) (hl : q.length <= (Wn.P dn s).length) : (0 <= Wn.sm (Wn.lo tr) q /\ Wn.sm (Wn.lo tr) q <= 12000) /\ 0 <= Wn.sm (Wn.hi tr) q /\ Wn.sm (Wn.hi tr) q <= 12000 := by
  have hsh := Wn.P_short R.nx hs
  have h12 := R.n12
  have hb : ∀ w ∈ q, (0 <= Wn.lo tr w /\ Wn.lo tr w <= 1000) /\ 0 <= Wn.hi tr w /\ Wn.hi tr w <= 1000 := fun w hw => by
    have h1 := Wn.P_mem R.nx s hs w (hq w hw)
    have h2 := R.hr (Int.toNat w) (by have := R.tl; omega)
    unfold Wn.lo Wn.hi
    omega
  have b1 := Wn.sm_bound (Wn.lo tr) _ fun w hw => (hb w hw).1
  have b2 := Wn.sm_bound (Wn.hi tr) _ fun w hw => (hb w hw).2
  omega
theorem takes_ends (R : Wn.Rv dn tr sp tw dl dh fl) {s : Int} (hs : 0 <= s /\ s < (dn.length : Int)) (y : Int) :
    (zbf dn tr sp tw dl dh fl s y).Ends (if y ∈ Wn.P dn s then (Wn.sm (Wn.lo tr) (Wn.upto (Wn.P dn s) y), Wn.sm (Wn.hi tr) (Wn.upto (Wn.P dn s) y), true) else (0, 0, false)) := by
  refine M.Out.ends ?_
  unfold zbf
  have hst : Wn.Stn dn s := .inr hs
  have htl := R.tl
  refine M.o_bind (P := fun x => match x with | .inl (_ : Int × Int) => y ∉ Wn.P dn s | .inr z => y ∈ Wn.P dn s /\ z.1 = Wn.sm (Wn.lo tr) (Wn.upto (Wn.P dn s) y) /\ z.2 = Wn.sm (Wn.hi tr) (Wn.upto (Wn.P dn s) y)) ?_ ?_
  · refine M.o_for (Wn.P dn s).length (fun i (t : Int × Int × Int) => ∃ hi : i < (Wn.P dn s).length, t.1 = (Wn.P dn s)[i] /\ t.2.1 = Wn.sm (Wn.lo tr) ((Wn.P dn s).take i) /\ t.2.2 = Wn.sm (Wn.hi tr) ((Wn.P dn s).take i) /\ y ∉ (Wn.P dn s).take i) ?_ ?_ ?_
    · rintro i ⟨c, a, b⟩ hi ⟨_, e1, e2, e3, hn⟩
      dsimp only at e1 e2 e3
      have hm := Wn.P_mem R.nx s hst _ (List.getElem_mem hi)
      have hd := Wn.P_drop R.nx s hst i hi
      rw [← e1] at hm hd
      have hc := Wn.P_cons R.nx hm.2.1 hm.2.2
      rw [hd, List.drop_eq_getElem_cons hi, ← e1] at hc
      have hc := (List.cons.inj hc).2
      have hx := R.nx.next hm.2.1 hm.2.2
      have bb := sm_small R hst ((Wn.P dn s).take i) (fun x hx => List.mem_of_mem_take hx) (by rw [List.length_take]; omega)
      have rr := R.hr (Int.toNat c) (by omega)
      have t1 := sm_take (Wn.lo tr) (Wn.P dn s) hi
      have t2 := sm_take (Wn.hi tr) (Wn.P dn s) hi
      rw [← e1, ← e2] at t1
      rw [← e1, ← e3] at t2
      unfold Wn.lo at t1
      unfold Wn.hi at t2
      simp only [zbH]
      refine M.o_if (fun hb => ?_) (fun hb => M.o_pure ?_)
      · have hb : c ≠ y := bne_iff_ne.1 hb
        have hn' : y ∉ (Wn.P dn s).take (i + 1) := by
          rw [List.take_succ_eq_append_getElem hi, List.mem_append, List.mem_singleton, ← e1]
          rintro (h | h)
          · exact hn h
          · exact hb h.symm
        refine M.o_grd (gA2 hm.2.1 (by omega)) (M.o_grd (gA2 (by omega) (by omega)) (M.o_grd (gA2 (by omega) (by omega)) (M.o_grd (gA2 hm.2.1 hm.2.2) (M.o_if (fun hz => M.o_pure ?_) (fun hz => M.o_pure ?_)))))
        · have hz : dn.getD (Int.toNat c) 0 = -1 := beq_iff_eq.1 hz
          rw [hz, Wn.P_none] at hc
          intro h
          rw [← List.take_append_drop (i + 1) (Wn.P dn s), hc, List.append_nil] at h
          exact hn' h
        · have hz : dn.getD (Int.toNat c) 0 ≠ -1 := beq_eq_false_iff_ne.1 hz
          rw [Wn.P_cons (s := dn.getD (Int.toNat c) 0) R.nx (by omega) (by omega)] at hc
          have hl : i + 1 < (Wn.P dn s).length := by
            rcases Nat.lt_or_ge (i + 1) (Wn.P dn s).length with h | h
            · exact h
            · rw [List.drop_eq_nil_of_le h] at hc
              cases hc
          rw [List.drop_eq_getElem_cons hl] at hc
          exact ⟨hl, (List.cons.inj hc).1.symm, t1.symm, t2.symm, hn'⟩
      · have hb : c = y := by simpa using hb
        have hu : Wn.upto (Wn.P dn s) y = (Wn.P dn s).take i := Wn.upto_take (by rw [List.getElem?_eq_getElem hi, ← e1, hb]) fun z hz e => hn (by rw [← e]; exact hz)
        dsimp only
        rw [hu]
        exact ⟨by rw [← hb, e1]; exact List.getElem_mem hi, e2, e3⟩
    · rintro _ ⟨hi, _⟩
      omega
    · have e := Wn.P_cons R.nx hs.1 hs.2
      have hl : 0 < (Wn.P dn s).length := by rw [e]; simp
      exact ⟨hl, by simp [e], by simp [Wn.sm], by simp [Wn.sm], by simp⟩
  · rintro (z | z) h
    · dsimp only at h
      rw [if_neg h]
      exact M.o_pure rfl
    · dsimp only at h
      rw [if_pos h.1, ← h.2.1, ← h.2.2]
      exact M.o_pure rfl
theorem travels_same (s y : Int) : ∃ z, (zaM dn tr sp tw dl dh fl s y).Ends z /\ (za1 dn tr sp tw dl dh fl s y).Ends z := by
  obtain ⟨e, h1, h2, h3⟩ := checks dn tr sp tw dl dh fl
  by_cases he : e = 0
  · subst he
    have R := h3 rfl
    by_cases hs : (0 <= s /\ s < (dn.length : Int)) /\ 0 <= y /\ y < (dn.length : Int)
    · refine ⟨_, travelsx_ends R hs.1.1 hs.1.2 hs.2.1 hs.2.2, ?_⟩
      unfold za1
      refine M.i_bind h2 (M.i_f rfl (M.i_bind (outside_ends _ _ _) (M.i_bind (M.i_optA (outside_ends _ _ _)) (M.i_f ?_ (M.i_bind (takes_ends R hs.1 y) ?_)))))
      · rw [decide_eq_false (by omega), decide_eq_false (by omega), decide_eq_false (by omega), decide_eq_false (by omega)]
        rfl
      · by_cases hy : y ∈ Wn.P dn s
        · rw [if_pos hy, if_pos hy]
          exact M.i_f rfl M.i_pure
        · rw [if_neg hy, if_neg hy]
          exact M.i_t rfl M.i_pure
    · refine ⟨(0, 0, 2), ?_, ?_⟩
      · unfold zaM
        refine M.i_bind (opened_ends R) ?_
        dsimp only
        refine M.i_f rfl (M.i_bind (station_ends _) (M.i_bind (M.i_optA (station_ends _)) (M.i_t ?_ M.i_pure)))
        rw [← Bool.not_eq_false]
        intro h
        apply hs
        simp only [Bool.or_eq_false_iff, Bool.not_eq_false', Bool.and_eq_true, Bool.not_eq_true', decide_eq_true_eq] at h
        omega
      · unfold za1
        refine M.i_bind h2 (M.i_f rfl (M.i_bind (outside_ends _ _ _) (M.i_bind (M.i_optA (outside_ends _ _ _)) (M.i_t ?_ M.i_pure))))
        rw [← Bool.not_eq_false]
        intro h
        apply hs
        simp only [Bool.or_eq_false_iff, Bool.and_eq_false_iff, Bool.not_eq_false', Bool.or_eq_true, decide_eq_true_eq, decide_eq_false_iff_not] at h
        omega
  · refine ⟨(0, 0, e), ?_, ?_⟩
    · unfold zaM
      exact M.i_bind (opened_err h1 he) (M.i_t (bne_iff_ne.2 he) M.i_pure)
    · unfold za1
      exact M.i_bind h2 (M.i_t (bne_iff_ne.2 he) M.i_pure)
theorem ahead_same (s t : Int) : ∃ z, (zaw dn tr sp tw dl dh fl s t).Ends z /\ (zaB dn tr sp tw dl dh fl s t).Ends z := by
  obtain ⟨e, h1, h2, h3⟩ := checks dn tr sp tw dl dh fl
  by_cases he : e = 0
  · subst he
    have R := h3 rfl
    have t8 := R.t8
    by_cases hs : (0 <= s /\ s < (dn.length : Int)) /\ 0 <= t /\ t < (tw.length : Int)
    · have c1 : ((decide (0 <= s) && decide (s <= (dn.length : Int) - 1))) = true := gA2 (by omega) (by omega)
      have c2 : ((decide (s < 0) || decide ((dn.length : Int) - 1 < s))) = false := by rw [decide_eq_false (by omega), decide_eq_false (by omega)]; rfl
      have c3 : ((decide (0 <= t) && decide (t <= (tw.length : Int) - 1))) = true := gA2 (by omega) (by omega)
      have c4 : ((decide (t < 0) || decide ((tw.length : Int) - 1 < t))) = false := by rw [decide_eq_false (by omega), decide_eq_false (by omega)]; rfl
      have A1 := travels_ends R (.inr hs.1) (tw.getD (Int.toNat t) default).station
      have A2 := takes_ends R hs.1 (tw.getD (Int.toNat t) default).station
      have d0 := R.d0
      have d1 := R.d1
      have d2 := R.d2
      by_cases hy : (tw.getD (Int.toNat t) default).station ∈ Wn.P dn s
      · rw [if_pos hy] at A1 A2
        have bb := sm_small R (.inr hs.1) (Wn.upto (Wn.P dn s) (tw.getD (Int.toNat t) default).station) (fun x hx => (Wn.upto_mem hx).1) (List.takeWhile_sublist _).length_le
        refine ⟨(Wn.sm (Wn.lo tr) (Wn.upto (Wn.P dn s) (tw.getD (Int.toNat t) default).station) - dh, Wn.sm (Wn.hi tr) (Wn.upto (Wn.P dn s) (tw.getD (Int.toNat t) default).station) - dl, 0), ?_, ?_⟩
        · unfold zaw
          refine M.i_bind (opened_ends R) ?_
          dsimp only
          refine M.i_f rfl (M.i_bind (station_ends _) (M.i_bind (M.i_optA (in_ends _ _ _)) (M.i_f (by rw [c1, c3]; rfl) (M.i_grd (gA2 (by omega) (by omega)) (M.i_bind A1 (M.i_f rfl (M.i_grd (gA2 (by omega) (by omega)) (M.i_grd (gA2 (by omega) (by omega)) (M.i_bind (added_ends _ (by simp) ?_) (M.i_eq M.i_pure ?_))))))))))
          · intro sp_ hsp
            simp only [List.mem_cons, List.not_mem_nil, or_false] at hsp
            rcases hsp with rfl | rfl
            · dsimp only; omega
            · dsimp only; omega
          · simp only [List.map_cons, List.map_nil, List.sum_cons, List.sum_nil]
            rw [Prod.mk.injEq, Prod.mk.injEq]
            exact ⟨by omega, by omega, rfl⟩
        · unfold zaB
          refine M.i_bind h2 (M.i_f rfl (M.i_bind (outside_ends _ _ _) (M.i_bind (M.i_optA (outside_ends _ _ _)) (M.i_f (by rw [c2, c4]; rfl) (M.i_grd (gA2 (by omega) (by omega)) (M.i_bind A2 (M.i_f rfl (M.i_grd (gA2 (by omega) (by omega)) (M.i_grd (gA2 (by omega) (by omega)) M.i_pure)))))))))
      · rw [if_neg hy] at A1 A2
        refine ⟨(0, 0, 5), ?_, ?_⟩
        · unfold zaw
          refine M.i_bind (opened_ends R) ?_
          dsimp only
          exact M.i_f rfl (M.i_bind (station_ends _) (M.i_bind (M.i_optA (in_ends _ _ _)) (M.i_f (by rw [c1, c3]; rfl) (M.i_grd (gA2 (by omega) (by omega)) (M.i_bind A1 (M.i_t rfl M.i_pure))))))
        · unfold zaB
          exact M.i_bind h2 (M.i_f rfl (M.i_bind (outside_ends _ _ _) (M.i_bind (M.i_optA (outside_ends _ _ _)) (M.i_f (by rw [c2, c4]; rfl) (M.i_grd (gA2 (by omega) (by omega)) (M.i_bind A2 (M.i_t rfl M.i_pure)))))))
    · refine ⟨(0, 0, 2), ?_, ?_⟩
      · unfold zaw
        refine M.i_bind (opened_ends R) ?_
        dsimp only
        refine M.i_f rfl (M.i_bind (station_ends _) (M.i_bind (M.i_optA (in_ends _ _ _)) (M.i_t ?_ M.i_pure)))
        rw [← Bool.not_eq_false]
        intro h
        apply hs
        simp only [Bool.or_eq_false_iff, Bool.not_eq_false', Bool.and_eq_true, Bool.not_eq_true', decide_eq_true_eq] at h
        omega
      · unfold zaB
        refine M.i_bind h2 (M.i_f rfl (M.i_bind (outside_ends _ _ _) (M.i_bind (M.i_optA (outside_ends _ _ _)) (M.i_t ?_ M.i_pure))))
        rw [← Bool.not_eq_false]
        intro h
        apply hs
        simp only [Bool.or_eq_false_iff, Bool.and_eq_false_iff, Bool.not_eq_false', Bool.or_eq_true, decide_eq_true_eq, decide_eq_false_iff_not] at h
        omega
  · refine ⟨(0, 0, e), ?_, ?_⟩
    · unfold zaw
      exact M.i_bind (opened_err h1 he) (M.i_t (bne_iff_ne.2 he) M.i_pure)
    · unfold zaB
      exact M.i_bind h2 (M.i_t (bne_iff_ne.2 he) M.i_pure)
/-- Lists that are looked at. -/
structure Fit (dn : List Int) (tr : List Span) (sp : List Int) (tw : List Town) (fl : List Flood) : Prop where
  a : dn.length <= 15
  b : tr.length <= 15
  c : sp.length <= 10
  d : tw.length <= 10
  e : fl.length <= 22
  f : ∀ i, i < fl.length -> (fl.getD i default).stages.length <= 15
theorem big_out : (zbw dn tr sp tw dl dh fl).Out (fun b => b = false -> Fit dn tr sp tw fl) := by
  unfold zbw
  refine M.o_if (fun _ => M.o_pure (fun h => (by cases h))) (fun hb => ?_)
  simp only [Bool.or_eq_false_iff, Bool.and_eq_false_iff, decide_eq_false_iff_not] at hb
  refine M.o_bind (P := fun x => match x with | .inl (_ : Unit) => True | .inr (_ : Unit) => ∀ i, i < fl.length -> (fl.getD i default).stages.length <= 15) ?_ ?_
  · refine M.o_for fl.length (fun i (k : Nat) => k = i /\ ∀ j, j < i -> (fl.getD j default).stages.length <= 15) ?_ ?_ ⟨rfl, fun j hj => by omega⟩
    · rintro _ i hi ⟨rfl, hp⟩
      simp only [zbm]
      refine M.o_t (decide_eq_true (by omega)) (M.o_grdD (by omega) (M.o_if (fun _ => M.o_pure trivial) (fun h => M.o_pure ⟨rfl, fun j hj => ?_⟩)))
      rcases Nat.lt_or_eq_of_le (Nat.le_of_lt_succ hj) with e | e
      · exact hp j e
      · subst e
        have := of_decide_eq_false h
        omega
    · rintro _ ⟨rfl, hp⟩
      simp only [zbm]
      exact M.o_f (decide_eq_false (by omega)) (M.o_pure hp)
  · rintro (u | u) h
    · exact M.o_pure (fun h => (by cases h))
    · exact M.o_pure (fun _ => ⟨by omega, by omega, by omega, by omega, by omega, h⟩)
theorem copy_int {l : List Int} (h : l.length <= 1000) : (zaD l).Ends l := M.i_grd (decide_eq_true (by simp; omega)) M.i_pure
theorem copy_span {l : List Span} (h : l.length <= 1000) : (zbQ l).Ends l := M.i_grd (decide_eq_true (by simp; omega)) M.i_pure
theorem copy_town {l : List Town} (h : l.length <= 1000) : (zb6 l).Ends l := M.i_grd (decide_eq_true (by simp; omega)) M.i_pure
theorem copy_ends (F : Fit dn tr sp tw fl) : (zbM dn tr sp tw dl dh fl).Ends (dn, tr, sp, tw, dl, dh, fl) := by
  obtain ⟨fa, fb, fc, fd, fe, ff⟩ := F
  unfold zbM zbx
  refine M.i_bind (copy_int (by omega)) (M.i_bind (copy_span (by omega)) (M.i_bind (copy_int (by omega)) (M.i_bind (copy_town (by omega)) (M.i_bind (a := (fl, fl)) ?_ M.i_pure))))
  refine M.Out.ends (M.o_for fl.length (fun i (t : Nat × List Flood) => t = (i, fl.take i)) ?_ ?_ (by simp))
  · rintro i _ hi rfl
    simp only [zbo]
    refine M.o_t (decide_eq_true (by omega)) (M.o_grdD (by omega) (M.o_bindE (copy_int (by have := ff i hi; omega)) (M.o_grdD (by simp; omega) (M.o_pure ?_))))
    rw [← take_succ_D fl i hi default]
  · rintro _ rfl
    simp only [zbo]
    refine M.o_f (decide_eq_false (by omega)) (M.o_pure ?_)
    rw [List.take_length]
theorem river_ends (F : Fit dn tr sp tw fl) : (zbS dn tr sp tw dl dh fl).Ends (dn, tr, sp, tw, dl, dh, fl) := by
  obtain ⟨fa, fb, fc, fd, fe, ff⟩ := F
  unfold zbS zbP
  refine M.i_bind (copy_int (by omega)) (M.i_bind (copy_span (by omega)) (M.i_bind (copy_int (by omega)) (M.i_bind (a := (tw, tw)) ?_ (M.i_bind (a := (fl, fl)) ?_ M.i_pure))))
  · refine M.Out.ends (M.o_for tw.length (fun i (t : Nat × List Town) => t = (i, tw.take i)) ?_ ?_ (by simp))
    · rintro i _ hi rfl
      simp only [zbe]
      refine M.o_t (decide_eq_true (by omega)) (M.o_grdD (by omega) (M.o_grdD (by simp; omega) (M.o_pure ?_)))
      rw [← take_succ_D tw i hi default]
    · rintro _ rfl
      simp only [zbe]
      refine M.o_f (decide_eq_false (by omega)) (M.o_pure ?_)
      rw [List.take_length]
  · refine M.Out.ends (M.o_for fl.length (fun i (t : Nat × List Flood) => t = (i, fl.take i)) ?_ ?_ (by simp))
    · rintro i _ hi rfl
      simp only [zbj]
      refine M.o_t (decide_eq_true (by omega)) (M.o_grdD (by omega) (M.o_grdD (by simp; omega) (M.o_pure ?_)))
      rw [← take_succ_D fl i hi default]
    · rintro _ rfl
      simp only [zbj]
      refine M.o_f (decide_eq_false (by omega)) (M.o_pure ?_)
      rw [List.take_length]
theorem same_river : (zbO dn tr sp tw dl dh fl dn tr sp tw dl dh fl).Ends true := by
  unfold zbO
  refine M.i_bind (same_int _) (M.i_bind (M.i_optA (same_span _)) (M.i_bind (M.i_optA (same_int _)) (M.i_bind (M.i_optA (same_town _)) (M.i_f (by simp) (M.i_bind (a := (.inr () : Unit ⊕ Unit)) ?_ M.i_pure)))))
  refine M.i_for (fun i => i) fl.length (fun i hi => ?_) ?_
  · simp only [zba]
    exact M.i_t (decide_eq_true (by omega)) (M.i_grd (decide_eq_true (by omega)) (M.i_grd (decide_eq_true (by omega)) (M.i_bind (M.i_optA (same_int _)) (M.i_f (by simp) M.i_pure))))
  · simp only [zba]
    exact M.i_f (decide_eq_false (by omega)) M.i_pure
theorem zdo (dn : List Int) (tr : List Span) (sp : List Int) (tw : List Town) (dl dh : Int) (fl : List Flood) (a b c : Int) : (zcm dn tr sp tw dl dh fl a b c).Ends true := by
  refine M.Out.ends ?_
  unfold zcm
  refine M.o_bind big_out fun x hF => ?_
  refine M.o_if (fun _ => M.o_bindE awake_ends (M.o_pure rfl)) (fun hb => ?_)
  have F := hF hb
  refine M.o_bindE (copy_ends F) ?_
  dsimp only
  refine M.o_bindE (river_ends F) ?_
  dsimp only
  unfold zbN
  obtain ⟨e, h1, h2, _⟩ := checks dn tr sp tw dl dh fl
  obtain ⟨⟨y1, y2⟩, p1, p2⟩ := paths_same (dn := dn) (tr := tr) (sp := sp) (tw := tw) (dl := dl) (dh := dh) (fl := fl) a
  obtain ⟨⟨z1, z2, z3⟩, t1, t2⟩ := travels_same (dn := dn) (tr := tr) (sp := sp) (tw := tw) (dl := dl) (dh := dh) (fl := fl) a b
  obtain ⟨⟨v1, v2, v3⟩, u1, u2⟩ := ahead_same (dn := dn) (tr := tr) (sp := sp) (tw := tw) (dl := dl) (dh := dh) (fl := fl) a c
  refine M.o_bindE h1 (M.o_bindE h2 (M.o_f (by simp) (M.o_bindE p1 ?_)))
  dsimp only
  refine M.o_bindE p2 ?_
  dsimp only
  refine M.o_bindE (M.i_optA (same_int _)) (M.o_f (by simp) (M.o_bindE t1 ?_))
  dsimp only
  refine M.o_bindE t2 ?_
  dsimp only
  refine M.o_f (by simp) (M.o_bindE u1 ?_)
  dsimp only
  refine M.o_bindE u2 ?_
  dsimp only
  exact M.o_bindE (M.i_optA same_river) (M.o_bindE (M.i_optA awake_ends) (M.o_pure (by simp)))
end Go.Proofs.YtbaehghammbjdaaGreat
