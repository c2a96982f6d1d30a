/- Part 6 of the texts on which the proof rests. Conditions: none. -/
import Derived.Test.YtndobgodeicloaaZ5
set_option linter.unusedVariables false
set_option linter.unusedSimpArgs false
set_option linter.unusedSectionVars false
namespace Go.Nm
variable {ws : List Work}
/-- A visit without a way, open at once. -/
structure VOk (v : Visit) : Prop where
  wlo : v.wlo = 0
  whi : v.whi = 0
  klo : v.klo = v.khi
  khi : 0 ≤ v.khi ∧ v.khi < 60
  opn : v.opn = 0
  cls : 0 ≤ v.cls ∧ v.cls ≤ 100000
/-- The work of visits together. -/
def ksum (l : List Visit) : Int := (l.map (·.khi)).foldl (· + ·) 0
theorem ksum_next (l : List Visit) {i : Nat} (h : i < l.length) : ksum (l.take (i + 1)) = ksum (l.take i) + (l.getD i default).khi := by
  unfold ksum
  rw [take_succ_getD l h default, List.map_append, List.foldl_append]
  rfl
theorem ksum_snoc (l : List Visit) (v : Visit) : ksum (l ++ [v]) = ksum l + v.khi := by
  unfold ksum
  rw [List.map_append, List.foldl_append]
  rfl
theorem ksum_b {l : List Visit} (h : ∀ v ∈ l, VOk v) : ∀ i : Nat, i ≤ l.length → 0 ≤ ksum (l.take i) ∧ ksum (l.take i) ≤ 60 * (i : Int) := by
  intro i
  induction i with
  | zero => intro _; simp [ksum]
  | succ i ih =>
    intro hi
    have := ih (by omega)
    have hv := (h _ (getD_memN l (i := i) (by omega) default)).khi
    rw [ksum_next l (by omega)]
    omega
theorem begF_leM {out l : List Int} {m : Int} (h0 : 0 ≤ m) (h : ∀ k ∈ l, out.getD k.toNat 0 ≤ m) : begF out l ≤ m := by
  by_cases hb : 0 < begF out l
  · obtain ⟨k, hk, he⟩ := begF_mem out l hb
    have := h k hk
    omega
  · omega
/-- A round of what is stale, so far. -/
structure Tour (ws : List Work) (rv : List Int) (t : Nat) (sm mo la : Int) (l : List Visit) : Prop where
  ok : ∀ v ∈ l, VOk v
  len : l.length ≤ t
  sum : ksum l = sm
  last : ∀ (r : List Visit) (v : Visit), l = r ++ [v] → v.khi = la
  rdy : ∀ x ∈ (orderP ws).take t, (readyR ws rv).getD x.toNat 0 ≤ sm
  most : 0 ≤ mo ∧ mo ≤ sm
  some : ∀ x ∈ (orderP ws).take t, (staleL ws rv).getD x.toNat false = true → l ≠ []
  cls : ∀ v ∈ l, v.cls = 100000
end Go.Nm
namespace Go.Proofs.Ytndobgodeicloaa
open Go Go.Nm
variable {ws : List Work} {rv : List Int}
theorem crewIn_ends (n a b : Int) : (m_crew_in n a b).Ends (decide (a ≤ n) && decide (n ≤ b)) := M.i_pure
theorem minutes_ends {s : Span} (h0 : 0 ≤ s.lo) (h1 : s.lo ≤ s.hi) (h2 : s.hi ≤ 100000) : (m_crew_minutes s).Ends true := by
  unfold m_crew_minutes
  have e1 := crewIn_ends s.lo 0 s.hi
  rw [gA2 h0 h1] at e1
  have e2 := crewIn_ends s.hi 0 100000
  rw [gA2 (by omega) h2] at e2
  exact M.i_bind e1 (M.i_bind (a := true) (M.i_bind e2 M.i_pure) M.i_pure)
theorem round1_ends {v : Visit} (h : VOk v) : (m_crew_rounded_1 v).Ends true := by
  unfold m_crew_rounded_1
  have hk := h.khi
  have hc := h.cls
  have e1 := minutes_ends (s := ⟨v.wlo, v.whi⟩) (by dsimp only; rw [h.wlo]; omega) (by dsimp only; rw [h.wlo, h.whi]; omega) (by dsimp only; rw [h.whi]; omega)
  have e2 := minutes_ends (s := ⟨v.klo, v.khi⟩) (by dsimp only; rw [h.klo]; omega) (by dsimp only; rw [h.klo]; omega) (by dsimp only; omega)
  have e3 := crewIn_ends v.opn 0 v.cls
  rw [gA2 (by rw [h.opn]; omega) (by rw [h.opn]; omega)] at e3
  have e4 := crewIn_ends v.cls 0 100000
  rw [gA2 hc.1 hc.2] at e4
  exact M.i_bind e1 (M.i_bind (a := true) e2 (M.i_bind (a := true) e3 (M.i_bind (a := true) (M.i_bind e4 M.i_pure) M.i_pure)))
theorem rounded_ends {l : List Visit} (h1 : 1 ≤ l.length) (h20 : l.length ≤ 20) (h : ∀ v ∈ l, VOk v) : (m_crew_rounded l).Ends 0 := by
  unfold m_crew_rounded
  have e1 := crewIn_ends (l.length : Int) 1 20
  rw [gA2 (by omega) (by omega)] at e1
  have hi : (M.iter (m_slices_IndexFunc_crew_Visit_b0 l (fun x => m_crew_every_crew_Visit__1 x (fun y => m_crew_rounded_1 y))) 0).Ends (.inr ()) := by
    refine M.i_loop (fun m i => m = l.length - i ∧ i ≤ l.length) ?_ l.length 0 ⟨rfl, Nat.zero_le _⟩
    rintro m i ⟨rfl, hi⟩
    simp only [m_slices_IndexFunc_crew_Visit_b0]
    by_cases e : i < l.length
    · have hv := round1_ends (h _ (getD_memN l (by omega : (i : Int) < _) default))
      have hv2 : (m_crew_every_crew_Visit__1 (l.getD i default) (fun y => m_crew_rounded_1 y)).Ends false := M.i_bind hv M.i_pure
      exact .inl ⟨i + 1, l.length - (i + 1), by omega, M.i_t (by simpa using e) (M.grdD (by omega) (M.i_bind hv2 M.i_pure)), rfl, e⟩
    · obtain rfl : i = l.length := by omega
      exact .inr (M.i_f (by simp) M.i_pure)
  have he : (m_crew_every_crew_Visit l (fun x => m_crew_rounded_1 x)).Ends true := by
    unfold m_crew_every_crew_Visit m_slices_ContainsFunc_crew_Visit m_slices_IndexFunc_crew_Visit
    exact M.i_bind (M.i_bind (M.i_bind hi M.i_pure) M.i_pure) M.i_pure
  exact M.i_bind e1 (M.i_f rfl (M.i_bind he (M.i_f rfl M.i_pure)))
/-- When visits begin. -/
def begT (l : List Visit) (n : Nat) : List Int := (List.range n).map fun j => ksum (l.take j)
theorem begT_succ (l : List Visit) (n : Nat) : begT l (n + 1) = begT l n ++ [ksum (l.take n)] := by
  unfold begT
  rw [List.range_succ, List.map_append]
  rfl
theorem begT_len (l : List Visit) (n : Nat) : (begT l n).length = n := by simp [begT]
theorem begT_at (l : List Visit) {n j : Nat} (h : j < n) : (begT l n).getD j 0 = ksum (l.take j) := by
  rw [getD_el _ (by rw [begT_len]; exact h)]
  simp [begT]
theorem low_ends {l : List Visit} (h20 : l.length ≤ 20) (h : ∀ v ∈ l, VOk v) : (m_crew_begins_155 0 l).Ends (begT l l.length) := by
  unfold m_crew_begins_155
  refine M.i_bind (a := (begT l l.length, begT l l.length)) ?_ M.i_pure
  have := M.i_for (body := m_crew_begins_155_b0 l) (r := (begT l l.length, begT l l.length)) (fun i => (ksum (l.take i), i, begT l i)) l.length (fun i hi => ?_) ?_
  · simpa [ksum, begT] using this
  · have hv := h _ (getD_memN l (by omega : (i : Int) < _) default)
    have hb := ksum_b h i (by omega)
    have hk := hv.khi
    have hbl := begT_len l i
    have hlowwlo : (m_crew_low_1 ⟨(l.getD i default).wlo, (l.getD i default).whi⟩).Ends (l.getD i default).wlo := M.i_pure
    have hlowklo : (m_crew_low_1 ⟨(l.getD i default).klo, (l.getD i default).khi⟩).Ends (l.getD i default).klo := M.i_pure
    simp only [m_crew_begins_155_b0]
    have e0 : max (ksum (l.take i) + (l.getD i default).wlo) (l.getD i default).opn = ksum (l.take i) := by rw [hv.wlo, hv.opn]; omega
    refine M.i_t (by simpa using hi) (M.grdD (by omega) (M.i_bind hlowwlo (M.i_grd (gA2 (by rw [hv.wlo]; omega) (by rw [hv.wlo]; omega)) (M.grdD (by simp only [List.length_cons, List.length_nil]; omega) (M.i_bind hlowklo ?_)))))
    rw [e0, hv.klo, begT_succ, ksum_next l hi]
    exact M.i_grd (gA2 (by omega) (by omega)) M.i_pure
  · simp only [m_crew_begins_155_b0]
    exact M.i_f (by simp) M.i_pure
theorem high_ends {l : List Visit} (h20 : l.length ≤ 20) (h : ∀ v ∈ l, VOk v) : (m_crew_begins_156 0 l).Ends (begT l l.length) := by
  unfold m_crew_begins_156
  refine M.i_bind (a := (begT l l.length, begT l l.length)) ?_ M.i_pure
  have := M.i_for (body := m_crew_begins_156_b0 l) (r := (begT l l.length, begT l l.length)) (fun i => (ksum (l.take i), i, begT l i)) l.length (fun i hi => ?_) ?_
  · simpa [ksum, begT] using this
  · have hv := h _ (getD_memN l (by omega : (i : Int) < _) default)
    have hb := ksum_b h i (by omega)
    have hk := hv.khi
    have hbl := begT_len l i
    have hhighwlo : (m_crew_high_1 ⟨(l.getD i default).wlo, (l.getD i default).whi⟩).Ends (l.getD i default).whi := M.i_pure
    have hhighklo : (m_crew_high_1 ⟨(l.getD i default).klo, (l.getD i default).khi⟩).Ends (l.getD i default).khi := M.i_pure
    simp only [m_crew_begins_156_b0]
    have e0 : max (ksum (l.take i) + (l.getD i default).whi) (l.getD i default).opn = ksum (l.take i) := by rw [hv.whi, hv.opn]; omega
    refine M.i_t (by simpa using hi) (M.grdD (by omega) (M.i_bind hhighwlo (M.i_grd (gA2 (by rw [hv.whi]; omega) (by rw [hv.whi]; omega)) (M.grdD (by simp only [List.length_cons, List.length_nil]; omega) (M.i_bind hhighklo ?_)))))
    rw [e0, begT_succ, ksum_next l hi]
    exact M.i_grd (gA2 (by omega) (by omega)) M.i_pure
  · simp only [m_crew_begins_156_b0]
    exact M.i_f (by simp) M.i_pure
def spanT (l : List Visit) (n : Nat) : List Span := (List.range n).map fun j => ⟨ksum (l.take j), ksum (l.take j)⟩
theorem spanT_succ (l : List Visit) (n : Nat) : spanT l (n + 1) = spanT l n ++ [⟨ksum (l.take n), ksum (l.take n)⟩] := by
  unfold spanT
  rw [List.range_succ, List.map_append]
  rfl
theorem spanT_len (l : List Visit) (n : Nat) : (spanT l n).length = n := by simp [spanT]
theorem hours_ends {l : List Visit} (h1 : 1 ≤ l.length) (h20 : l.length ≤ 20) (h : ∀ v ∈ l, VOk v) : (m_crew_Hours 0 l).Ends (spanT l l.length, 0) := by
  unfold m_crew_Hours
  have e1 := crewIn_ends 0 0 100000
  rw [gA2 (by omega) (by omega)] at e1
  have hm : (m_crew_minute 0).Ends true := M.i_bind e1 M.i_pure
  refine M.i_bind (rounded_ends h1 h20 h) (M.i_f rfl (M.i_bind hm (M.i_f rfl (M.i_bind (M.i_pure : m_crew_low.Ends ()) (M.i_bind (low_ends h20 h) (M.i_bind (M.i_pure : m_crew_high.Ends ()) (M.i_bind (high_ends h20 h) (M.i_bind (a := (spanT l l.length, spanT l l.length)) ?_ M.i_pure))))))))
  have hbl := begT_len l l.length
  have := M.i_for (body := m_crew_Hours_b0 l (begT l l.length) (begT l l.length)) (r := (spanT l l.length, spanT l l.length)) (fun i => (i, spanT l i)) l.length (fun i hi => ?_) ?_
  · simpa [spanT] using this
  · have hs := spanT_len l i
    simp only [m_crew_Hours_b0]
    rw [begT_at l hi, spanT_succ]
    exact M.i_t (by simpa using hi) (M.grdD (by omega) (M.grdD (by omega) (M.grdD (by simp only [List.length_cons, List.length_nil]; omega) M.i_pure)))
  · simp only [m_crew_Hours_b0]
    exact M.i_f (by simp) M.i_pure
theorem latest_ends {l : List Visit} (h1 : 1 ≤ l.length) (h20 : l.length ≤ 20) (h : ∀ v ∈ l, VOk v) {more : Int} (m0 : 0 ≤ more) (m1 : more < 256)
    (hlast : (l.getD (l.length - 1) default).cls = ksum (l.take (l.length - 1)) + more) (hoth : ∀ i, i + 1 < l.length → (l.getD i default).cls = 100000) : (m_crew_Latest l).Ends (more, 0) := by
  unfold m_crew_Latest
  have hi : (M.iter (m_crew_Latest_b0 l) (200000, (l.length : Int) - 1)).Ends (.inr more) := by
    refine M.i_loop (fun m (s : Int × Int) => m = (s.2 + 1).toNat ∧ -1 ≤ s.2 ∧ s.2 < l.length ∧ (s.2 = l.length - 1 → s.1 = 200000) ∧ (s.2 < (l.length : Int) - 1 → s.1 = more + ksum (l.take (s.2 + 1).toNat))) ?_ l.length (200000, (l.length : Int) - 1) ⟨by dsimp only; omega, by dsimp only; omega, by dsimp only; omega, fun _ => rfl, fun h => by dsimp only at h; omega⟩
    rintro m ⟨s, i⟩ ⟨rfl, i0, i1, ha, hb⟩
    dsimp only at i0 i1 ha hb ⊢
    simp only [m_crew_Latest_b0]
    by_cases e : 0 ≤ i
    · left
      have hv := h _ (getD_memN l (i := i.toNat) (by omega) default)
      have hk := hv.khi
      have hb1 := ksum_b h i.toNat (by omega)
      have hn := ksum_next l (i := i.toNat) (by omega)
      have hmin : min (l.getD i.toNat default).cls (s - (l.getD i.toNat default).khi) = more + ksum (l.take i.toNat) := by
        by_cases e2 : i = (l.length : Int) - 1
        · have hs := ha e2
          have ei : i.toNat = l.length - 1 := by omega
          rw [ei] at hk hb1 ⊢
          rw [hlast, hs]
          omega
        · have hs := hb (by omega)
          have ei : (i + 1).toNat = i.toNat + 1 := by omega
          rw [ei] at hs
          rw [hoth i.toNat (by omega), hs, hn]
          omega
      have hsb : 0 ≤ s ∧ s ≤ 200000 := by
        by_cases e2 : i = (l.length : Int) - 1
        · rw [ha e2]; omega
        · have hs := hb (by omega)
          have ei : (i + 1).toNat = i.toNat + 1 := by omega
          rw [ei, hn] at hs
          omega
      rw [hmin, hv.whi, hv.opn]
      refine ⟨(more + ksum (l.take i.toNat) - 0, i - 1), i.toNat, by omega, M.i_t (by simpa using e) (M.i_grd (gA2 e i1) (M.i_grd (gA2 (by omega) (by omega)) (M.i_f (by rw [decide_eq_false_iff_not]; omega) (M.i_grd (gA2 (by omega) (by omega)) (M.i_grd (gA2 (by omega) (by omega)) M.i_pure))))), by dsimp only; omega, by dsimp only; omega, by dsimp only; omega, fun h => by dsimp only at h; omega, fun _ => ?_⟩
      dsimp only
      rw [show i - 1 + 1 = i from by omega]
      omega
    · right
      obtain rfl : i = -1 := by omega
      have hs := hb (by omega)
      have hz : ksum (l.take ((-1 : Int) + 1).toNat) = 0 := rfl
      rw [hz] at hs
      rw [show s = more from by omega]
      exact M.i_f (by decide) M.i_pure
  exact M.i_bind (rounded_ends h1 h20 h) (M.i_f rfl (M.i_bind hi (M.i_f (by simpa using m0) M.i_pure)))
theorem tour_out (hB : Built ws) (hA : askedE ws rv = 0) (hsm : ∀ i, i < ws.length → (ws.getD i default).minutes < 60) (h14 : ws.length ≤ 14) :
    (M.iter (m_nilometerlaw13_NotesWorked_b0 ws (orderP ws) (readyR ws rv)) (0, 0, 0, 0, [])).Out (fun y => ∃ z, y = .inr z ∧ Tour ws rv ws.length z.2.1 z.2.2.1 z.2.2.2.1 z.2.2.2.2) := by
  have hO := hB.opened
  have hf := order_full hO
  have hl : (readyR ws rv).length = ws.length := by rw [← readyR_ok hA, readyL_len]
  refine M.o_for ws.length (fun t st => st.1 = t ∧ Tour ws rv t st.2.1 st.2.2.1 st.2.2.2.1 st.2.2.2.2) ?_ ?_ (s := (0, 0, 0, 0, [])) ⟨rfl, ⟨by simp, by simp, rfl, fun r v h => by simp at h, by simp, by simp, by simp, by simp⟩⟩
  · rintro t ⟨t', sum, most, last, l⟩ ht ⟨rfl, hT⟩
    dsimp only at ht hT ⊢
    have hti : t' < (orderP ws).length := by omega
    have hrng := order_at ws (k := t') (by omega)
    have htk := take_succ_getD (orderP ws) hti 0
    have hofs := (order_good ws).2.2 t' hti
    have hlen := hT.len
    have hsum := hT.sum
    have hsb := ksum_b hT.ok l.length (Nat.le_refl _)
    rw [List.take_length, hsum] at hsb
    have hmost := hT.most
    have he := readyR_at hA (i := ((orderP ws).getD t' 0).toNat) (by omega)
    have hnum := (hB.at_ ((orderP ws).getD t' 0).toNat (by omega)).mins
    have hm60 := hsm ((orderP ws).getD t' 0).toNat (by omega)
    simp only [m_nilometerlaw13_NotesWorked_b0]
    refine M.o_t (by simp; omega) (M.o_grdD (by omega) (M.o_f (by rw [decide_eq_false (by omega), decide_eq_false (by omega)]; rfl) (M.o_grd (gA2 hrng.1 (by omega)) ?_)))
    cases hst : (staleL ws rv).getD ((orderP ws).getD t' 0).toNat false with
    | false =>
      rw [hst, if_neg (by decide)] at he
      refine M.o_t (by rw [he]; rfl) (M.o_pure ⟨rfl, hT.ok, by dsimp only; omega, hsum, hT.last, fun x hx => ?_, hmost, fun x hx hs => ?_, hT.cls⟩)
      · rw [htk] at hx
        rcases List.mem_append.1 hx with hx | hx
        · exact hT.rdy x hx
        · rw [List.mem_singleton.1 hx, he]; dsimp only; omega
      · rw [htk] at hx
        rcases List.mem_append.1 hx with hx | hx
        · exact hT.some x hx hs
        · rw [List.mem_singleton.1 hx, hst] at hs; cases hs
    | true =>
      rw [hst, if_pos rfl] at he
      have hbg : begF (readyR ws rv) (ws.getD ((orderP ws).getD t' 0).toNat default).of ≤ sum := begF_leM (by omega) (fun k hk => hT.rdy k (hofs k hk))
      have hb0 := (begF_le (readyR ws rv) (ws.getD ((orderP ws).getD t' 0).toNat default).of 300000 (by omega) (fun y hy => (readyL_bound (opened_right hO) (staleL ws rv) y (by rw [readyR_ok hA]; exact hy)).2)).1
      refine M.o_f (by rw [he, beq_eq_false_iff_ne]; omega) (M.o_grd (gA2 hrng.1 hrng.2) (M.o_grd (gA2 (by omega) (by omega)) (M.o_bindE (a := ((ws.getD ((orderP ws).getD t' 0).toNat default).minutes, (ws.getD ((orderP ws).getD t' 0).toNat default).minutes)) M.i_pure (M.o_grdD (by simp only [List.length_cons, List.length_nil]; omega) (M.o_pure ⟨rfl, fun v hv => ?_, ?_, ?_, fun r v hrv => ?_, fun x hx => ?_, ?_, fun _ _ _ => by simp, fun v hv => ?_⟩)))))
      · rcases List.mem_append.1 hv with hv | hv
        · exact hT.ok v hv
        · rw [List.mem_singleton.1 hv]
          exact ⟨rfl, rfl, rfl, ⟨hnum.1, hm60⟩, rfl, by dsimp only; omega⟩
      · simp only [List.length_append, List.length_cons, List.length_nil]; omega
      · rw [ksum_snoc, hsum]
      · have := (List.append_inj' hrv rfl).2
        rw [← (List.cons.inj this).1]
      · rw [htk] at hx
        rcases List.mem_append.1 hx with hx | hx
        · have := hT.rdy x hx; dsimp only; omega
        · rw [List.mem_singleton.1 hx, he]; dsimp only; omega
      · dsimp only
        rw [he]
        omega
      · rcases List.mem_append.1 hv with hv | hv
        · exact hT.cls v hv
        · rw [List.mem_singleton.1 hv]
  · rintro ⟨t', sum, most, last, l⟩ ⟨rfl, hT⟩
    dsimp only at hT ⊢
    simp only [m_nilometerlaw13_NotesWorked_b0]
    exact M.o_f (by simp [hf]) (M.o_pure ⟨_, rfl, hT⟩)
theorem notesWorked_out (a : List UInt8) {more : Int} (m0 : 0 ≤ more) (m1 : more < 256) : (m_nilometerlaw13_NotesWorked a more).Out (fun r => r = true) := by
  unfold m_nilometerlaw13_NotesWorked
  have s0 : SOk 0 0 0 := ⟨Int.le_refl _, Int.le_refl _, Int.le_refl _, by omega⟩
  refine M.o_bindE M.i_pure (M.o_bind (made_out s0 (by omega) (by omega) (by omega)) ?_)
  rintro ⟨ws, u1, x1⟩ ⟨hW, ok1⟩
  dsimp only at hW ok1 ⊢
  have hB := hW.built
  have hO := hB.opened
  have h2 := hW.two
  have h14 := hW.most
  refine M.o_bind (revised_out ok1 (by omega) (by omega) (by omega)) ?_
  rintro ⟨rv, u2, x2⟩ ⟨hv, _⟩
  dsimp only at hv ⊢
  have hA := hv.asked hO
  have hrl : (readyR ws rv).length = ws.length := by rw [← readyR_ok hA, readyL_len]
  have hf := order_full hO
  have hOr : (m_notes_Order ws).Ends (orderP ws, 0) := by
    unfold m_notes_Order
    exact M.i_t (by simp [hO]) (M.i_f rfl M.i_pure)
  rw [hA]
  refine M.o_bindE hOr (M.o_bindE M.i_pure (M.o_f (by rw [hrl, hf]; simp) (M.o_bind (tour_out hB hA (fun i hi => (hW.small i hi).2) (by omega)) ?_)))
  rintro _ ⟨⟨la, sum, most, last, l⟩, rfl, hT⟩
  dsimp only at hT ⊢
  have hne : l ≠ [] := by
    obtain ⟨x, hx⟩ := List.exists_mem_of_ne_nil rv hv.some
    have hxr := hv.lt x hx
    have hxo : x ∈ (orderP ws).take ws.length := by rw [← hf, List.take_length]; exact order_all hO hxr.1 hxr.2
    refine hT.some x hxo ?_
    rw [stale_eq hO rv hxr.1 hxr.2]
    simp [hx]
  have hlen := hT.len
  have hpos := List.length_pos_iff.2 hne
  have hsum := hT.sum
  have hlast : (l.getD (l.length - 1) default).khi = last := by
    refine hT.last (l.take (l.length - 1)) _ ?_
    have := take_succ_getD l (by omega : l.length - 1 < l.length) default
    rw [show l.length - 1 + 1 = l.length from by omega, List.take_length] at this
    exact this
  have hsplit := ksum_next l (i := l.length - 1) (by omega)
  rw [show l.length - 1 + 1 = l.length from by omega, List.take_length, hsum, hlast] at hsplit
  have hb := ksum_b hT.ok (l.length - 1) (by omega)
  have hk := (hT.ok _ (getD_memN l (i := l.length - 1) (by omega) default)).khi
  rw [hlast] at hk
  have hmost := hT.most
  have en : Int.toNat ((l.length : Int) - 1) = l.length - 1 := by omega
  rw [en]
  generalize hl' : l.set (l.length - 1) { (l.getD (l.length - 1) default) with cls := (sum - last) + more } = l'
  have hmap : l'.map (·.khi) = l.map (·.khi) := by
    rw [← hl', List.map_set]
    have : (l.map (·.khi)).getD (l.length - 1) 0 = (l.getD (l.length - 1) default).khi := by
      rw [getD_el _ (by rw [List.length_map]; omega), List.getElem_map, getD_el l (by omega) default]
    rw [← this]
    exact set_getD_self _ _ (by rw [List.length_map]; omega) 0
  have hll : l'.length = l.length := by rw [← hl', List.length_set]
  have hks : ∀ i, ksum (l'.take i) = ksum (l.take i) := by
    intro i
    unfold ksum
    rw [List.map_take, List.map_take, hmap]
  have hat : ∀ i, l'.getD i default = if i = l.length - 1 then { (l.getD (l.length - 1) default) with cls := (sum - last) + more } else l.getD i default := by
    intro i
    rw [← hl']
    exact gset _ _ _ _ _ (by omega)
  have hok : ∀ v ∈ l', VOk v := by
    intro v hv
    obtain ⟨i, hi, rfl⟩ := mem_getD hv default
    rw [hat]
    split
    · have h0 := hT.ok _ (getD_memN l (i := l.length - 1) (by omega) default)
      exact ⟨h0.wlo, h0.whi, h0.klo, h0.khi, h0.opn, by dsimp only; omega⟩
    · exact hT.ok _ (getD_memN l (i := i) (by omega) default)
  refine M.o_f (by rw [beq_eq_false_iff_ne]; omega) (M.o_grd (gA2 (by omega) (by omega)) (M.o_grd (gA2 m0 m1) (M.o_grd (gA2 (by omega) (by omega)) (M.o_grd (gA2 (by omega) (by omega)) ?_))))
  refine M.o_bindE (hours_ends (l := l') (by omega) (by omega) hok) (M.o_bindE (latest_ends (l := l') (by omega) (by omega) hok m0 m1 ?_ ?_) ?_)
  · rw [hll, hat, if_pos rfl, hks]
    dsimp only
    omega
  · intro i hi
    rw [hat, if_neg (by omega)]
    exact hT.cls _ (getD_memN l (i := i) (by omega) default)
  have hsl := spanT_len l' l'.length
  have hhi : ((spanT l' l'.length).getD (Int.toNat (((spanT l' l'.length).length : Int) - 1)) default).hi = ksum (l.take (l.length - 1)) := by
    rw [show Int.toNat (((spanT l' l'.length).length : Int) - 1) = l.length - 1 from by omega, getD_el _ (by omega : l.length - 1 < (spanT l' l'.length).length)]
    simp only [spanT, List.getElem_map, List.getElem_range]
    exact hks _
  dsimp only
  refine M.o_f (by rw [hsl]; simp) (M.o_grd (gA2 (by omega) (by omega)) ?_)
  rw [hhi]
  have hc : ((((ksum (l.take (l.length - 1)) + last) == sum) && (decide (most ≤ (ksum (l.take (l.length - 1)) + last)))) && (more == more)) = true := by
    rw [beq_self_eq_true, Bool.and_true, Bool.and_eq_true, beq_iff_eq, decide_eq_true_eq]
    omega
  rw [hc]
  exact M.o_grd (gA2 (by omega) (by omega)) (M.o_bindE (a := true) awake_ends (M.o_pure rfl))
theorem notesWorked_ends (a : List UInt8) (more : UInt8) : (m_nilometerlaw13_NotesWorked a (more.toNat : Int)).Ends true := by
  have h := UInt8.toNat_lt more
  obtain ⟨r, h, rfl⟩ := notesWorked_out a (more := (more.toNat : Int)) (by omega) (by omega)
  exact h
end Go.Proofs.Ytndobgodeicloaa
