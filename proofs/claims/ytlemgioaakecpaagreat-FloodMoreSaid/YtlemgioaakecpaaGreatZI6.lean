/- Part 6 of the texts on which the proof rests. Conditions: none. -/
import Derived.Test.YtlemgioaakecpaaGreatZI5
set_option linter.unusedVariables false
set_option linter.unusedSimpArgs false
set_option linter.unusedSectionVars false
namespace Go.Proofs.YtlemgioaakecpaaGreat
open Go Go.Nm
theorem b9_out {b : List UInt8} {u x p s N : Int} (hS : SOk 3 u x) (hp : 0 <= p /\ p <= 50) (hs : 100 <= s /\ s <= 400) (hN : 2 <= N /\ N <= 5) :
    (M.iter (zaX b 8 false) (u, x, p, s, N, [], [], [], [])).Out (fun z => ∃ S M t ro place stage, z = (z.1, z.2.1, S, M, t, ro, ro, t, M, S) /\ SOk 1000 z.1 z.2.1 /\ Fl.Mi S M t ro place stage /\ 2 <= S.length /\ S.length <= 5) := by
  refine M.o_iter (fun m (z : Int × Int × Int × Int × Int × List Sect × List Mrk × List Int × List Int) => m = z.2.2.2.2.1.toNat /\ 0 <= z.2.2.2.2.1 /\ z.2.2.2.2.1 + z.2.2.2.2.2.1.length = N /\ SOk (3 + 100 * z.2.2.2.2.2.1.length) z.1 z.2.1 /\ Fl.Mi z.2.2.2.2.2.1 z.2.2.2.2.2.2.1 z.2.2.2.2.2.2.2.1 z.2.2.2.2.2.2.2.2 z.2.2.1 z.2.2.2.1) ?_ _ (u, x, p, s, N, [], [], [], []) ⟨rfl, by dsimp only; omega, by simp, by simpa using hS, ?_⟩
  · rintro m ⟨u, x, place, stage, n, S, M1, t, ro⟩ ⟨rfl, n0, nl, hS, h⟩
    dsimp only at n0 nl hS h ⊢
    simp only [zaX]
    have e1 := h.tl
    have e2 := h.rl
    have p0 := h.p0
    have p1 := h.p1
    have s0 := h.s0
    have s1 := h.s1
    refine M.o_if (fun hb => ?_) (fun hb => ?_)
    · have hb := of_decide_eq_true hb
      refine M.o_bind (next_out hS (by omega) (by omega)) ?_
      rintro ⟨r5, u5, x5⟩ ⟨k5, g5, _⟩
      have g5 := g5 (by omega)
      dsimp only at k5 g5 ⊢
      refine M.o_bind (next_out k5 (by omega) (by omega)) ?_
      rintro ⟨r6, u6, x6⟩ ⟨k6, g6, _⟩
      have g6 := g6 (by omega)
      dsimp only at k6 g6 ⊢
      refine M.o_bind (within_out k6 (by omega) (by omega) (by omega) (by omega)) ?_
      rintro ⟨r7, u7, x7⟩ ⟨k7, g7, g7'⟩
      dsimp only at k7 g7 g7' ⊢
      refine M.o_bind (b6_out k7 (by omega) (by omega) (by omega) ⟨g7, g7'⟩) ?_
      rintro ⟨u8, x8, l2, rows⟩ ⟨k8, hr, hr2, hr8⟩
      dsimp only at k8 hr hr2 hr8 ⊢
      refine M.o_grd (decide_eq_true (by simp; omega)) (M.o_grd (decide_eq_true (by simp; omega)) (M.o_bind (within_out k8 (by omega) (by omega) (by omega) (by omega)) ?_))
      rintro ⟨r10, u10, x10⟩ ⟨k10, g10, g10'⟩
      dsimp only at k10 g10 g10' ⊢
      refine M.o_grd (decide_eq_true (by simp; omega)) ?_
      unfold zby
      refine M.o_bind (next_out k10 (by omega) (by omega)) ?_
      rintro ⟨r11, u11, x11⟩ ⟨k11, g11, _⟩
      have g11 := g11 (by omega)
      dsimp only at k11 g11 ⊢
      refine M.o_bind (b7_out (Fl.Mt (S ++ [⟨place, rows⟩]) (t ++ [stage])) (fun d e f d0 d1 e0 e1' f0 f1 => ?_) k11 (by omega) (by omega) (by omega) (by omega) h.m8 (fun m hm => (h.mt m hm).app e1)) ?_
      · refine ⟨⟨by dsimp only; omega, by dsimp only; omega, by dsimp only; omega, by dsimp only; omega, by dsimp only; omega⟩, S.length, by simp, ?_⟩
        rw [Fl.getD_appE rfl, Fl.getD_appE e1]
        dsimp only
        omega
      rintro ⟨u12, x12, l5, M2⟩ ⟨k12, hm2, m8⟩
      dsimp only at k12 hm2 m8 ⊢
      refine M.o_bind (within_out k12 (by omega) (by omega) (by omega) (by omega)) ?_
      rintro ⟨r19, u19, x19⟩ ⟨k19, g19, g19'⟩
      dsimp only at k19 g19 g19' ⊢
      refine M.o_grd (gA2 (by omega) (by omega)) (M.o_bind (next_out k19 (by omega) (by omega)) ?_)
      rintro ⟨r20, u20, x20⟩ ⟨k20, g20, _⟩
      have g20 := g20 (by omega)
      dsimp only at k20 g20 ⊢
      exact M.o_grd (gA2 (by omega) (by omega)) (M.o_grd (gA2 (by omega) (by omega)) (M.o_pure ⟨(n - 1).toNat, by omega, rfl, by dsimp only; omega, by simp; omega, k20.mono (by simp; omega), h.step hr hr2 hr8 hm2 m8 ⟨g19, g19'⟩ (by omega) ⟨g10, g10'⟩⟩))
    · have hb := of_decide_eq_false hb
      exact M.o_pure ⟨S, M1, t, ro, place, stage, rfl, hS.mono (by omega), h, by omega, by omega⟩
  · refine ⟨rfl, rfl, fun j hj => ?_, fun j hj => ?_, fun i j _ hj => ?_, fun j hj => ?_, fun i j _ hj => ?_, fun m hm => (List.not_mem_nil hm).elim, by simp, fun j hj => ?_, hp.1, by simp; omega, by simp; omega, hs.2⟩ <;> simp at hj
theorem b10_out {b : List UInt8} {u x N : Int} {S : List Sect} {ro : List Int} (hS : SOk 2000 u x) (hn : 2 <= S.length /\ S.length <= 5) (hl : ro.length = S.length) (hro : ∀ j, j < S.length -> 30 <= ro.getD j 0 /\ ro.getD j 0 <= 90) (hN : 1 <= N /\ N <= 4) :
    (M.iter (zaI b ro S) (u, x, N, [])).Out (fun z => z.1 = z.2.1 /\ 1 <= z.1.length /\ z.1.length <= 4 /\ ∀ r ∈ z.1, (Fl.Rok S r /\ r.hi <= 97) /\ r.lo <= ro.getD (Int.toNat r.up) 0 /\ r.lo <= ro.getD (Int.toNat r.down) 0 /\ ro.getD (Int.toNat r.up) 0 <= r.hi /\ ro.getD (Int.toNat r.down) 0 <= r.hi) := by
  refine M.o_iter (fun m (s : Int × Int × Int × List Rch) => m = s.2.2.1.toNat /\ 0 <= s.2.2.1 /\ s.2.2.1 + s.2.2.2.length = N /\ SOk (2000 + 10 * s.2.2.2.length) s.1 s.2.1 /\ ∀ r ∈ s.2.2.2, (Fl.Rok S r /\ r.hi <= 97) /\ r.lo <= ro.getD (Int.toNat r.up) 0 /\ r.lo <= ro.getD (Int.toNat r.down) 0 /\ ro.getD (Int.toNat r.up) 0 <= r.hi /\ ro.getD (Int.toNat r.down) 0 <= r.hi) ?_ _ (u, x, N, []) ⟨rfl, by dsimp only; omega, by simp, by simpa using hS, fun r hr => (List.not_mem_nil hr).elim⟩
  rintro m ⟨u, x, n, l⟩ ⟨rfl, n0, nl, hS, hr⟩
  dsimp only at n0 nl hS hr ⊢
  simp only [zaI]
  refine M.o_if (fun hb => ?_) (fun hb => ?_)
  · have hb := of_decide_eq_true hb
    refine M.o_bind (next_out hS (by omega) (by omega)) ?_
    rintro ⟨a, u1, x1⟩ ⟨k1, g1, _⟩
    have g1 := g1 (by omega)
    dsimp only at k1 g1 ⊢
    refine M.o_bind (next_out k1 (by omega) (by omega)) ?_
    rintro ⟨w, u2, x2⟩ ⟨k2, g2, _⟩
    dsimp only at k2 ⊢
    refine M.o_grd (gA2 (by omega) (by omega)) (M.o_bind (within_out k2 (by omega) (by omega) (by omega) (by omega)) ?_)
    rintro ⟨d, u3, x3⟩ ⟨k3, g3, g3'⟩
    dsimp only at k3 g3 g3' ⊢
    have ra := hro (Int.toNat a) (by omega)
    have rb := hro (Int.toNat (a + d)) (by omega)
    refine M.o_grd (gA2 (by omega) (by omega)) (M.o_grd (gA2 (by omega) (by omega)) (M.o_grd (gA2 (by omega) (by omega)) (M.o_bind (next_out k3 (by omega) (by omega)) ?_)))
    rintro ⟨e, u4, x4⟩ ⟨k4, g4, _⟩
    have g4 := g4 (by omega)
    dsimp only at k4 g4 ⊢
    refine M.o_grd (gA2 (by omega) (by omega)) (M.o_bind (next_out k4 (by omega) (by omega)) ?_)
    rintro ⟨f, u5, x5⟩ ⟨k5, g5, _⟩
    have g5 := g5 (by omega)
    dsimp only at k5 g5 ⊢
    refine M.o_grd (gA2 (by omega) (by omega)) (M.o_grd (decide_eq_true (by simp; omega)) (M.o_grd (gA2 (by omega) (by omega)) (M.o_pure ⟨(n - 1).toNat, by omega, rfl, by dsimp only; omega, by simp; omega, k5.mono (by simp; omega), fun r h => ?_⟩)))
    rcases List.mem_append.1 h with h | h
    · exact hr r h
    · rw [List.mem_singleton] at h
      subst h
      dsimp only
      exact ⟨⟨⟨by dsimp only; omega, by dsimp only; omega, by dsimp only; omega, by dsimp only; omega, by dsimp only; omega, by dsimp only; omega⟩, by omega⟩, by omega, by omega, by omega, by omega⟩
  · have hb := of_decide_eq_false hb
    exact M.o_pure ⟨rfl, by dsimp only; omega, by dsimp only; omega, hr⟩
theorem truth_of {S : List Sect} {M' : List Mrk} {R : List Rch} {t ro : List Int} {place stage : Int} (h : Fl.Mi S M' t ro place stage) (hn : 2 <= S.length /\ S.length <= 5) (hm : 1 <= M'.length) (hr : 1 <= R.length /\ R.length <= 4)
    (hR : ∀ r ∈ R, (Fl.Rok S r /\ r.hi <= 97) /\ r.lo <= ro.getD (Int.toNat r.up) 0 /\ r.lo <= ro.getD (Int.toNat r.down) 0 /\ ro.getD (Int.toNat r.up) 0 <= r.hi /\ ro.getD (Int.toNat r.down) 0 <= r.hi) : Fl.Truth S M' R t ro /\ (∀ r ∈ R, r.hi <= 97) /\ ∀ j, j < S.length -> t.getD j 0 <= 400 := by
  have p1 := h.p1
  have s0 := h.s0
  have m8 := h.m8
  refine ⟨?_, fun r hr => (hR r hr).1.2, fun j hj => (h.tr j hj).2⟩
  refine ⟨⟨⟨by omega, h.rows, fun i hi => ?_, fun i j hij hj => ?_⟩, by omega, by omega, fun m hm => (h.mt m hm).1, fun r hr => (hR r hr).1.1⟩, h.m8, h.tl, h.rl, fun i hi => ?_, h.td, h.gap, fun m hm => (h.mt m hm).2, fun i hi => ?_, fun r hr => (hR r hr).2⟩
  · have := h.pl i hi; omega
  · have := h.gap i j hij hj; omega
  · have := h.tr i hi; omega
  · have := h.ro0 i hi; omega
theorem j11_out {b : List UInt8} {u x : Int} {S : List Sect} {M' : List Mrk} {t ro : List Int} {place stage : Int} (h : Fl.Mi S M' t ro place stage) (hn : 2 <= S.length /\ S.length <= 5) (hm : 1 <= M'.length) (hS : SOk 1000 u x) :
    (zay b u x ro t S M').Out (fun z => Fl.Truth z.1 z.2.1 z.2.2.1 z.2.2.2.1 z.2.2.2.2.1 /\ (∀ r ∈ z.2.2.1, r.hi <= 97) /\ ∀ j, j < z.1.length -> z.2.2.2.1.getD j 0 <= 400) := by
  unfold zay
  refine M.o_bind (within_out hS (by omega) (by omega) (by omega) (by omega)) ?_
  rintro ⟨r, u1, x1⟩ ⟨k1, g1, g1'⟩
  dsimp only at k1 g1 g1' ⊢
  refine M.o_bind (b10_out (k1.mono (by omega)) hn h.rl h.ro0 ⟨g1, g1'⟩) ?_
  rintro ⟨l, l', u2, x2⟩ ⟨e, h1, h2, h3⟩
  dsimp only at e h1 h2 h3 ⊢
  subst e
  exact M.o_pure (truth_of h hn hm ⟨h1, h2⟩ h3)
theorem Made_out {b : List UInt8} : (zba b 0 0 8 false).Out (fun z => Fl.Truth z.1 z.2.1 z.2.2.1 z.2.2.2.1 z.2.2.2.2.1 /\ (∀ r ∈ z.2.2.1, r.hi <= 97) /\ ∀ j, j < z.1.length -> z.2.2.2.1.getD j 0 <= 400) := by
  unfold zba
  refine M.o_bind (next_out SOk.zero (by omega) (by omega)) ?_
  rintro ⟨r2, u1, x1⟩ ⟨k1, g1, _⟩
  have g1 := g1 (by omega)
  dsimp only at k1 g1 ⊢
  refine M.o_bind (within_out k1 (by omega) (by omega) (by omega) (by omega)) ?_
  rintro ⟨r3, u2, x2⟩ ⟨k2, g2, g2'⟩
  dsimp only at k2 g2 g2' ⊢
  refine M.o_bind (within_out k2 (by omega) (by omega) (by omega) (by omega)) ?_
  rintro ⟨r4, u3, x3⟩ ⟨k3, g3, g3'⟩
  dsimp only at k3 g3 g3' ⊢
  refine M.o_bind (b9_out (k3.mono (by omega)) (by omega) ⟨g2, g2'⟩ ⟨g3, g3'⟩) ?_
  rintro ⟨u4, x4, z⟩ ⟨S, M', t, ro, place, stage, e, k4, h, n2, n5⟩
  obtain rfl := (Prod.mk.inj (Prod.mk.inj e).2).2
  dsimp only at k4 ⊢
  have p1 := h.p1
  have s0 := h.s0
  refine M.o_if (fun hb => ?_) (fun hb => ?_)
  · rw [beq_iff_eq] at hb
    have hz : M'.length = 0 := by omega
    have t0 := h.tr 0 (by omega)
    have p0 := h.pl 0 (by omega)
    have tl := h.tl
    refine M.o_grd (decide_eq_true (by omega)) (M.o_grd (decide_eq_true (by omega)) (M.o_grd (gA2 (by omega) (by omega)) (M.o_grd (gA2 (by omega) (by omega)) (M.o_grd (decide_eq_true (by simp; omega)) (j11_out (place := place) (stage := stage) ?_ ⟨n2, n5⟩ (by simp) k4)))))
    have hm : Fl.Mt S t ⟨(S.getD 0 default).place, t.getD 0 0 - 5, t.getD 0 0 + 5⟩ := ⟨⟨by dsimp only; omega, by dsimp only; omega, by dsimp only; omega, by dsimp only; omega, by dsimp only; omega⟩, 0, by omega, by dsimp only; omega⟩
    exact ⟨h.tl, h.rl, h.rows, h.pl, h.gap, h.tr, h.td, fun m hmm => by
      rcases List.mem_append.1 hmm with hmm | hmm
      · exact h.mt m hmm
      · rw [List.mem_singleton] at hmm
        subst hmm
        exact hm, by simp; omega, h.ro0, h.p0, h.p1, h.s0, h.s1⟩
  · rw [beq_eq_false_iff_ne] at hb
    exact j11_out h ⟨n2, n5⟩ (by omega) k4
end Go.Proofs.YtlemgioaakecpaaGreat
namespace Go.Nm
namespace Fl
section
variable {S : List Sect} {M M1 : List Mrk} {R : List Rch} {r r1 : Rch} {c : Cas} {t ro : List Int}
theorem Lies.mono (h : Lies S M1 r1 c) (hu : r1.up = r.up) (hd : r1.down = r.down) (h1 : ∀ p, stLo M (ints M.length) p <= stLo M1 (ints M1.length) p) (h2 : ∀ p, stHi M1 (ints M1.length) p <= stHi M (ints M.length) p) (h3 : r.lo <= r1.lo) (h4 : r1.hi <= r.hi) : Lies S M r c := by
  have e1 : pu S r1 = pu S r := by unfold pu; rw [hu]
  have e2 : pd S r1 = pd S r := by unfold pd; rw [hd]
  obtain ⟨a, b, d, e, f, g, i, j⟩ := h
  rw [e1] at a b
  rw [e2] at d e
  have k1 := h1 (pu S r)
  have k2 := h2 (pu S r)
  have k3 := h1 (pd S r)
  have k4 := h2 (pd S r)
  constructor <;> omega
theorem Lies.pk (h : Lies S M r c) (hs : Site S M R) (hr : Rok S r) (ht : Tog M (ints M.length)) {c1 c2 : Cas} {a b : Int} (ha : IsLow S M (ints M.length) r c1 a) (hb : IsHigh S M (ints M.length) r c2 b) : a <= fl S r c /\ fl S r c <= b := by
  have ok := h.ok hr
  obtain ⟨u1, u2, d1, d2, du, e, g, i⟩ := h
  exact (Fl.pk hs.s hr hs.mks (ints_ix M) ht ha hb ok ⟨d1, by omega⟩ u1 u2 g i (by omega) (by omega)).2
/-- With narrower surfaces, and no more roughness, a peak is no wider. -/
theorem peak_nar (hs : Site S M R) (hs1 : ∀ x ∈ M1, Mok x) (hr : Rok S r) (hr1 : Rok S r1) (ht : Tog M (ints M.length)) (ht1 : Tog M1 (ints M1.length)) (hu : r1.up = r.up) (hd : r1.down = r.down) (hn : r1.narrow = r.narrow) (h1 : ∀ p, stLo M (ints M.length) p <= stLo M1 (ints M1.length) p) (h2 : ∀ p, stHi M1 (ints M1.length) p <= stHi M (ints M.length) p) (h3 : r.lo <= r1.lo) (h4 : r1.hi <= r.hi)
    {c1 c2 c3 c4 : Cas} {a b a1 b1 : Int} (ha : IsLow S M (ints M.length) r c1 a) (hb : IsHigh S M (ints M.length) r c2 b) (ha1 : IsLow S M1 (ints M1.length) r1 c3 a1) (hb1 : IsHigh S M1 (ints M1.length) r1 c4 b1) : a <= a1 /\ b1 <= b := by
  have f' : ∀ c, fl S r1 c = fl S r c := fun c => by unfold fl; rw [hu, hd, hn]
  obtain ⟨x, hx, e, e', _⟩ := ha1
  obtain ⟨y, hy, k, k', _⟩ := hb1
  have l1 := (lc_lies hr1 hs1 ht1 hx).mono hu hd h1 h2 h3 h4
  have l2 := (hc_lies hr1 hs1 ht1 hy).mono hu hd h1 h2 h3 h4
  rw [← e] at l1
  rw [← k] at l2
  rw [f'] at e' k'
  have q1 := l1.pk hs hr ht ha hb
  have q2 := l2.pk hs hr ht ha hb
  omega
/-- A reach of which all is rougher has no greater peaks. -/
theorem peak_rough (hs : Site S M R) (hr : Rok S r) (hr1 : Rok S r1) (ht : Tog M (ints M.length)) (hu : r1.up = r.up) (hd : r1.down = r.down) (hn : r1.narrow = r.narrow) (h3 : r.lo <= r1.lo) (h4 : r.hi <= r1.hi)
    {c1 c2 c3 c4 : Cas} {a b a1 b1 : Int} (ha : IsLow S M (ints M.length) r c1 a) (hb : IsHigh S M (ints M.length) r c2 b) (ha1 : IsLow S M (ints M.length) r1 c3 a1) (hb1 : IsHigh S M (ints M.length) r1 c4 b1) : a1 <= a /\ b1 <= b := by
  have f' : ∀ c, fl S r1 c = fl S r c := fun c => by unfold fl; rw [hu, hd, hn]
  have e1 : pu S r1 = pu S r := by unfold pu; rw [hu]
  have e2 : pd S r1 = pd S r := by unfold pd; rw [hd]
  have dn : ∀ x, Dn S M (ints M.length) r1 x ↔ Dn S M (ints M.length) r x := fun x => by unfold Dn; rw [e1, e2]
  obtain ⟨x, hx, e, e', _⟩ := ha
  obtain ⟨_, _, _, _, m⟩ := ha1
  obtain ⟨y, hy, k, k', _⟩ := hb1
  obtain ⟨_, _, _, _, m'⟩ := hb
  have q1 := m x ((dn x).2 hx)
  have q2 := m' y ((dn y).1 hy)
  rw [f'] at q1 k'
  have w1 : fl S r (lc S M (ints M.length) r1 x) <= fl S r (lc S M (ints M.length) r x) := fl_mono hs.s hr (lc_ok hr1 hs.mks (ints_ix M) ht ((dn x).2 hx)) (lc_ok hr hs.mks (ints_ix M) ht hx) rfl (by unfold lc; rw [e1]; exact Int.le_refl _) h4 h4
  have w2 : fl S r (hc S M (ints M.length) r1 y) <= fl S r (hc S M (ints M.length) r y) := fl_mono hs.s hr (hc_ok hr1 hy) (hc_ok hr ((dn y).1 hy)) rfl (by unfold hc; rw [e1]; exact Int.le_refl _) h3 h3
  rw [e] at e'
  rw [k] at k'
  omega
theorem low_one {ms : List Int} {c c' : Cas} {a b : Int} (h : IsLow S M ms r c a) (h' : IsLow S M ms r c' b) : a = b := by
  obtain ⟨x, hx, e, e', m⟩ := h
  obtain ⟨y, hy, k, k', m'⟩ := h'
  have q1 := m y hy
  have q2 := m' x hx
  rw [e] at e'
  rw [k] at k'
  omega
theorem high_one {ms : List Int} {c c' : Cas} {a b : Int} (h : IsHigh S M ms r c a) (h' : IsHigh S M ms r c' b) : a = b := by
  obtain ⟨x, hx, e, e', m⟩ := h
  obtain ⟨y, hy, k, k', m'⟩ := h'
  have q1 := m y hy
  have q2 := m' x hx
  rw [e] at e'
  rw [k] at k'
  omega
/-- Marks about what was do not contradict one another. -/
def Abt (S : List Sect) (t : List Int) (m : Mrk) : Prop := ∃ j, j < S.length /\ (S.getD j default).place <= m.place /\ m.place <= (S.getD j default).place + 19 /\ m.lo <= t.getD j 0 /\ t.getD j 0 <= m.hi
theorem Truth.abt (h : Truth S M R t ro) {a b : Mrk} (ha : Abt S t a) (hb : Abt S t b) : ¬(a.place <= b.place /\ a.hi < b.lo) := by
  rintro ⟨h1, h2⟩
  obtain ⟨i, i1, i2, i3, i4, i5⟩ := ha
  obtain ⟨j, j1, j2, j3, j4, j5⟩ := hb
  by_cases e : i <= j
  · have := h.td i j e j1
    omega
  · have := h.gap j i (by omega) i1
    omega
/-- Marks of which some say less. -/
structure Loo (M M1 : List Mrk) : Prop where
  n : M1.length = M.length
  m : ∀ j, j < M.length -> (M1.getD j default).place = (M.getD j default).place /\ (M1.getD j default).lo <= (M.getD j default).lo /\ (M.getD j default).hi <= (M1.getD j default).hi
theorem Loo.lo (h : Loo M M1) (p : Int) : stLo M1 (ints M1.length) p <= stLo M (ints M.length) p := by
  rcases aLo_ex (M := M1) (p := p) with e | ⟨m, hm, k, e⟩
  · have := stLo_nn (M := M) (p := p) (ints M.length)
    omega
  · obtain ⟨j, hj, rfl⟩ := mem_getD hm default
    have hj' : j < M.length := by have := h.n; omega
    have q := h.m j hj'
    have hm' : M.getD j default ∈ M := by rw [getD_el M hj']; exact List.getElem_mem hj'
    have := aLo_ge (p := p) hm' (by omega)
    omega
theorem Loo.hi (h : Loo M M1) (p : Int) : stHi M (ints M.length) p <= stHi M1 (ints M1.length) p := by
  rcases aHi_ex (M := M1) (p := p) with e | ⟨m, hm, k, e⟩
  · have := stHi_le (M := M) (p := p) (ints M.length)
    omega
  · obtain ⟨j, hj, rfl⟩ := mem_getD hm default
    have hj' : j < M.length := by have := h.n; omega
    have q := h.m j hj'
    have hm' : M.getD j default ∈ M := by rw [getD_el M hj']; exact List.getElem_mem hj'
    have := aHi_le (p := p) hm' (by omega)
    omega
theorem Loo.tog (h : Loo M M1) (ht : Tog M (ints M.length)) : Tog M1 (ints M1.length) := by
  rw [aTog] at ht ⊢
  intro a ha b hb
  obtain ⟨i, hi, rfl⟩ := mem_getD ha default
  obtain ⟨j, hj, rfl⟩ := mem_getD hb default
  have hi' : i < M.length := by have := h.n; omega
  have hj' : j < M.length := by have := h.n; omega
  have q1 := h.m i hi'
  have q2 := h.m j hj'
  have := ht (M.getD i default) (by rw [getD_el M hi']; exact List.getElem_mem hi') (M.getD j default) (by rw [getD_el M hj']; exact List.getElem_mem hj')
  rintro ⟨k1, k2⟩
  exact this ⟨by omega, by omega⟩
end
end Fl
end Go.Nm
namespace Go.Proofs.YtlemgioaakecpaaGreat
open Go Go.Nm
section
variable {S : List Sect} {M' : List Mrk} {R' : List Rch} {ms : List Int} {r : Rch} {t ro : List Int}
theorem copy_row (l : List FRow) (h : l.length <= 1000) : (zbd l).Ends l := by
  unfold zbd
  exact M.i_grd (decide_eq_true (by simp; omega)) M.i_pure
theorem copy_ends (h : Fl.Site S M' R') : (zar S M' R').Ends (S, M', R') := by
  have h1 := h.m
  have h2 := h.r
  have h3 := h.s.n
  unfold zar zb0 zbO
  refine M.i_bind (M.i_grd (decide_eq_true (by simp; omega)) M.i_pure) (M.i_bind (M.i_grd (decide_eq_true (by simp; omega)) M.i_pure) (M.i_bind (a := (S, S)) ?_ M.i_pure))
  refine M.i_for (fun i => (i, S.take i)) S.length (fun i hi => ?_) ?_
  · simp only [zak]
    refine M.i_t (decide_eq_true (by omega)) (M.i_grd (decide_eq_true (by omega)) (M.i_bind (copy_row _ (by have := (h.s.rows i hi).2.2; omega)) (M.i_grd (decide_eq_true (by simp; omega)) ?_)))
    rw [← take_succ_D S i hi default]
    exact M.i_pure
  · simp only [zak]
    rw [List.take_length]
    exact M.i_f (decide_eq_false (by omega)) M.i_pure
theorem set_getD {R : List Rch} {k : Nat} {x : Rch} (h : k < R.length) : (R.set k x).getD k default = x := by
  simp [List.getD, h]
theorem Common_out (h : Fl.Site S M' R') (hc : Fl.Inc M' ms) (ht : Fl.Tog M' ms) :
    (zbC S M' R' ms).Out (fun x => x.2.2 = 5 ∨ (x.2.2 = 0 /\ x.1 <= x.2.1 /\ ∀ j, j < R'.length -> ∃ c1 c2 a b, Fl.IsLow S M' ms (R'.getD j default) c1 a /\ Fl.IsHigh S M' ms (R'.getD j default) c2 b /\ a <= x.1 /\ x.2.1 <= b)) := by
  have rok : ∀ j, j < R'.length -> Fl.Rok S (R'.getD j default) := fun j hj => by rw [getD_el R' hj]; exact h.rks _ (List.getElem_mem hj)
  have h1 := h.r
  unfold zbC
  refine M.o_bindE (chosen_ends h hc) (M.o_f rfl (M.o_bindE (together_ends hc.2 ht) (M.o_f rfl (M.o_grd (decide_eq_true (by omega)) (M.o_bind (peak_out h.s (rok 0 (by omega)) h.mks hc.2 ht) ?_)))))
  rintro ⟨a0, b0⟩ _
  dsimp only
  refine M.o_bind (P := fun x => ∀ j, j < R'.length -> ∃ c1 c2 a b, Fl.IsLow S M' ms (R'.getD j default) c1 a /\ Fl.IsHigh S M' ms (R'.getD j default) c2 b /\ a <= x.1 /\ x.2 <= b) ?_ ?_
  · refine M.o_for R'.length (fun i (s : Int × Int × Nat) => s.2.2 = i /\ ∀ j, j < i -> ∃ c1 c2 a b, Fl.IsLow S M' ms (R'.getD j default) c1 a /\ Fl.IsHigh S M' ms (R'.getD j default) c2 b /\ a <= s.1 /\ s.2.1 <= b) ?_ ?_ (s := (a0, b0, 0)) ⟨rfl, fun j hj => by omega⟩
    · rintro _ ⟨x, y, i⟩ hi ⟨rfl, hj⟩
      dsimp only at hi hj ⊢
      simp only [zaF]
      refine M.o_t (decide_eq_true (by omega)) (M.o_grd (decide_eq_true (by omega)) (M.o_bind (peak_out h.s (rok i hi) h.mks hc.2 ht) ?_))
      rintro ⟨a, b⟩ ⟨⟨c1, k1⟩, c2, k2⟩
      dsimp only at k1 k2 ⊢
      refine M.o_bindE (least_ends _ _) (M.o_pure ⟨rfl, fun j hj' => ?_⟩)
      by_cases e : j = i
      · subst e
        exact ⟨c1, c2, a, b, k1, k2, by dsimp only; omega, by dsimp only; omega⟩
      · obtain ⟨d1, d2, a', b', q1, q2, q3, q4⟩ := hj j (by omega)
        exact ⟨d1, d2, a', b', q1, q2, by dsimp only; omega, by dsimp only; omega⟩
    · rintro ⟨x, y, _⟩ ⟨rfl, hj⟩
      simp only [zaF]
      exact M.o_f (decide_eq_false (by omega)) (M.o_pure hj)
  · rintro ⟨x, y⟩ hj
    dsimp only at hj ⊢
    refine M.o_if (fun _ => M.o_pure (.inl rfl)) (fun hb => ?_)
    have hb := of_decide_eq_false hb
    exact M.o_pure (.inr ⟨rfl, by dsimp only; omega, hj⟩)
end
theorem zcL (numbers more : List UInt8) (reach : Int) : (zcd numbers more reach).Ends true := by
  refine M.Out.ends ?_
  unfold zcd
  refine M.o_bindE (by unfold zaO; exact M.i_pure) (M.o_bind Made_out ?_)
  rintro ⟨S, M', R', t, ro, u, x⟩ ⟨h, h97, h400⟩
  dsimp only at h h97 h400 ⊢
  have hm := h.site.m
  have hr := h.site.r
  have hs := h.site.s.n
  have m8 := h.m8
  have tl := h.tl
  have tog := h.tog (Fl.ints_ix M')
  refine M.o_bindE (by unfold zaO; exact M.i_pure) (M.o_bindE (every_ends hm.2) (M.o_bind (pick_num (by omega)) ?_))
  rintro i ⟨i0, i1⟩
  have hl : Int.toNat i < R'.length := by omega
  have rk := h.rok hl
  have r97 : (R'.getD (Int.toNat i) default).hi <= 97 := by rw [getD_el R' hl]; exact h97 _ (List.getElem_mem hl)
  have rl1 := rk.l1
  have rlh := rk.lh
  refine M.o_bindE (copy_ends h.site) (M.o_bindE (copy_ends h.site) (M.o_bindE (copy_ends h.site) (M.o_bindE (copy_ends h.site) (M.o_bind (next_out SOk.zero (by omega) (by omega)) ?_))))
  rintro ⟨at_, u1, x1⟩ ⟨k1, g1, _⟩
  have g1 := g1 (by omega)
  dsimp only at k1 g1 ⊢
  have ha : Int.toNat at_ < S.length := by omega
  have tr := h.tr _ ha
  have t4 := h400 _ ha
  have pl := h.site.s.place _ ha
  refine M.o_grd (gA2 (by omega) (by omega)) (M.o_grd (gA2 (by omega) (by omega)) (M.o_bind (next_out k1 (by omega) (by omega)) ?_))
  rintro ⟨d, u2, x2⟩ ⟨k2, g2, _⟩
  have g2 := g2 (by omega)
  dsimp only at k2 g2 ⊢
  refine M.o_grd (gA2 (by omega) (by omega)) (M.o_bind (next_out k2 (by omega) (by omega)) ?_)
  rintro ⟨e, u3, x3⟩ ⟨k3, g3, _⟩
  have g3 := g3 (by omega)
  dsimp only at k3 g3 ⊢
  refine M.o_grd (gA2 (by omega) (by omega)) (M.o_grd (decide_eq_true (by simp; omega)) (M.o_grd (gA2 i0 i1) (M.o_bind (next_out k3 (by omega) (by omega)) ?_)))
  rintro ⟨f, u4, x4⟩ ⟨k4, g4, _⟩
  have g4 := g4 (by omega)
  dsimp only at k4 g4 ⊢
  refine M.o_grd (gA2 (by omega) (by omega)) (M.o_bind (next_out k4 (by omega) (by omega)) ?_)
  rintro ⟨g, u5, x5⟩ ⟨k5, g5, _⟩
  have g5 := g5 (by omega)
  dsimp only at k5 g5 ⊢
  refine M.o_grd (gA2 (by omega) (by omega)) (M.o_bind (next_out k5 (by omega) (by omega)) ?_)
  rintro ⟨k, u6, x6⟩ ⟨k6, g6, _⟩
  have g6 := g6 (by omega)
  dsimp only at k6 g6 ⊢
  have hk : Int.toNat k < M'.length := by omega
  have mk : Fl.Mok (M'.getD (Int.toNat k) default) := by rw [getD_el M' hk]; exact h.site.mks _ (List.getElem_mem hk)
  have q0 := mk.l0
  have q1 := mk.lh
  have q2 := mk.h2
  refine M.o_grd (gA2 (by omega) (by omega)) (M.o_bind (next_out k6 (by omega) (by omega)) ?_)
  rintro ⟨v, u7, x7⟩ ⟨k7, g7, _⟩
  have g7 := g7 (by omega)
  dsimp only at k7 g7 ⊢
  refine M.o_grd (gA2 (by omega) (by omega)) (M.o_bind (next_out k7 (by omega) (by omega)) ?_)
  rintro ⟨z, u8, x8⟩ ⟨k8, g8, _⟩
  have g8 := g8 (by omega)
  dsimp only at k8 g8 ⊢
  refine M.o_grd (gA2 (by omega) (by omega)) (M.o_bind (next_out k8 (by omega) (by omega)) ?_)
  rintro ⟨up, u9, x9⟩ ⟨k9, g9, _⟩
  have g9 := g9 (by omega)
  dsimp only at k9 g9 ⊢
  refine M.o_grd (gA2 i0 i1) (M.o_grd (gA2 (by omega) (by omega)) (M.o_grd (gA2 (by omega) (by omega)) (M.o_grd (gA2 i0 i1) (M.o_bind (Peak_out h.site (Fl.ints_inc M') tog i0 i1) ?_))))
  rintro ⟨a0, a1, _⟩ ⟨rfl, ⟨ca, ka⟩, cb, kb⟩
  dsimp only at ka kb ⊢
  -- a mark more that is true
  generalize em : (⟨(S.getD (Int.toNat at_) default).place, max 0 (t.getD (Int.toNat at_) 0 - d), t.getD (Int.toNat at_) 0 + e⟩ : Mrk) = m1
  have m1ok : Fl.Mok m1 := by subst em; constructor <;> dsimp only <;> omega
  have m1abt : Fl.Abt S t m1 := by subst em; exact ⟨_, ha, by dsimp only; omega⟩
  have abt : ∀ m ∈ M' ++ [m1], Fl.Abt S t m := fun m hmm => by
    rcases List.mem_append.1 hmm with hmm | hmm
    · exact h.mt m hmm
    · rw [List.mem_singleton] at hmm; rw [hmm]; exact m1abt
  have site1 : Fl.Site S (M' ++ [m1]) R' := ⟨h.site.s, by simp; omega, hr, fun m hmm => by
    rcases List.mem_append.1 hmm with hmm | hmm
    · exact h.site.mks m hmm
    · rw [List.mem_singleton] at hmm; rw [hmm]; exact m1ok, h.site.rks⟩
  have tog1 : Fl.Tog (M' ++ [m1]) (Fl.ints (M' ++ [m1]).length) := Fl.aTog.2 fun a ha b hb => h.abt (abt a ha) (abt b hb)
  refine M.o_bindE (every_ends (by simp; omega)) (M.o_bind (Peak_out site1 (Fl.ints_inc _) tog1 i0 i1) ?_)
  rintro ⟨b0, b1, _⟩ ⟨rfl, ⟨c1, n1⟩, c2, n2⟩
  dsimp only at n1 n2 ⊢
  have nar := Fl.peak_nar h.site site1.mks rk rk tog tog1 rfl rfl rfl (fun p => by
      rcases Fl.aLo_ex (M := M') (p := p) with q | ⟨m, hmm, q, q'⟩
      · have := Fl.stLo_nn (M := M' ++ [m1]) (p := p) (Fl.ints (M' ++ [m1]).length)
        omega
      · have := Fl.aLo_ge (M := M' ++ [m1]) (p := p) (List.mem_append_left _ hmm) q
        omega) (fun p => by
      rcases Fl.aHi_ex (M := M') (p := p) with q | ⟨m, hmm, q, q'⟩
      · have := Fl.stHi_le (M := M' ++ [m1]) (p := p) (Fl.ints (M' ++ [m1]).length)
        omega
      · have := Fl.aHi_le (M := M' ++ [m1]) (p := p) (List.mem_append_left _ hmm) q
        omega) (Int.le_refl _) (Int.le_refl _) ka kb n1 n2
  unfold zbg
  have setR : ∀ y : Rch, Fl.Rok S y -> Fl.Site S M' (R'.set (Int.toNat i) y) := fun y hy => ⟨h.site.s, hm, by rw [List.length_set]; exact hr, h.site.mks, fun x hx => by
    rcases List.mem_or_eq_of_mem_set hx with hx | rfl
    · exact h.site.rks x hx
    · exact hy⟩
  have i1' : ∀ y : Rch, i < ((R'.set (Int.toNat i) y).length : Int) := fun y => by rw [List.length_set]; exact i1
  -- a wider roughness
  have wok : Fl.Rok S { (R'.getD (Int.toNat i) default) with lo := max 1 ((R'.getD (Int.toNat i) default).lo - f), hi := min 400 ((R'.getD (Int.toNat i) default).hi + g) } := ⟨rk.u0, rk.ud, rk.d1, by dsimp only; omega, by dsimp only; omega, by dsimp only; omega⟩
  refine M.o_bind (Peak_out (setR _ wok) (Fl.ints_inc M') tog i0 (i1' _)) ?_
  rintro ⟨w0, w1, _⟩ ⟨rfl, ⟨c3, n3⟩, c4, n4⟩
  rw [set_getD hl] at n3 n4
  dsimp only at n3 n4 ⊢
  have wid := Fl.peak_nar (setR _ wok) h.site.mks wok rk tog tog rfl rfl rfl (fun p => Int.le_refl _) (fun p => Int.le_refl _) (by dsimp only; omega) (by dsimp only; omega) n3 n4 ka kb
  -- a mark that says less
  generalize em2 : { (M'.getD (Int.toNat k) default) with lo := max 0 ((M'.getD (Int.toNat k) default).lo - v), hi := min 2000 ((M'.getD (Int.toNat k) default).hi + z) } = m2
  have gm : ∀ j, (M'.set (Int.toNat k) m2).getD j default = if j = Int.toNat k then m2 else M'.getD j default := fun j => gset M' _ j m2 default hk
  have loo : Fl.Loo M' (M'.set (Int.toNat k) m2) := ⟨List.length_set, fun j hj => by
    rw [gm]
    by_cases q : j = Int.toNat k
    · rw [if_pos q, q]; subst em2; dsimp only; omega
    · rw [if_neg q]; omega⟩
  have site2 : Fl.Site S (M'.set (Int.toNat k) m2) R' := ⟨h.site.s, by rw [List.length_set]; exact hm, hr, fun m hmm => by
    rcases List.mem_or_eq_of_mem_set hmm with hmm | rfl
    · exact h.site.mks m hmm
    · subst em2; exact ⟨mk.p0, mk.p1, by dsimp only; omega, by dsimp only; omega, by dsimp only; omega⟩, h.site.rks⟩
  have e2 : Fl.ints M'.length = Fl.ints (M'.set (Int.toNat k) m2).length := by rw [List.length_set]
  have tog2 := loo.tog tog
  refine M.o_bind (Peak_out site2 (by rw [e2]; exact Fl.ints_inc _) (by rw [e2]; exact tog2) i0 i1) ?_
  rintro ⟨l0, l1, _⟩ ⟨rfl, ⟨c5, n5⟩, c6, n6⟩
  rw [e2] at n5 n6
  dsimp only at n5 n6 ⊢
  have lse := Fl.peak_nar site2 h.site.mks rk rk tog2 tog rfl rfl rfl loo.lo loo.hi (Int.le_refl _) (Int.le_refl _) n5 n6 ka kb
  -- a reach that is rougher
  have rok2 : Fl.Rok S { (R'.getD (Int.toNat i) default) with lo := (R'.getD (Int.toNat i) default).lo + up, hi := (R'.getD (Int.toNat i) default).hi + up } := ⟨rk.u0, rk.ud, rk.d1, by dsimp only; omega, by dsimp only; omega, by dsimp only; omega⟩
  refine M.o_bind (Peak_out (setR _ rok2) (Fl.ints_inc M') tog i0 (i1' _)) ?_
  rintro ⟨p0, p1, _⟩ ⟨rfl, ⟨c7, n7⟩, c8, n8⟩
  rw [set_getD hl] at n7 n8
  dsimp only at n7 n8 ⊢
  have rgh := Fl.peak_rough h.site rk rok2 tog rfl rfl rfl (by dsimp only; omega) (by dsimp only; omega) ka kb n7 n8
  refine M.o_f rfl (M.o_f ?_ (M.o_bind (Common_out h.site (Fl.ints_inc M') tog) ?_))
  · simp only [Bool.or_eq_false_iff]
    exact ⟨⟨⟨⟨⟨⟨⟨decide_eq_false (by omega), decide_eq_false (by omega)⟩, decide_eq_false (by omega)⟩, decide_eq_false (by omega)⟩, decide_eq_false (by omega)⟩, decide_eq_false (by omega)⟩, decide_eq_false (by omega)⟩, decide_eq_false (by omega)⟩
  · rintro ⟨y0, y1, er⟩ hy
    dsimp only at hy ⊢
    rcases hy with rfl | ⟨rfl, hle, hall⟩
    · refine M.o_f rfl (M.o_bindE (M.i_opt (fun _ => awake_ends) (fun q => by cases q)) (M.o_pure rfl))
    · obtain ⟨d1, d2, s0, s1, o1, o2, o3, o4⟩ := hall _ hl
      have := Fl.low_one o1 ka
      have := Fl.high_one o2 kb
      have key : ((0 : Int) != 0 || (decide (a0 <= y0) && decide (y1 <= a1) && decide (y0 <= y1))) = true := by
        rw [gA3 (by omega) (by omega) (by omega)]; rfl
      refine M.o_f rfl (M.o_bindE (M.i_opt (fun _ => awake_ends) (fun q => by rw [key] at q; cases q)) (M.o_pure ?_))
      rw [key]
      rfl
end Go.Proofs.YtlemgioaakecpaaGreat
