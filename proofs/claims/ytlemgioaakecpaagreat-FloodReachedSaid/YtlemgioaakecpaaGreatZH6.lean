/- Part 6 of the texts on which the proof rests. Conditions: none. -/
import Derived.Test.YtlemgioaakecpaaGreatZH5
set_option linter.unusedVariables false
set_option linter.unusedSimpArgs false
set_option linter.unusedSectionVars false
namespace Go.Proofs.YtlemgioaakecpaaGreat
open Go Go.Nm
theorem b9_out {b : List UInt8} {u x p s N : Int} (hS : SOk 3 u x) (hp : 0 <= p /\ p <= 50) (hs : 100 <= s /\ s <= 400) (hN : 2 <= N /\ N <= 5) :
    (M.iter (za8 b 8 false) (u, x, p, s, N, [], [], [], [])).Out (fun z => ∃ S M t ro place stage, z = (z.1, z.2.1, S, M, t, ro, ro, t, M, S) /\ SOk 1000 z.1 z.2.1 /\ Fl.Mi S M t ro place stage /\ 2 <= S.length /\ S.length <= 5) := by
  refine M.o_iter (fun m (z : Int × Int × Int × Int × Int × List Sect × List Mrk × List Int × List Int) => m = z.2.2.2.2.1.toNat /\ 0 <= z.2.2.2.2.1 /\ z.2.2.2.2.1 + z.2.2.2.2.2.1.length = N /\ SOk (3 + 100 * z.2.2.2.2.2.1.length) z.1 z.2.1 /\ Fl.Mi z.2.2.2.2.2.1 z.2.2.2.2.2.2.1 z.2.2.2.2.2.2.2.1 z.2.2.2.2.2.2.2.2 z.2.2.1 z.2.2.2.1) ?_ _ (u, x, p, s, N, [], [], [], []) ⟨rfl, by dsimp only; omega, by simp, by simpa using hS, ?_⟩
  · rintro m ⟨u, x, place, stage, n, S, M1, t, ro⟩ ⟨rfl, n0, nl, hS, h⟩
    dsimp only at n0 nl hS h ⊢
    simp only [za8]
    have e1 := h.tl
    have e2 := h.rl
    have p0 := h.p0
    have p1 := h.p1
    have s0 := h.s0
    have s1 := h.s1
    refine M.o_if (fun hb => ?_) (fun hb => ?_)
    · have hb := of_decide_eq_true hb
      refine M.o_bind (next_out hS (by omega) (by omega)) ?_
      rintro ⟨r5, u5, x5⟩ ⟨k5, g5, _⟩
      have g5 := g5 (by omega)
      dsimp only at k5 g5 ⊢
      refine M.o_bind (next_out k5 (by omega) (by omega)) ?_
      rintro ⟨r6, u6, x6⟩ ⟨k6, g6, _⟩
      have g6 := g6 (by omega)
      dsimp only at k6 g6 ⊢
      refine M.o_bind (within_out k6 (by omega) (by omega) (by omega) (by omega)) ?_
      rintro ⟨r7, u7, x7⟩ ⟨k7, g7, g7'⟩
      dsimp only at k7 g7 g7' ⊢
      refine M.o_bind (b6_out k7 (by omega) (by omega) (by omega) ⟨g7, g7'⟩) ?_
      rintro ⟨u8, x8, l2, rows⟩ ⟨k8, hr, hr2, hr8⟩
      dsimp only at k8 hr hr2 hr8 ⊢
      refine M.o_grd (decide_eq_true (by simp; omega)) (M.o_grd (decide_eq_true (by simp; omega)) (M.o_bind (within_out k8 (by omega) (by omega) (by omega) (by omega)) ?_))
      rintro ⟨r10, u10, x10⟩ ⟨k10, g10, g10'⟩
      dsimp only at k10 g10 g10' ⊢
      refine M.o_grd (decide_eq_true (by simp; omega)) ?_
      unfold zbA
      refine M.o_bind (next_out k10 (by omega) (by omega)) ?_
      rintro ⟨r11, u11, x11⟩ ⟨k11, g11, _⟩
      have g11 := g11 (by omega)
      dsimp only at k11 g11 ⊢
      refine M.o_bind (b7_out (Fl.Mt (S ++ [⟨place, rows⟩]) (t ++ [stage])) (fun d e f d0 d1 e0 e1' f0 f1 => ?_) k11 (by omega) (by omega) (by omega) (by omega) h.m8 (fun m hm => (h.mt m hm).app e1)) ?_
      · refine ⟨⟨by dsimp only; omega, by dsimp only; omega, by dsimp only; omega, by dsimp only; omega, by dsimp only; omega⟩, S.length, by simp, ?_⟩
        rw [Fl.getD_appE rfl, Fl.getD_appE e1]
        dsimp only
        omega
      rintro ⟨u12, x12, l5, M2⟩ ⟨k12, hm2, m8⟩
      dsimp only at k12 hm2 m8 ⊢
      refine M.o_bind (within_out k12 (by omega) (by omega) (by omega) (by omega)) ?_
      rintro ⟨r19, u19, x19⟩ ⟨k19, g19, g19'⟩
      dsimp only at k19 g19 g19' ⊢
      refine M.o_grd (gA2 (by omega) (by omega)) (M.o_bind (next_out k19 (by omega) (by omega)) ?_)
      rintro ⟨r20, u20, x20⟩ ⟨k20, g20, _⟩
      have g20 := g20 (by omega)
      dsimp only at k20 g20 ⊢
      exact M.o_grd (gA2 (by omega) (by omega)) (M.o_grd (gA2 (by omega) (by omega)) (M.o_pure ⟨(n - 1).toNat, by omega, rfl, by dsimp only; omega, by simp; omega, k20.mono (by simp; omega), h.step hr hr2 hr8 hm2 m8 ⟨g19, g19'⟩ (by omega) ⟨g10, g10'⟩⟩))
    · have hb := of_decide_eq_false hb
      exact M.o_pure ⟨S, M1, t, ro, place, stage, rfl, hS.mono (by omega), h, by omega, by omega⟩
  · refine ⟨rfl, rfl, fun j hj => ?_, fun j hj => ?_, fun i j _ hj => ?_, fun j hj => ?_, fun i j _ hj => ?_, fun m hm => (List.not_mem_nil hm).elim, by simp, fun j hj => ?_, hp.1, by simp; omega, by simp; omega, hs.2⟩ <;> simp at hj
theorem b10_out {b : List UInt8} {u x N : Int} {S : List Sect} {ro : List Int} (hS : SOk 2000 u x) (hn : 2 <= S.length /\ S.length <= 5) (hl : ro.length = S.length) (hro : ∀ j, j < S.length -> 30 <= ro.getD j 0 /\ ro.getD j 0 <= 90) (hN : 1 <= N /\ N <= 4) :
    (M.iter (za5 b ro S) (u, x, N, [])).Out (fun z => z.1 = z.2.1 /\ 1 <= z.1.length /\ z.1.length <= 4 /\ ∀ r ∈ z.1, Fl.Rok S r /\ r.lo <= ro.getD (Int.toNat r.up) 0 /\ r.lo <= ro.getD (Int.toNat r.down) 0 /\ ro.getD (Int.toNat r.up) 0 <= r.hi /\ ro.getD (Int.toNat r.down) 0 <= r.hi) := by
  refine M.o_iter (fun m (s : Int × Int × Int × List Rch) => m = s.2.2.1.toNat /\ 0 <= s.2.2.1 /\ s.2.2.1 + s.2.2.2.length = N /\ SOk (2000 + 10 * s.2.2.2.length) s.1 s.2.1 /\ ∀ r ∈ s.2.2.2, Fl.Rok S r /\ r.lo <= ro.getD (Int.toNat r.up) 0 /\ r.lo <= ro.getD (Int.toNat r.down) 0 /\ ro.getD (Int.toNat r.up) 0 <= r.hi /\ ro.getD (Int.toNat r.down) 0 <= r.hi) ?_ _ (u, x, N, []) ⟨rfl, by dsimp only; omega, by simp, by simpa using hS, fun r hr => (List.not_mem_nil hr).elim⟩
  rintro m ⟨u, x, n, l⟩ ⟨rfl, n0, nl, hS, hr⟩
  dsimp only at n0 nl hS hr ⊢
  simp only [za5]
  refine M.o_if (fun hb => ?_) (fun hb => ?_)
  · have hb := of_decide_eq_true hb
    refine M.o_bind (next_out hS (by omega) (by omega)) ?_
    rintro ⟨a, u1, x1⟩ ⟨k1, g1, _⟩
    have g1 := g1 (by omega)
    dsimp only at k1 g1 ⊢
    refine M.o_bind (next_out k1 (by omega) (by omega)) ?_
    rintro ⟨w, u2, x2⟩ ⟨k2, g2, _⟩
    dsimp only at k2 ⊢
    refine M.o_grd (gA2 (by omega) (by omega)) (M.o_bind (within_out k2 (by omega) (by omega) (by omega) (by omega)) ?_)
    rintro ⟨d, u3, x3⟩ ⟨k3, g3, g3'⟩
    dsimp only at k3 g3 g3' ⊢
    have ra := hro (Int.toNat a) (by omega)
    have rb := hro (Int.toNat (a + d)) (by omega)
    refine M.o_grd (gA2 (by omega) (by omega)) (M.o_grd (gA2 (by omega) (by omega)) (M.o_grd (gA2 (by omega) (by omega)) (M.o_bind (next_out k3 (by omega) (by omega)) ?_)))
    rintro ⟨e, u4, x4⟩ ⟨k4, g4, _⟩
    have g4 := g4 (by omega)
    dsimp only at k4 g4 ⊢
    refine M.o_grd (gA2 (by omega) (by omega)) (M.o_bind (next_out k4 (by omega) (by omega)) ?_)
    rintro ⟨f, u5, x5⟩ ⟨k5, g5, _⟩
    have g5 := g5 (by omega)
    dsimp only at k5 g5 ⊢
    refine M.o_grd (gA2 (by omega) (by omega)) (M.o_grd (decide_eq_true (by simp; omega)) (M.o_grd (gA2 (by omega) (by omega)) (M.o_pure ⟨(n - 1).toNat, by omega, rfl, by dsimp only; omega, by simp; omega, k5.mono (by simp; omega), fun r h => ?_⟩)))
    rcases List.mem_append.1 h with h | h
    · exact hr r h
    · rw [List.mem_singleton] at h
      subst h
      dsimp only
      exact ⟨⟨by dsimp only; omega, by dsimp only; omega, by dsimp only; omega, by dsimp only; omega, by dsimp only; omega, by dsimp only; omega⟩, by omega, by omega, by omega, by omega⟩
  · have hb := of_decide_eq_false hb
    exact M.o_pure ⟨rfl, by dsimp only; omega, by dsimp only; omega, hr⟩
theorem truth_of {S : List Sect} {M' : List Mrk} {R : List Rch} {t ro : List Int} {place stage : Int} (h : Fl.Mi S M' t ro place stage) (hn : 2 <= S.length /\ S.length <= 5) (hm : 1 <= M'.length) (hr : 1 <= R.length /\ R.length <= 4)
    (hR : ∀ r ∈ R, Fl.Rok S r /\ r.lo <= ro.getD (Int.toNat r.up) 0 /\ r.lo <= ro.getD (Int.toNat r.down) 0 /\ ro.getD (Int.toNat r.up) 0 <= r.hi /\ ro.getD (Int.toNat r.down) 0 <= r.hi) : Fl.Truth S M' R t ro := by
  have p1 := h.p1
  have s0 := h.s0
  have m8 := h.m8
  refine ⟨⟨⟨by omega, h.rows, fun i hi => ?_, fun i j hij hj => ?_⟩, by omega, by omega, fun m hm => (h.mt m hm).1, fun r hr => (hR r hr).1⟩, h.m8, h.tl, h.rl, fun i hi => ?_, h.td, h.gap, fun m hm => (h.mt m hm).2, fun i hi => ?_, fun r hr => (hR r hr).2⟩
  · have := h.pl i hi; omega
  · have := h.gap i j hij hj; omega
  · have := h.tr i hi; omega
  · have := h.ro0 i hi; omega
theorem j11_out {b : List UInt8} {u x : Int} {S : List Sect} {M' : List Mrk} {t ro : List Int} {place stage : Int} (h : Fl.Mi S M' t ro place stage) (hn : 2 <= S.length /\ S.length <= 5) (hm : 1 <= M'.length) (hS : SOk 1000 u x) :
    (zaz b u x ro t S M').Out (fun z => Fl.Truth z.1 z.2.1 z.2.2.1 z.2.2.2.1 z.2.2.2.2.1) := by
  unfold zaz
  refine M.o_bind (within_out hS (by omega) (by omega) (by omega) (by omega)) ?_
  rintro ⟨r, u1, x1⟩ ⟨k1, g1, g1'⟩
  dsimp only at k1 g1 g1' ⊢
  refine M.o_bind (b10_out (k1.mono (by omega)) hn h.rl h.ro0 ⟨g1, g1'⟩) ?_
  rintro ⟨l, l', u2, x2⟩ ⟨e, h1, h2, h3⟩
  dsimp only at e h1 h2 h3 ⊢
  subst e
  exact M.o_pure (truth_of h hn hm ⟨h1, h2⟩ h3)
theorem Made_out {b : List UInt8} : (zbw b 0 0 8 false).Out (fun z => Fl.Truth z.1 z.2.1 z.2.2.1 z.2.2.2.1 z.2.2.2.2.1) := by
  unfold zbw
  refine M.o_bind (next_out SOk.zero (by omega) (by omega)) ?_
  rintro ⟨r2, u1, x1⟩ ⟨k1, g1, _⟩
  have g1 := g1 (by omega)
  dsimp only at k1 g1 ⊢
  refine M.o_bind (within_out k1 (by omega) (by omega) (by omega) (by omega)) ?_
  rintro ⟨r3, u2, x2⟩ ⟨k2, g2, g2'⟩
  dsimp only at k2 g2 g2' ⊢
  refine M.o_bind (within_out k2 (by omega) (by omega) (by omega) (by omega)) ?_
  rintro ⟨r4, u3, x3⟩ ⟨k3, g3, g3'⟩
  dsimp only at k3 g3 g3' ⊢
  refine M.o_bind (b9_out (k3.mono (by omega)) (by omega) ⟨g2, g2'⟩ ⟨g3, g3'⟩) ?_
  rintro ⟨u4, x4, z⟩ ⟨S, M', t, ro, place, stage, e, k4, h, n2, n5⟩
  obtain rfl := (Prod.mk.inj (Prod.mk.inj e).2).2
  dsimp only at k4 ⊢
  have p1 := h.p1
  have s0 := h.s0
  refine M.o_if (fun hb => ?_) (fun hb => ?_)
  · rw [beq_iff_eq] at hb
    have hz : M'.length = 0 := by omega
    have t0 := h.tr 0 (by omega)
    have p0 := h.pl 0 (by omega)
    have tl := h.tl
    refine M.o_grd (decide_eq_true (by omega)) (M.o_grd (decide_eq_true (by omega)) (M.o_grd (gA2 (by omega) (by omega)) (M.o_grd (gA2 (by omega) (by omega)) (M.o_grd (decide_eq_true (by simp; omega)) (j11_out (place := place) (stage := stage) ?_ ⟨n2, n5⟩ (by simp) k4)))))
    have hm : Fl.Mt S t ⟨(S.getD 0 default).place, t.getD 0 0 - 5, t.getD 0 0 + 5⟩ := ⟨⟨by dsimp only; omega, by dsimp only; omega, by dsimp only; omega, by dsimp only; omega, by dsimp only; omega⟩, 0, by omega, by dsimp only; omega⟩
    exact ⟨h.tl, h.rl, h.rows, h.pl, h.gap, h.tr, h.td, fun m hmm => by
      rcases List.mem_append.1 hmm with hmm | hmm
      · exact h.mt m hmm
      · rw [List.mem_singleton] at hmm
        subst hmm
        exact hm, by simp; omega, h.ro0, h.p0, h.p1, h.s0, h.s1⟩
  · rw [beq_eq_false_iff_ne] at hb
    exact j11_out h ⟨n2, n5⟩ (by omega) k4
end Go.Proofs.YtlemgioaakecpaaGreat
namespace Go.Proofs.YtlemgioaakecpaaGreat
open Go Go.Nm
section
variable {S : List Sect} {M' : List Mrk} {R' : List Rch} {ms : List Int} {r : Rch} {t ro : List Int}
theorem copy_row (l : List FRow) (h : l.length <= 1000) : (zbC l).Ends l := by
  unfold zbC
  exact M.i_grd (decide_eq_true (by simp; omega)) M.i_pure
theorem copy_ends (h : Fl.Site S M' R') : (zbg S M' R').Ends (S, M', R') := by
  have h1 := h.m
  have h2 := h.r
  have h3 := h.s.n
  unfold zbg zb8 zbV
  refine M.i_bind (M.i_grd (decide_eq_true (by simp; omega)) M.i_pure) (M.i_bind (M.i_grd (decide_eq_true (by simp; omega)) M.i_pure) (M.i_bind (a := (S, S)) ?_ M.i_pure))
  refine M.i_for (fun i => (i, S.take i)) S.length (fun i hi => ?_) ?_
  · simp only [zak]
    refine M.i_t (decide_eq_true (by omega)) (M.i_grd (decide_eq_true (by omega)) (M.i_bind (copy_row _ (by have := (h.s.rows i hi).2.2; omega)) (M.i_grd (decide_eq_true (by simp; omega)) ?_)))
    rw [← take_succ_D S i hi default]
    exact M.i_pure
  · simp only [zak]
    rw [List.take_length]
    exact M.i_f (decide_eq_false (by omega)) M.i_pure
theorem Reached_out (h : Fl.Site S M' R') (hc : Fl.Inc M' ms) (ht : Fl.Tog M' ms) {i : Int} (h0 : 0 <= i) (h1 : i < R'.length) (most : Bool) :
    (zbh S M' R' ms i most).Out (fun x => x.2.2.2.2 = 0 /\ ∃ n, (most = false -> Fl.IsLow S M' ms (R'.getD (Int.toNat i) default) ⟨x.1, x.2.1, x.2.2.1, x.2.2.2.1⟩ n) /\ (most = true -> Fl.IsHigh S M' ms (R'.getD (Int.toNat i) default) ⟨x.1, x.2.1, x.2.2.1, x.2.2.2.1⟩ n)) := by
  have hl : Int.toNat i < R'.length := by omega
  have hr : Fl.Rok S (R'.getD (Int.toNat i) default) := by rw [getD_el R' hl]; exact h.rks _ (List.getElem_mem hl)
  unfold zbh
  refine M.o_bindE (asked_ends h hc h0 h1) (M.o_f rfl (M.o_bindE (together_ends hc.2 ht) (M.o_f rfl (M.o_bindE (by unfold zba; exact M.i_pure) ?_))))
  cases most with
  | true =>
    refine M.o_t rfl (M.o_bindE (by unfold zaZ; exact M.i_pure) (M.o_bind (bestH_out h.s hr h.mks hc.2 ht) ?_))
    rintro ⟨a, b, c, d, n⟩ k
    exact M.o_pure ⟨rfl, n, fun e => Bool.noConfusion e, fun _ => k⟩
  | false =>
    refine M.o_f rfl (M.o_bind (bestL_out h.s hr h.mks hc.2 ht) ?_)
    rintro ⟨a, b, c, d, n⟩ k
    exact M.o_pure ⟨rfl, n, fun _ => k, fun e => Bool.noConfusion e⟩
theorem set_getD {R : List Rch} {k : Nat} {x : Rch} (h : k < R.length) : (R.set k x).getD k default = x := by
  simp [List.getD, h]
theorem reach_b0 (h : Fl.Truth S M' R' t ro) {i : Int} (i0 : 0 <= i) (i1 : i < R'.length) {c1 c2 : Cas} {lo hi : Int} (hlo : Fl.IsLow S M' (Fl.ints M'.length) (R'.getD (Int.toNat i) default) c1 lo) (hhi : Fl.IsHigh S M' (Fl.ints M'.length) (R'.getD (Int.toNat i) default) c2 hi) :
    (M.iter (zay S M' R' (Fl.ints M'.length) i lo hi (Fl.surf S M' (Fl.ints M'.length))) 0).Ends (.inr ()) := by
  have hl : Int.toNat i < R'.length := by omega
  have hr := h.rok hl
  have inc := Fl.ints_inc M'
  have tog := h.tog (Fl.ints_ix M')
  have hk := h.site.mks
  have m8 := h.m8
  have m1 := h.site.m
  have hp := Fl.pu_pd h.site.s hr
  have iu := hr.iu
  have id' := hr.id
  have u0 := hr.u0
  have ud := hr.ud
  have d1 := hr.d1
  refine M.Out.ends (M.o_for 2 (fun j (s : Nat) => s = j) ?_ ?_ rfl)
  · rintro _ j hj rfl
    have e : Int.toNat ((j : Nat) : Int) = j := Int.toNat_natCast j
    simp only [zay]
    refine M.o_t (decide_eq_true (by simp; omega)) (M.o_grd (decide_eq_true (by simp; omega)) (M.o_bind (Reached_out h.site inc tog i0 i1 _) ?_))
    rintro ⟨a, b, c, d, _⟩ ⟨rfl, n, kl, kh⟩
    dsimp only at kl kh ⊢
    generalize hmost : [false, true].getD j false = most at kl kh ⊢
    have lies : Fl.Lies S M' (R'.getD (Int.toNat i) default) ⟨a, b, c, d⟩ /\ n = Fl.fl S (R'.getD (Int.toNat i) default) ⟨a, b, c, d⟩ /\ (most = true -> n = hi) /\ (most = false -> n = lo) := by
      cases most with
      | true =>
        obtain ⟨x, hx, e1, e2, hm⟩ := kh rfl
        obtain ⟨y, hy, e3, e4, hm'⟩ := hhi
        have q1 := hm _ hy
        have q2 := hm' _ hx
        rw [e1] at e2
        rw [e3] at e4
        refine ⟨by rw [e1]; exact Fl.hc_lies hr hk tog hx, by rw [e1]; exact e2, fun _ => by omega, fun e => Bool.noConfusion e⟩
      | false =>
        obtain ⟨x, hx, e1, e2, hm⟩ := kl rfl
        obtain ⟨y, hy, e3, e4, hm'⟩ := hlo
        have q1 := hm _ hy
        have q2 := hm' _ hx
        rw [e1] at e2
        rw [e3] at e4
        refine ⟨by rw [e1]; exact Fl.lc_lies hr hk tog hx, by rw [e1]; exact e2, fun e => Bool.noConfusion e, fun _ => by omega⟩
    obtain ⟨lies, en, eh, el⟩ := lies
    have ok := lies.ok hr
    obtain ⟨l1, l2, l3, l4, l5, l6, l7, l8⟩ := id lies
    dsimp only at l1 l2 l3 l4 l5 l6 l7 l8
    subst l6
    refine M.o_bindE (Flow_ends h.site i0 i1 ok l7 l8 l7 l8) ?_
    rw [← en]
    have su := Fl.surf_at (M := M') (ms := Fl.ints M'.length) iu
    have sd := Fl.surf_at (M := M') (ms := Fl.ints M'.length) id'
    rw [su, sd, Fl.surf_len]
    dsimp only
    unfold Fl.pu at l1 l2
    unfold Fl.pd at l3 l4
    refine M.o_grd (gOr2 (by omega) (by omega)) (M.o_grd (gOr2 (by omega) (by omega)) (M.o_grd (gOr2 (by omega) (by omega)) (M.o_grd (gOr2 (by omega) (by omega)) (M.o_f ?_ (M.o_grd (gA2 (by omega) (by omega)) (M.o_f ?_ ?_))))))
    · simp only [Bool.or_eq_false_iff]
      refine ⟨⟨⟨⟨⟨⟨⟨rfl, rfl⟩, decide_eq_false (by omega)⟩, decide_eq_false (by omega)⟩, decide_eq_false (by omega)⟩, decide_eq_false (by omega)⟩, ?_⟩, ?_⟩
      · cases most with
        | true => rw [eh rfl]; simp
        | false => rfl
      · cases most with
        | true => rfl
        | false => rw [el rfl]; simp
    · simp only [Bool.or_eq_false_iff]
      exact ⟨decide_eq_false (by omega), by simp⟩
    · refine M.o_bindE (copy_ends h.site) (M.o_grd (gA2 (by omega) (by omega)) (M.o_grd (gA2 (by omega) (by omega)) (M.o_grd (decide_eq_true (by simp; omega)) (M.o_grd (gA2 (by omega) (by omega)) ?_))))
      have et : M' ++ ([(⟨((S.getD (Int.toNat ((R'.getD (Int.toNat i) default).up)) default).place : Int), a, a⟩ : Mrk), (⟨((S.getD (Int.toNat ((R'.getD (Int.toNat i) default).down)) default).place : Int), b, b⟩ : Mrk)]) = Fl.told S M' (R'.getD (Int.toNat i) default) ⟨a, b, c, c⟩ := rfl
      rw [et]
      have hl3 : (Fl.told S M' (R'.getD (Int.toNat i) default) ⟨a, b, c, c⟩).length = M'.length + 2 := by unfold Fl.told; simp
      have hro : ∀ x ∈ R'.set (Int.toNat i) { (R'.getD (Int.toNat i) default) with lo := c, hi := c }, Fl.Rok S x := fun x hx => by
        rcases List.mem_or_eq_of_mem_set hx with hx | rfl
        · exact h.site.rks x hx
        · exact ⟨u0, ud, d1, Int.le_trans hr.l1 l7, Int.le_refl _, Int.le_trans l8 hr.h4⟩
      have site := Fl.told_site lies h.site hr (R' := R'.set (Int.toNat i) { (R'.getD (Int.toNat i) default) with lo := c, hi := c }) (by rw [List.length_set]; exact h.site.r) hro (by omega)
      refine M.o_bindE (every_ends (by omega)) (M.o_bind (Peak_out site (Fl.ints_inc _) (lies.tog hp tog) i0 (by rw [List.length_set]; exact i1)) ?_)
      rintro ⟨p, q, _⟩ ⟨rfl, ⟨c3, k3⟩, c4, k4⟩
      rw [set_getD hl] at k3 k4
      have := Fl.told_one lies h.site.s hr (r' := { (R'.getD (Int.toNat i) default) with lo := c, hi := c }) rfl rfl rfl rfl rfl k3 k4
      dsimp only at this ⊢
      refine M.o_f ?_ (M.o_pure rfl)
      rw [this.1, this.2, ← en]
      simp
  · rintro _ rfl
    simp only [zay]
    exact M.o_f (decide_eq_false (by simp)) (M.o_pure rfl)
end
theorem zc3 (numbers : List UInt8) (reach : Int) : (zb6 numbers reach).Ends true := by
  refine M.Out.ends ?_
  unfold zb6
  refine M.o_bindE (by unfold zbK; exact M.i_pure) (M.o_bind Made_out ?_)
  rintro ⟨S, M', R', t, ro, u, x⟩ h
  dsimp only at h ⊢
  have hm := h.site.m
  have hr := h.site.r
  refine M.o_bindE (every_ends hm.2) (M.o_bind (pick_num (by omega)) ?_)
  rintro i ⟨i0, i1⟩
  refine M.o_bind (Peak_out h.site (Fl.ints_inc M') (h.tog (Fl.ints_ix M')) i0 i1) ?_
  rintro ⟨p, q, _⟩ ⟨rfl, ⟨c1, k1⟩, c2, k2⟩
  dsimp only at k1 k2 ⊢
  refine M.o_bindE (Surface_ends h.site (Fl.ints_inc M') (h.tog (Fl.ints_ix M'))) (M.o_f ?_ (M.o_grd (gA2 i0 i1) (M.o_bindE (reach_b0 h i0 i1 k1 k2) (M.o_bindE awake_ends (M.o_pure rfl)))))
  rw [Fl.surf_len]
  simp
end Go.Proofs.YtlemgioaakecpaaGreat
