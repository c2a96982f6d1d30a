/- Part 6 of the texts on which the proof rests. Conditions: none. -/
import Derived.Test.YtbaehghammbjdaaZF5
set_option linter.unusedVariables false
set_option linter.unusedSimpArgs false
set_option linter.unusedSectionVars false
namespace Go.Nm
namespace Wn
/-- What is made so far of the first stations. -/
structure Mk (n i : Nat) (l : List Int) (l2 : List Span) (l3 : List Int) : Prop where
  z1 : l.length = i
  z2 : l2.length = i
  nx : ∀ j, j < i -> l.getD j 0 = -1 ∨ ((j : Int) + 1 <= l.getD j 0 /\ l.getD j 0 < n)
  hr : ∀ j, j < i -> 0 <= (l2.getD j default).lo /\ (l2.getD j default).lo <= (l2.getD j default).hi /\ (l2.getD j default).hi <= 1000
  s8 : l3.length <= 8
  sr : l3.Pairwise (· < ·)
  si : ∀ x ∈ l3, 0 <= x /\ x < (i : Int)
theorem getD_app {α : Type} {l : List α} {x d : α} {j : Nat} (h : j < l.length) : (l ++ [x]).getD j d = l.getD j d := by
  simp [List.getD, List.getElem?_append_left h]
theorem getD_appE {α : Type} {l : List α} {x d : α} {j : Nat} (h : l.length = j) : (l ++ [x]).getD j d = x := by
  subst h
  simp [List.getD]
theorem Mk.step {n i : Nat} {l : List Int} {l2 : List Span} {l3 l3' : List Int} {d : Int} {s : Span} (h : Mk n i l l2 l3) (hd : d = -1 ∨ ((i : Int) + 1 <= d /\ d < n)) (hs : 0 <= s.lo /\ s.lo <= s.hi /\ s.hi <= 1000)
    (h3 : l3' = l3 ∨ (l3' = l3 ++ [(i : Int)] /\ l3.length < 8)) : Mk n (i + 1) (l ++ [d]) (l2 ++ [s]) l3' := by
  refine ⟨by simp [h.z1], by simp [h.z2], fun j hj => ?_, fun j hj => ?_, ?_, ?_, fun x hx => ?_⟩
  · rcases Nat.lt_or_eq_of_le (Nat.le_of_lt_succ hj) with e | e
    · rw [getD_app (by rw [h.z1]; exact e)]
      exact h.nx j e
    · subst e
      rw [getD_appE h.z1]
      exact hd
  · rcases Nat.lt_or_eq_of_le (Nat.le_of_lt_succ hj) with e | e
    · rw [getD_app (by rw [h.z2]; exact e)]
      exact h.hr j e
    · subst e
      rw [getD_appE h.z2]
      exact hs
  · rcases h3 with rfl | ⟨rfl, h3⟩
    · exact h.s8
    · simp; omega
  · rcases h3 with rfl | ⟨rfl, h3⟩
    · exact h.sr
    · rw [List.pairwise_append]
      exact ⟨h.sr, List.pairwise_singleton _ _, fun a ha b hb => by
        rw [List.mem_singleton] at hb
        subst hb
        exact (h.si a ha).2⟩
  · rcases h3 with rfl | ⟨rfl, h3⟩
    · have := h.si x hx
      omega
    · rcases List.mem_append.1 hx with hx | hx
      · have := h.si x hx
        omega
      · rw [List.mem_singleton] at hx
        omega
end Wn
end Go.Nm
namespace Go.Proofs.Ytbaehghammbjdaa
open Go Go.Nm
theorem made_j5 {b : List UInt8} {n i : Nat} {l : List Int} {l2 : List Span} {l3 : List Int} {c u x d : Int} (h : Wn.Mk n i l l2 l3) (hi : i < n) (hn : n <= 12) (hS : SOk c u x) (hc : c <= 100000) (hd : d = -1 ∨ ((i : Int) + 1 <= d /\ d < n)) :
    (zao b i l l2 l3 u x d).Out (fun r => match r with | .inl (u', x', i', a1, a2, a3) => i' = i + 1 /\ SOk (c + 3) u' x' /\ Wn.Mk n (i + 1) a1 a2 a3 | .inr _ => False) := by
  have e1 := h.z1
  have e2 := h.z2
  have e8 := h.s8
  unfold zao
  refine M.o_bind (next_out hS (by omega) (by omega)) ?_
  rintro ⟨r5, u5, x5⟩ ⟨k5, g5, _⟩
  have g5 := g5 (by omega)
  dsimp only at k5 g5 ⊢
  refine M.o_grdD (by simp; omega) (M.o_bind (next_out k5 (by omega) (by omega)) ?_)
  rintro ⟨r6, u6, x6⟩ ⟨k6, g6, _⟩
  have g6 := g6 (by omega)
  dsimp only at k6 g6 ⊢
  refine M.o_grd (gA2 (by omega) (by omega)) (M.o_grdD (by simp; omega) ?_)
  unfold zb5
  have hs : 0 <= (⟨r5, r5 + r6⟩ : Span).lo /\ (⟨r5, r5 + r6⟩ : Span).lo <= (⟨r5, r5 + r6⟩ : Span).hi /\ (⟨r5, r5 + r6⟩ : Span).hi <= 1000 := by dsimp only; omega
  refine M.o_if (fun hb => ?_) (fun hb => ?_)
  · have hb' := of_decide_eq_true hb
    refine M.o_bind (next_out k6 (by omega) (by omega)) ?_
    rintro ⟨r7, u7, x7⟩ ⟨k7, g7, _⟩
    dsimp only at k7 g7 ⊢
    refine M.o_if (fun hq => ?_) (fun hq => ?_)
    · exact M.o_grdD (by simp; omega) (M.o_grd (gA2 (by omega) (by omega)) (M.o_pure ⟨rfl, k7.mono (by omega), h.step hd hs (.inr ⟨rfl, by omega⟩)⟩))
    · exact M.o_grd (gA2 (by omega) (by omega)) (M.o_pure ⟨rfl, k7.mono (by omega), h.step hd hs (.inl rfl)⟩)
  · exact M.o_grd (gA2 (by omega) (by omega)) (M.o_pure ⟨rfl, k6.mono (by omega), h.step hd hs (.inl rfl)⟩)
theorem made_stations {b : List UInt8} {n : Nat} {c u x : Int} (h1 : 1 <= n) (hn : n <= 12) (hS : SOk c u x) (hc : c <= 1000) :
    (M.iter (za5 b (n : Int)) (u, x, 0, [], [], [])).Out (fun r => SOk (c + 100) r.1 r.2.1 /\ ∃ l l2 l3, r.2.2 = (l, l2, l3, l3, l2, l) /\ Wn.Mk n n l l2 l3) := by
  refine M.o_for n (fun i (s : Int × Int × Nat × List Int × List Span × List Int) => s.2.2.1 = i /\ SOk (c + 6 * i) s.1 s.2.1 /\ Wn.Mk n i s.2.2.2.1 s.2.2.2.2.1 s.2.2.2.2.2) ?_ ?_ ⟨rfl, hS.mono (by omega), rfl, rfl, fun j hj => by omega, fun j hj => by omega, by simp, List.Pairwise.nil, fun x hx => by cases hx⟩
  · rintro i ⟨u, x, q, l, l2, l3⟩ hi ⟨e1, hS, hM⟩
    dsimp only at e1 hS hM
    subst e1
    simp only [za5]
    have fin : ∀ {c' u' x' d : Int}, SOk c' u' x' -> c' + 3 <= c + 6 * ((q + 1 : Nat) : Int) -> (d = -1 ∨ ((q : Int) + 1 <= d /\ d < n)) →
        ∀ {Q : ((Int × Int × Nat × List Int × List Span × List Int) ⊕ (Int × Int × List Int × List Span × List Int × List Int × List Span × List Int)) -> Prop}, (∀ s', s'.2.2.1 = q + 1 /\ SOk (c + 6 * ((q + 1 : Nat) : Int)) s'.1 s'.2.1 /\ Wn.Mk n (q + 1) s'.2.2.2.1 s'.2.2.2.2.1 s'.2.2.2.2.2 -> Q (.inl s')) →
        (zao b q l l2 l3 u' x' d).Out Q := by
      intro c' u' x' d k1 k2 k3 Q kQ
      refine M.o_mono (made_j5 (b := b) hM hi hn k1 (by omega) k3) ?_
      rintro (⟨u2, x2, i2, a1, a2, a3⟩ | r) hr
      · exact kQ _ ⟨hr.1, hr.2.1.mono k2, hr.2.2⟩
      · exact hr.elim
    refine M.o_t (decide_eq_true (by omega)) (M.o_grd (gA2 (by omega) (by omega)) (M.o_if (fun hb => ?_) (fun hb => fin hS (by omega) (.inl rfl) fun s' h => h)))
    have hb' := of_decide_eq_true hb
    refine M.o_bind (next_out hS (by omega) (by omega)) ?_
    rintro ⟨r, u7, x7⟩ ⟨k7, g7, _⟩
    dsimp only at k7 g7 ⊢
    refine M.o_if (fun hq => ?_) (fun hq => fin k7 (by omega) (.inl rfl) fun s' h => h)
    refine M.o_grd (gA2 (by omega) (by omega)) (M.o_grd (gA2 (by omega) (by omega)) (M.o_bind (within_out k7 (by omega) (by omega) (by omega) (by omega)) ?_))
    rintro ⟨r4, u8, x8⟩ ⟨k8, g8, g9⟩
    dsimp only at k8 g8 g9 ⊢
    have g10 := Int.le_trans g9 (Int.min_le_left ((n : Int) - 1) ((q : Int) + 3))
    exact fin k8 (by omega) (.inr ⟨g8, by omega⟩) fun s' h => h
  · rintro ⟨u, x, q, l, l2, l3⟩ ⟨e1, hS, hM⟩
    dsimp only at e1 hS hM
    subst e1
    simp only [za5]
    exact M.o_f (decide_eq_false (by omega)) (M.o_pure ⟨hS.mono (by omega), l, l2, l3, rfl, hM⟩)
def TwOk (n : Nat) (tw : List Town) : Prop := ∀ t ∈ tw, (0 <= t.station /\ t.station < n) /\ (0 <= t.lead /\ t.lead <= 7) /\ 0 <= t.alarm /\ t.alarm <= 2000
theorem made_towns {b : List UInt8} {n : Nat} {c u x k : Int} (h1 : 1 <= n) (hn : n <= 12) (hS : SOk c u x) (hc : c <= 10000) (hk : 0 <= k /\ k < 8) :
    (M.iter (zbL b (n : Int)) (u, x, k, [])).Out (fun r => SOk (c + 100) r.1 r.2.1 /\ r.2.2.2.length <= 8 /\ TwOk n r.2.2.2) := by
  refine M.o_iter (fun m (s : Int × Int × Int × List Town) => s.2.2.1 = (m : Int) /\ m <= 8 /\ SOk (c + 4 * (8 - (m : Int))) s.1 s.2.1 /\ s.2.2.2.length + m <= 8 /\ TwOk n s.2.2.2) ?_ (Int.toNat k) _ ⟨by dsimp only; omega, by omega, hS.mono (by omega), by simp; omega, fun t ht => by cases ht⟩
  rintro m ⟨u, x, k, l⟩ ⟨e1, hm, hS, hl, hT⟩
  dsimp only at e1 hS hl hT
  subst e1
  simp only [zbL]
  refine M.o_if (fun hb => ?_) (fun hb => M.o_pure ⟨hS.mono (by omega), by dsimp only; omega, hT⟩)
  have hb := of_decide_eq_true hb
  refine M.o_bind (next_out hS (by omega) (by omega)) ?_
  rintro ⟨r1, u1, x1⟩ ⟨k1, g1, _⟩
  have g1 := g1 (by omega)
  dsimp only at k1 g1 ⊢
  refine M.o_bind (next_out k1 (by omega) (by omega)) ?_
  rintro ⟨r2, u2, x2⟩ ⟨k2, g2, _⟩
  have g2 := g2 (by omega)
  dsimp only at k2 g2 ⊢
  refine M.o_bind (within_out k2 (by omega) (by omega) (by omega) (by omega)) ?_
  rintro ⟨r3, u3, x3⟩ ⟨k3, g3, g4⟩
  dsimp only at k3 g3 g4 ⊢
  refine M.o_grdD (by simp; omega) (M.o_grd (gA2 (by omega) (by omega)) (M.o_pure ⟨m - 1, by omega, by dsimp only; omega, by omega, k3.mono (by omega), by simp; omega, fun t ht => ?_⟩))
  rcases List.mem_append.1 ht with ht | ht
  · exact hT t ht
  · rw [List.mem_singleton] at ht
    subst ht
    dsimp only
    omega
def FlOk (dn sp : List Int) (fl : List Flood) : Prop := ∀ f ∈ fl, f.spring ∈ sp /\ f.stages.length = (Wn.P dn f.spring).length /\ ∀ x ∈ f.stages, 0 <= x /\ x <= 2000
theorem made_stages {b : List UInt8} {dn : List Int} {c u x s : Int} (hd : Wn.Dn dn) (hn : dn.length <= 12) (hs : 0 <= s /\ s < dn.length) (hS : SOk c u x) (hc : c <= 100000) :
    (M.iter (zaN b dn) (u, x, s, [])).Out (fun r => SOk (c + 12) r.1 r.2.1 /\ r.2.2.2.length = (Wn.P dn s).length /\ ∀ x ∈ r.2.2.2, 0 <= x /\ x <= 2000) := by
  have hst : Wn.Stn dn s := .inr hs
  have hsh := Wn.P_short hd hst
  refine M.o_for (Wn.P dn s).length (fun i (t : Int × Int × Int × List Int) => (Wn.P dn t.2.2.1 = (Wn.P dn s).drop i /\ Wn.Stn dn t.2.2.1) /\ SOk (c + i) t.1 t.2.1 /\ t.2.2.2.length = i /\ ∀ x ∈ t.2.2.2, 0 <= x /\ x <= 2000) ?_ ?_ ⟨⟨by rw [List.drop_zero], hst⟩, hS.mono (by omega), rfl, fun x hx => by cases hx⟩
  · rintro i ⟨u, x, q, l⟩ hi ⟨⟨e2, e3⟩, hS, hl, hx⟩
    dsimp only at e2 e3 hS hl hx
    subst hl
    simp only [zaN]
    have hdr : (Wn.P dn s).drop l.length = (Wn.P dn s)[l.length] :: (Wn.P dn s).drop (l.length + 1) := List.drop_eq_getElem_cons hi
    have hq : 0 <= q /\ q < dn.length := by
      rcases e3 with rfl | e3
      · rw [Wn.P_none, hdr] at e2
        cases e2
      · exact e3
    rw [Wn.P_cons hd hq.1 hq.2, hdr] at e2
    obtain ⟨_, g2⟩ := List.cons.inj e2
    refine M.o_t (by simp; omega) (M.o_bind (next_out hS (by omega) (by omega)) ?_)
    rintro ⟨r, u1, x1⟩ ⟨k1, g1, _⟩
    have g1 := g1 (by omega)
    dsimp only at k1 g1 ⊢
    refine M.o_grdD (by simp; omega) (M.o_grd (gA2 (by omega) (by omega)) (M.o_pure ⟨⟨g2, hd.next_st hq.1 hq.2⟩, k1.mono (by omega), by simp, fun y hy => ?_⟩))
    rcases List.mem_append.1 hy with hy | hy
    · exact hx y hy
    · rw [List.mem_singleton] at hy
      omega
  · rintro ⟨u, x, q, l⟩ ⟨⟨e2, e3⟩, hS, hl, hx⟩
    dsimp only at e2 e3 hS hl hx
    simp only [zaN]
    rw [List.drop_length] at e2
    have hq : q = -1 := by
      rcases e3 with e3 | e3
      · exact e3
      · rw [Wn.P_cons hd e3.1 e3.2] at e2
        cases e2
    subst hq
    exact M.o_f rfl (M.o_pure ⟨hS.mono (by omega), hl, hx⟩)
theorem made_floods {b : List UInt8} {dn sp : List Int} {c u x k : Int} (hd : Wn.Dn dn) (hn : dn.length <= 12) (h1 : 1 <= sp.length) (h8 : sp.length <= 8) (hsp : ∀ x ∈ sp, 0 <= x /\ x < dn.length) (hS : SOk c u x) (hc : c <= 10000) (hk : 0 <= k /\ k < 10) :
    (M.iter (zbo b dn sp) (u, x, k, [])).Out (fun r => SOk (c + 1000) r.2.2.1 r.2.2.2 /\ r.2.1.length <= 20 /\ FlOk dn sp r.2.1) := by
  refine M.o_iter (fun m (s : Int × Int × Int × List Flood) => s.2.2.1 = (m : Int) /\ m <= 10 /\ SOk (c + 20 * (10 - (m : Int))) s.1 s.2.1 /\ s.2.2.2.length + m <= 10 /\ FlOk dn sp s.2.2.2) ?_ (Int.toNat k) _ ⟨by dsimp only; omega, by omega, hS.mono (by omega), by simp; omega, fun t ht => by cases ht⟩
  rintro m ⟨u, x, k, l⟩ ⟨e1, hm, hS, hl, hF⟩
  dsimp only at e1 hS hl hF
  subst e1
  simp only [zbo]
  refine M.o_if (fun hb => ?_) (fun hb => M.o_pure ⟨hS.mono (by omega), by dsimp only; omega, hF⟩)
  have hb := of_decide_eq_true hb
  refine M.o_bind (next_out hS (by omega) (by omega)) ?_
  rintro ⟨r, u1, x1⟩ ⟨k1, g1, _⟩
  have g1 := g1 (by omega)
  dsimp only at k1 g1 ⊢
  refine M.o_grd (gA2 (by omega) (by omega)) ?_
  unfold zbT
  have hm' : sp.getD (Int.toNat r) 0 ∈ sp := by
    have hi : Int.toNat r < sp.length := by omega
    rw [List.getD_eq_getElem?_getD, List.getElem?_eq_getElem hi, Option.getD_some]
    exact List.getElem_mem hi
  refine M.o_bind (made_stages hd hn (hsp _ hm') k1 (by omega)) ?_
  rintro ⟨u2, x2, q2, l2⟩ ⟨k2, g2, g3⟩
  dsimp only at k2 g2 g3 ⊢
  refine M.o_grdD (by simp; omega) (M.o_grd (gA2 (by omega) (by omega)) (M.o_pure ⟨m - 1, by omega, by dsimp only; omega, by omega, k2.mono (by omega), by simp; omega, fun f hf => ?_⟩))
  rcases List.mem_append.1 hf with hf | hf
  · exact hF f hf
  · rw [List.mem_singleton] at hf
    subst hf
    exact ⟨hm', g2, g3⟩
end Go.Proofs.Ytbaehghammbjdaa
namespace Go.Proofs.Ytbaehghammbjdaa
open Go Go.Nm
theorem made_j16 {b : List UInt8} {n : Nat} {l : List Int} {l2 : List Span} {sp : List Int} {c u x : Int} (h1 : 1 <= n) (hn : n <= 12) (hl : l.length = n) (hl2 : l2.length = n) (hd : Wn.Dn l) (ht : ∀ i, i < n -> 0 <= (l2.getD i default).lo /\ (l2.getD i default).lo <= (l2.getD i default).hi /\ (l2.getD i default).hi <= 1000)
    (s1 : 1 <= sp.length) (s8 : sp.length <= 8) (sr : sp.Pairwise (· < ·)) (si : ∀ x ∈ sp, 0 <= x /\ x < (n : Int)) (hS : SOk c u x) (hc : c <= 1000) :
    (zaH b (n : Int) u x l2 l sp).Out (fun y => Wn.Rv y.1 y.2.1 y.2.2.1 y.2.2.2.1 y.2.2.2.2.1 y.2.2.2.2.2.1 y.2.2.2.2.2.2.1 /\ (y.2.2.2.2.1 <= 2 /\ y.2.2.2.2.2.1 <= 4 /\ ∀ t ∈ y.2.2.2.1, t.lead <= 7) /\ SOk (c + 5000) y.2.2.2.2.2.2.2.1 y.2.2.2.2.2.2.2.2) := by
  unfold zaH
  refine M.o_bind (next_out hS (by omega) (by omega)) ?_
  rintro ⟨r1, u1, x1⟩ ⟨k1, g1, _⟩
  have g1 := g1 (by omega)
  dsimp only at k1 g1 ⊢
  refine M.o_bind (made_towns h1 hn k1 (by omega) g1) ?_
  rintro ⟨u2, x2, a1, tw⟩ ⟨k2, t8, tok⟩
  dsimp only at k2 t8 tok ⊢
  refine M.o_bind (next_out k2 (by omega) (by omega)) ?_
  rintro ⟨r3, u3, x3⟩ ⟨k3, g3, _⟩
  have g3 := g3 (by omega)
  dsimp only at k3 g3 ⊢
  refine M.o_bind (next_out k3 (by omega) (by omega)) ?_
  rintro ⟨r4, u4, x4⟩ ⟨k4, g4, _⟩
  have g4 := g4 (by omega)
  dsimp only at k4 g4 ⊢
  refine M.o_grd (gA2 (by omega) (by omega)) ?_
  unfold zcg
  refine M.o_bind (next_out k4 (by omega) (by omega)) ?_
  rintro ⟨r5, u5, x5⟩ ⟨k5, g5, _⟩
  have g5 := g5 (by omega)
  dsimp only at k5 g5 ⊢
  refine M.o_bind (made_floods hd (by omega) s1 s8 (by rw [hl]; exact si) k5 (by omega) g5) ?_
  rintro ⟨a2, fl, u6, x6⟩ ⟨k6, f20, fok⟩
  dsimp only at k6 f20 fok ⊢
  exact M.o_pure ⟨⟨by rw [hl]; exact h1, by rw [hl]; exact hn, hd, by rw [hl, hl2], fun i hi => ht i (by dsimp only at hi; omega), s1, s8, sr, by rw [hl]; exact si, t8, by rw [hl]; exact fun t ht => (by have := tok t ht; omega), g3.1, by dsimp only; omega, by dsimp only; omega, f20, fok⟩, ⟨by dsimp only; omega, by dsimp only; omega, fun t ht => (tok t ht).2.1.2⟩, k6.mono (by omega)⟩
theorem made_out {b : List UInt8} {u x : Int} (hS : SOk 0 u x) : (zck b u x 12).Out (fun y => Wn.Rv y.1 y.2.1 y.2.2.1 y.2.2.2.1 y.2.2.2.2.1 y.2.2.2.2.2.1 y.2.2.2.2.2.2.1 /\ (y.2.2.2.2.1 <= 2 /\ y.2.2.2.2.2.1 <= 4 /\ ∀ t ∈ y.2.2.2.1, t.lead <= 7) /\ SOk 10000 y.2.2.2.2.2.2.2.1 y.2.2.2.2.2.2.2.2) := by
  unfold zck
  refine M.o_bind (within_out hS (by omega) (by omega) (by omega) (by omega)) ?_
  rintro ⟨r, u1, x1⟩ ⟨k1, g1, g2⟩
  dsimp only at k1 g1 g2 ⊢
  obtain ⟨n, rfl⟩ := Int.eq_ofNat_of_zero_le (show 0 <= r by omega)
  refine M.o_bind (made_stations (by omega) (by omega) k1 (by omega)) ?_
  rintro ⟨u2, x2, z⟩ ⟨k2, l, l2, l3, e, hM⟩
  dsimp only at k2 e ⊢
  subst e
  dsimp only
  have hd : Wn.Dn l := fun i hi => by
    have := hM.nx i (by have := hM.z1; omega)
    have := hM.z1
    omega
  refine M.o_if (fun hb => ?_) (fun hb => ?_)
  · refine M.o_mono (made_j16 (b := b) (by omega) (by omega) hM.z1 hM.z2 hd (fun i hi => hM.hr i hi) (by simp) (by simp) (List.pairwise_singleton _ _) (fun x hx => ?_) k2 (by omega)) fun y hy => ⟨hy.1, hy.2.1, hy.2.2.mono (by omega)⟩
    rw [List.mem_singleton] at hx
    omega
  · have hb : l3.length ≠ 0 := by
      have := beq_eq_false_iff_ne.1 hb
      omega
    refine M.o_mono (made_j16 (b := b) (by omega) (by omega) hM.z1 hM.z2 hd (fun i hi => hM.hr i hi) (by omega) hM.s8 hM.sr hM.si k2 (by omega)) fun y hy => ⟨hy.1, hy.2.1, hy.2.2.mono (by omega)⟩
theorem same_int (l : List Int) : (zae l l).Ends true := by
  unfold zae
  refine M.i_f (by simp) (M.i_bind (a := (.inr () : Unit ⊕ Unit)) ?_ M.i_pure)
  refine M.i_for (fun i => i) l.length (fun i hi => ?_) ?_
  · simp only [zbi]
    exact M.i_t (decide_eq_true (by omega)) (M.i_grd (decide_eq_true (by omega)) (M.i_grd (decide_eq_true (by omega)) (M.i_f (by simp) M.i_pure)))
  · simp only [zbi]
    exact M.i_f (by simp) M.i_pure
end Go.Proofs.Ytbaehghammbjdaa
section
set_option maxRecDepth 100000
set_option maxHeartbeats 16000000
namespace Go.Proofs.Ytbaehghammbjdaa
open Go Go.Nm
def zb0 (aa : List Int) (ab : List Span) (ac : List Int) (ae : List Town) (ah : Int) (ai : Int) (ag : List Flood) : M ((List Dem) × Int) :=
  M.bind (zap aa ab ac ae ah ai ag) fun x_ => match x_ with
  | (.inl r1) => (
  bif r1 != 0 then (
  M.pure (([]), r1))
  else (
  M.fail))
  | (.inr (aj, ak, al)) => (
  bif al != 0 then (
  M.fail)
  else (
  M.bind (zal aa ab ac ae aj ak ag) fun r2 =>
  M.pure (r2, 0)))
theorem zdC {R : List Chunk} {az : Cells} {ag : Value} {aA : Cells} {ah : Value} {aB : Cells} {ai : Value} {aC : Cells} {aj : Value} {aD : Cells} {ak : Value} (am : List Int) (ao : List Span) (aq : List Int) (au : List Town) (ab : Int) (ac : Int) (av : List Flood) (aE : Reads R az) (aF : Sl az ag am) (aG : Reads R aA) (aH : Sl aA ah ao) (aI : Reads R aB) (aJ : Sl aB ai aq) (aK : Reads R aC) (aL : Sl aC aj au) (aM : Reads R aD) (aN : Sl aD ak av) {r : ((List Dem) × Int)} (hM : (zb0 am ao aq au ab ac av).Ends r) (w : World) (H : St w w [] R) : Ret Try.prog 23 #[.agg #[ag, ah, ai, aj, I ab, I ac, ak]] w fun v w' => ∃ (y0 : List Dem) (y1 : Int) (u0 : Value), (y0, y1) = r /\ v = .tuple #[u0, I y1] /\ St w w' [cOwn (α := Dem) 62 u0 y0] R := by
 refine ret_of_W Try.func23 rfl rfl rfl ?_
 refine W.seq ?_
 refine W.region rfl ?_
 refine t_box (v := .agg #[ag, ah, ai, aj, I ab, I ac, ak]) (cs := [ag, ah, ai, aj, I ab, I ac, ak]) H rfl rfl ?_
 intro aP aX H
 refine zA (.slice none 0 0) rfl ?_
 refine zA (I 0) rfl ?_
 refine s_nil ?_
 refine W.seq ?_
 refine W.region rfl ?_
 refine s_val (x_ld (p := Pq aP) (v := .agg #[ag, ah, ai, aj, I ab, I ac, ak]) rfl (ldb_ag (ds := [ag, ah, ai, aj, I ab, I ac, ak]) Ag30 Sz30 (H.bl 0) rfl rfl)) ?_
 obtain ⟨aY, aQ, hM⟩ := M.e_bind hM
 refine s_call cf44 [.agg #[ag, ah, ai, aj, I ab, I ac, ak]] rfl (zbA am ao aq au ab ac av (aE.app _) aF (aG.app _) aH (aI.app _) aJ (aK.app _) aL (aM.app _) aN aQ _ (H.gt 1)) ?_
 rintro vq aZ (⟨r1, aR, hvq, ae⟩ | ⟨aS, aT, aa, al, a6, a7, aU, hvq, ae⟩)
 ·subst aR
  subst vq
  try dsimp only at hM
  replace H := H.bk ae
  clear ae
  refine zM (.tuple #[.pointer none, I r1]) rfl ?_
  refine zX [.pointer none, I r1] (.pointer none) rfl rfl ?_
  refine zX [.pointer none, I r1] (I r1) rfl rfl ?_
  refine zA (.pointer none) rfl ?_
  refine zA (I r1) rfl ?_
  refine s_nil ?_
  refine W.seq ?_
  refine W.seq ?_
  refine W.region rfl ?_
  refine zM (I r1) rfl ?_
  refine zC r1 0 (r1 != 0) rfl rfl rfl ?_
  refine s_nil ?_
  refine W.cond (r1 != 0) rfl (fun aw => ?_) (fun aw => ?_)
  ·replace hM := M.e_t hM aw
   simp only [qy1, qy2, qy3, qy4, qy5, qy6, ne_eq, qy7] at aw
   refine W.seq ?_
   refine W.region rfl ?_
   refine zM (I r1) rfl ?_
   refine zA (.slice none 0 0) rfl ?_
   refine zA (I r1) rfl ?_
   refine s_nil ?_
   refine W.ret ?_
   have ay := M.e_pure hM
   replace H := H.nilOwn (α := Dem) 62
   exact ⟨_, resE_tmp2 rfl, ⟨([]), r1, (.slice none 0 0), ay, rfl, (H.pk [0])⟩⟩
  replace hM := M.e_f hM aw
  exact (M.e_fail hM).elim
 subst aU
 subst vq
 try dsimp only at hM
 replace H := H.bk ae
 clear ae
 refine zM (.tuple #[Pq al, I aa]) rfl ?_
 refine zX [Pq al, I aa] (Pq al) rfl rfl ?_
 refine zX [Pq al, I aa] (I aa) rfl rfl ?_
 refine zA (Pq al) rfl ?_
 refine zA (I aa) rfl ?_
 refine s_nil ?_
 refine W.seq ?_
 refine W.seq ?_
 refine W.region rfl ?_
 refine zM (I aa) rfl ?_
 refine zC aa 0 (aa != 0) rfl rfl rfl ?_
 refine s_nil ?_
 refine W.cond (aa != 0) rfl (fun ax => ?_) (fun ax => ?_)
 ·replace hM := M.e_t hM ax
  exact (M.e_fail hM).elim
 replace hM := M.e_f hM ax
 simp only [qy1, qy2, qy3, qy4, qy5, qy6, ne_eq, qy7] at ax
 refine W.skip ?_
 refine W.seq ?_
 refine W.region rfl ?_
 refine zM (Pq al) rfl ?_
 obtain ⟨a8, aV, hM⟩ := M.e_bind hM
 refine s_call cf51 [Pq al] rfl (zbO am ao aq au aS aT av (aE.app _) aF (aG.app _) aH (aI.app _) aJ (aK.app _) aL (aM.app _) aN (Has.here (k := 0) rfl) aV _ (H.gt 3)) ?_
 rintro vq ba ⟨r2, aO, aW, hvq, ae⟩
 subst aW
 subst vq
 try dsimp only at hM
 replace H := H.bk ae
 clear ae
 refine zA aO rfl ?_
 refine zA (I 0) rfl ?_
 refine s_nil ?_
 replace H := H.pk [0]
 refine W.ret ?_
 have ay := M.e_pure hM
 exact ⟨_, resE_tmp2 rfl, ⟨r2, 0, aO, ay, rfl, H⟩⟩

def zc4 (l : List Town) : M (List Town) :=
  M.grd (decide ((([] : List Town).length + l.length) * 24 <= 140737488355328)) <|
  M.pure l
theorem zbB {R : List Chunk} {ab : Cells} {aa : Value} (l : List Town) (ae : Reads R ab) (ag : Sl ab aa l) {r : (List Town)} (hM : (zc4 l).Ends r) (w : World) (H : St w w [] R) : Ret Try.prog 49 #[aa] w fun v w' => ∃ (y0 : List Town) (u0 : Value), y0 = r /\ v = u0 /\ St w w' [cOwn (α := Town) 54 u0 y0] R := by
 refine ret_of_W Try.func49 rfl rfl rfl ?_
 refine W.seq ?_
 refine W.region rfl ?_
 refine zA (.slice none 0 0) rfl ?_
 refine s_nil ?_
 refine W.seq ?_
 refine W.region rfl ?_
 refine zA (.slice none 0 0) rfl ?_
 refine s_nil ?_
 refine W.seq ?_
 refine W.region rfl ?_
 refine zM (.slice none 0 0) rfl ?_
 refine zM aa rfl ?_
 replace H := H.nilOwn (α := Town) 54
 obtain ⟨ah, hM⟩ := M.e_grd hM
 simp only [Bool.and_eq_true, decide_eq_true_eq] at ah
 refine t_app (α := Town) (k := 0) (l := []) (l2 := l) (l' := l) (vy := aa) T25 rfl H rfl rfl rfl ag (ae.at H) (List.nil_append _) (by first | omega | (simp only [List.length_nil] at *; omega)) ?_
 intro ac aj H
 replace H := H.nf
 refine zA ac rfl ?_
 refine s_nil ?_
 refine W.ret ?_
 have ai := M.e_pure hM
 exact ⟨_, resE_tmp rfl, ⟨l, ac, ai, rfl, H⟩⟩

def zbV (s : Int) (k0 : List Bool) : M Bool :=
  M.grd (decide ((0 : Int) <= s) && decide (s < (12 : Int))) <|
  M.pure (k0.getD (Int.toNat s) false)
theorem zdt {R : List Chunk} {aa : Nat} (s : Int) (k0 : List Bool) (ab : k0.length = 12) (ac : Has R (cBlk aa (encB k0) 74)) {r : Bool} (hM : (zbV s k0).Ends r) (w : World) (H : St w w [] R) : Ret Try.prog 58 #[I s, Pq aa] w fun v w' => ∃ (y0 : Bool), y0 = r /\ v = B y0 /\ St w w' [] R := by
 refine ret_of_W Try.func58 rfl rfl rfl ?_
 refine W.seq ?_
 refine W.region rfl ?_
 refine zA (B false) rfl ?_
 refine s_nil ?_
 refine W.seq ?_
 refine W.region rfl ?_
 refine zM (I s) rfl ?_
 obtain ⟨ae, hM⟩ := M.e_grd hM
 simp only [Bool.and_eq_true, decide_eq_true_eq] at ae
 refine s_val (x_ix (a := Pq aa) (b := I s) (v := .pointer (some ⟨aa, 0 + Int.toNat s, none⟩)) rfl rfl (run_indexArr Try.underlying74 Sz4 (by omega) (by omega))) ?_
 refine s_val (x_ld (p := .pointer (some ⟨aa, 0 + Int.toNat s, none⟩)) (v := B (k0.getD (Int.toNat s) false)) rfl (ldArr Sc4 (ac.blk H) (by omega) (by have ah := ab; omega))) ?_
 refine zA (B (k0.getD (Int.toNat s) false)) rfl ?_
 refine s_nil ?_
 refine W.ret ?_
 have ag := M.e_pure hM
 exact ⟨_, resE_tmp rfl, ⟨(k0.getD (Int.toNat s) false), ag, rfl, H⟩⟩

def zbk (d : Dem) (aa : List Int) (ab : List Span) (ac : List Int) (ae : List Town) (ag : Int) (ah : Int) (ai : List Flood) (k1 : List Bool) : M Bool :=
  M.bind (zaa aa ab ac ae ag ah ai d) fun r2 =>
  M.bind (zaR r2 (fun aj => zbV aj k1)) fun r3 =>
  M.pure r3
theorem zcV {R : List Chunk} {am : Nat} {al : Nat} {au : Cells} {av : Value} {aw : Cells} {ax : Value} {ay : Cells} {az : Value} {aA : Cells} {aB : Value} {aC : Cells} {aD : Value} {ao : Nat} {B_b_k027 : Base} {aa : Nat} (d : Dem) (ab : List Int) (ac : List Span) (ae : List Int) (ag : List Town) (ah : Int) (ai : Int) (aj : List Flood) (k1 : List Bool) (aF : Reads R au) (aG : Sl au av ab) (aH : Reads R aw) (aI : Sl aw ax ac) (aJ : Reads R ay) (aK : Sl ay az ae) (aL : Reads R aA) (aM : Sl aA aB ag) (aN : Reads R aC) (aO : Sl aC aD aj) (aP : Has R (cBlk al [av, ax, az, aB, I ah, I ai, aD, .map (some ao)] 86)) (aQ : Has R (cBlk am [Pq al] 72)) (aR : k1.length = 12) (aS : Has R (cBlk aa (encB k1) 74)) {r : Bool} (hM : (zbk d ab ac ae ag ah ai aj k1).Ends r) (w : World) (H : St w w [cMem encDm ao B_b_k027 (zaa ab ac ae ag ah ai aj)] R) : Ret Try.prog 56 #[.agg #[I d.spring, I d.town], Pq am, Pq aa] w fun v w' => ∃ (y0 : Bool) (aT : Base), y0 = r /\ v = B y0 /\ St w w' [cMem encDm ao aT (zaa ab ac ae ag ah ai aj)] R := by
 refine ret_of_W Try.func56 rfl rfl rfl ?_
 refine W.seq ?_
 refine W.region rfl ?_
 refine t_box (v := .agg #[I d.spring, I d.town]) (cs := [I d.spring, I d.town]) H rfl rfl ?_
 intro aU bj H
 refine zA (B false) rfl ?_
 refine s_nil ?_
 refine W.seq ?_
 refine W.region rfl ?_
 refine s_val (x_ld (p := Pq am) (v := Pq al) rfl (ldb_sc Sc72 (aQ.blk H) rfl)) ?_
 refine s_val (x_ld (p := Pq aU) (v := .agg #[I d.spring, I d.town]) rfl (ldb_ag (ds := [I d.spring, I d.town]) Ag62 Sz62 (H.bl 0) rfl rfl)) ?_
 obtain ⟨bm, aV, hM⟩ := M.e_bind hM
 refine s_call cf54 [Pq al, .agg #[I d.spring, I d.town]] rfl (za9 ab ac ae ag ah ai aj d (aF.app _) aG (aH.app _) aI (aJ.app _) aK (aL.app _) aM (aN.app _) aO (aP.app _) aV _ ((H.pk [1, 0]).gt 1)) ?_
 rintro vq bn ⟨r2, aW, aX, aY, hvq, ak, aZ⟩
 subst aY
 subst vq
 try dsimp only at hM
 replace H := H.pk [1, 0] |>.bk ak
 clear ak
 refine s_val (x_mf (fs := []) (cs := [Pq aa]) rfl rfl) ?_
 obtain ⟨bo, a6, hM⟩ := M.e_bind hM
 refine s_call cf57 [aW, .func (.func 58) #[] #[Pq aa]] rfl (zcT r2 (fun aq => zbV aq k1) (Reads.of (k := 0) rfl memLe) aZ ⟨58, [Pq aa], rfl, cf58, fun aE bp bq a7 aq br a8 bt ba bb => by obtain rfl := Arg.int ba; exact (zdt aq k1 aR (Has.app (aS.app _) _) bb aE (St.refl a8)).mono fun a7 aE ⟨bu, bc, bf, bg⟩ => by subst bc; exact ⟨bf, bg⟩⟩ a6 _ (H.gt 2)) ?_
 rintro vq bv ⟨r3, bh, hvq, ak⟩
 subst bh
 subst vq
 try dsimp only at hM
 replace H := H.bk ak
 clear ak
 refine zA (B r3) rfl ?_
 refine s_nil ?_
 refine W.ret ?_
 have bi := M.e_pure hM
 exact ⟨_, resE_tmp rfl, ⟨r3, aX, bi, rfl, (H.pk [0])⟩⟩

def zbc (s : List Dem) (aa : List Int) (ab : List Span) (ac : List Int) (ae : List Town) (ag : Int) (ah : Int) (ai : List Flood) (aj : List Bool) : Nat -> M (Nat ⊕ (Int ⊕ Unit)) := fun s2 =>
  bif decide ((s2 : Int) < (s.length : Int)) then (
  M.grd (decide ((s2 : Int) < (s.length : Int))) <|
  M.bind (zbk (s.getD s2 default) aa ab ac ae ag ah ai aj) fun r2 =>
  bif r2 then (
  M.pure (.inr (.inl (s2 : Int))))
  else (
  M.pure (.inl (s2 + 1))))
  else (
  M.pure (.inr (.inr ())))
def zcw (s : List Dem) (aa : List Int) (ab : List Span) (ac : List Int) (ae : List Town) (ag : Int) (ah : Int) (ai : List Flood) (aj : List Bool) : M Int :=
  M.bind (M.iter (zbc s aa ab ac ae ag ah ai aj) 0) fun x_ => match x_ with
  | (.inl s3) => (
  M.pure s3)
  | (.inr (_ : Unit)) => (
  M.pure (-1))
theorem zdA {R : List Chunk} {az : Cells} {aa : Value} {am : Nat} {aA : Nat} {aB : Cells} {aC : Value} {aD : Cells} {aE : Value} {aF : Cells} {aG : Value} {aH : Cells} {aI : Value} {aJ : Cells} {aK : Value} {ao : Nat} {B_b_f2027 : Base} {aq : Nat} (s : List Dem) (ab : List Int) (ac : List Span) (ae : List Int) (ag : List Town) (ah : Int) (ai : Int) (aj : List Flood) (ak : List Bool) (aP : Reads R az) (au : Sl az aa s) (aQ : Reads R aB) (aR : Sl aB aC ab) (aS : Reads R aD) (aT : Sl aD aE ac) (aU : Reads R aF) (aV : Sl aF aG ae) (aW : Reads R aH) (aX : Sl aH aI ag) (aY : Reads R aJ) (aZ : Sl aJ aK aj) (a6 : Has R (cBlk aA [aC, aE, aG, aI, I ah, I ai, aK, .map (some ao)] 86)) (a7 : Has R (cBlk am [Pq aA] 72)) (a8 : ak.length = 12) (ba : Has R (cBlk aq (encB ak) 74)) {r : Int} (hM : (zcw s ab ac ae ag ah ai aj ak).Ends r) (w : World) (H : St w w [cMem encDm ao B_b_f2027 (zaa ab ac ae ag ah ai aj)] R) : Ret Try.prog 76 #[aa, .func (.func 56) #[] #[Pq am, Pq aq]] w fun v w' => ∃ (y0 : Int) (bb : Base), y0 = r /\ v = I y0 /\ St w w' [cMem encDm ao bb (zaa ab ac ae ag ah ai aj)] R := by
 refine ret_of_W Try.func76 rfl rfl rfl ?_
 refine W.seq ?_
 refine W.region rfl ?_
 refine zA (I 0) rfl ?_
 refine s_nil ?_
 refine W.seq ?_
 refine W.seq ?_
 refine W.region rfl ?_
 refine zM aa rfl ?_
 have bo := (au).len_le
 refine s_val (x_lenS T57.und rfl au) ?_
 refine zM (I 0) rfl ?_
 refine s_nil ?_
 refine W.block ?_
 obtain ⟨bc, av, aL⟩ := M.e_bind hM
 obtain ⟨bp, av⟩ := M.e_iter av
 refine W.loop (fun m σ W => ∃ (s2 : Nat) (B_mem : Base) (ρ : Env), σ = upds ρ [(0, aa), (1, .func (.func 56) #[] #[Pq am, Pq aq]), (7, I (s.length : Int)), (8, I (s2 : Int))] /\ M.iterN (zbc s ab ac ae ag ah ai aj ak) m s2 = some bc /\ St w W [cMem encDm ao B_mem (zaa ab ac ae ag ah ai aj)] R) ?_ ?_
 ·exact ⟨_, 0, B_b_f2027, _, upds_of _ _ ⟨rfl, rfl, rfl, rfl, trivial⟩, av, H⟩
 rintro bq σ br ⟨s2, B_mem, ρ, rfl, aM, H⟩
 obtain ⟨bf, bg, bt, hM, aw⟩ := M.e_iterN aM
 simp only [zbc] at hM
 clear aM
 refine W.seq ?_
 refine W.region rfl ?_
 refine zC (s2 : Int) (s.length : Int) (decide ((s2 : Int) < (s.length : Int))) rfl rfl rfl ?_
 refine s_nil ?_
 refine W.seq ?_
 refine W.cond (decide ((s2 : Int) < (s.length : Int))) rfl (fun al => ?_) (fun al => ?_)
 ·replace hM := M.e_t hM al
  simp only [qy1, qy2, qy3, qy4, qy5, qy6, ne_eq, qy7] at al
  refine W.skip ?_
  refine W.seq ?_
  refine W.block ?_
  refine W.seq ?_
  refine W.region rfl ?_
  refine zM (I (s2 : Int)) rfl ?_
  refine zA (I (s2 : Int)) rfl ?_
  refine s_nil ?_
  refine W.seq ?_
  refine W.region rfl ?_
  refine zM (.func (.func 56) #[] #[Pq am, Pq aq]) rfl ?_
  refine zM aa rfl ?_
  refine zM (I (s2 : Int)) rfl ?_
  obtain ⟨bh, hM⟩ := M.e_grd hM
  simp only [Bool.and_eq_true, decide_eq_true_eq] at bh
  refine s_val (x_ix (a := aa) (b := I (s2 : Int)) (v := vat aa 2 (Int.toNat (s2 : Int))) rfl rfl (Sl.ix (α := Dem) T57.und T57.size au (by omega) (by omega))) ?_
  refine s_val (x_ld (p := vat aa 2 (Int.toNat (s2 : Int))) (v := .agg #[I ((s.getD s2 default).spring), I ((s.getD s2 default).town)]) rfl (ld_ag Ag62 Sz62 (At.mono (Dem_atA au (i := (s2 : Int)) (by omega) (by omega)) (aP.at H)))) ?_
  obtain ⟨bu, bi, hM⟩ := M.e_bind hM
  refine s_callv (f := 56) rfl cf56 [.agg #[I ((s.getD s2 default).spring), I ((s.getD s2 default).town)]] rfl (zcV (s.getD s2 default) ab ac ae ag ah ai aj ak (aQ.app _) aR (aS.app _) aT (aU.app _) aV (aW.app _) aX (aY.app _) aZ (a6.app _) (a7.app _) a8 (ba.app _) bi _ (H.gt 0)) ?_
  rintro vq bv ⟨r2, aN, bj, hvq, aO⟩
  subst bj
  subst vq
  try dsimp only at hM
  replace H := H.bk aO
  clear aO
  refine s_nil ?_
  refine W.cond r2 rfl (fun ax => ?_) (fun ax => ?_)
  ·replace hM := M.e_t hM ax
   refine W.seq ?_
   refine W.region rfl ?_
   refine zM (I (s2 : Int)) rfl ?_
   refine zA (I (s2 : Int)) rfl ?_
   refine s_nil ?_
   refine W.ret ?_
   have bm := M.e_inr hM aw
   subst bm
   replace hM := aL
   try dsimp only at hM
   have ay := M.e_pure hM
   exact ⟨_, resE_tmp rfl, ⟨(s2 : Int), aN, ay, rfl, H⟩⟩
  replace hM := M.e_f hM ax
  refine W.skip ?_
  refine W.region rfl ?_
  refine zR (s2 : Int) 1 ((s2 : Int) + 1) rfl rfl rfl (by omega) ?_
  refine zM (I ((s2 : Int) + 1)) rfl ?_
  refine s_nil ?_
  exact ⟨bf, bg, s2 + 1, aN, _, upds_of _ _ ⟨rfl, rfl, rfl, rfl, trivial⟩, M.e_inl hM aw, H⟩
 replace hM := M.e_f hM al
 simp only [qy1, qy2, qy3, qy4, qy5, qy6, ne_eq, qy7] at al
 refine W.exit ?_
 have bn := M.e_inr hM aw
 subst bn
 replace hM := aL
 try dsimp only at hM
 refine W.seq ?_
 refine W.region rfl ?_
 refine zA (I (-1)) rfl ?_
 refine s_nil ?_
 refine W.ret ?_
 have ay := M.e_pure hM
 exact ⟨_, resE_tmp rfl, ⟨(-1), B_mem, ay, rfl, H⟩⟩

def zbq (aa : List Int) (ab : List Span) (ac : List Int) (ae : List Town) (ag : Int) (ah : Int) (ai : List Flood) (aj : List Bool) : ((List Dem) × Int × Int) -> M (((List Dem) × Int × Int) ⊕ ((List Dem) × Int × (List Dem))) := fun (l, i, j) =>
  bif decide (j < (l.length : Int)) then (
  M.grd (decide ((0 : Int) <= j) && decide (j < (l.length : Int))) <|
  M.bind (zbk (l.getD (Int.toNat j) default) aa ab ac ae ag ah ai aj) fun r3 =>
  bif !r3 then (
  M.grd (decide ((0 : Int) <= i) && decide (i < (l.length : Int))) <|
  M.pure (.inl (l.set (Int.toNat i) (l.getD (Int.toNat j) default), i + 1, j + 1)))
  else (
  M.pure (.inl (l, i, j + 1))))
  else (
  M.pure (.inr (l, i, l)))
def zbW (s : List Dem) (aa : List Int) (ab : List Span) (ac : List Int) (ae : List Town) (ag : Int) (ah : Int) (ai : List Flood) (aj : List Bool) : M (List Dem) :=
  M.bind (zcw s aa ab ac ae ag ah ai aj) fun r2 =>
  bif r2 == (-1) then (
  M.pure s)
  else (
  M.grd (decide ((-9223372036854775808 : Int) <= (r2 + 1)) && decide ((r2 + 1) <= (9223372036854775807 : Int))) <|
  M.bind (M.iter (zbq aa ab ac ae ag ah ai aj) (s, r2, r2 + 1)) fun (l2, i2, l3) =>
  M.grd (decide ((0 : Int) <= i2) && decide (i2 <= (l3.length : Int))) <|
  M.pure (l3.take (Int.toNat i2)))
theorem zdl {R : List Chunk} {ak : Value} {al : Nat} {aF : Nat} {aG : Cells} {aH : Value} {aI : Cells} {aJ : Value} {aK : Cells} {aL : Value} {aM : Cells} {aN : Value} {aO : Cells} {aP : Value} {aq : Nat} {B_b_del2027 : Base} {am : Nat} (s : List Dem) (ab : List Int) (ac : List Span) (ae : List Int) (ag : List Town) (ah : Int) (ai : Int) (aj : List Flood) (ao : List Bool) (aQ : Reads R aG) (aR : Sl aG aH ab) (aS : Reads R aI) (aT : Sl aI aJ ac) (aU : Reads R aK) (aV : Sl aK aL ae) (aW : Reads R aM) (aX : Sl aM aN ag) (aY : Reads R aO) (aZ : Sl aO aP aj) (a6 : Has R (cBlk aF [aH, aJ, aL, aN, I ah, I ai, aP, .map (some aq)] 86)) (a7 : Has R (cBlk al [Pq aF] 72)) (a8 : ao.length = 12) (ba : Has R (cBlk am (encB ao) 74)) {r : (List Dem)} (hM : (zbW s ab ac ae ag ah ai aj ao).Ends r) (w : World) (H : St w w [cOwn (α := Dem) 62 ak s, cMem encDm aq B_b_del2027 (zaa ab ac ae ag ah ai aj)] R) : Ret Try.prog 55 #[ak, .func (.func 56) #[] #[Pq al, Pq am]] w fun v w' => ∃ (y0 : List Dem) (u0 : Value) (bm : Base), y0 = r /\ v = u0 /\ St w w' [cOwn (α := Dem) 62 u0 y0, cMem encDm aq bm (zaa ab ac ae ag ah ai aj)] R := by
 refine ret_of_W Try.func55 rfl rfl rfl ?_
 refine W.seq ?_
 refine W.region rfl ?_
 refine zA (.slice none 0 0) rfl ?_
 refine s_nil ?_
 refine W.seq ?_
 refine W.region rfl ?_
 refine zM ak rfl ?_
 refine zM (.func (.func 56) #[] #[Pq al, Pq am]) rfl ?_
 obtain ⟨bB, bn, hM⟩ := M.e_bind hM
 refine s_call cf76 [ak, .func (.func 56) #[] #[Pq al, Pq am]] rfl (zdA s ab ac ae ag ah ai aj ao (rdo 0) (H.os 0) (aQ.app _) aR (aS.app _) aT (aU.app _) aV (aW.app _) aX (aY.app _) aZ (a6.app _) (a7.app _) a8 (ba.app _) bn _ ((H.pk [1, 0]).gt 1)) ?_
 rintro vq bC ⟨r2, bb, bo, hvq, au⟩
 subst bo
 subst vq
 try dsimp only at hM
 replace H := H.pk [1, 0] |>.bk au
 clear au
 refine zA (I r2) rfl ?_
 refine s_nil ?_
 refine W.seq ?_
 refine W.seq ?_
 refine W.region rfl ?_
 refine zM (I r2) rfl ?_
 refine zC r2 (-1) (r2 == (-1)) rfl rfl rfl ?_
 refine s_nil ?_
 refine W.cond (r2 == (-1)) rfl (fun av => ?_) (fun av => ?_)
 ·replace hM := M.e_t hM av
  simp only [qy1, qy2, qy3, qy4, qy5, qy6, ne_eq, qy7] at av
  refine W.seq ?_
  refine W.region rfl ?_
  refine zM ak rfl ?_
  refine zA ak rfl ?_
  refine s_nil ?_
  refine W.ret ?_
  have ax := M.e_pure hM
  exact ⟨_, resE_tmp rfl, ⟨s, ak, bb, ax, rfl, (H.pk [1, 0])⟩⟩
 replace hM := M.e_f hM av
 simp only [qy1, qy2, qy3, qy4, qy5, qy6, ne_eq, qy7] at av
 refine W.skip ?_
 refine W.seq ?_
 refine W.seq ?_
 refine W.region rfl ?_
 refine zM (I r2) rfl ?_
 obtain ⟨bp, hM⟩ := M.e_grd hM
 simp only [Bool.and_eq_true, decide_eq_true_eq] at bp
 refine zR r2 1 (r2 + 1) rfl rfl rfl (by omega) ?_
 refine zA (I (r2 + 1)) rfl ?_
 refine s_nil ?_
 refine W.block ?_
 obtain ⟨bq, ay, br⟩ := M.e_bind hM
 obtain ⟨bD, ay⟩ := M.e_iter ay
 refine W.loop (fun m σ W => ∃ (l : List Dem) (i : Int) (j : Int) (aa : Value) (B_mem : Base) (ρ : Env), σ = upds ρ [(0, aa), (1, .func (.func 56) #[] #[Pq al, Pq am]), (5, I i), (6, I j)] /\ M.iterN (zbq ab ac ae ag ah ai aj ao) m (l, i, j) = some bq /\ St w W [cMem encDm aq B_mem (zaa ab ac ae ag ah ai aj), cOwn (α := Dem) 62 aa l] R) ?_ ?_
 ·exact ⟨_, s, r2, r2 + 1, ak, bb, _, upds_of _ _ ⟨rfl, rfl, rfl, rfl, trivial⟩, ay, H⟩
 rintro bE σ bF ⟨l, i, j, aa, B_mem, ρ, rfl, bc, H⟩
 obtain ⟨bf, bg, bG, hM, az⟩ := M.e_iterN bc
 simp only [zbq] at hM
 clear bc
 refine W.seq ?_
 refine W.seq ?_
 refine W.region rfl ?_
 refine zM (I j) rfl ?_
 refine zM aa rfl ?_
 have bH := ((H.os 1)).len_le
 refine s_val (x_lenS T57.und rfl (H.os 1)) ?_
 refine zC j (l.length : Int) (decide (j < (l.length : Int))) rfl rfl rfl ?_
 refine s_nil ?_
 refine W.cond (decide (j < (l.length : Int))) rfl (fun aw => ?_) (fun aw => ?_)
 ·replace hM := M.e_t hM aw
  simp only [qy1, qy2, qy3, qy4, qy5, qy6, ne_eq, qy7] at aw
  refine W.skip ?_
  refine W.seq ?_
  refine W.block ?_
  refine W.seq ?_
  refine W.region rfl ?_
  refine zM aa rfl ?_
  refine zM (I j) rfl ?_
  obtain ⟨bt, hM⟩ := M.e_grd hM
  simp only [Bool.and_eq_true, decide_eq_true_eq] at bt
  refine s_val (x_ix (a := aa) (b := I j) (v := vat aa 2 (Int.toNat j)) rfl rfl (Sl.ix (α := Dem) T57.und T57.size (H.os 1) (by omega) (by omega))) ?_
  refine s_val (x_ld (p := vat aa 2 (Int.toNat j)) (v := .agg #[I ((l.getD (Int.toNat j) default).spring), I ((l.getD (Int.toNat j) default).town)]) rfl (ld_ag Ag62 Sz62 (At.mono (Dem_atA (H.os 1) (i := j) (by omega) (by omega)) (H.ol 1)))) ?_
  refine t_alloc (cs := [I 0, I 0]) H Al62 rfl ?_
  intro aA bI H
  refine t_sw 0 0 [I ((l.getD (Int.toNat j) default).spring), I ((l.getD (Int.toNat j) default).town)] (.agg #[I ((l.getD (Int.toNat j) default).spring), I ((l.getD (Int.toNat j) default).town)]) H rfl rfl Sz62 rfl rfl rfl rfl ?_
  intro bJ H
  refine s_nil ?_
  refine W.seq ?_
  refine W.region rfl ?_
  refine zM (.func (.func 56) #[] #[Pq al, Pq am]) rfl ?_
  refine s_val (x_ld (p := Pq aA) (v := .agg #[I ((l.getD (Int.toNat j) default).spring), I ((l.getD (Int.toNat j) default).town)]) rfl (ldb_ag (ds := [I ((l.getD (Int.toNat j) default).spring), I ((l.getD (Int.toNat j) default).town)]) Ag62 Sz62 (H.bl 0) rfl rfl)) ?_
  obtain ⟨bK, bu, hM⟩ := M.e_bind hM
  refine s_callv (f := 56) rfl cf56 [.agg #[I ((l.getD (Int.toNat j) default).spring), I ((l.getD (Int.toNat j) default).town)]] rfl (zcV (l.getD (Int.toNat j) default) ab ac ae ag ah ai aj ao (aQ.app _) aR (aS.app _) aT (aU.app _) aV (aW.app _) aX (aY.app _) aZ (a6.app _) (a7.app _) a8 (ba.app _) bu _ ((H.pk [1, 0, 2]).gt 2)) ?_
  rintro vq bL ⟨r3, aB, bv, hvq, au⟩
  subst bv
  subst vq
  try dsimp only at hM
  replace H := H.pk [1, 0, 2] |>.bk au
  clear au
  refine s_val (x_not (b := r3) rfl) ?_
  refine s_nil ?_
  refine W.cond (!r3) rfl (fun aC => ?_) (fun aC => ?_)
  ·replace hM := M.e_t hM aC
   refine W.seq ?_
   refine W.region rfl ?_
   refine zM aa rfl ?_
   refine zM (I i) rfl ?_
   refine s_val (x_ld (p := Pq aA) (v := .agg #[I ((l.getD (Int.toNat j) default).spring), I ((l.getD (Int.toNat j) default).town)]) rfl (ldb_ag (ds := [I ((l.getD (Int.toNat j) default).spring), I ((l.getD (Int.toNat j) default).town)]) Ag62 Sz62 (H.bl 1) rfl rfl)) ?_
   obtain ⟨bw, hM⟩ := M.e_grd hM
   simp only [Bool.and_eq_true, decide_eq_true_eq] at bw
   refine s_val (x_ix (a := aa) (b := I i) (v := vat aa 2 (Int.toNat i)) rfl rfl (Sl.ix (α := Dem) T57.und T57.size (H.os 2) (by omega) (by omega))) ?_
   refine t_ost (k := 2) (i := i) (l := l) (l' := l.set (Int.toNat i) (l.getD (Int.toNat j) default)) (val := .agg #[I ((l.getD (Int.toNat j) default).spring), I ((l.getD (Int.toNat j) default).town)]) (L' := [cMem encDm aq aB (zaa ab ac ae ag ah ai aj), cBlk aA [I ((l.getD (Int.toNat j) default).spring), I ((l.getD (Int.toNat j) default).town)] 62, cOwn (α := Dem) 62 aa (l.set (Int.toNat i) (l.getD (Int.toNat j) default))]) H rfl Sz62 (by omega) (by omega) (l.getD (Int.toNat j) default) rfl rfl rfl rfl rfl ?_
   intro bM H
   refine s_nil ?_
   refine W.region rfl ?_
   refine zM (I i) rfl ?_
   refine zR i 1 (i + 1) rfl rfl rfl (by omega) ?_
   refine zA (I (i + 1)) rfl ?_
   refine s_nil ?_
   refine W.region rfl ?_
   refine zM (I j) rfl ?_
   refine zR j 1 (j + 1) rfl rfl rfl (by omega) ?_
   refine zA (I (j + 1)) rfl ?_
   refine s_nil ?_
   exact ⟨bf, bg, l.set (Int.toNat i) (l.getD (Int.toNat j) default), i + 1, j + 1, aa, aB, _, upds_of _ _ ⟨rfl, rfl, rfl, rfl, trivial⟩, M.e_inl hM az, (H.pk [0, 2])⟩
  replace hM := M.e_f hM aC
  refine W.skip ?_
  refine W.region rfl ?_
  refine zM (I j) rfl ?_
  refine zR j 1 (j + 1) rfl rfl rfl (by omega) ?_
  refine zA (I (j + 1)) rfl ?_
  refine s_nil ?_
  exact ⟨bf, bg, l, i, j + 1, aa, aB, _, upds_of _ _ ⟨rfl, rfl, rfl, rfl, trivial⟩, M.e_inl hM az, (H.pk [0, 2])⟩
 replace hM := M.e_f hM aw
 simp only [qy1, qy2, qy3, qy4, qy5, qy6, ne_eq, qy7] at aw
 refine W.exit ?_
 have bx := M.e_inr hM az
 subst bx
 replace hM := br
 try dsimp only at hM
 refine W.seq ?_
 refine W.region rfl ?_
 refine zM aa rfl ?_
 refine zM (I i) rfl ?_
 obtain ⟨bz, hM⟩ := M.e_grd hM
 simp only [Bool.and_eq_true, decide_eq_true_eq] at bz
 obtain ⟨bh, bi, bj⟩ := sl_lo T57.und T57.size (H.os 1) (i := i) (by omega) (by omega)
 replace bj : Sl _ bh (l.drop (Int.toNat i)) := bj
 refine s_val (x_sl (v := aa) (u := bh) (lo' := some (I i)) (hi' := none) (mx' := none) rfl rfl rfl rfl (bi _)) ?_
 refine t_clrT (k := 1) (i := i) T57 (by intro u_ aD; first | exact List.all_eq_true.1 (show List.all _ (fun x => x.oneCell') = true from rfl) u_ aD | (simp at aD; rcases aD with rfl | rfl <;> rfl)) H rfl (by omega) (by omega) bi rfl ?_
 intro aE bN bA bO bP H
 replace H := H.nf
 refine s_nil ?_
 refine W.seq ?_
 refine W.region rfl ?_
 refine zM aa rfl ?_
 refine zM (I i) rfl ?_
 refine s_val (x_sl (v := aa) (u := aE) (lo' := none) (hi' := some (I i)) (mx' := none) rfl rfl rfl rfl (bA _)) ?_
 refine zA aE rfl ?_
 refine s_nil ?_
 refine W.ret ?_
 have ax := M.e_pure hM
 exact ⟨_, resE_tmp rfl, ⟨(l.take (Int.toNat i)), aE, B_mem, ax, rfl, (H.pk [1, 0])⟩⟩

def zbM (aa : List Int) (ab : List Span) (ac : List Int) (ae : List Town) (aj : Int) (ak : Int) (ag : List Flood) (watches : List Int) : M ((List Dem) × Int) :=
  M.bind (zaM aa ab ac ae aj ak ag watches) fun x_ => match x_ with
  | (.inl (r1, r2)) => (
  bif r2 != 0 then (
  M.pure (([]), r2))
  else (
  M.fail))
  | (.inr (ah, ai, al, am)) => (
  bif am != 0 then (
  M.fail)
  else (
  M.bind (zal aa ab ac ae ah ai ag) fun r3 =>
  M.bind (zbW r3 aa ab ac ae ah ai ag al) fun l_s =>
  M.pure (l_s, 0)))
theorem zc9 {R : List Chunk} {aR : Cells} {ac : Value} {aS : Cells} {ae : Value} {aT : Cells} {ag : Value} {aU : Cells} {ah : Value} {aV : Cells} {ai : Value} {aW : Cells} {az : Value} (aq : List Int) (au : List Span) (av : List Int) (aw : List Town) (aj : Int) (ak : Int) (ax : List Flood) (watches : List Int) (aE : Reads R aR) (aF : Sl aR ac aq) (aG : Reads R aS) (aH : Sl aS ae au) (aI : Reads R aT) (aJ : Sl aT ag av) (aK : Reads R aU) (aL : Sl aU ah aw) (aM : Reads R aV) (aN : Sl aV ai ax) (a6 : Reads R aW) (a7 : Sl aW az watches) {r : ((List Dem) × Int)} (hM : (zbM aq au av aw aj ak ax watches).Ends r) (w : World) (H : St w w [] R) : Ret Try.prog 25 #[.agg #[ac, ae, ag, ah, I aj, I ak, ai], az] w fun v w' => ∃ (y0 : List Dem) (y1 : Int) (u0 : Value), (y0, y1) = r /\ v = .tuple #[u0, I y1] /\ St w w' [cOwn (α := Dem) 62 u0 y0] R := by
 refine ret_of_W Try.func25 rfl rfl rfl ?_
 refine W.seq ?_
 refine W.region rfl ?_
 refine t_box (v := .agg #[ac, ae, ag, ah, I aj, I ak, ai]) (cs := [ac, ae, ag, ah, I aj, I ak, ai]) H rfl rfl ?_
 intro aO bn H
 refine zA (.slice none 0 0) rfl ?_
 refine zA (I 0) rfl ?_
 refine s_nil ?_
 refine W.seq ?_
 refine W.region rfl ?_
 refine s_val (x_ld (p := Pq aO) (v := .agg #[ac, ae, ag, ah, I aj, I ak, ai]) rfl (ldb_ag (ds := [ac, ae, ag, ah, I aj, I ak, ai]) Ag30 Sz30 (H.bl 0) rfl rfl)) ?_
 refine zM az rfl ?_
 obtain ⟨bo, a8, hM⟩ := M.e_bind hM
 refine s_call cf31 [.agg #[ac, ae, ag, ah, I aj, I ak, ai], az] rfl (zcK aq au av aw aj ak ax watches (aE.app _) aF (aG.app _) aH (aI.app _) aJ (aK.app _) aL (aM.app _) aN (a6.app _) a7 a8 _ (H.gt 1)) ?_
 rintro vq bp (⟨r1, r2, ba, hvq, aa, bb⟩ | ⟨aA, aB, am, al, ab, aX, bc, bf, hvq, aa, aY⟩)
 ·subst ba
  subst vq
  try dsimp only at hM
  replace H := H.bk aa
  clear aa
  refine zM (.tuple #[.pointer none, .agg (encB r1).toArray, I r2]) rfl ?_
  refine zX [.pointer none, .agg (encB r1).toArray, I r2] (.pointer none) rfl rfl ?_
  refine zX [.pointer none, .agg (encB r1).toArray, I r2] (.agg (encB r1).toArray) rfl rfl ?_
  refine zX [.pointer none, .agg (encB r1).toArray, I r2] (I r2) rfl rfl ?_
  refine t_alloc (cs := [.pointer none]) H Al72 rfl ?_
  intro ay bq H
  refine t_alloc (cs := encB (List.replicate 12 false)) H Al74 rfl ?_
  intro ao br H
  have aP : (List.replicate 12 false).length = 12 := by simp
  refine t_sw 1 0 [.pointer none] (.pointer none) H rfl rfl Sz72 rfl rfl rfl rfl ?_
  intro bt H
  refine t_stArrA (k := 0) (b := ao) (l := List.replicate 12 false) (l' := r1) (L' := [cBlk ao (encB r1) 74, cBlk ay [.pointer none] 72, cBlk aO [ac, ae, ag, ah, I aj, I ak, ai] 30]) H rfl rfl rfl Sz74 aP bb rfl ?_
  intro bu H
  refine zA (I r2) rfl ?_
  refine s_nil ?_
  refine W.seq ?_
  refine W.seq ?_
  refine W.region rfl ?_
  refine zM (I r2) rfl ?_
  refine zC r2 0 (r2 != 0) rfl rfl rfl ?_
  refine s_nil ?_
  refine W.cond (r2 != 0) rfl (fun aC => ?_) (fun aC => ?_)
  ·replace hM := M.e_t hM aC
   simp only [qy1, qy2, qy3, qy4, qy5, qy6, ne_eq, qy7] at aC
   refine W.seq ?_
   refine W.region rfl ?_
   refine zM (I r2) rfl ?_
   refine zA (.slice none 0 0) rfl ?_
   refine zA (I r2) rfl ?_
   refine s_nil ?_
   replace H := H.pk []
   refine W.ret ?_
   have aQ := M.e_pure hM
   replace H := H.nilOwn (α := Dem) 62
   exact ⟨_, resE_tmp2 rfl, ⟨([]), r2, (.slice none 0 0), aQ, rfl, H⟩⟩
  replace hM := M.e_f hM aC
  exact (M.e_fail hM).elim
 subst bf
 subst vq
 try dsimp only at hM
 replace H := H.bk aa
 clear aa
 refine zM (.tuple #[Pq ab, .agg (encB am).toArray, I al]) rfl ?_
 refine zX [Pq ab, .agg (encB am).toArray, I al] (Pq ab) rfl rfl ?_
 refine zX [Pq ab, .agg (encB am).toArray, I al] (.agg (encB am).toArray) rfl rfl ?_
 refine zX [Pq ab, .agg (encB am).toArray, I al] (I al) rfl rfl ?_
 refine t_alloc (cs := [.pointer none]) H Al72 rfl ?_
 intro ay bv H
 refine t_alloc (cs := encB (List.replicate 12 false)) H Al74 rfl ?_
 intro ao bw H
 have aP : (List.replicate 12 false).length = 12 := by simp
 refine t_sw 1 0 [Pq ab] (Pq ab) H rfl rfl Sz72 rfl rfl rfl rfl ?_
 intro bx H
 refine t_stArrA (k := 0) (b := ao) (l := List.replicate 12 false) (l' := am) (L' := [cBlk ao (encB am) 74, cBlk ay [Pq ab] 72, cBlk ab [ac, ae, ag, ah, I aA, I aB, ai, .map (some aX)] 86, cMem encDm aX bc (zaa aq au av aw aA aB ax), cBlk aO [ac, ae, ag, ah, I aj, I ak, ai] 30]) H rfl rfl rfl Sz74 aP aY rfl ?_
 intro bz H
 refine zA (I al) rfl ?_
 refine s_nil ?_
 refine W.seq ?_
 refine W.seq ?_
 refine W.region rfl ?_
 refine zM (I al) rfl ?_
 refine zC al 0 (al != 0) rfl rfl rfl ?_
 refine s_nil ?_
 refine W.cond (al != 0) rfl (fun aD => ?_) (fun aD => ?_)
 ·replace hM := M.e_t hM aD
  exact (M.e_fail hM).elim
 replace hM := M.e_f hM aD
 simp only [qy1, qy2, qy3, qy4, qy5, qy6, ne_eq, qy7] at aD
 refine W.skip ?_
 refine W.seq ?_
 refine W.region rfl ?_
 refine s_val (x_ld (p := Pq ay) (v := Pq ab) rfl (ldb_sc Sc72 (H.bl 1) rfl)) ?_
 obtain ⟨bA, bg, hM⟩ := M.e_bind hM
 refine s_call cf51 [Pq ab] rfl (zbO aq au av aw aA aB ax (aE.app _) aF (aG.app _) aH (aI.app _) aJ (aK.app _) aL (aM.app _) aN (Has.here (k := 2) rfl) bg _ (H.gt 5)) ?_
 rintro vq bB ⟨r3, bh, bi, hvq, aa⟩
 subst bi
 subst vq
 try dsimp only at hM
 replace H := H.bk aa
 clear aa
 refine s_val (x_mf (fs := []) (cs := [Pq ay, Pq ao]) rfl rfl) ?_
 obtain ⟨bC, bj, hM⟩ := M.e_bind hM
 refine s_call cf55 [bh, .func (.func 56) #[] #[Pq ay, Pq ao]] rfl (zdl r3 aq au av aw aA aB ax am (aE.app _) aF (aG.app _) aH (aI.app _) aJ (aK.app _) aL (aM.app _) aN (Has.here (k := 2) rfl) (Has.here (k := 1) rfl) aY (Has.here (k := 0) rfl) bj _ ((H.pk [0, 4, 1, 2, 3, 5]).gt 4)) ?_
 rintro vq bD ⟨l_s, aZ, bE, bm, hvq, aa⟩
 subst bm
 subst vq
 try dsimp only at hM
 replace H := H.pk [0, 4, 1, 2, 3, 5] |>.bk aa
 clear aa
 refine zA aZ rfl ?_
 refine zA (I 0) rfl ?_
 refine s_nil ?_
 replace H := H.pk [0]
 refine W.ret ?_
 have aQ := M.e_pure hM
 exact ⟨_, resE_tmp2 rfl, ⟨l_s, 0, aZ, aQ, rfl, H⟩⟩

end Go.Proofs.Ytbaehghammbjdaa
end
section
set_option maxRecDepth 100000
set_option maxHeartbeats 16000000
namespace Go.Proofs.Ytbaehghammbjdaa
open Go Go.Nm
def zbp (l : List Int) : M (List Int) :=
  M.grd (decide ((([] : List Int).length + l.length) * 8 <= 140737488355328)) <|
  M.pure l
theorem zas {R : List Chunk} {ab : Cells} {aa : Value} (l : List Int) (ae : Reads R ab) (ag : Sl ab aa l) {r : (List Int)} (hM : (zbp l).Ends r) (w : World) (H : St w w [] R) : Ret Try.prog 14 #[aa] w fun v w' => ∃ (y0 : List Int) (u0 : Value), y0 = r /\ v = u0 /\ St w w' [cOwn (α := Int) 3 u0 y0] R := by
 refine ret_of_W Try.func14 rfl rfl rfl ?_
 refine W.seq ?_
 refine W.region rfl ?_
 refine zA (.slice none 0 0) rfl ?_
 refine s_nil ?_
 refine W.seq ?_
 refine W.region rfl ?_
 refine zA (.slice none 0 0) rfl ?_
 refine s_nil ?_
 refine W.seq ?_
 refine W.region rfl ?_
 refine zM (.slice none 0 0) rfl ?_
 refine zM aa rfl ?_
 replace H := H.nilOwn (α := Int) 3
 obtain ⟨ah, hM⟩ := M.e_grd hM
 simp only [Bool.and_eq_true, decide_eq_true_eq] at ah
 refine t_app (α := Int) (k := 0) (l := []) (l2 := l) (l' := l) (vy := aa) T23 rfl H rfl rfl rfl ag (ae.at H) (List.nil_append _) (by first | omega | (simp only [List.length_nil] at *; omega)) ?_
 intro ac aj H
 replace H := H.nf
 refine zA ac rfl ?_
 refine s_nil ?_
 refine W.ret ?_
 have ai := M.e_pure hM
 exact ⟨_, resE_tmp rfl, ⟨l, ac, ai, rfl, H⟩⟩

def zc0 (l : List Span) : M (List Span) :=
  M.grd (decide ((([] : List Span).length + l.length) * 16 <= 140737488355328)) <|
  M.pure l
theorem zcl {R : List Chunk} {ab : Cells} {aa : Value} (l : List Span) (ae : Reads R ab) (ag : Sl ab aa l) {r : (List Span)} (hM : (zc0 l).Ends r) (w : World) (H : St w w [] R) : Ret Try.prog 48 #[aa] w fun v w' => ∃ (y0 : List Span) (u0 : Value), y0 = r /\ v = u0 /\ St w w' [cOwn (α := Span) 27 u0 y0] R := by
 refine ret_of_W Try.func48 rfl rfl rfl ?_
 refine W.seq ?_
 refine W.region rfl ?_
 refine zA (.slice none 0 0) rfl ?_
 refine s_nil ?_
 refine W.seq ?_
 refine W.region rfl ?_
 refine zA (.slice none 0 0) rfl ?_
 refine s_nil ?_
 refine W.seq ?_
 refine W.region rfl ?_
 refine zM (.slice none 0 0) rfl ?_
 refine zM aa rfl ?_
 replace H := H.nilOwn (α := Span) 27
 obtain ⟨ah, hM⟩ := M.e_grd hM
 simp only [Bool.and_eq_true, decide_eq_true_eq] at ah
 refine t_app (α := Span) (k := 0) (l := []) (l2 := l) (l' := l) (vy := aa) T24 rfl H rfl rfl rfl ag (ae.at H) (List.nil_append _) (by first | omega | (simp only [List.length_nil] at *; omega)) ?_
 intro ac aj H
 replace H := H.nf
 refine zA ac rfl ?_
 refine s_nil ?_
 refine W.ret ?_
 have ai := M.e_pure hM
 exact ⟨_, resE_tmp rfl, ⟨l, ac, ai, rfl, H⟩⟩

def zbG (aa : List Flood) : (Nat × (List Flood)) -> M ((Nat × (List Flood)) ⊕ ((List Flood) × (List Flood))) := fun (i, l) =>
  bif decide ((i : Int) < (aa.length : Int)) then (
  M.grd (decide ((i : Int) < (aa.length : Int))) <|
  M.bind (zbp ((aa.getD i default).stages)) fun r6 =>
  M.grd (decide ((l.length + ([(⟨((aa.getD i default).spring : Int), r6⟩ : Flood)]).length) * 32 <= 140737488355328)) <|
  M.pure (.inl (i + 1, l ++ ([(⟨((aa.getD i default).spring : Int), r6⟩ : Flood)]))))
  else (
  M.pure (.inr (l, l)))
def zbQ (aa : Int) (ab : Int) (ac : List Flood) (r2 : List Int) (r3 : List Span) (r4 : List Int) (r5 : List Town) : M ((List Int) × (List Span) × (List Int) × (List Town) × Int × Int × (List Flood)) :=
  M.bind (M.iter (zbG ac) (0, [])) fun (l2, l3) =>
  M.pure (r2, r3, r4, r5, aa, ab, l3)
def zaW (aa : List Int) (ab : List Span) (ac : List Int) (ae : List Town) (ag : Int) (ah : Int) (ai : List Flood) : M ((List Int) × (List Span) × (List Int) × (List Town) × Int × Int × (List Flood)) :=
  M.bind (zbp aa) fun r2 =>
  M.bind (zc0 ab) fun r3 =>
  M.bind (zbp ac) fun r4 =>
  M.bind (zc4 ae) fun r5 =>
  zbQ ag ah ai r2 r3 r4 r5
theorem zcp {R : List Chunk} {bx : Cells} {az : Value} {bz : Cells} {ay : Value} {bA : Cells} {ax : Value} {bB : Cells} {aw : Value} {bC : Cells} {ao : Value} (aR : List Int) (aK : List Span) (aI : List Int) (aB : List Town) (ag : Int) (ah : Int) (aj : List Flood) (bD : Reads R bx) (bE : Sl bx az aR) (bg : Reads R bz) (bh : Sl bz ay aK) (aS : Reads R bA) (aT : Sl bA ax aI) (aL : Reads R bB) (aM : Sl bB aw aB) (aU : Reads R bC) (aA : Sl bC ao aj) {r : ((List Int) × (List Span) × (List Int) × (List Town) × Int × Int × (List Flood))} (hM : (zaW aR aK aI aB ag ah aj).Ends r) (w : World) (H : St w w [] R) : Ret Try.prog 21 #[.agg #[az, ay, ax, aw, I ag, I ah, ao]] w fun v w' => ∃ (y0 : List Int) (y1 : List Span) (y2 : List Int) (y3 : List Town) (y4 : Int) (y5 : Int) (y6 : List Flood) (u0 : Value) (u1 : Value) (u2 : Value) (u3 : Value) (u4 : Value) (rr5 : List (Raw 1)) (bF : Base), (y0, y1, y2, y3, y4, y5, y6) = r /\ v = .agg #[u0, u1, u2, u3, I y4, I y5, u4] /\ St w w' [cOwn (α := Int) 3 u0 y0, cOwn (α := Span) 27 u1 y1, cOwn (α := Int) 3 u2 y2, cOwn (α := Town) 54 u3 y3, cOwn (α := Raw 1) 67 u4 rr5, cRo bF] R /\ RepR (α := Flood) bF.cells rr5 y6 := by
 refine ret_of_W Try.func21 rfl rfl rfl ?_
 refine W.seq ?_
 refine W.region rfl ?_
 refine t_box (v := .agg #[az, ay, ax, aw, I ag, I ah, ao]) (cs := [az, ay, ax, aw, I ag, I ah, ao]) H rfl rfl ?_
 intro ak dk H
 refine t_alloc (cs := [.slice none 0 0, .slice none 0 0, .slice none 0 0, .slice none 0 0, I 0, I 0, .slice none 0 0]) H Al30 rfl ?_
 intro aJ dm H
 refine s_nil ?_
 refine W.seqJ (fun σ W => ∃ (al : Nat) (r2 : List Int) (r3 : List Span) (r4 : List Int) (r5 : List Town) (ai : Value) (ac : Value) (ab : Value) (aa : Value) (ρ : Env), σ = upds ρ [(1, Pq ak), (2, Pq aJ), (3, Pq al)] /\ (zbQ ag ah aj r2 r3 r4 r5).Ends r /\ St w W [cBlk al [ai, ac, ab, aa, I ag, I ah, .slice none 0 0] 30, cOwn (α := Town) 54 aa r5, cOwn (α := Int) 3 ab r4, cOwn (α := Span) 27 ac r3, cOwn (α := Int) 3 ai r2, cBlk aJ [.slice none 0 0, .slice none 0 0, .slice none 0 0, .slice none 0 0, I 0, I 0, .slice none 0 0] 30, cBlk ak [az, ay, ax, aw, I ag, I ah, ao] 30] R) ?_ ?_
 ·skip
  refine W.drawT (fun W => St w W [cBlk aJ [.slice none 0 0, .slice none 0 0, .slice none 0 0, .slice none 0 0, I 0, I 0, .slice none 0 0] 30, cBlk ak [az, ay, ax, aw, I ag, I ah, ao] 30] R) (.q 0 (.q 1 (.q 3 (.q 4 (.q 6 (.q 7 (.q 9 (.q 10 (.q 12 (.q 13 (.l2 2 (.l2 5 (.l2 8 (.l2 11 (.q 14 (.l 15 (.l 16 .nil))) 15 (.l 11 (.q 14 (.l 16 .nil)))) 15 (.l 8 (.l 11 (.q 14 (.l 16 .nil))))) 15 (.l 5 (.l 8 (.l 11 (.q 14 (.l 16 .nil)))))) 15 (.l 2 (.l 5 (.l 8 (.l 11 (.q 14 (.l 16 .nil))))))))))))))))) mixed (by decide +kernel) rfl ?_
  intro dq aN
  replace H := H.ext aN
  clear aN
  refine ⟨(H.pk [0, 1]), ?_⟩
  refine t_q rfl (fun w' H => x_fa (a := Pq ak) (v := Pq ak) rfl (fa_blk (o := 0) Fd30_0 Sz23)) ?_
  refine t_q rfl (fun w' H => x_ld (p := Pq ak) (v := az) rfl (ldb_sc Sc23 (H.bl 1) rfl)) ?_
  refine t_q rfl (fun w' H => x_fa (a := Pq ak) (v := Oq ak 1) rfl (fa_blk (o := 0) Fd30_1 Sz24)) ?_
  refine t_q rfl (fun w' H => x_ld (p := Oq ak 1) (v := ay) rfl (ldb_sc Sc24 (H.bl 1) rfl)) ?_
  refine t_q rfl (fun w' H => x_fa (a := Pq ak) (v := Oq ak 2) rfl (fa_blk (o := 0) Fd30_2 Sz23)) ?_
  refine t_q rfl (fun w' H => x_ld (p := Oq ak 2) (v := ax) rfl (ldb_sc Sc23 (H.bl 1) rfl)) ?_
  refine t_q rfl (fun w' H => x_fa (a := Pq ak) (v := Oq ak 3) rfl (fa_blk (o := 0) Fd30_3 Sz25)) ?_
  refine t_q rfl (fun w' H => x_ld (p := Oq ak 3) (v := aw) rfl (ldb_sc Sc25 (H.bl 1) rfl)) ?_
  refine t_q rfl (fun w' H => x_fa (a := Pq ak) (v := Oq ak 4) rfl (fa_blk (o := 0) Fd30_4 Sz27)) ?_
  refine t_q rfl (fun w' H => x_ld (p := Oq ak 4) (v := .agg #[I ag, I ah]) rfl (ldb_ag (ds := [I ag, I ah]) Ag27 Sz27 (H.bl 1) rfl rfl)) ?_
  refine t_l2 rfl rfl ?_ ?_
  ·skip
   obtain ⟨dr, bN, hM⟩ := M.e_bind hM
   refine s_call cf14 [az] rfl (zas aR (bD.app _) bE bN _ (H.gt 2)) ?_
   rintro vq dt ⟨r2, ai, bO, hvq, ae⟩
   subst bO
   subst vq
   try dsimp only at hM
   replace H := H.bk ae
   clear ae
   have aV := Sl.cells (H.os 0)
   have du := Sl.oc (H.os 0)
   refine s_nil ⟨(H.pk [1, 2]), ?_⟩
   refine t_l2 rfl rfl ?_ ?_
   ·skip
    obtain ⟨dv, bP, hM⟩ := M.e_bind hM
    refine s_call cf48 [ay] rfl (zcl aK (bg.app _) bh bP _ (H.gt 3)) ?_
    rintro vq dw ⟨r3, ac, bQ, hvq, ae⟩
    subst bQ
    subst vq
    try dsimp only at hM
    replace H := H.bk ae
    clear ae
    have bi := Sl.cells (H.os 0)
    have dx := Sl.oc (H.os 0)
    refine s_nil ⟨(H.pk [2, 3]), ?_⟩
    refine t_l2 rfl rfl ?_ ?_
    ·skip
     obtain ⟨dy, bR, hM⟩ := M.e_bind hM
     refine s_call cf14 [ax] rfl (zas aI (aS.app _) aT bR _ (H.gt 4)) ?_
     rintro vq dz ⟨r4, ab, bS, hvq, ae⟩
     subst bS
     subst vq
     try dsimp only at hM
     replace H := H.bk ae
     clear ae
     have bG := Sl.cells (H.os 0)
     have dA := Sl.oc (H.os 0)
     refine s_nil ⟨(H.pk [3, 4]), ?_⟩
     refine t_l2 rfl rfl ?_ ?_
     ·skip
      obtain ⟨dB, bT, hM⟩ := M.e_bind hM
      refine s_call cf49 [aw] rfl (zbB aB (aL.app _) aM bT _ (H.gt 5)) ?_
      rintro vq dC ⟨r5, aa, bU, hvq, ae⟩
      subst bU
      subst vq
      try dsimp only at hM
      replace H := H.bk ae
      clear ae
      have bV := Sl.cells (H.os 0)
      have dD := Sl.oc (H.os 0)
      refine s_nil ⟨(H.pk [4, 5]), ?_⟩
      refine t_q rfl (fun w' H => x_bld (ps := [(0, ai), (1, ac), (2, ab), (3, aa), (4, .agg #[I ag, I ah])]) (zs := [.slice none 0 0, .slice none 0 0, .slice none 0 0, .slice none 0 0, I 0, I 0, .slice none 0 0]) (L' := [ai, ac, ab, aa, I ag, I ah, .slice none 0 0]) rfl Try.underlying30 Al30 rfl (Bd30 Try.underlying30) (.cons (cs := [ai]) aV rfl rfl rfl rfl <| .cons (cs := [ac]) bi rfl rfl rfl rfl <| .cons (cs := [ab]) bG rfl rfl rfl rfl <| .cons (cs := [aa]) bV rfl rfl rfl rfl <| .cons (cs := [I ag, I ah]) rfl rfl rfl rfl rfl <| .nil)) ?_
      refine t_l rfl ?_
      refine t_alloc (cs := [.slice none 0 0, .slice none 0 0, .slice none 0 0, .slice none 0 0, I 0, I 0, .slice none 0 0]) H Al30 rfl ?_
      intro al dE H
      refine s_nil ⟨(H.pk [5, 6]), ?_⟩
      refine t_l rfl ?_
      refine t_sw 0 0 [ai, ac, ab, aa, I ag, I ah, .slice none 0 0] (.agg #[ai, ac, ab, aa, I ag, I ah, .slice none 0 0]) H rfl rfl Sz30 rfl rfl rfl (by simp only [List.all_cons, List.all_nil, Bool.true_and, Bool.and_true, Sl.oc (H.os 4), Sl.oc (H.os 3), Sl.oc (H.os 2), Sl.oc (H.os 1)]; try rfl) ?_
      intro dF H
      refine s_nil ⟨(H.pk [5, 6]), ?_⟩
      refine t_nil ?_
      exact ⟨al, r2, r3, r4, r5, ai, ac, ab, aa, _, upds_of _ _ ⟨rfl, rfl, rfl, trivial⟩, hM, H⟩
     skip
     refine t_alloc (cs := [.slice none 0 0, .slice none 0 0, .slice none 0 0, .slice none 0 0, I 0, I 0, .slice none 0 0]) H Al30 rfl ?_
     intro al dG H
     refine s_nil ⟨(H.pk [4, 5]), ?_⟩
     refine t_l rfl ?_
     obtain ⟨dH, bW, hM⟩ := M.e_bind hM
     refine s_call cf49 [aw] rfl (zbB aB (aL.app _) aM bW _ (H.gt 6)) ?_
     rintro vq dI ⟨r5, aa, bX, hvq, ae⟩
     subst bX
     subst vq
     try dsimp only at hM
     replace H := H.bk ae
     clear ae
     have bY := Sl.cells (H.os 0)
     have dJ := Sl.oc (H.os 0)
     refine s_nil ⟨(H.pk [5, 6]), ?_⟩
     refine t_q rfl (fun w' H => x_bld (ps := [(0, ai), (1, ac), (2, ab), (3, aa), (4, .agg #[I ag, I ah])]) (zs := [.slice none 0 0, .slice none 0 0, .slice none 0 0, .slice none 0 0, I 0, I 0, .slice none 0 0]) (L' := [ai, ac, ab, aa, I ag, I ah, .slice none 0 0]) rfl Try.underlying30 Al30 rfl (Bd30 Try.underlying30) (.cons (cs := [ai]) aV rfl rfl rfl rfl <| .cons (cs := [ac]) bi rfl rfl rfl rfl <| .cons (cs := [ab]) bG rfl rfl rfl rfl <| .cons (cs := [aa]) bY rfl rfl rfl rfl <| .cons (cs := [I ag, I ah]) rfl rfl rfl rfl rfl <| .nil)) ?_
     refine t_l rfl ?_
     refine t_sw 1 0 [ai, ac, ab, aa, I ag, I ah, .slice none 0 0] (.agg #[ai, ac, ab, aa, I ag, I ah, .slice none 0 0]) H rfl rfl Sz30 rfl rfl rfl (by simp only [List.all_cons, List.all_nil, Bool.true_and, Bool.and_true, Sl.oc (H.os 4), Sl.oc (H.os 3), Sl.oc (H.os 2), Sl.oc (H.os 0)]; try rfl) ?_
     intro dK H
     refine s_nil ⟨(H.pk [5, 6]), ?_⟩
     refine t_nil ?_
     exact ⟨al, r2, r3, r4, r5, ai, ac, ab, aa, _, upds_of _ _ ⟨rfl, rfl, rfl, trivial⟩, hM, (H.pk [1, 0, 2, 3, 4, 5, 6])⟩
    skip
    refine t_alloc (cs := [.slice none 0 0, .slice none 0 0, .slice none 0 0, .slice none 0 0, I 0, I 0, .slice none 0 0]) H Al30 rfl ?_
    intro al dL H
    refine s_nil ⟨(H.pk [3, 4]), ?_⟩
    refine t_l rfl ?_
    obtain ⟨dM, bZ, hM⟩ := M.e_bind hM
    refine s_call cf14 [ax] rfl (zas aI (aS.app _) aT bZ _ (H.gt 5)) ?_
    rintro vq dN ⟨r4, ab, b4, hvq, ae⟩
    subst b4
    subst vq
    try dsimp only at hM
    replace H := H.bk ae
    clear ae
    have b5 := Sl.cells (H.os 0)
    have dO := Sl.oc (H.os 0)
    refine s_nil ⟨(H.pk [4, 5]), ?_⟩
    refine t_l rfl ?_
    obtain ⟨dP, b6, hM⟩ := M.e_bind hM
    refine s_call cf49 [aw] rfl (zbB aB (aL.app _) aM b6 _ (H.gt 6)) ?_
    rintro vq dQ ⟨r5, aa, b7, hvq, ae⟩
    subst b7
    subst vq
    try dsimp only at hM
    replace H := H.bk ae
    clear ae
    have b8 := Sl.cells (H.os 0)
    have dR := Sl.oc (H.os 0)
    refine s_nil ⟨(H.pk [5, 6]), ?_⟩
    refine t_q rfl (fun w' H => x_bld (ps := [(0, ai), (1, ac), (2, ab), (3, aa), (4, .agg #[I ag, I ah])]) (zs := [.slice none 0 0, .slice none 0 0, .slice none 0 0, .slice none 0 0, I 0, I 0, .slice none 0 0]) (L' := [ai, ac, ab, aa, I ag, I ah, .slice none 0 0]) rfl Try.underlying30 Al30 rfl (Bd30 Try.underlying30) (.cons (cs := [ai]) aV rfl rfl rfl rfl <| .cons (cs := [ac]) bi rfl rfl rfl rfl <| .cons (cs := [ab]) b5 rfl rfl rfl rfl <| .cons (cs := [aa]) b8 rfl rfl rfl rfl <| .cons (cs := [I ag, I ah]) rfl rfl rfl rfl rfl <| .nil)) ?_
    refine t_l rfl ?_
    refine t_sw 2 0 [ai, ac, ab, aa, I ag, I ah, .slice none 0 0] (.agg #[ai, ac, ab, aa, I ag, I ah, .slice none 0 0]) H rfl rfl Sz30 rfl rfl rfl (by simp only [List.all_cons, List.all_nil, Bool.true_and, Bool.and_true, Sl.oc (H.os 4), Sl.oc (H.os 3), Sl.oc (H.os 1), Sl.oc (H.os 0)]; try rfl) ?_
    intro dS H
    refine s_nil ⟨(H.pk [5, 6]), ?_⟩
    refine t_nil ?_
    exact ⟨al, r2, r3, r4, r5, ai, ac, ab, aa, _, upds_of _ _ ⟨rfl, rfl, rfl, trivial⟩, hM, (H.pk [2, 0, 1, 3, 4, 5, 6])⟩
   skip
   refine t_alloc (cs := [.slice none 0 0, .slice none 0 0, .slice none 0 0, .slice none 0 0, I 0, I 0, .slice none 0 0]) H Al30 rfl ?_
   intro al dT H
   refine s_nil ⟨(H.pk [2, 3]), ?_⟩
   refine t_l rfl ?_
   obtain ⟨dU, b9, hM⟩ := M.e_bind hM
   refine s_call cf48 [ay] rfl (zcl aK (bg.app _) bh b9 _ (H.gt 4)) ?_
   rintro vq dV ⟨r3, ac, ca, hvq, ae⟩
   subst ca
   subst vq
   try dsimp only at hM
   replace H := H.bk ae
   clear ae
   have cb := Sl.cells (H.os 0)
   have dW := Sl.oc (H.os 0)
   refine s_nil ⟨(H.pk [3, 4]), ?_⟩
   refine t_l rfl ?_
   obtain ⟨dX, cc, hM⟩ := M.e_bind hM
   refine s_call cf14 [ax] rfl (zas aI (aS.app _) aT cc _ (H.gt 5)) ?_
   rintro vq dY ⟨r4, ab, cd, hvq, ae⟩
   subst cd
   subst vq
   try dsimp only at hM
   replace H := H.bk ae
   clear ae
   have ce := Sl.cells (H.os 0)
   have dZ := Sl.oc (H.os 0)
   refine s_nil ⟨(H.pk [4, 5]), ?_⟩
   refine t_l rfl ?_
   obtain ⟨d3, cf, hM⟩ := M.e_bind hM
   refine s_call cf49 [aw] rfl (zbB aB (aL.app _) aM cf _ (H.gt 6)) ?_
   rintro vq d4 ⟨r5, aa, cg, hvq, ae⟩
   subst cg
   subst vq
   try dsimp only at hM
   replace H := H.bk ae
   clear ae
   have ch := Sl.cells (H.os 0)
   have d5 := Sl.oc (H.os 0)
   refine s_nil ⟨(H.pk [5, 6]), ?_⟩
   refine t_q rfl (fun w' H => x_bld (ps := [(0, ai), (1, ac), (2, ab), (3, aa), (4, .agg #[I ag, I ah])]) (zs := [.slice none 0 0, .slice none 0 0, .slice none 0 0, .slice none 0 0, I 0, I 0, .slice none 0 0]) (L' := [ai, ac, ab, aa, I ag, I ah, .slice none 0 0]) rfl Try.underlying30 Al30 rfl (Bd30 Try.underlying30) (.cons (cs := [ai]) aV rfl rfl rfl rfl <| .cons (cs := [ac]) cb rfl rfl rfl rfl <| .cons (cs := [ab]) ce rfl rfl rfl rfl <| .cons (cs := [aa]) ch rfl rfl rfl rfl <| .cons (cs := [I ag, I ah]) rfl rfl rfl rfl rfl <| .nil)) ?_
   refine t_l rfl ?_
   refine t_sw 3 0 [ai, ac, ab, aa, I ag, I ah, .slice none 0 0] (.agg #[ai, ac, ab, aa, I ag, I ah, .slice none 0 0]) H rfl rfl Sz30 rfl rfl rfl (by simp only [List.all_cons, List.all_nil, Bool.true_and, Bool.and_true, Sl.oc (H.os 4), Sl.oc (H.os 2), Sl.oc (H.os 1), Sl.oc (H.os 0)]; try rfl) ?_
   intro d6 H
   refine s_nil ⟨(H.pk [5, 6]), ?_⟩
   refine t_nil ?_
   exact ⟨al, r2, r3, r4, r5, ai, ac, ab, aa, _, upds_of _ _ ⟨rfl, rfl, rfl, trivial⟩, hM, (H.pk [3, 0, 1, 2, 4, 5, 6])⟩
  skip
  refine t_alloc (cs := [.slice none 0 0, .slice none 0 0, .slice none 0 0, .slice none 0 0, I 0, I 0, .slice none 0 0]) H Al30 rfl ?_
  intro al d7 H
  refine s_nil ⟨(H.pk [1, 2]), ?_⟩
  refine t_l rfl ?_
  obtain ⟨d8, ck, hM⟩ := M.e_bind hM
  refine s_call cf14 [az] rfl (zas aR (bD.app _) bE ck _ (H.gt 3)) ?_
  rintro vq d9 ⟨r2, ai, cm, hvq, ae⟩
  subst cm
  subst vq
  try dsimp only at hM
  replace H := H.bk ae
  clear ae
  have cn := Sl.cells (H.os 0)
  have ea := Sl.oc (H.os 0)
  refine s_nil ⟨(H.pk [2, 3]), ?_⟩
  refine t_l rfl ?_
  obtain ⟨eb, co, hM⟩ := M.e_bind hM
  refine s_call cf48 [ay] rfl (zcl aK (bg.app _) bh co _ (H.gt 4)) ?_
  rintro vq ec ⟨r3, ac, cp, hvq, ae⟩
  subst cp
  subst vq
  try dsimp only at hM
  replace H := H.bk ae
  clear ae
  have cq := Sl.cells (H.os 0)
  have ed := Sl.oc (H.os 0)
  refine s_nil ⟨(H.pk [3, 4]), ?_⟩
  refine t_l rfl ?_
  obtain ⟨ee, ct, hM⟩ := M.e_bind hM
  refine s_call cf14 [ax] rfl (zas aI (aS.app _) aT ct _ (H.gt 5)) ?_
  rintro vq ef ⟨r4, ab, cu, hvq, ae⟩
  subst cu
  subst vq
  try dsimp only at hM
  replace H := H.bk ae
  clear ae
  have cw := Sl.cells (H.os 0)
  have eg := Sl.oc (H.os 0)
  refine s_nil ⟨(H.pk [4, 5]), ?_⟩
  refine t_l rfl ?_
  obtain ⟨eh, cx, hM⟩ := M.e_bind hM
  refine s_call cf49 [aw] rfl (zbB aB (aL.app _) aM cx _ (H.gt 6)) ?_
  rintro vq ei ⟨r5, aa, cy, hvq, ae⟩
  subst cy
  subst vq
  try dsimp only at hM
  replace H := H.bk ae
  clear ae
  have cz := Sl.cells (H.os 0)
  have ej := Sl.oc (H.os 0)
  refine s_nil ⟨(H.pk [5, 6]), ?_⟩
  refine t_q rfl (fun w' H => x_bld (ps := [(0, ai), (1, ac), (2, ab), (3, aa), (4, .agg #[I ag, I ah])]) (zs := [.slice none 0 0, .slice none 0 0, .slice none 0 0, .slice none 0 0, I 0, I 0, .slice none 0 0]) (L' := [ai, ac, ab, aa, I ag, I ah, .slice none 0 0]) rfl Try.underlying30 Al30 rfl (Bd30 Try.underlying30) (.cons (cs := [ai]) cn rfl rfl rfl rfl <| .cons (cs := [ac]) cq rfl rfl rfl rfl <| .cons (cs := [ab]) cw rfl rfl rfl rfl <| .cons (cs := [aa]) cz rfl rfl rfl rfl <| .cons (cs := [I ag, I ah]) rfl rfl rfl rfl rfl <| .nil)) ?_
  refine t_l rfl ?_
  refine t_sw 4 0 [ai, ac, ab, aa, I ag, I ah, .slice none 0 0] (.agg #[ai, ac, ab, aa, I ag, I ah, .slice none 0 0]) H rfl rfl Sz30 rfl rfl rfl (by simp only [List.all_cons, List.all_nil, Bool.true_and, Bool.and_true, Sl.oc (H.os 3), Sl.oc (H.os 2), Sl.oc (H.os 1), Sl.oc (H.os 0)]; try rfl) ?_
  intro em H
  refine s_nil ⟨(H.pk [5, 6]), ?_⟩
  refine t_nil ?_
  exact ⟨al, r2, r3, r4, r5, ai, ac, ab, aa, _, upds_of _ _ ⟨rfl, rfl, rfl, trivial⟩, hM, (H.pk [4, 0, 1, 2, 3, 5, 6])⟩
 rintro _ en ⟨al, r2, r3, r4, r5, ai, ac, ab, aa, ρ, rfl, hM, H⟩
 unfold zbQ at hM
 refine W.seq ?_
 refine W.seq ?_
 refine W.region rfl ?_
 refine zA (I 0) rfl ?_
 refine s_nil ?_
 refine W.block ?_
 obtain ⟨bH, H⟩ := H.emptyE
 replace H := H.nilOwn (α := Raw 1) 67
 have cA : RepR (α := Flood) (n := 1) bH.cells [] [] := .nil
 obtain ⟨cB, bj, cC⟩ := M.e_bind hM
 obtain ⟨eo, bj⟩ := M.e_iter bj
 refine W.loop (fun m σ W => ∃ (i : Nat) (l : List Flood) (av : Value) (au : List (Raw 1)) (B_l : Base) (ρ : Env), σ = upds ρ [(1, Pq ak), (2, Pq aJ), (3, Pq al), (4, I (i : Int))] /\ M.iterN (zbG aj) m (i, l) = some cB /\ St w W [cOwn (α := Raw 1) 67 av au, cRo B_l, cBlk al [ai, ac, ab, aa, I ag, I ah, av] 30, cOwn (α := Town) 54 aa r5, cOwn (α := Int) 3 ab r4, cOwn (α := Span) 27 ac r3, cOwn (α := Int) 3 ai r2, cBlk aJ [.slice none 0 0, .slice none 0 0, .slice none 0 0, .slice none 0 0, I 0, I 0, .slice none 0 0] 30, cBlk ak [az, ay, ax, aw, I ag, I ah, ao] 30] R /\ RepR (α := Flood) B_l.cells au l) ?_ ?_
 ·exact ⟨_, 0, [], (.slice none 0 0), [], bH, _, upds_of _ _ ⟨rfl, rfl, rfl, rfl, trivial⟩, bj, H, cA⟩
 rintro ep σ eq ⟨i, l, av, au, B_l, ρ, rfl, bI, H, aq⟩
 obtain ⟨aW, aX, eu, hM, aO⟩ := M.e_iterN bI
 simp only [zbG] at hM
 clear bI
 refine W.seq ?_
 refine W.seq ?_
 refine W.region rfl ?_
 refine zM (I (i : Int)) rfl ?_
 refine s_val (x_fa (a := Pq ak) (v := Oq ak 6) rfl (fa_blk (o := 0) Fd30_5 Sz28)) ?_
 refine s_val (x_ld (p := Oq ak 6) (v := ao) rfl (ldb_sc Sc28 (H.bl 8) rfl)) ?_
 have ew := (aA).len_le
 refine s_val (x_lenS T28.und rfl aA) ?_
 refine zC (i : Int) (aj.length : Int) (decide ((i : Int) < (aj.length : Int))) rfl rfl rfl ?_
 refine s_nil ?_
 refine W.cond (decide ((i : Int) < (aj.length : Int))) rfl (fun aP => ?_) (fun aP => ?_)
 ·replace hM := M.e_t hM aP
  simp only [qy1, qy2, qy3, qy4, qy5, qy6, ne_eq, qy7] at aP
  refine W.skip ?_
  refine W.seq ?_
  refine W.block ?_
  refine W.drawT (fun W => St w W [cRo B_l, cOwn (α := Town) 54 aa r5, cOwn (α := Int) 3 ab r4, cOwn (α := Span) 27 ac r3, cOwn (α := Int) 3 ai r2, cBlk aJ [.slice none 0 0, .slice none 0 0, .slice none 0 0, .slice none 0 0, I 0, I 0, .slice none 0 0] 30, cBlk ak [az, ay, ax, aw, I ag, I ah, ao] 30] R) (.q 0 (.q 2 (.q 3 (.q 4 (.q 5 (.q 6 (.q 7 (.q 8 (.q 9 (.q 10 (.q 11 (.q 12 (.q 13 (.l2 1 (.l 14 (.l 15 (.l 16 (.l 17 (.q 18 (.l 19 .nil)))))) 14 (.l2 1 (.l 15 (.l 16 (.l 17 (.q 18 (.l 19 .nil))))) 15 (.l2 1 (.l 16 (.l 17 (.q 18 (.l 19 .nil)))) 16 (.l 1 (.l 17 (.q 18 (.l 19 .nil)))))))))))))))))))) mixed (by decide +kernel) rfl ?_
  intro ez aN
  replace H := H.ext aN
  clear aN
  refine ⟨(H.pk [1, 3, 4, 5, 6, 7, 8]), ?_⟩
  refine t_q rfl (fun w' H => x_fa (a := Pq al) (v := Oq al 6) rfl (fa_blk (o := 0) Fd30_5 Sz28)) ?_
  refine t_q rfl (fun w' H => x_fa (a := Pq ak) (v := Oq ak 6) rfl (fa_blk (o := 0) Fd30_5 Sz28)) ?_
  refine t_q rfl (fun w' H => x_ld (p := Oq ak 6) (v := ao) rfl (ldb_sc Sc28 (H.bl 6) rfl)) ?_
  refine t_q rfl (fun w' H => x_mv (v := I (i : Int)) rfl) ?_
  obtain ⟨cD, hM⟩ := M.e_grd hM
  simp only [Bool.and_eq_true, decide_eq_true_eq] at cD
  refine t_q rfl (fun w' H => x_ix (a := ao) (b := I (i : Int)) (v := vat ao 2 (Int.toNat (i : Int))) rfl rfl (Sl.ix (α := Flood) T28.und T28.size aA (by omega) (by omega))) ?_
  refine t_q rfl (fun w' H => x_fa (a := vat ao 2 (Int.toNat (i : Int))) (v := fat (vat ao 2 (Int.toNat (i : Int))) 0) rfl (fa_pl Fd67_0 Sz3 (Sl.pl (i := (i : Int)) aA (by omega) (by omega)))) ?_
  refine t_q rfl (fun w' H => x_ld (p := fat (vat ao 2 (Int.toNat (i : Int))) 0) (v := I ((aj.getD i default).spring)) rfl (ld_sc Sc3 (At.mono (Flood_at0 aA (i := (i : Int)) (by omega) (by omega)) (aU.at H)))) ?_
  refine t_q rfl (fun w' H => x_fa (a := Pq ak) (v := Oq ak 6) rfl (fa_blk (o := 0) Fd30_5 Sz28)) ?_
  refine t_q rfl (fun w' H => x_ld (p := Oq ak 6) (v := ao) rfl (ldb_sc Sc28 (H.bl 6) rfl)) ?_
  refine t_q rfl (fun w' H => x_mv (v := I (i : Int)) rfl) ?_
  refine t_q rfl (fun w' H => x_ix (a := ao) (b := I (i : Int)) (v := vat ao 2 (Int.toNat (i : Int))) rfl rfl (Sl.ix (α := Flood) T28.und T28.size aA (by omega) (by omega))) ?_
  refine t_q rfl (fun w' H => x_fa (a := vat ao 2 (Int.toNat (i : Int))) (v := fat (vat ao 2 (Int.toNat (i : Int))) 1) rfl (fa_pl Fd67_1 Sz23 (Sl.pl (i := (i : Int)) aA (by omega) (by omega)))) ?_
  obtain ⟨aY, cE, aQ⟩ := Flood_at1 aA (i := (i : Int)) (by omega) (by omega)
  replace aQ : Sl _ aY (aj.getD i default).stages := aQ
  have eA := aQ.len_le
  refine t_q rfl (fun w' H => x_ld (p := fat (vat ao 2 (Int.toNat (i : Int))) 1) (v := aY) rfl (ld_sc Sc23 (At.mono (cE) (aU.at H)))) ?_
  refine t_l2 rfl rfl ?_ ?_
  ·skip
   refine s_val (x_ld (p := Oq al 6) (v := av) rfl (ldb_sc Sc28 (H.bl 2) rfl)) ?_
   have eB := Sl.cells (H.os 0)
   have eC := Sl.oc (H.os 0)
   refine s_nil ⟨(H.pk [1, 3, 4, 5, 6, 7, 8]), ?_⟩
   refine t_l rfl ?_
   obtain ⟨eD, cF, hM⟩ := M.e_bind hM
   refine s_call cf14 [aY] rfl (zas ((aj.getD i default).stages) (aU.app _) aQ cF _ (H.gt 9)) ?_
   rintro vq eE ⟨r6, am, cG, hvq, ae⟩
   subst cG
   subst vq
   try dsimp only at hM
   replace H := H.bk ae
   clear ae
   have eF := Sl.cells (H.os 0)
   have eG := Sl.oc (H.os 0)
   refine s_nil ⟨(H.pk [2, 4, 5, 6, 7, 8, 9]), ?_⟩
   refine t_l rfl ?_
   refine s_val (x_bld (ps := [(0, I ((aj.getD i default).spring)), (1, am)]) (zs := [I 0, .slice none 0 0]) (L' := [I ((aj.getD i default).spring), am]) rfl Try.underlying67 Al67 rfl (Bd67 Try.underlying67) (.cons (cs := [I ((aj.getD i default).spring)]) rfl rfl rfl rfl rfl <| .cons (cs := [am]) (Sl.cells (H.os 0)) rfl rfl rfl rfl <| .nil)) ?_
   refine s_nil ⟨(H.pk [2, 4, 5, 6, 7, 8, 9]), ?_⟩
   refine t_l rfl ?_
   obtain ⟨bm, H⟩ := H.emptyE
   obtain ⟨bn, H, cH⟩ := H.freezeE (k := 1) rfl
   replace H := H.nf
   have aZ := cH
   obtain ⟨aC, H, eH, cI⟩ := H.joinE (i := 0) (j := 1) rfl rfl
   replace aZ := aZ.mono cI
   obtain ⟨aD, bJ⟩ : ∃ r : Raw 1, r.cs = [I ((aj.getD i default).spring), am] := ⟨Raw.of [I ((aj.getD i default).spring), am] rfl (by simp only [List.all_cons, List.all_nil, Bool.true_and, Bool.and_true, Sl.oc aZ]; try rfl), rfl⟩
   have cJ : RepR (α := Flood) aC.cells [aD] [(⟨((aj.getD i default).spring : Int), r6⟩ : Flood)] := .cons (by rw [bJ]; exact ⟨_, rfl, aZ⟩) <| .nil
   refine t_bs (α := Raw 1) T28 [.agg #[I ((aj.getD i default).spring), am]] [aD] H rfl (.cons (by rw [show (Flat.enc aD : List Value) = aD.cs from rfl, bJ]; rfl) (Flat.rep_enc _ _) <| .nil) rfl rfl rfl ?_
   intro cK eI H
   replace H := H.nf
   have eJ := Sl.cells (H.os 0)
   have eK := Sl.oc (H.os 0)
   refine s_nil ⟨(H.pk [5, 7, 8, 9, 10, 11, 12]), ?_⟩
   refine t_l rfl ?_
   obtain ⟨cL, hM⟩ := M.e_grd hM
   simp only [Bool.and_eq_true, decide_eq_true_eq] at cL
   have a6 := cJ
   obtain ⟨aE, H, cM, cN⟩ := H.joinE (i := 5) (j := 1) rfl rfl
   replace aq := aq.mono cM
   replace a6 := a6.mono cN
   have bo := aq.app a6
   refine t_app (α := Raw 1) (k := 5) (l := au) (l2 := [aD]) (l' := au ++ ([aD])) (vy := cK) T28 rfl H rfl rfl rfl (H.os 1) (H.ol 1) (rfl) (by have a_ := aq.len; have b_ := a6.len; (try simp only [List.length_nil] at *); first | omega | (rw [a_, b_]; omega)) ?_
   intro bp eL H
   replace H := H.nf
   have eM := Sl.cells (H.os 5)
   have eN := Sl.oc (H.os 5)
   refine s_nil ⟨(H.pk [6, 8, 9, 10, 11, 12, 13]), ?_⟩
   refine t_q rfl (fun w' H => x_fa (a := Pq al) (v := Oq al 6) rfl (fa_blk (o := 0) Fd30_5 Sz28)) ?_
   refine t_l rfl ?_
   refine t_sw 7 6 [bp] bp H rfl rfl Sz28 (Sl.cells (rowSl rfl (H.get (k := 5) rfl) (roLe _ (H.get (k := 0) rfl)) bo)) rfl rfl (by simp only [List.all_cons, List.all_nil, Bool.true_and, Bool.and_true, Sl.oc (rowSl rfl (H.get (k := 5) rfl) (roLe _ (H.get (k := 0) rfl)) bo)]; try rfl) ?_
   intro eO H
   refine s_nil ⟨(H.pk [6, 8, 9, 10, 11, 12, 13]), ?_⟩
   refine t_nil ?_
   replace H := H.pk [0, 5, 6, 7, 8, 9, 10, 11, 12, 13]
   refine W.region rfl ?_
   refine zM (I (i : Int)) rfl ?_
   refine zR (i : Int) 1 ((i : Int) + 1) rfl rfl rfl (by omega) ?_
   refine zA (I ((i : Int) + 1)) rfl ?_
   refine s_nil ?_
   exact ⟨aW, aX, i + 1, l ++ ([(⟨((aj.getD i default).spring : Int), r6⟩ : Flood)]), bp, au ++ ([aD]), aE, _, upds_of _ _ ⟨rfl, rfl, rfl, rfl, trivial⟩, M.e_inl hM aO, (H.pk [1, 0, 3, 4, 5, 6, 7, 8, 9]), bo⟩
  skip
  obtain ⟨eP, cO, hM⟩ := M.e_bind hM
  refine s_call cf14 [aY] rfl (zas ((aj.getD i default).stages) (aU.app _) aQ cO _ (H.gt 9)) ?_
  rintro vq eQ ⟨r6, am, cP, hvq, ae⟩
  subst cP
  subst vq
  try dsimp only at hM
  replace H := H.bk ae
  clear ae
  have eR := Sl.cells (H.os 0)
  have eS := Sl.oc (H.os 0)
  have eT := Sl.cells (H.os 1)
  have eU := Sl.oc (H.os 1)
  refine s_nil ⟨(H.pk [2, 4, 5, 6, 7, 8, 9]), ?_⟩
  obtain ⟨cQ, hM⟩ := M.e_grd hM
  simp only [Bool.and_eq_true, decide_eq_true_eq] at cQ
  refine t_l2 rfl rfl ?_ ?_
  ·skip
   refine s_val (x_ld (p := Oq al 6) (v := av) rfl (ldb_sc Sc28 (H.bl 3) rfl)) ?_
   refine s_nil ⟨(H.pk [2, 4, 5, 6, 7, 8, 9]), ?_⟩
   refine t_l rfl ?_
   refine s_val (x_bld (ps := [(0, I ((aj.getD i default).spring)), (1, am)]) (zs := [I 0, .slice none 0 0]) (L' := [I ((aj.getD i default).spring), am]) rfl Try.underlying67 Al67 rfl (Bd67 Try.underlying67) (.cons (cs := [I ((aj.getD i default).spring)]) rfl rfl rfl rfl rfl <| .cons (cs := [am]) (Sl.cells (H.os 0)) rfl rfl rfl rfl <| .nil)) ?_
   refine s_nil ⟨(H.pk [2, 4, 5, 6, 7, 8, 9]), ?_⟩
   refine t_l rfl ?_
   obtain ⟨bm, H⟩ := H.emptyE
   obtain ⟨bn, H, cR⟩ := H.freezeE (k := 1) rfl
   replace H := H.nf
   have a7 := cR
   obtain ⟨aC, H, eV, cS⟩ := H.joinE (i := 0) (j := 1) rfl rfl
   replace a7 := a7.mono cS
   obtain ⟨aF, bK⟩ : ∃ r : Raw 1, r.cs = [I ((aj.getD i default).spring), am] := ⟨Raw.of [I ((aj.getD i default).spring), am] rfl (by simp only [List.all_cons, List.all_nil, Bool.true_and, Bool.and_true, Sl.oc a7]; try rfl), rfl⟩
   have cT : RepR (α := Flood) aC.cells [aF] [(⟨((aj.getD i default).spring : Int), r6⟩ : Flood)] := .cons (by rw [bK]; exact ⟨_, rfl, a7⟩) <| .nil
   refine t_bs (α := Raw 1) T28 [.agg #[I ((aj.getD i default).spring), am]] [aF] H rfl (.cons (by rw [show (Flat.enc aF : List Value) = aF.cs from rfl, bK]; rfl) (Flat.rep_enc _ _) <| .nil) rfl rfl rfl ?_
   intro cU eW H
   replace H := H.nf
   have eX := Sl.cells (H.os 0)
   have eY := Sl.oc (H.os 0)
   refine s_nil ⟨(H.pk [5, 7, 8, 9, 10, 11, 12]), ?_⟩
   refine t_l rfl ?_
   have a8 := cT
   obtain ⟨aE, H, cV, cW⟩ := H.joinE (i := 5) (j := 1) rfl rfl
   replace aq := aq.mono cV
   replace a8 := a8.mono cW
   have bq := aq.app a8
   refine t_app (α := Raw 1) (k := 5) (l := au) (l2 := [aF]) (l' := au ++ ([aF])) (vy := cU) T28 rfl H rfl rfl rfl (H.os 1) (H.ol 1) (rfl) (by have a_ := aq.len; have b_ := a8.len; (try simp only [List.length_nil] at *); first | omega | (rw [a_, b_]; omega)) ?_
   intro br eZ H
   replace H := H.nf
   have e7 := Sl.cells (H.os 5)
   have e9 := Sl.oc (H.os 5)
   refine s_nil ⟨(H.pk [6, 8, 9, 10, 11, 12, 13]), ?_⟩
   refine t_q rfl (fun w' H => x_fa (a := Pq al) (v := Oq al 6) rfl (fa_blk (o := 0) Fd30_5 Sz28)) ?_
   refine t_l rfl ?_
   refine t_sw 7 6 [br] br H rfl rfl Sz28 (Sl.cells (rowSl rfl (H.get (k := 5) rfl) (roLe _ (H.get (k := 0) rfl)) bq)) rfl rfl (by simp only [List.all_cons, List.all_nil, Bool.true_and, Bool.and_true, Sl.oc (rowSl rfl (H.get (k := 5) rfl) (roLe _ (H.get (k := 0) rfl)) bq)]; try rfl) ?_
   intro fa H
   refine s_nil ⟨(H.pk [6, 8, 9, 10, 11, 12, 13]), ?_⟩
   refine t_nil ?_
   replace H := H.pk [0, 5, 6, 7, 8, 9, 10, 11, 12, 13]
   refine W.region rfl ?_
   refine zM (I (i : Int)) rfl ?_
   refine zR (i : Int) 1 ((i : Int) + 1) rfl rfl rfl (by omega) ?_
   refine zA (I ((i : Int) + 1)) rfl ?_
   refine s_nil ?_
   exact ⟨aW, aX, i + 1, l ++ ([(⟨((aj.getD i default).spring : Int), r6⟩ : Flood)]), br, au ++ ([aF]), aE, _, upds_of _ _ ⟨rfl, rfl, rfl, rfl, trivial⟩, M.e_inl hM aO, (H.pk [1, 0, 3, 4, 5, 6, 7, 8, 9]), bq⟩
  skip
  refine s_val (x_bld (ps := [(0, I ((aj.getD i default).spring)), (1, am)]) (zs := [I 0, .slice none 0 0]) (L' := [I ((aj.getD i default).spring), am]) rfl Try.underlying67 Al67 rfl (Bd67 Try.underlying67) (.cons (cs := [I ((aj.getD i default).spring)]) rfl rfl rfl rfl rfl <| .cons (cs := [am]) (Sl.cells (H.os 0)) rfl rfl rfl rfl <| .nil)) ?_
  refine s_nil ⟨(H.pk [2, 4, 5, 6, 7, 8, 9]), ?_⟩
  refine t_l2 rfl rfl ?_ ?_
  ·skip
   refine s_val (x_ld (p := Oq al 6) (v := av) rfl (ldb_sc Sc28 (H.bl 3) rfl)) ?_
   refine s_nil ⟨(H.pk [2, 4, 5, 6, 7, 8, 9]), ?_⟩
   refine t_l rfl ?_
   obtain ⟨bm, H⟩ := H.emptyE
   obtain ⟨bn, H, cX⟩ := H.freezeE (k := 1) rfl
   replace H := H.nf
   have ba := cX
   obtain ⟨aC, H, fb, cY⟩ := H.joinE (i := 0) (j := 1) rfl rfl
   replace ba := ba.mono cY
   obtain ⟨aG, bL⟩ : ∃ r : Raw 1, r.cs = [I ((aj.getD i default).spring), am] := ⟨Raw.of [I ((aj.getD i default).spring), am] rfl (by simp only [List.all_cons, List.all_nil, Bool.true_and, Bool.and_true, Sl.oc ba]; try rfl), rfl⟩
   have cZ : RepR (α := Flood) aC.cells [aG] [(⟨((aj.getD i default).spring : Int), r6⟩ : Flood)] := .cons (by rw [bL]; exact ⟨_, rfl, ba⟩) <| .nil
   refine t_bs (α := Raw 1) T28 [.agg #[I ((aj.getD i default).spring), am]] [aG] H rfl (.cons (by rw [show (Flat.enc aG : List Value) = aG.cs from rfl, bL]; rfl) (Flat.rep_enc _ _) <| .nil) rfl rfl rfl ?_
   intro c0 fd H
   replace H := H.nf
   have fe := Sl.cells (H.os 0)
   have fg := Sl.oc (H.os 0)
   refine s_nil ⟨(H.pk [5, 7, 8, 9, 10, 11, 12]), ?_⟩
   refine t_l rfl ?_
   have bb := cZ
   obtain ⟨aE, H, c6, c7⟩ := H.joinE (i := 5) (j := 1) rfl rfl
   replace aq := aq.mono c6
   replace bb := bb.mono c7
   have bt := aq.app bb
   refine t_app (α := Raw 1) (k := 5) (l := au) (l2 := [aG]) (l' := au ++ ([aG])) (vy := c0) T28 rfl H rfl rfl rfl (H.os 1) (H.ol 1) (rfl) (by have a_ := aq.len; have b_ := bb.len; (try simp only [List.length_nil] at *); first | omega | (rw [a_, b_]; omega)) ?_
   intro bu fh H
   replace H := H.nf
   have fi := Sl.cells (H.os 5)
   have fj := Sl.oc (H.os 5)
   refine s_nil ⟨(H.pk [6, 8, 9, 10, 11, 12, 13]), ?_⟩
   refine t_q rfl (fun w' H => x_fa (a := Pq al) (v := Oq al 6) rfl (fa_blk (o := 0) Fd30_5 Sz28)) ?_
   refine t_l rfl ?_
   refine t_sw 7 6 [bu] bu H rfl rfl Sz28 (Sl.cells (rowSl rfl (H.get (k := 5) rfl) (roLe _ (H.get (k := 0) rfl)) bt)) rfl rfl (by simp only [List.all_cons, List.all_nil, Bool.true_and, Bool.and_true, Sl.oc (rowSl rfl (H.get (k := 5) rfl) (roLe _ (H.get (k := 0) rfl)) bt)]; try rfl) ?_
   intro fk H
   refine s_nil ⟨(H.pk [6, 8, 9, 10, 11, 12, 13]), ?_⟩
   refine t_nil ?_
   replace H := H.pk [0, 5, 6, 7, 8, 9, 10, 11, 12, 13]
   refine W.region rfl ?_
   refine zM (I (i : Int)) rfl ?_
   refine zR (i : Int) 1 ((i : Int) + 1) rfl rfl rfl (by omega) ?_
   refine zA (I ((i : Int) + 1)) rfl ?_
   refine s_nil ?_
   exact ⟨aW, aX, i + 1, l ++ ([(⟨((aj.getD i default).spring : Int), r6⟩ : Flood)]), bu, au ++ ([aG]), aE, _, upds_of _ _ ⟨rfl, rfl, rfl, rfl, trivial⟩, M.e_inl hM aO, (H.pk [1, 0, 3, 4, 5, 6, 7, 8, 9]), bt⟩
  skip
  obtain ⟨bm, H⟩ := H.emptyE
  obtain ⟨bn, H, c8⟩ := H.freezeE (k := 1) rfl
  replace H := H.nf
  have bc := c8
  obtain ⟨aC, H, fm, c9⟩ := H.joinE (i := 0) (j := 1) rfl rfl
  replace bc := bc.mono c9
  obtain ⟨aH, bM⟩ : ∃ r : Raw 1, r.cs = [I ((aj.getD i default).spring), am] := ⟨Raw.of [I ((aj.getD i default).spring), am] rfl (by simp only [List.all_cons, List.all_nil, Bool.true_and, Bool.and_true, Sl.oc bc]; try rfl), rfl⟩
  have da : RepR (α := Flood) aC.cells [aH] [(⟨((aj.getD i default).spring : Int), r6⟩ : Flood)] := .cons (by rw [bM]; exact ⟨_, rfl, bc⟩) <| .nil
  refine t_bs (α := Raw 1) T28 [.agg #[I ((aj.getD i default).spring), am]] [aH] H rfl (.cons (by rw [show (Flat.enc aH : List Value) = aH.cs from rfl, bM]; rfl) (Flat.rep_enc _ _) <| .nil) rfl rfl rfl ?_
  intro db fo H
  replace H := H.nf
  have fp := Sl.cells (H.os 0)
  have fq := Sl.oc (H.os 0)
  refine s_nil ⟨(H.pk [5, 7, 8, 9, 10, 11, 12]), ?_⟩
  refine t_l rfl ?_
  refine s_val (x_ld (p := Oq al 6) (v := av) rfl (ldb_sc Sc28 (H.bl 6) rfl)) ?_
  refine s_nil ⟨(H.pk [5, 7, 8, 9, 10, 11, 12]), ?_⟩
  refine t_l rfl ?_
  have bf := da
  obtain ⟨aE, H, dc, dd⟩ := H.joinE (i := 5) (j := 1) rfl rfl
  replace aq := aq.mono dc
  replace bf := bf.mono dd
  have bv := aq.app bf
  refine t_app (α := Raw 1) (k := 5) (l := au) (l2 := [aH]) (l' := au ++ ([aH])) (vy := db) T28 rfl H rfl rfl rfl (H.os 1) (H.ol 1) (rfl) (by have a_ := aq.len; have b_ := bf.len; (try simp only [List.length_nil] at *); first | omega | (rw [a_, b_]; omega)) ?_
  intro bw fu H
  replace H := H.nf
  have fv := Sl.cells (H.os 5)
  have fw := Sl.oc (H.os 5)
  refine s_nil ⟨(H.pk [6, 8, 9, 10, 11, 12, 13]), ?_⟩
  refine t_q rfl (fun w' H => x_fa (a := Pq al) (v := Oq al 6) rfl (fa_blk (o := 0) Fd30_5 Sz28)) ?_
  refine t_l rfl ?_
  refine t_sw 7 6 [bw] bw H rfl rfl Sz28 (Sl.cells (rowSl rfl (H.get (k := 5) rfl) (roLe _ (H.get (k := 0) rfl)) bv)) rfl rfl (by simp only [List.all_cons, List.all_nil, Bool.true_and, Bool.and_true, Sl.oc (rowSl rfl (H.get (k := 5) rfl) (roLe _ (H.get (k := 0) rfl)) bv)]; try rfl) ?_
  intro fx H
  refine s_nil ⟨(H.pk [6, 8, 9, 10, 11, 12, 13]), ?_⟩
  refine t_nil ?_
  replace H := H.pk [0, 5, 6, 7, 8, 9, 10, 11, 12, 13]
  refine W.region rfl ?_
  refine zM (I (i : Int)) rfl ?_
  refine zR (i : Int) 1 ((i : Int) + 1) rfl rfl rfl (by omega) ?_
  refine zA (I ((i : Int) + 1)) rfl ?_
  refine s_nil ?_
  exact ⟨aW, aX, i + 1, l ++ ([(⟨((aj.getD i default).spring : Int), r6⟩ : Flood)]), bw, au ++ ([aH]), aE, _, upds_of _ _ ⟨rfl, rfl, rfl, rfl, trivial⟩, M.e_inl hM aO, (H.pk [1, 0, 3, 4, 5, 6, 7, 8, 9]), bv⟩
 replace hM := M.e_f hM aP
 simp only [qy1, qy2, qy3, qy4, qy5, qy6, ne_eq, qy7] at aP
 refine W.exit ?_
 have de := M.e_inr hM aO
 subst de
 replace hM := cC
 try dsimp only at hM
 refine W.seq ?_
 refine W.region rfl ?_
 refine s_val (x_ld (p := Pq al) (v := .agg #[ai, ac, ab, aa, I ag, I ah, av]) rfl (ldb_ag (ds := [ai, ac, ab, aa, I ag, I ah, av]) Ag30 Sz30 (H.bl 2) rfl rfl)) ?_
 refine t_sw 7 0 [ai, ac, ab, aa, I ag, I ah, av] (.agg #[ai, ac, ab, aa, I ag, I ah, av]) H rfl rfl Sz30 rfl rfl rfl (by simp only [List.all_cons, List.all_nil, Bool.true_and, Bool.and_true, Sl.oc (H.os 6), Sl.oc (H.os 5), Sl.oc (H.os 4), Sl.oc (H.os 3), Sl.oc (rowSl rfl (H.get (k := 0) rfl) (roLe _ (H.get (k := 1) rfl)) aq)]; try rfl) ?_
 intro fy H
 refine s_nil ?_
 replace H := H.pk [0, 1, 3, 4, 5, 6, 7]
 refine W.ret ?_
 have dg := (H.bl 6)
 have di := M.e_pure hM
 exact ⟨_, (resE_of1 (v := .agg #[ai, ac, ab, aa, I ag, I ah, av]) rfl (.cell (v := .agg #[ai, ac, ab, aa, I ag, I ah, av]) rfl (run_loadVar_ag (ds := [ai, ac, ab, aa, I ag, I ah, av]) Ag30 Sz30 dg rfl rfl) <| .nil)), ⟨r2, r3, r4, r5, ag, ah, l, ai, ac, ab, aa, av, au, B_l, di, rfl, (H.pk [5, 4, 3, 2, 0, 1]), aq⟩⟩

end Go.Proofs.Ytbaehghammbjdaa
end
section
set_option maxRecDepth 100000
set_option maxHeartbeats 16000000
namespace Go.Proofs.Ytbaehghammbjdaa
open Go Go.Nm
def zaY (more : List UInt8) : (Int × Int × (List Town) × Nat) -> M ((Int × Int × (List Town) × Nat) ⊕ (Int × Int × (List Town) × (List Town))) := fun (s, s2, l, i) =>
  bif decide ((i : Int) < (l.length : Int)) then (
  M.grd (decide ((i : Int) < (l.length : Int))) <|
  M.bind (zac more s s2 4) fun (r7, aa, ab) =>
  M.grd (decide ((-9223372036854775808 : Int) <= (((l.getD i default).lead) + r7)) && decide ((((l.getD i default).lead) + r7) <= (9223372036854775807 : Int))) <|
  M.pure (.inl (aa, ab, l.set i ({ (l.getD i default) with lead := ((l.getD i default).lead) + r7 }), i + 1)))
  else (
  M.pure (.inr (s, s2, l, l)))
def zbb (aa : List Int) (ab : List Span) (ac : List Int) (ae : Int) (ag : Int) (ah : List Flood) (ai : List Int) (aj : List Span) (ak : List Int) (al : List Town) (am : Int) (ao : Int) (aq : List Flood) (au : List Int) (av : List Span) (aw : List Int) (ax : Int) (ay : Int) (az : List Flood) (l3 : List Town) (r8 : Int) (l4 : List Town) (aC : List Int) (aA : Int) : Nat -> M (Nat ⊕ (Unit ⊕ Unit)) := fun s7 =>
  bif decide ((s7 : Int) < (([(⟨aa, ab, ac, l3, (ae : Int), (ag : Int), ah⟩ : River), (⟨ai, aj, ak, al, (am : Int), (ao + r8 : Int), aq⟩ : River), (⟨au, av, aw, l4, (ax : Int), (ay : Int), az⟩ : River)]).length : Int)) then (
  M.grd (decide ((s7 : Int) < (([(⟨aa, ab, ac, l3, (ae : Int), (ag : Int), ah⟩ : River), (⟨ai, aj, ak, al, (am : Int), (ao + r8 : Int), aq⟩ : River), (⟨au, av, aw, l4, (ax : Int), (ay : Int), az⟩ : River)]).length : Int))) <|
  M.bind (zam ((([(⟨aa, ab, ac, l3, (ae : Int), (ag : Int), ah⟩ : River), (⟨ai, aj, ak, al, (am : Int), (ao + r8 : Int), aq⟩ : River), (⟨au, av, aw, l4, (ax : Int), (ay : Int), az⟩ : River)]).getD s7 default).down) ((([(⟨aa, ab, ac, l3, (ae : Int), (ag : Int), ah⟩ : River), (⟨ai, aj, ak, al, (am : Int), (ao + r8 : Int), aq⟩ : River), (⟨au, av, aw, l4, (ax : Int), (ay : Int), az⟩ : River)]).getD s7 default).travel) ((([(⟨aa, ab, ac, l3, (ae : Int), (ag : Int), ah⟩ : River), (⟨ai, aj, ak, al, (am : Int), (ao + r8 : Int), aq⟩ : River), (⟨au, av, aw, l4, (ax : Int), (ay : Int), az⟩ : River)]).getD s7 default).springs) ((([(⟨aa, ab, ac, l3, (ae : Int), (ag : Int), ah⟩ : River), (⟨ai, aj, ak, al, (am : Int), (ao + r8 : Int), aq⟩ : River), (⟨au, av, aw, l4, (ax : Int), (ay : Int), az⟩ : River)]).getD s7 default).towns) ((([(⟨aa, ab, ac, l3, (ae : Int), (ag : Int), ah⟩ : River), (⟨ai, aj, ak, al, (am : Int), (ao + r8 : Int), aq⟩ : River), (⟨au, av, aw, l4, (ax : Int), (ay : Int), az⟩ : River)]).getD s7 default).dlo) ((([(⟨aa, ab, ac, l3, (ae : Int), (ag : Int), ah⟩ : River), (⟨ai, aj, ak, al, (am : Int), (ao + r8 : Int), aq⟩ : River), (⟨au, av, aw, l4, (ax : Int), (ay : Int), az⟩ : River)]).getD s7 default).dhi) ((([(⟨aa, ab, ac, l3, (ae : Int), (ag : Int), ah⟩ : River), (⟨ai, aj, ak, al, (am : Int), (ao + r8 : Int), aq⟩ : River), (⟨au, av, aw, l4, (ax : Int), (ay : Int), az⟩ : River)]).getD s7 default).floods)) fun (aD, aB) =>
  bif ((((aA != 0) && ((aA != 6) || (aB != aA))) || (((aA == 0) && (aB != 0)) && (aB != 6))) || ((aB == 0) && (decide ((aD.length : Int) < (aC.length : Int))))) then (
  M.pure (.inr (.inl ())))
  else (
  M.pure (.inl (s7 + 1))))
  else (
  M.pure (.inr (.inr ())))
def zbI (r0 : List Int) (ak : List Span) (al : List Int) (r3 : List Town) (r4 : Int) (r5 : Int) (r6 : List Flood) (am : List Int) (ao : List Span) (aq : List Int) (au : Int) (av : Int) (aw : List Flood) (ax : List Int) (ay : List Span) (az : List Int) (aA : List Town) (aB : Int) (aC : Int) (aD : List Flood) (l3 : List Town) (r8 : Int) (ae : List Dem) : Nat -> M (Nat ⊕ (Unit ⊕ Unit)) := fun i2 =>
  bif decide ((i2 : Int) < (ae.length : Int)) then (
  M.grd (decide ((i2 : Int) < (ae.length : Int))) <|
  M.bind (zaq r0 ak al r3 r4 r5 r6 (ae.getD i2 default)) fun (aa, ag) =>
  M.bind (zaq am ao aq l3 au av aw (ae.getD i2 default)) fun (ab, ah) =>
  M.bind (zaq ax ay az aA aB (aC + r8) aD (ae.getD i2 default)) fun (ac, ai) =>
  M.grd ((!(!(((((ag != 0) || (ah != 0)) || (ai != 0)) || (decide ((aa.length : Int) < (ab.length : Int)))) || (decide ((aa.length : Int) < (ac.length : Int))))) || (decide ((0 : Int) <= (ab.length : Int)) && decide ((ab.length : Int) <= (aa.length : Int))))) <|
  M.bind (M.opt (!(((((ag != 0) || (ah != 0)) || (ai != 0)) || (decide ((aa.length : Int) < (ab.length : Int)))) || (decide ((aa.length : Int) < (ac.length : Int))))) (zae ab (aa.take (ab.length))) false) fun aj =>
  M.grd ((!(!((((((ag != 0) || (ah != 0)) || (ai != 0)) || (decide ((aa.length : Int) < (ab.length : Int)))) || (decide ((aa.length : Int) < (ac.length : Int)))) || (!aj))) || (decide ((0 : Int) <= (ac.length : Int)) && decide ((ac.length : Int) <= (aa.length : Int))))) <|
  M.bind (M.opt (!((((((ag != 0) || (ah != 0)) || (ai != 0)) || (decide ((aa.length : Int) < (ab.length : Int)))) || (decide ((aa.length : Int) < (ac.length : Int)))) || (!aj))) (zae ac (aa.take (ac.length))) false) fun aE =>
  bif (((((((ag != 0) || (ah != 0)) || (ai != 0)) || (decide ((aa.length : Int) < (ab.length : Int)))) || (decide ((aa.length : Int) < (ac.length : Int)))) || (!aj)) || (!aE)) then (
  M.pure (.inr (.inl ())))
  else (
  M.pure (.inl (i2 + 1))))
  else (
  M.pure (.inr (.inr ())))
def za2 (more : List UInt8) (r0 : List Int) : (Int × Int × Nat × (List Int) × (List Int)) -> M ((Int × Int × Nat × (List Int) × (List Int)) ⊕ ((List Int) × (List Int) × (List Int) × (List Int) × Int × Int)) := fun (s8, s9, aa, l5, l6) =>
  bif decide ((aa : Int) < (r0.length : Int)) then (
  M.bind (zac more s8 s9 3) fun (ae, ab, ac) =>
  bif ae == 0 then (
  M.grd (decide ((l5.length + ([(aa : Int)]).length) * 8 <= 140737488355328)) <|
  bif decide (ae < 2) then (
  M.grd (decide ((l6.length + ([(aa : Int)]).length) * 8 <= 140737488355328)) <|
  M.pure (.inl (ab, ac, aa + 1, l5 ++ ([(aa : Int)]), l6 ++ ([(aa : Int)]))))
  else (
  M.pure (.inl (ab, ac, aa + 1, l5 ++ ([(aa : Int)]), l6))))
  else (
  bif decide (ae < 2) then (
  M.grd (decide ((l6.length + ([(aa : Int)]).length) * 8 <= 140737488355328)) <|
  M.pure (.inl (ab, ac, aa + 1, l5, l6 ++ ([(aa : Int)]))))
  else (
  M.pure (.inl (ab, ac, aa + 1, l5, l6)))))
  else (
  M.pure (.inr (l5, l6, l6, l5, s8, s9)))
def zaF (aa : List Dem) (ab : List Dem) (i3 : Nat) : (Bool × Nat) -> M ((Bool × Nat) ⊕ Bool) := fun (met, k) =>
  bif decide ((k : Int) < (aa.length : Int)) then (
  M.grd ((!(!met) || (decide ((k : Int) < (aa.length : Int))))) <|
  M.grd ((!(!met) || (decide ((i3 : Int) < (ab.length : Int))))) <|
  M.pure (.inl ((met || (decide ((aa.getD k default) = (ab.getD i3 default)))), k + 1)))
  else (
  M.pure (.inr met))
def za4 (ab : List Dem) (aa : List Dem) : Nat -> M (Nat ⊕ (Unit ⊕ Unit)) := fun i3 =>
  bif decide ((i3 : Int) < (aa.length : Int)) then (
  M.bind (M.iter (zaF ab aa i3) (false, 0)) fun met2 =>
  bif !met2 then (
  M.pure (.inr (.inl ())))
  else (
  M.pure (.inl (i3 + 1))))
  else (
  M.pure (.inr (.inr ())))
def zaX (more : List UInt8) (r0 : List Int) (aa : List Span) (ab : List Int) (r3 : List Town) (r4 : Int) (r5 : Int) (r6 : List Flood) (q1 : Int) (q2 : Int) (ac : List Int) (ae : List Span) (ag : List Int) (ah : Int) (ai : Int) (aj : List Flood) (ak : List Int) (al : List Span) (am : List Int) (ao : List Town) (aq : Int) (au : Int) (av : List Flood) (aw : List Int) (ax : List Span) (ay : List Int) (az : Int) (aA : Int) (aB : List Flood) (l3 : List Town) (r8 : Int) (s5 : Int) (s6 : Int) (l4 : List Town) : M Bool :=
  M.bind (zam r0 aa ab r3 r4 r5 r6) fun (aC, aD) =>
  M.bind (M.iter (zbb ac ae ag ah ai aj ak al am ao aq au av aw ax ay az aA aB l3 r8 l4 aC aD) 0) fun x_ => match x_ with
  | (.inl (_ : Unit)) => (
  M.pure false)
  | (.inr (_ : Unit)) => (
  M.bind (zb0 r0 aa ab r3 r4 r5 r6) fun (aE, aF) =>
  bif aF != 0 then (
  M.pure false)
  else (
  M.bind (M.iter (zbI r0 aa ab r3 r4 r5 r6 ac ae ag ah ai aj ak al am ao aq au av l3 r8 aE) 0) fun x_ => match x_ with
  | (.inl (_ : Unit)) => (
  M.pure false)
  | (.inr (_ : Unit)) => (
  M.bind (M.iter (za2 more r0) (s5, s6, 0, [], [])) fun (l7, l8, l9, aG, aM, aN) =>
  M.bind (zbM r0 aa ab r3 r4 r5 r6 aG) fun (aH, aI) =>
  M.bind (zbM r0 aa ab r3 r4 r5 r6 l9) fun (aJ, aK) =>
  bif ((aI != 0) || (aK != 0)) then (
  M.pure false)
  else (
  M.bind (M.iter (za4 aH aJ) 0) fun x_ => match x_ with
  | (.inl (_ : Unit)) => (
  M.pure false)
  | (.inr (_ : Unit)) => (
  M.bind (zcA) fun aL =>
  M.pure aL)))))
def zcd (more : List UInt8) (r0 : List Int) (ab : List Span) (ac : List Int) (r3 : List Town) (r4 : Int) (r5 : Int) (r6 : List Flood) (q1 : Int) (q2 : Int) (ae : List Int) (ag : List Span) (ah : List Int) (ai : Int) (aj : Int) (ak : List Flood) (al : List Int) (am : List Span) (ao : List Int) (aq : List Town) (au : Int) (av : Int) (aw : List Flood) (ax : List Int) (ay : List Span) (az : List Int) (aa : List Town) (aA : Int) (aB : Int) (aC : List Flood) (l3 : List Town) (r8 : Int) (aD : Int) (aE : Int) : M Bool :=
  bif decide ((aa.length : Int) < 8) then (
  M.bind (zac more aD aE (r0.length : Int)) fun (r9, aG, aH) =>
  M.bind (zac more aG aH 6) fun (aF, aI, aJ) =>
  M.grd (decide ((aa.length + ([(⟨(r9 : Int), (aF : Int), (200 : Int)⟩ : Town)]).length) * 24 <= 140737488355328)) <|
  zaX more r0 ab ac r3 r4 r5 r6 q1 q2 ae ag ah ai aj ak al am ao aq au av aw ax ay az aA aB aC l3 r8 aI aJ (aa ++ ([(⟨(r9 : Int), (aF : Int), (200 : Int)⟩ : Town)])))
  else (
  zaX more r0 ab ac r3 r4 r5 r6 q1 q2 ae ag ah ai aj ak al am ao aq au av aw ax ay az aA aB aC l3 r8 aD aE aa)
def zco (numbers : List UInt8) (more : List UInt8) : M Bool :=
  M.bind (zci numbers) fun (r1, r2) =>
  M.bind (zck numbers r1 r2 12) fun (r0, aa, ab, r3, r4, r5, r6, q1, q2) =>
  M.bind (zci more) fun (ae, ag) =>
  M.bind (zaW r0 aa ab r3 r4 r5 r6) fun (ah, ai, aj, ak, al, am, ao) =>
  M.bind (zaW r0 aa ab r3 r4 r5 r6) fun (aq, au, av, aw, ax, ac, ay) =>
  M.bind (zaW r0 aa ab r3 r4 r5 r6) fun (az, aA, aB, aC, aD, aE, aF) =>
  M.bind (M.iter (zaY more) (ae, ag, ak, 0)) fun (s3, s4, l2, l3) =>
  M.bind (zac more s3 s4 4) fun (r8, aG, aH) =>
  M.grd (decide ((-9223372036854775808 : Int) <= (ac + r8)) && decide ((ac + r8) <= (9223372036854775807 : Int))) <|
  zcd more r0 aa ab r3 r4 r5 r6 q1 q2 ah ai aj al am ao aq au av aw ax ac ay az aA aB aC aD aE aF l3 r8 aG aH
theorem zdx {R : List Chunk} {d7 : Cells} {bp : Value} {d8 : Cells} {bh : Value} (numbers : List UInt8) (more : List UInt8) (d9 : Reads R d7) (ea : Sl d7 bp numbers) (cK : Reads R d8) (cL : Sl d8 bh more) {r : Bool} (hM : (zco numbers more).Ends r) (w : World) (H : St w w [] R) : Ret Try.prog 5 #[bp, bh] w fun v w' => ∃ (y0 : Bool), y0 = r /\ v = B y0 /\ St w w' [] R := by
 refine ret_of_W Try.func5 rfl rfl rfl ?_
 refine W.seq ?_
 refine W.region rfl ?_
 refine zA (B false) rfl ?_
 refine s_nil ?_
 refine W.seq ?_
 refine W.region rfl ?_
 refine zM bp rfl ?_
 obtain ⟨iw, eQ, hM⟩ := M.e_bind hM
 refine s_call cf9 [bp] rfl (zcN numbers (d9.app _) ea eQ _ (H.gt 0)) ?_
 rintro vq iy ⟨r1, r2, bA, eR, hvq, au⟩
 subst eR
 subst vq
 try dsimp only at hM
 replace H := H.bk au
 clear au
 obtain ⟨iz, eS, hM⟩ := M.e_bind hM
 refine s_call cf8 [Pq bA, I 12] rfl (zdK numbers r1 r2 12 (d9.app _) ea eS _ (H.gt 0)) ?_
 rintro vq iA ⟨r0, aV, aW, r3, r4, r5, r6, q1, q2, ae, ag, ah, ai, aj, bi, bj, eT, hvq, au, cn⟩
 subst eT
 subst vq
 try dsimp only at hM
 replace H := H.bk au
 clear au
 refine t_alloc (cs := [.slice none 0 0, .slice none 0 0, .slice none 0 0, .slice none 0 0, I 0, I 0, .slice none 0 0]) H Al30 rfl ?_
 intro aC iB H
 refine t_sw 0 0 [ae, ag, ah, ai, I r4, I r5, aj] (.agg #[ae, ag, ah, ai, I r4, I r5, aj]) H rfl rfl Sz30 rfl rfl rfl (by simp only [List.all_cons, List.all_nil, Bool.true_and, Bool.and_true, Sl.oc (H.os 1), Sl.oc (H.os 2), Sl.oc (H.os 3), Sl.oc (H.os 4), Sl.oc (rowSl rfl (H.get (k := 5) rfl) (roLe _ (H.get (k := 6) rfl)) cn)]; try rfl) ?_
 intro iC H
 refine s_nil ?_
 refine W.seq ?_
 refine W.region rfl ?_
 refine zM bh rfl ?_
 obtain ⟨iD, eU, hM⟩ := M.e_bind hM
 refine s_call cf9 [bh] rfl (zcN more (cK.app _) cL eU _ (H.gt 8)) ?_
 rintro vq iE ⟨bQ, bR, aM, eV, hvq, au⟩
 subst eV
 subst vq
 try dsimp only at hM
 replace H := H.bk au
 clear au
 refine zA (Pq aM) rfl ?_
 refine s_nil ?_
 refine W.seq ?_
 refine W.drawA (fun W => St w W [cBlk aM [bh, I bQ, I bR] 71, cBlk aC [ae, ag, ah, ai, I r4, I r5, aj] 30, cOwn (α := Int) 3 ae r0, cOwn (α := Span) 27 ag aV, cOwn (α := Int) 3 ah aW, cOwn (α := Town) 54 ai r3, cOwn (α := Raw 1) 67 aj bi, cRo bj, cBlk bA [bp, I q1, I q2] 71] R) [(0, true), (2, true), (4, true), (1, false), (3, false), (5, false)] [(6, 7, 30, [.slice none 0 0, .slice none 0 0, .slice none 0 0, .slice none 0 0, I 0, I 0, .slice none 0 0]), (7, 8, 30, [.slice none 0 0, .slice none 0 0, .slice none 0 0, .slice none 0 0, I 0, I 0, .slice none 0 0]), (8, 9, 30, [.slice none 0 0, .slice none 0 0, .slice none 0 0, .slice none 0 0, I 0, I 0, .slice none 0 0])] (.l 9 (.l 10 (.l 11 .nil))) 3 mixed (by decide +kernel) rfl (by intro x hx; simp only [List.mem_cons, List.not_mem_nil, or_false] at hx; rcases hx with rfl | rfl | rfl <;> first | exact ⟨_, _, _, rfl, _, Al30, rfl⟩) (by decide) (by decide) H ?_
 refine sa_q (fun bF w_ H => (St.pick H [0, 1, 2, 3, 4, 5, 6, 7, 8] (by decide) rfl)) rfl rfl (fun g_ w' H => x_ld (p := Pq aC) (v := .agg #[ae, ag, ah, ai, I r4, I r5, aj]) rfl (ldb_ag (ds := [ae, ag, ah, ai, I r4, I r5, aj]) Ag30 Sz30 (H.bl 1) rfl rfl)) ?_
 refine sa_q (fun bF w_ H => (St.pick H [0, 1, 2, 3, 4, 5, 6, 7, 8] (by decide) rfl)) rfl rfl (fun g_ w' H => x_ld (p := Pq aC) (v := .agg #[ae, ag, ah, ai, I r4, I r5, aj]) rfl (ldb_ag (ds := [ae, ag, ah, ai, I r4, I r5, aj]) Ag30 Sz30 (H.bl 1) rfl rfl)) ?_
 refine sa_q (fun bF w_ H => (St.pick H [0, 1, 2, 3, 4, 5, 6, 7, 8] (by decide) rfl)) rfl rfl (fun g_ w' H => x_ld (p := Pq aC) (v := .agg #[ae, ag, ah, ai, I r4, I r5, aj]) rfl (ldb_ag (ds := [ae, ag, ah, ai, I r4, I r5, aj]) Ag30 Sz30 (H.bl 1) rfl rfl)) ?_
 refine sa_l (fun bF w_ H => (St.pick H [0, 1, 2, 3, 4, 5, 6, 7, 8] (by decide) rfl)) rfl ?_
 intro g_ bF eW H
 replace H : St w eW (cBlk aM [bh, I bQ, I bR] 71 :: cBlk aC [ae, ag, ah, ai, I r4, I r5, aj] 30 :: cOwn (α := Int) 3 ae r0 :: cOwn (α := Span) 27 ag aV :: cOwn (α := Int) 3 ah aW :: cOwn (α := Town) 54 ai r3 :: cOwn (α := Raw 1) 67 aj bi :: cRo bj :: cBlk bA [bp, I q1, I q2] 71 :: bF) R := H
 obtain ⟨iF, eX, hM⟩ := M.e_bind hM
 refine s_call cf21 [.agg #[ae, ag, ah, ai, I r4, I r5, aj]] rfl (zcp r0 aV aW r3 r4 r5 r6 (rdo 2) (H.os 2) (rdo 3) (H.os 3) (rdo 4) (H.os 4) (rdo 5) (H.os 5) (Reads.sup (rdo 6) (Reads.of (k := 7) rfl roLe)) (rowSl rfl (H.get (k := 6) rfl) (roLe _ (H.get (k := 7) rfl)) cn) eX _ (St.give (T := (cBlk aM [bh, I bQ, I bR] 71 :: cBlk aC [ae, ag, ah, ai, I r4, I r5, aj] 30 :: cOwn (α := Int) 3 ae r0 :: cOwn (α := Span) 27 ag aV :: cOwn (α := Int) 3 ah aW :: cOwn (α := Town) 54 ai r3 :: cOwn (α := Raw 1) 67 aj bi :: cRo bj :: cBlk bA [bp, I q1, I q2] 71 :: bF)) H rfl)) ?_
 rintro vq eY ⟨ay, az, aA, b7, av, aw, a8, aQ, aR, aS, bV, aT, bG, bH, eZ, hvq, au, eb⟩
 subst eZ
 subst vq
 try dsimp only at hM
 replace H : St w eY (cOwn (α := Int) 3 aQ ay :: cOwn (α := Span) 27 aR az :: cOwn (α := Int) 3 aS aA :: cOwn (α := Town) 54 bV b7 :: cOwn (α := Raw 1) 67 aT bG :: cRo bH :: cBlk aM [bh, I bQ, I bR] 71 :: cBlk aC [ae, ag, ah, ai, I r4, I r5, aj] 30 :: cOwn (α := Int) 3 ae r0 :: cOwn (α := Span) 27 ag aV :: cOwn (α := Int) 3 ah aW :: cOwn (α := Town) 54 ai r3 :: cOwn (α := Raw 1) 67 aj bi :: cRo bj :: cBlk bA [bp, I q1, I q2] 71 :: bF) R := H.back au rfl
 clear au
 have iG := Sl.cells (H.os 0)
 have iH := Sl.oc (H.os 0)
 have iI := Sl.cells (H.os 1)
 have iJ := Sl.oc (H.os 1)
 have iK := Sl.cells (H.os 2)
 have iL := Sl.oc (H.os 2)
 have iM := Sl.cells (H.os 3)
 have iN := Sl.oc (H.os 3)
 have iO := Sl.cells (H.os 4)
 have iP := Sl.oc (H.os 4)
 refine s_nil ⟨(St.pick H [6, 7, 8, 9, 10, 11, 12, 13, 14] (by decide) rfl), _, [cOwn (α := Int) 3 aQ ay, cOwn (α := Span) 27 aR az, cOwn (α := Int) 3 aS aA, cOwn (α := Town) 54 bV b7, cOwn (α := Raw 1) 67 aT bG, cRo bH, cBlk aM [bh, I bQ, I bR] 71, cBlk aC [ae, ag, ah, ai, I r4, I r5, aj] 30, cOwn (α := Int) 3 ae r0, cOwn (α := Span) 27 ag aV, cOwn (α := Int) 3 ah aW, cOwn (α := Town) 54 ai r3, cOwn (α := Raw 1) 67 aj bi, cRo bj, cBlk bA [bp, I q1, I q2] 71], mix_upd rfl, H, ?_⟩
 refine sa_l (fun bF w_ H => (St.pick H [6, 7, 8, 9, 10, 11, 12, 13, 14] (by decide) rfl)) rfl ?_
 intro g_ bF e7 H
 replace H : St w e7 (cOwn (α := Int) 3 aQ ay :: cOwn (α := Span) 27 aR az :: cOwn (α := Int) 3 aS aA :: cOwn (α := Town) 54 bV b7 :: cOwn (α := Raw 1) 67 aT bG :: cRo bH :: cBlk aM [bh, I bQ, I bR] 71 :: cBlk aC [ae, ag, ah, ai, I r4, I r5, aj] 30 :: cOwn (α := Int) 3 ae r0 :: cOwn (α := Span) 27 ag aV :: cOwn (α := Int) 3 ah aW :: cOwn (α := Town) 54 ai r3 :: cOwn (α := Raw 1) 67 aj bi :: cRo bj :: cBlk bA [bp, I q1, I q2] 71 :: bF) R := H
 obtain ⟨iQ, e9, hM⟩ := M.e_bind hM
 refine s_call cf21 [.agg #[ae, ag, ah, ai, I r4, I r5, aj]] rfl (zcp r0 aV aW r3 r4 r5 r6 (rdo 8) (H.os 8) (rdo 9) (H.os 9) (rdo 10) (H.os 10) (rdo 11) (H.os 11) (Reads.sup (rdo 12) (Reads.of (k := 13) rfl roLe)) (rowSl rfl (H.get (k := 12) rfl) (roLe _ (H.get (k := 13) rfl)) cn) e9 _ (St.give (T := (cOwn (α := Int) 3 aQ ay :: cOwn (α := Span) 27 aR az :: cOwn (α := Int) 3 aS aA :: cOwn (α := Town) 54 bV b7 :: cOwn (α := Raw 1) 67 aT bG :: cRo bH :: cBlk aM [bh, I bQ, I bR] 71 :: cBlk aC [ae, ag, ah, ai, I r4, I r5, aj] 30 :: cOwn (α := Int) 3 ae r0 :: cOwn (α := Span) 27 ag aV :: cOwn (α := Int) 3 ah aW :: cOwn (α := Town) 54 ai r3 :: cOwn (α := Raw 1) 67 aj bi :: cRo bj :: cBlk bA [bp, I q1, I q2] 71 :: bF)) H rfl)) ?_
 rintro vq fa ⟨aD, aE, aF, aG, ax, ao, ba, aX, aY, aZ, a6, a7, bW, bX, fb, hvq, au, ec⟩
 subst fb
 subst vq
 try dsimp only at hM
 replace H : St w fa (cOwn (α := Int) 3 aX aD :: cOwn (α := Span) 27 aY aE :: cOwn (α := Int) 3 aZ aF :: cOwn (α := Town) 54 a6 aG :: cOwn (α := Raw 1) 67 a7 bW :: cRo bX :: cOwn (α := Int) 3 aQ ay :: cOwn (α := Span) 27 aR az :: cOwn (α := Int) 3 aS aA :: cOwn (α := Town) 54 bV b7 :: cOwn (α := Raw 1) 67 aT bG :: cRo bH :: cBlk aM [bh, I bQ, I bR] 71 :: cBlk aC [ae, ag, ah, ai, I r4, I r5, aj] 30 :: cOwn (α := Int) 3 ae r0 :: cOwn (α := Span) 27 ag aV :: cOwn (α := Int) 3 ah aW :: cOwn (α := Town) 54 ai r3 :: cOwn (α := Raw 1) 67 aj bi :: cRo bj :: cBlk bA [bp, I q1, I q2] 71 :: bF) R := H.back au rfl
 clear au
 have iR := Sl.cells (H.os 0)
 have iS := Sl.oc (H.os 0)
 have iT := Sl.cells (H.os 1)
 have iU := Sl.oc (H.os 1)
 have iV := Sl.cells (H.os 2)
 have iW := Sl.oc (H.os 2)
 have iX := Sl.cells (H.os 3)
 have iY := Sl.oc (H.os 3)
 have iZ := Sl.cells (H.os 4)
 have i5 := Sl.oc (H.os 4)
 refine s_nil ⟨(St.pick H [12, 13, 14, 15, 16, 17, 18, 19, 20] (by decide) rfl), _, [cOwn (α := Int) 3 aX aD, cOwn (α := Span) 27 aY aE, cOwn (α := Int) 3 aZ aF, cOwn (α := Town) 54 a6 aG, cOwn (α := Raw 1) 67 a7 bW, cRo bX, cOwn (α := Int) 3 aQ ay, cOwn (α := Span) 27 aR az, cOwn (α := Int) 3 aS aA, cOwn (α := Town) 54 bV b7, cOwn (α := Raw 1) 67 aT bG, cRo bH, cBlk aM [bh, I bQ, I bR] 71, cBlk aC [ae, ag, ah, ai, I r4, I r5, aj] 30, cOwn (α := Int) 3 ae r0, cOwn (α := Span) 27 ag aV, cOwn (α := Int) 3 ah aW, cOwn (α := Town) 54 ai r3, cOwn (α := Raw 1) 67 aj bi, cRo bj, cBlk bA [bp, I q1, I q2] 71], mix_upd rfl, H, ?_⟩
 refine sa_l (fun bF w_ H => (St.pick H [12, 13, 14, 15, 16, 17, 18, 19, 20] (by decide) rfl)) rfl ?_
 intro g_ bF fd H
 replace H : St w fd (cOwn (α := Int) 3 aX aD :: cOwn (α := Span) 27 aY aE :: cOwn (α := Int) 3 aZ aF :: cOwn (α := Town) 54 a6 aG :: cOwn (α := Raw 1) 67 a7 bW :: cRo bX :: cOwn (α := Int) 3 aQ ay :: cOwn (α := Span) 27 aR az :: cOwn (α := Int) 3 aS aA :: cOwn (α := Town) 54 bV b7 :: cOwn (α := Raw 1) 67 aT bG :: cRo bH :: cBlk aM [bh, I bQ, I bR] 71 :: cBlk aC [ae, ag, ah, ai, I r4, I r5, aj] 30 :: cOwn (α := Int) 3 ae r0 :: cOwn (α := Span) 27 ag aV :: cOwn (α := Int) 3 ah aW :: cOwn (α := Town) 54 ai r3 :: cOwn (α := Raw 1) 67 aj bi :: cRo bj :: cBlk bA [bp, I q1, I q2] 71 :: bF) R := H
 obtain ⟨i6, fe, hM⟩ := M.e_bind hM
 refine s_call cf21 [.agg #[ae, ag, ah, ai, I r4, I r5, aj]] rfl (zcp r0 aV aW r3 r4 r5 r6 (rdo 14) (H.os 14) (rdo 15) (H.os 15) (rdo 16) (H.os 16) (rdo 17) (H.os 17) (Reads.sup (rdo 18) (Reads.of (k := 19) rfl roLe)) (rowSl rfl (H.get (k := 18) rfl) (roLe _ (H.get (k := 19) rfl)) cn) fe _ (St.give (T := (cOwn (α := Int) 3 aX aD :: cOwn (α := Span) 27 aY aE :: cOwn (α := Int) 3 aZ aF :: cOwn (α := Town) 54 a6 aG :: cOwn (α := Raw 1) 67 a7 bW :: cRo bX :: cOwn (α := Int) 3 aQ ay :: cOwn (α := Span) 27 aR az :: cOwn (α := Int) 3 aS aA :: cOwn (α := Town) 54 bV b7 :: cOwn (α := Raw 1) 67 aT bG :: cRo bH :: cBlk aM [bh, I bQ, I bR] 71 :: cBlk aC [ae, ag, ah, ai, I r4, I r5, aj] 30 :: cOwn (α := Int) 3 ae r0 :: cOwn (α := Span) 27 ag aV :: cOwn (α := Int) 3 ah aW :: cOwn (α := Town) 54 ai r3 :: cOwn (α := Raw 1) 67 aj bi :: cRo bj :: cBlk bA [bp, I q1, I q2] 71 :: bF)) H rfl)) ?_
 rintro vq fg ⟨aN, aO, aP, bO, aJ, aK, bb, bq, br, bt, bE, bu, cf, cg, fh, hvq, au, ed⟩
 subst fh
 subst vq
 try dsimp only at hM
 replace H : St w fg (cOwn (α := Int) 3 bq aN :: cOwn (α := Span) 27 br aO :: cOwn (α := Int) 3 bt aP :: cOwn (α := Town) 54 bE bO :: cOwn (α := Raw 1) 67 bu cf :: cRo cg :: cOwn (α := Int) 3 aX aD :: cOwn (α := Span) 27 aY aE :: cOwn (α := Int) 3 aZ aF :: cOwn (α := Town) 54 a6 aG :: cOwn (α := Raw 1) 67 a7 bW :: cRo bX :: cOwn (α := Int) 3 aQ ay :: cOwn (α := Span) 27 aR az :: cOwn (α := Int) 3 aS aA :: cOwn (α := Town) 54 bV b7 :: cOwn (α := Raw 1) 67 aT bG :: cRo bH :: cBlk aM [bh, I bQ, I bR] 71 :: cBlk aC [ae, ag, ah, ai, I r4, I r5, aj] 30 :: cOwn (α := Int) 3 ae r0 :: cOwn (α := Span) 27 ag aV :: cOwn (α := Int) 3 ah aW :: cOwn (α := Town) 54 ai r3 :: cOwn (α := Raw 1) 67 aj bi :: cRo bj :: cBlk bA [bp, I q1, I q2] 71 :: bF) R := H.back au rfl
 clear au
 have i7 := Sl.cells (H.os 0)
 have i8 := Sl.oc (H.os 0)
 have i9 := Sl.cells (H.os 1)
 have ja := Sl.oc (H.os 1)
 have jb := Sl.cells (H.os 2)
 have jc := Sl.oc (H.os 2)
 have jd := Sl.cells (H.os 3)
 have je := Sl.oc (H.os 3)
 have jf := Sl.cells (H.os 4)
 have jg := Sl.oc (H.os 4)
 refine s_nil ⟨(St.pick H [18, 19, 20, 21, 22, 23, 24, 25, 26] (by decide) rfl), _, [cOwn (α := Int) 3 bq aN, cOwn (α := Span) 27 br aO, cOwn (α := Int) 3 bt aP, cOwn (α := Town) 54 bE bO, cOwn (α := Raw 1) 67 bu cf, cRo cg, cOwn (α := Int) 3 aX aD, cOwn (α := Span) 27 aY aE, cOwn (α := Int) 3 aZ aF, cOwn (α := Town) 54 a6 aG, cOwn (α := Raw 1) 67 a7 bW, cRo bX, cOwn (α := Int) 3 aQ ay, cOwn (α := Span) 27 aR az, cOwn (α := Int) 3 aS aA, cOwn (α := Town) 54 bV b7, cOwn (α := Raw 1) 67 aT bG, cRo bH, cBlk aM [bh, I bQ, I bR] 71, cBlk aC [ae, ag, ah, ai, I r4, I r5, aj] 30, cOwn (α := Int) 3 ae r0, cOwn (α := Span) 27 ag aV, cOwn (α := Int) 3 ah aW, cOwn (α := Town) 54 ai r3, cOwn (α := Raw 1) 67 aj bi, cRo bj, cBlk bA [bp, I q1, I q2] 71], mix_upd rfl, H, ?_⟩
 refine sa_nil (fun bF w_ H => (St.pick H [18, 19, 20, 21, 22, 23, 24, 25, 26] (by decide) rfl)) ?_
 intro bn bf bC fi H
 replace H : St w fi [cOwn (α := Int) 3 bq aN, cOwn (α := Span) 27 br aO, cOwn (α := Int) 3 bt aP, cOwn (α := Town) 54 bE bO, cOwn (α := Raw 1) 67 bu cf, cRo cg, cOwn (α := Int) 3 aX aD, cOwn (α := Span) 27 aY aE, cOwn (α := Int) 3 aZ aF, cOwn (α := Town) 54 a6 aG, cOwn (α := Raw 1) 67 a7 bW, cRo bX, cOwn (α := Int) 3 aQ ay, cOwn (α := Span) 27 aR az, cOwn (α := Int) 3 aS aA, cOwn (α := Town) 54 bV b7, cOwn (α := Raw 1) 67 aT bG, cRo bH, cBlk aM [bh, I bQ, I bR] 71, cBlk aC [ae, ag, ah, ai, I r4, I r5, aj] 30, cOwn (α := Int) 3 ae r0, cOwn (α := Span) 27 ag aV, cOwn (α := Int) 3 ah aW, cOwn (α := Town) 54 ai r3, cOwn (α := Raw 1) 67 aj bi, cRo bj, cBlk bA [bp, I q1, I q2] 71, cBlk bn [.slice none 0 0, .slice none 0 0, .slice none 0 0, .slice none 0 0, I 0, I 0, .slice none 0 0] 30, cBlk bf [.slice none 0 0, .slice none 0 0, .slice none 0 0, .slice none 0 0, I 0, I 0, .slice none 0 0] 30, cBlk bC [.slice none 0 0, .slice none 0 0, .slice none 0 0, .slice none 0 0, I 0, I 0, .slice none 0 0] 30] R := (H)
 refine t_l rfl ?_
 refine t_sw 27 0 [aQ, aR, aS, bV, I av, I aw, aT] (.agg #[aQ, aR, aS, bV, I av, I aw, aT]) H rfl rfl Sz30 rfl rfl rfl (by simp only [List.all_cons, List.all_nil, Bool.true_and, Bool.and_true, Sl.oc (H.os 12), Sl.oc (H.os 13), Sl.oc (H.os 14), Sl.oc (H.os 15), Sl.oc (rowSl rfl (H.get (k := 16) rfl) (roLe _ (H.get (k := 17) rfl)) eb)]; try rfl) ?_
 intro jh H
 refine s_nil ⟨(St.pick H [18, 19, 20, 21, 22, 23, 24, 25, 26] (by decide) rfl), ?_⟩
 refine t_l rfl ?_
 refine t_sw 28 0 [aX, aY, aZ, a6, I ax, I ao, a7] (.agg #[aX, aY, aZ, a6, I ax, I ao, a7]) H rfl rfl Sz30 rfl rfl rfl (by simp only [List.all_cons, List.all_nil, Bool.true_and, Bool.and_true, Sl.oc (H.os 6), Sl.oc (H.os 7), Sl.oc (H.os 8), Sl.oc (H.os 9), Sl.oc (rowSl rfl (H.get (k := 10) rfl) (roLe _ (H.get (k := 11) rfl)) ec)]; try rfl) ?_
 intro ji H
 refine s_nil ⟨(St.pick H [18, 19, 20, 21, 22, 23, 24, 25, 26] (by decide) rfl), ?_⟩
 refine t_l rfl ?_
 refine t_sw 29 0 [bq, br, bt, bE, I aJ, I aK, bu] (.agg #[bq, br, bt, bE, I aJ, I aK, bu]) H rfl rfl Sz30 rfl rfl rfl (by simp only [List.all_cons, List.all_nil, Bool.true_and, Bool.and_true, Sl.oc (H.os 0), Sl.oc (H.os 1), Sl.oc (H.os 2), Sl.oc (H.os 3), Sl.oc (rowSl rfl (H.get (k := 4) rfl) (roLe _ (H.get (k := 5) rfl)) ed)]; try rfl) ?_
 intro jj H
 refine s_nil ⟨(St.pick H [18, 19, 20, 21, 22, 23, 24, 25, 26] (by decide) rfl), ?_⟩
 refine t_nil ?_
 refine W.seq ?_
 refine W.seq ?_
 refine W.region rfl ?_
 refine zA (I 0) rfl ?_
 refine s_nil ?_
 refine W.block ?_
 obtain ⟨fj, dK, fk⟩ := M.e_bind hM
 obtain ⟨c8, dK⟩ := M.e_iter dK
 refine W.loop (fun m σ W => ∃ (s : Int) (s2 : Int) (l : List Town) (i : Nat) (aU : Value) (ρ : Env), σ = upds ρ [(5, Pq aC), (6, Pq aM), (7, Pq bn), (8, Pq bf), (9, Pq bC), (10, I (i : Int))] /\ M.iterN (zaY more) m (s, s2, l, i) = some fj /\ St w W [cOwn (α := Int) 3 bq aN, cOwn (α := Span) 27 br aO, cOwn (α := Int) 3 bt aP, cOwn (α := Town) 54 bE bO, cOwn (α := Raw 1) 67 bu cf, cRo cg, cOwn (α := Int) 3 aX aD, cOwn (α := Span) 27 aY aE, cOwn (α := Int) 3 aZ aF, cOwn (α := Town) 54 a6 aG, cOwn (α := Raw 1) 67 a7 bW, cRo bX, cOwn (α := Int) 3 aQ ay, cOwn (α := Span) 27 aR az, cOwn (α := Int) 3 aS aA, cOwn (α := Town) 54 aU l, cOwn (α := Raw 1) 67 aT bG, cRo bH, cBlk aM [bh, I s, I s2] 71, cBlk aC [ae, ag, ah, ai, I r4, I r5, aj] 30, cOwn (α := Int) 3 ae r0, cOwn (α := Span) 27 ag aV, cOwn (α := Int) 3 ah aW, cOwn (α := Town) 54 ai r3, cOwn (α := Raw 1) 67 aj bi, cRo bj, cBlk bA [bp, I q1, I q2] 71, cBlk bn [aQ, aR, aS, aU, I av, I aw, aT] 30, cBlk bf [aX, aY, aZ, a6, I ax, I ao, a7] 30, cBlk bC [bq, br, bt, bE, I aJ, I aK, bu] 30] R) ?_ ?_
 ·exact ⟨_, bQ, bR, b7, 0, bV, _, upds_of _ _ ⟨rfl, rfl, rfl, rfl, rfl, rfl, trivial⟩, dK, H⟩
 rintro jk σ jl ⟨s, s2, l, i, aU, ρ, rfl, ee, H⟩
 obtain ⟨fm, fo, jm, hM, ef⟩ := M.e_iterN ee
 simp only [zaY] at hM
 clear ee
 refine W.seq ?_
 refine W.seq ?_
 refine W.region rfl ?_
 refine zM (I (i : Int)) rfl ?_
 refine s_val (x_fa (a := Pq bn) (v := Oq bn 3) rfl (fa_blk (o := 0) Fd30_3 Sz25)) ?_
 refine s_val (x_ld (p := Oq bn 3) (v := aU) rfl (ldb_sc Sc25 (H.bl 27) rfl)) ?_
 have jn := ((H.os 15)).len_le
 refine s_val (x_lenS T25.und rfl (H.os 15)) ?_
 refine zC (i : Int) (l.length : Int) (decide ((i : Int) < (l.length : Int))) rfl rfl rfl ?_
 refine s_nil ?_
 refine W.cond (decide ((i : Int) < (l.length : Int))) rfl (fun c9 => ?_) (fun c9 => ?_)
 ·replace hM := M.e_t hM c9
  simp only [qy1, qy2, qy3, qy4, qy5, qy6, ne_eq, qy7] at c9
  refine W.skip ?_
  refine W.seq ?_
  refine W.block ?_
  refine W.drawTZ (fun W => St w W [cOwn (α := Int) 3 bq aN, cOwn (α := Span) 27 br aO, cOwn (α := Int) 3 bt aP, cOwn (α := Town) 54 bE bO, cOwn (α := Raw 1) 67 bu cf, cRo cg, cOwn (α := Int) 3 aX aD, cOwn (α := Span) 27 aY aE, cOwn (α := Int) 3 aZ aF, cOwn (α := Town) 54 a6 aG, cOwn (α := Raw 1) 67 a7 bW, cRo bX, cOwn (α := Int) 3 aQ ay, cOwn (α := Span) 27 aR az, cOwn (α := Int) 3 aS aA, cOwn (α := Town) 54 aU l, cOwn (α := Raw 1) 67 aT bG, cRo bH, cBlk aC [ae, ag, ah, ai, I r4, I r5, aj] 30, cOwn (α := Int) 3 ae r0, cOwn (α := Span) 27 ag aV, cOwn (α := Int) 3 ah aW, cOwn (α := Town) 54 ai r3, cOwn (α := Raw 1) 67 aj bi, cRo bj, cBlk bA [bp, I q1, I q2] 71, cBlk bn [aQ, aR, aS, aU, I av, I aw, aT] 30, cBlk bf [aX, aY, aZ, a6, I ax, I ao, a7] 30, cBlk bC [bq, br, bt, bE, I aJ, I aK, bu] 30] R) (.q 0 (.q 1 (.q 2 (.q 3 (.q 4 (.q 5 (.q 6 (.l 7 (.q 8 (.l 9 (.l 10 .nil))))))))))) 11 11 mixed (by decide +kernel) rfl ?_
  intro jo aL
  replace H := H.ext aL
  clear aL
  refine ⟨(H.er 18), ?_⟩
  refine tz_q rfl (fun w' H => x_fa (a := Pq bn) (v := Oq bn 3) rfl (fa_blk (o := 0) Fd30_3 Sz25)) ?_
  refine tz_q rfl (fun w' H => x_ld (p := Oq bn 3) (v := aU) rfl (ldb_sc Sc25 (H.bl 26) rfl)) ?_
  refine tz_q rfl (fun w' H => x_mv (v := I (i : Int)) rfl) ?_
  obtain ⟨fp, hM⟩ := M.e_grd hM
  simp only [Bool.and_eq_true, decide_eq_true_eq] at fp
  refine tz_q rfl (fun w' H => x_ix (a := aU) (b := I (i : Int)) (v := vat aU 3 (Int.toNat (i : Int))) rfl rfl (Sl.ix (α := Town) T25.und T25.size (H.os 15) (by omega) (by omega))) ?_
  refine tz_q rfl (fun w' H => x_fa (a := vat aU 3 (Int.toNat (i : Int))) (v := fat (vat aU 3 (Int.toNat (i : Int))) 1) rfl (fa_pl Fd54_1 Sz3 (Sl.pl (i := (i : Int)) (H.os 15) (by omega) (by omega)))) ?_
  refine tz_q rfl (fun w' H => x_ld (p := fat (vat aU 3 (Int.toNat (i : Int))) 1) (v := I ((l.getD i default).lead)) rfl (ld_sc Sc3 (At.mono (Town_at1 (H.os 15) (i := (i : Int)) (by omega) (by omega)) (H.ol 15)))) ?_
  refine tz_q rfl (fun w' H => x_mv (v := Pq aM) rfl) ?_
  refine tz_l rfl ?_
  obtain ⟨jp, fq, hM⟩ := M.e_bind hM
  refine s_call cf10 [Pq aM, I 4] rfl (zab more s s2 4 (cK.app _) cL fq _ ((H.mv 18).gt 29)) ?_
  rintro vq jq ⟨r7, eg, eh, fu, hvq, au⟩
  subst fu
  subst vq
  try dsimp only at hM
  replace H := H.mv 18 |>.bk au
  clear au
  refine s_nil ⟨(H.dp 1), ?_⟩
  obtain ⟨fv, hM⟩ := M.e_grd hM
  simp only [Bool.and_eq_true, decide_eq_true_eq] at fv
  refine tz_q rfl (fun w' H => x_ari (a := (l.getD i default).lead) (b := r7) (r := ((l.getD i default).lead) + r7) rfl rfl rfl (by omega)) ?_
  refine tz_l rfl ?_
  refine s_val (x_ix (a := aU) (b := I (i : Int)) (v := vat aU 3 (Int.toNat (i : Int))) rfl rfl (Sl.ix (α := Town) T25.und T25.size (H.os 16) (by omega) (by omega))) ?_
  refine s_nil ⟨(H.dp 1), ?_⟩
  refine tz_l rfl ?_
  refine s_val (x_fa (a := vat aU 3 (Int.toNat (i : Int))) (v := fat (vat aU 3 (Int.toNat (i : Int))) 1) rfl (fa_pl Fd54_1 Sz3 (Sl.pl (i := (i : Int)) (H.os 16) (by omega) (by omega)))) ?_
  refine s_nil ⟨(H.dp 1), ?_⟩
  refine tz_nil rfl ?_
  refine t_fst (α := Town) (k := 16) (i := (i : Int)) (off := 1) (l := l) (l' := l.set i ({ (l.getD i default) with lead := ((l.getD i default).lead) + r7 })) (val := I (((l.getD i default).lead) + r7)) (L' := [cBlk aM [bh, I eg, I eh] 71, cOwn (α := Int) 3 bq aN, cOwn (α := Span) 27 br aO, cOwn (α := Int) 3 bt aP, cOwn (α := Town) 54 bE bO, cOwn (α := Raw 1) 67 bu cf, cRo cg, cOwn (α := Int) 3 aX aD, cOwn (α := Span) 27 aY aE, cOwn (α := Int) 3 aZ aF, cOwn (α := Town) 54 a6 aG, cOwn (α := Raw 1) 67 a7 bW, cRo bX, cOwn (α := Int) 3 aQ ay, cOwn (α := Span) 27 aR az, cOwn (α := Int) 3 aS aA, cOwn (α := Town) 54 aU (l.set i ({ (l.getD i default) with lead := ((l.getD i default).lead) + r7 })), cOwn (α := Raw 1) 67 aT bG, cRo bH, cBlk aC [ae, ag, ah, ai, I r4, I r5, aj] 30, cOwn (α := Int) 3 ae r0, cOwn (α := Span) 27 ag aV, cOwn (α := Int) 3 ah aW, cOwn (α := Town) 54 ai r3, cOwn (α := Raw 1) 67 aj bi, cRo bj, cBlk bA [bp, I q1, I q2] 71, cBlk bn [aQ, aR, aS, aU, I av, I aw, aT] 30, cBlk bf [aX, aY, aZ, a6, I ax, I ao, a7] 30, cBlk bC [bq, br, bt, bE, I aJ, I aK, bu] 30]) H rfl Sz3 (by omega) (by omega) (l.getD i default) ({ (l.getD i default) with lead := ((l.getD i default).lead) + r7 }) (getD_some _ (by omega) _) rfl rfl [I (((l.getD i default).lead) + r7)] rfl rfl rfl rfl rfl rfl rfl ?_
  intro jr H
  have js : (l.set i ({ (l.getD i default) with lead := ((l.getD i default).lead) + r7 })).length = (l).length := List.length_set
  refine s_nil ⟨trivial, ?_⟩
  refine W.region rfl ?_
  refine zM (I (i : Int)) rfl ?_
  refine zR (i : Int) 1 ((i : Int) + 1) rfl rfl rfl (by omega) ?_
  refine zA (I ((i : Int) + 1)) rfl ?_
  refine s_nil ?_
  exact ⟨fm, fo, eg, eh, l.set i ({ (l.getD i default) with lead := ((l.getD i default).lead) + r7 }), i + 1, aU, _, upds_of _ _ ⟨rfl, rfl, rfl, rfl, rfl, rfl, trivial⟩, M.e_inl hM ef, (H.pick [1, 2, 3, 4, 5, 6, 7, 8, 9, 10, 11, 12, 13, 14, 15, 16, 17, 18, 0, 19, 20, 21, 22, 23, 24, 25, 26, 27, 28, 29] (by decide) rfl)⟩
 replace hM := M.e_f hM c9
 simp only [qy1, qy2, qy3, qy4, qy5, qy6, ne_eq, qy7] at c9
 refine W.exit ?_
 have fw := M.e_inr hM ef
 subst fw
 replace hM := fk
 try dsimp only at hM
 refine W.seqJ (fun σ W => ∃ (r8 : Int) (cA : Int) (cB : Int) (ρ : Env), σ = upds ρ [(5, Pq aC), (6, Pq aM), (7, Pq bn), (8, Pq bf), (9, Pq bC)] /\ (zcd more r0 aV aW r3 r4 r5 r6 q1 q2 ay az aA av aw a8 aD aE aF aG ax ao ba aN aO aP bO aJ aK bb l r8 cA cB).Ends r /\ St w W [cBlk aM [bh, I cA, I cB] 71, cOwn (α := Int) 3 bq aN, cOwn (α := Span) 27 br aO, cOwn (α := Int) 3 bt aP, cOwn (α := Town) 54 bE bO, cOwn (α := Raw 1) 67 bu cf, cRo cg, cOwn (α := Int) 3 aX aD, cOwn (α := Span) 27 aY aE, cOwn (α := Int) 3 aZ aF, cOwn (α := Town) 54 a6 aG, cOwn (α := Raw 1) 67 a7 bW, cRo bX, cOwn (α := Int) 3 aQ ay, cOwn (α := Span) 27 aR az, cOwn (α := Int) 3 aS aA, cOwn (α := Town) 54 aU l, cOwn (α := Raw 1) 67 aT bG, cRo bH, cBlk aC [ae, ag, ah, ai, I r4, I r5, aj] 30, cOwn (α := Int) 3 ae r0, cOwn (α := Span) 27 ag aV, cOwn (α := Int) 3 ah aW, cOwn (α := Town) 54 ai r3, cOwn (α := Raw 1) 67 aj bi, cRo bj, cBlk bA [bp, I q1, I q2] 71, cBlk bn [aQ, aR, aS, aU, I av, I aw, aT] 30, cBlk bf [aX, aY, aZ, a6, I ax, I (ao + r8), a7] 30, cBlk bC [bq, br, bt, bE, I aJ, I aK, bu] 30] R) ?_ ?_
 ·skip
  refine W.drawTZ (fun W => St w W [cOwn (α := Int) 3 bq aN, cOwn (α := Span) 27 br aO, cOwn (α := Int) 3 bt aP, cOwn (α := Town) 54 bE bO, cOwn (α := Raw 1) 67 bu cf, cRo cg, cOwn (α := Int) 3 aX aD, cOwn (α := Span) 27 aY aE, cOwn (α := Int) 3 aZ aF, cOwn (α := Town) 54 a6 aG, cOwn (α := Raw 1) 67 a7 bW, cRo bX, cOwn (α := Int) 3 aQ ay, cOwn (α := Span) 27 aR az, cOwn (α := Int) 3 aS aA, cOwn (α := Town) 54 aU l, cOwn (α := Raw 1) 67 aT bG, cRo bH, cBlk aC [ae, ag, ah, ai, I r4, I r5, aj] 30, cOwn (α := Int) 3 ae r0, cOwn (α := Span) 27 ag aV, cOwn (α := Int) 3 ah aW, cOwn (α := Town) 54 ai r3, cOwn (α := Raw 1) 67 aj bi, cRo bj, cBlk bA [bp, I q1, I q2] 71, cBlk bn [aQ, aR, aS, aU, I av, I aw, aT] 30, cBlk bf [aX, aY, aZ, a6, I ax, I ao, a7] 30, cBlk bC [bq, br, bt, bE, I aJ, I aK, bu] 30] R) (.q 0 (.q 1 (.q 2 (.q 3 (.l 4 (.q 5 (.l 6 (.l 7 .nil)))))))) 8 8 mixed (by decide +kernel) rfl ?_
  intro jt aL
  replace H := H.ext aL
  clear aL
  refine ⟨(H.er 18), ?_⟩
  refine tz_q rfl (fun w' H => x_fa (a := Pq bf) (v := Oq bf 4) rfl (fa_blk (o := 0) Fd30_4 Sz27)) ?_
  refine tz_q rfl (fun w' H => x_fa (a := Oq bf 4) (v := Oq bf 5) rfl (fa_blk (o := 4) Fd27_1 Sz3)) ?_
  refine tz_q rfl (fun w' H => x_ld (p := Oq bf 5) (v := I ao) rfl (ldb_sc Sc3 (H.bl 27) rfl)) ?_
  refine tz_q rfl (fun w' H => x_mv (v := Pq aM) rfl) ?_
  refine tz_l rfl ?_
  obtain ⟨ju, fx, hM⟩ := M.e_bind hM
  refine s_call cf10 [Pq aM, I 4] rfl (zab more s s2 4 (cK.app _) cL fx _ ((H.mv 18).gt 29)) ?_
  rintro vq jv ⟨r8, cA, cB, fy, hvq, au⟩
  subst fy
  subst vq
  try dsimp only at hM
  replace H := H.mv 18 |>.bk au
  clear au
  refine s_nil ⟨(H.dp 1), ?_⟩
  obtain ⟨fA, hM⟩ := M.e_grd hM
  simp only [Bool.and_eq_true, decide_eq_true_eq] at fA
  refine tz_q rfl (fun w' H => x_ari (a := ao) (b := r8) (r := ao + r8) rfl rfl rfl (by omega)) ?_
  refine tz_l rfl ?_
  refine s_val (x_fa (a := Pq bf) (v := Oq bf 4) rfl (fa_blk (o := 0) Fd30_4 Sz27)) ?_
  refine s_nil ⟨(H.dp 1), ?_⟩
  refine tz_l rfl ?_
  refine s_val (x_fa (a := Oq bf 4) (v := Oq bf 5) rfl (fa_blk (o := 4) Fd27_1 Sz3)) ?_
  refine s_nil ⟨(H.dp 1), ?_⟩
  refine tz_nil rfl ?_
  refine t_sw 28 5 [I (ao + r8)] (I (ao + r8)) H rfl rfl Sz3 rfl rfl rfl rfl ?_
  intro jw H
  refine s_nil ⟨trivial, ?_⟩
  exact ⟨r8, cA, cB, _, upds_of _ _ ⟨rfl, rfl, rfl, rfl, rfl, trivial⟩, hM, H⟩
 rintro _ jx ⟨r8, cA, cB, ρ, rfl, hM, H⟩
 unfold zcd at hM
 refine W.seqJ (fun σ W => ∃ (s5 : Int) (s6 : Int) (l4 : List Town) (cu : Value) (ρ : Env), σ = upds ρ [(5, Pq aC), (6, Pq aM), (7, Pq bn), (8, Pq bf), (9, Pq bC)] /\ (zaX more r0 aV aW r3 r4 r5 r6 q1 q2 ay az aA av aw a8 aD aE aF aG ax ao ba aN aO aP aJ aK bb l r8 s5 s6 l4).Ends r /\ St w W [cBlk aM [bh, I s5, I s6] 71, cOwn (α := Int) 3 bq aN, cOwn (α := Span) 27 br aO, cOwn (α := Int) 3 bt aP, cOwn (α := Town) 54 cu l4, cOwn (α := Raw 1) 67 bu cf, cRo cg, cOwn (α := Int) 3 aX aD, cOwn (α := Span) 27 aY aE, cOwn (α := Int) 3 aZ aF, cOwn (α := Town) 54 a6 aG, cOwn (α := Raw 1) 67 a7 bW, cRo bX, cOwn (α := Int) 3 aQ ay, cOwn (α := Span) 27 aR az, cOwn (α := Int) 3 aS aA, cOwn (α := Town) 54 aU l, cOwn (α := Raw 1) 67 aT bG, cRo bH, cBlk aC [ae, ag, ah, ai, I r4, I r5, aj] 30, cOwn (α := Int) 3 ae r0, cOwn (α := Span) 27 ag aV, cOwn (α := Int) 3 ah aW, cOwn (α := Town) 54 ai r3, cOwn (α := Raw 1) 67 aj bi, cRo bj, cBlk bA [bp, I q1, I q2] 71, cBlk bn [aQ, aR, aS, aU, I av, I aw, aT] 30, cBlk bf [aX, aY, aZ, a6, I ax, I (ao + r8), a7] 30, cBlk bC [bq, br, bt, cu, I aJ, I aK, bu] 30] R) ?_ ?_
 ·skip
  refine W.seq ?_
  refine W.region rfl ?_
  refine s_val (x_fa (a := Pq bC) (v := Oq bC 3) rfl (fa_blk (o := 0) Fd30_3 Sz25)) ?_
  refine s_val (x_ld (p := Oq bC 3) (v := bE) rfl (ldb_sc Sc25 (H.bl 29) rfl)) ?_
  have jy := ((H.os 4)).len_le
  refine s_val (x_lenS T25.und rfl (H.os 4)) ?_
  refine zC (bO.length : Int) 8 (decide ((bO.length : Int) < 8)) rfl rfl rfl ?_
  refine s_nil ?_
  refine W.cond (decide ((bO.length : Int) < 8)) rfl (fun da => ?_) (fun da => ?_)
  ·replace hM := M.e_t hM da
   simp only [qy1, qy2, qy3, qy4, qy5, qy6, ne_eq, qy7] at da
   refine W.drawTZ (fun W => St w W [cOwn (α := Int) 3 bq aN, cOwn (α := Span) 27 br aO, cOwn (α := Int) 3 bt aP, cOwn (α := Raw 1) 67 bu cf, cRo cg, cOwn (α := Int) 3 aX aD, cOwn (α := Span) 27 aY aE, cOwn (α := Int) 3 aZ aF, cOwn (α := Town) 54 a6 aG, cOwn (α := Raw 1) 67 a7 bW, cRo bX, cOwn (α := Int) 3 aQ ay, cOwn (α := Span) 27 aR az, cOwn (α := Int) 3 aS aA, cOwn (α := Town) 54 aU l, cOwn (α := Raw 1) 67 aT bG, cRo bH, cBlk aC [ae, ag, ah, ai, I r4, I r5, aj] 30, cOwn (α := Int) 3 ae r0, cOwn (α := Span) 27 ag aV, cOwn (α := Int) 3 ah aW, cOwn (α := Town) 54 ai r3, cOwn (α := Raw 1) 67 aj bi, cRo bj, cBlk bA [bp, I q1, I q2] 71, cBlk bn [aQ, aR, aS, aU, I av, I aw, aT] 30, cBlk bf [aX, aY, aZ, a6, I ax, I (ao + r8), a7] 30, cBlk bC [bq, br, bt, bE, I aJ, I aK, bu] 30] R) (.q 0 (.q 1 (.q 2 (.q 3 (.q 4 (.q 5 (.q 7 (.l 6 (.l 8 (.q 9 (.l 10 (.l 11 (.q 12 .nil))))))))))))) 13 13 mixed (by decide +kernel) rfl ?_
   intro jz aL
   replace H := H.ext aL
   clear aL
   refine ⟨(H.er 4 |>.dp 1), ?_⟩
   refine tz_q rfl (fun w' H => x_fa (a := Pq bC) (v := Oq bC 3) rfl (fa_blk (o := 0) Fd30_3 Sz25)) ?_
   refine tz_q rfl (fun w' H => x_ld (p := Oq bC 3) (v := bE) rfl (ldb_sc Sc25 (H.bl 27) rfl)) ?_
   refine tz_q rfl (fun w' H => x_mv (v := Pq aM) rfl) ?_
   refine tz_q rfl (fun w' H => x_fa (a := Pq aC) (v := Pq aC) rfl (fa_blk (o := 0) Fd30_0 Sz23)) ?_
   refine tz_q rfl (fun w' H => x_ld (p := Pq aC) (v := ae) rfl (ldb_sc Sc23 (H.bl 17) rfl)) ?_
   have jA := ((H.os 20)).len_le
   refine tz_q rfl (fun w' H => x_lenS T23.und rfl (H.os 18)) ?_
   refine tz_q rfl (fun w' H => x_mv (v := Pq aM) rfl) ?_
   refine tz_l rfl ?_
   obtain ⟨jB, fB, hM⟩ := M.e_bind hM
   refine s_call cf10 [Pq aM, I (r0.length : Int)] rfl (zab more cA cB (r0.length : Int) (cK.app _) cL fB _ (H.gt 29)) ?_
   rintro vq jC ⟨r9, fC, fD, fE, hvq, au⟩
   subst fE
   subst vq
   try dsimp only at hM
   replace H := H.bk au
   clear au
   refine s_nil ⟨(H.er 4 |>.dp 1), ?_⟩
   refine tz_l rfl ?_
   obtain ⟨jD, fF, hM⟩ := M.e_bind hM
   refine s_call cf10 [Pq aM, I 6] rfl (zab more fC fD 6 (cK.app _) cL fF _ (H.gt 29)) ?_
   rintro vq jE ⟨co, fG, fH, fI, hvq, au⟩
   subst fI
   subst vq
   try dsimp only at hM
   replace H := H.bk au
   clear au
   refine s_nil ⟨(H.er 4 |>.dp 1), ?_⟩
   refine tz_q rfl (fun w' H => x_bld (ps := [(0, I r9), (1, I co), (2, I 200)]) (zs := [I 0, I 0, I 0]) (L' := [I r9, I co, I 200]) rfl Try.underlying54 Al54 rfl (Bd54 Try.underlying54) (.cons (cs := [I r9]) rfl rfl rfl rfl rfl <| .cons (cs := [I co]) rfl rfl rfl rfl rfl <| .cons (cs := [I 200]) rfl rfl rfl rfl rfl <| .nil)) ?_
   refine tz_l rfl ?_
   refine t_bs (α := Town) T25 [.agg #[I r9, I co, I 200]] [(⟨(r9 : Int), (co : Int), (200 : Int)⟩ : Town)] H rfl (.cons rfl (Flat.rep_enc _ (⟨(r9 : Int), (co : Int), (200 : Int)⟩ : Town)) <| .nil) rfl rfl rfl ?_
   intro fJ jF H
   have jG := Sl.cells (H.os 0)
   have jH := Sl.oc (H.os 0)
   refine s_nil ⟨(H.er 5 |>.dp 2), ?_⟩
   refine tz_l rfl ?_
   obtain ⟨fK, hM⟩ := M.e_grd hM
   simp only [Bool.and_eq_true, decide_eq_true_eq] at fK
   refine t_app (α := Town) (k := 5) (l := bO) (l2 := [(⟨(r9 : Int), (co : Int), (200 : Int)⟩ : Town)]) (l' := bO ++ ([(⟨(r9 : Int), (co : Int), (200 : Int)⟩ : Town)])) (vy := fJ) T25 rfl H rfl rfl rfl (H.os 0) (H.ol 0) (rfl) (by first | omega | (simp only [List.length_nil] at *; omega)) ?_
   intro dL jI H
   replace H := H.nf
   have jJ := Sl.cells (H.os 5)
   have jK := Sl.oc (H.os 5)
   refine s_nil ⟨(H.er 5 |>.dp 2), ?_⟩
   refine tz_q rfl (fun w' H => x_fa (a := Pq bC) (v := Oq bC 3) rfl (fa_blk (o := 0) Fd30_3 Sz25)) ?_
   refine tz_nil rfl ?_
   refine t_sw 30 3 [dL] dL H rfl rfl Sz25 (Sl.cells (H.os 5)) rfl rfl (by simp only [List.all_cons, List.all_nil, Bool.true_and, Bool.and_true, Sl.oc (H.os 5)]; try rfl) ?_
   intro jL H
   refine s_nil ⟨trivial, ?_⟩
   exact ⟨fG, fH, bO ++ ([(⟨(r9 : Int), (co : Int), (200 : Int)⟩ : Town)]), dL, _, upds_of _ _ ⟨rfl, rfl, rfl, rfl, rfl, trivial⟩, hM, (H.dp 1)⟩
  replace hM := M.e_f hM da
  simp only [qy1, qy2, qy3, qy4, qy5, qy6, ne_eq, qy7] at da
  refine W.skip ?_
  exact ⟨cA, cB, bO, bE, _, upds_of _ _ ⟨rfl, rfl, rfl, rfl, rfl, trivial⟩, hM, H⟩
 rintro _ jM ⟨s5, s6, l4, cu, ρ, rfl, hM, H⟩
 unfold zaX at hM
 refine W.seq ?_
 refine W.region rfl ?_
 refine s_val (x_ld (p := Pq aC) (v := .agg #[ae, ag, ah, ai, I r4, I r5, aj]) rfl (ldb_ag (ds := [ae, ag, ah, ai, I r4, I r5, aj]) Ag30 Sz30 (H.bl 19) rfl rfl)) ?_
 obtain ⟨jN, fL, hM⟩ := M.e_bind hM
 refine s_call cf22 [.agg #[ae, ag, ah, ai, I r4, I r5, aj]] rfl (zbg r0 aV aW r3 r4 r5 r6 (rdo 20) (H.os 20) (rdo 21) (H.os 21) (rdo 22) (H.os 22) (rdo 23) (H.os 23) (Reads.sup (rdo 24) (Reads.of (k := 25) rfl roLe)) (rowSl rfl (H.get (k := 24) rfl) (roLe _ (H.get (k := 25) rfl)) cn) fL _ (H.gt 30)) ?_
 rintro vq jO ⟨cc, aa, ch, fM, hvq, au⟩
 subst fM
 subst vq
 try dsimp only at hM
 replace H := H.bk au
 clear au
 refine zM (.tuple #[ch, I aa]) rfl ?_
 refine zX [ch, I aa] ch rfl rfl ?_
 refine zX [ch, I aa] (I aa) rfl rfl ?_
 refine zA ch rfl ?_
 refine zA (I aa) rfl ?_
 refine s_nil ?_
 refine W.seq ?_
 refine W.seq ?_
 refine W.region rfl ?_
 refine s_val (x_ld (p := Pq bn) (v := .agg #[aQ, aR, aS, aU, I av, I aw, aT]) rfl (ldb_ag (ds := [aQ, aR, aS, aU, I av, I aw, aT]) Ag30 Sz30 (H.bl 28) rfl rfl)) ?_
 refine s_val (x_ld (p := Pq bf) (v := .agg #[aX, aY, aZ, a6, I ax, I (ao + r8), a7]) rfl (ldb_ag (ds := [aX, aY, aZ, a6, I ax, I (ao + r8), a7]) Ag30 Sz30 (H.bl 29) rfl rfl)) ?_
 refine s_val (x_ld (p := Pq bC) (v := .agg #[bq, br, bt, cu, I aJ, I aK, bu]) rfl (ldb_ag (ds := [bq, br, bt, cu, I aJ, I aK, bu]) Ag30 Sz30 (H.bl 30) rfl rfl)) ?_
 obtain ⟨jP, H⟩ := H.emptyE
 obtain ⟨cM, H, ei⟩ := H.freezeE (k := 15) rfl
 replace H := H.nf
 have bc := ei
 obtain ⟨jQ, H, jR, fN⟩ := H.joinE (i := 0) (j := 15) rfl rfl
 replace bc := bc.mono fN
 obtain ⟨cN, H, ej⟩ := H.freezeE (k := 17) rfl
 replace H := H.nf
 have bg := ej
 obtain ⟨jS, H, fO, fP⟩ := H.joinE (i := 0) (j := 17) rfl rfl
 replace bc := bc.mono fO
 replace bg := bg.mono fP
 obtain ⟨cO, H, em⟩ := H.freezeE (k := 19) rfl
 replace H := H.nf
 have bm := em
 obtain ⟨jT, H, en, fQ⟩ := H.joinE (i := 0) (j := 19) rfl rfl
 replace bc := bc.mono en
 replace bg := bg.mono en
 replace bm := bm.mono fQ
 obtain ⟨cP, H, eo⟩ := H.freezeE (k := 21) rfl
 replace H := H.nf
 have bo := eo
 obtain ⟨jU, H, dM, fR⟩ := H.joinE (i := 0) (j := 21) rfl rfl
 replace bc := bc.mono dM
 replace bg := bg.mono dM
 replace bm := bm.mono dM
 replace bo := bo.mono fR
 obtain ⟨jV, H, fS⟩ := H.freezeE (k := 23) rfl
 obtain ⟨cQ, H, fT, fU⟩ := H.joinE (i := 23) (j := 24) rfl rfl
 have ep := unraw (α := Flood) rfl (fS.mono fT) (eb.mono fU)
 replace H := H.nf
 have bv := ep
 obtain ⟨jW, H, dB, fV⟩ := H.joinE (i := 1) (j := 0) rfl rfl
 replace bc := bc.mono dB
 replace bg := bg.mono dB
 replace bm := bm.mono dB
 replace bo := bo.mono dB
 replace bv := bv.mono fV
 obtain ⟨cR, H, eq⟩ := H.freezeE (k := 15) rfl
 replace H := H.nf
 have bB := eq
 obtain ⟨jX, H, db, fW⟩ := H.joinE (i := 0) (j := 15) rfl rfl
 replace bc := bc.mono db
 replace bg := bg.mono db
 replace bm := bm.mono db
 replace bo := bo.mono db
 replace bv := bv.mono db
 replace bB := bB.mono fW
 obtain ⟨cS, H, eu⟩ := H.freezeE (k := 17) rfl
 replace H := H.nf
 have bD := eu
 obtain ⟨jY, H, cT, fX⟩ := H.joinE (i := 0) (j := 17) rfl rfl
 replace bc := bc.mono cT
 replace bg := bg.mono cT
 replace bm := bm.mono cT
 replace bo := bo.mono cT
 replace bv := bv.mono cT
 replace bB := bB.mono cT
 replace bD := bD.mono fX
 obtain ⟨cU, H, ew⟩ := H.freezeE (k := 19) rfl
 replace H := H.nf
 have bI := ew
 obtain ⟨jZ, H, cC, fY⟩ := H.joinE (i := 0) (j := 19) rfl rfl
 replace bc := bc.mono cC
 replace bg := bg.mono cC
 replace bm := bm.mono cC
 replace bo := bo.mono cC
 replace bv := bv.mono cC
 replace bB := bB.mono cC
 replace bD := bD.mono cC
 replace bI := bI.mono fY
 obtain ⟨cV, H, ez⟩ := H.freezeE (k := 21) rfl
 replace H := H.nf
 have bP := ez
 obtain ⟨j3, H, cw, fZ⟩ := H.joinE (i := 0) (j := 21) rfl rfl
 replace bc := bc.mono cw
 replace bg := bg.mono cw
 replace bm := bm.mono cw
 replace bo := bo.mono cw
 replace bv := bv.mono cw
 replace bB := bB.mono cw
 replace bD := bD.mono cw
 replace bI := bI.mono cw
 replace bP := bP.mono fZ
 obtain ⟨j4, H, f0⟩ := H.freezeE (k := 23) rfl
 obtain ⟨cW, H, f3, f4⟩ := H.joinE (i := 23) (j := 24) rfl rfl
 have eA := unraw (α := Flood) rfl (f0.mono f3) (ec.mono f4)
 replace H := H.nf
 have bY := eA
 obtain ⟨j5, H, cp, f6⟩ := H.joinE (i := 1) (j := 0) rfl rfl
 replace bc := bc.mono cp
 replace bg := bg.mono cp
 replace bm := bm.mono cp
 replace bo := bo.mono cp
 replace bv := bv.mono cp
 replace bB := bB.mono cp
 replace bD := bD.mono cp
 replace bI := bI.mono cp
 replace bP := bP.mono cp
 replace bY := bY.mono f6
 obtain ⟨j6, H, f9⟩ := H.freezeE (k := 15) rfl
 replace H := H.nf
 have b8 := f9
 obtain ⟨j7, H, ck, ga⟩ := H.joinE (i := 0) (j := 15) rfl rfl
 replace bc := bc.mono ck
 replace bg := bg.mono ck
 replace bm := bm.mono ck
 replace bo := bo.mono ck
 replace bv := bv.mono ck
 replace bB := bB.mono ck
 replace bD := bD.mono ck
 replace bI := bI.mono ck
 replace bP := bP.mono ck
 replace bY := bY.mono ck
 replace b8 := b8.mono ga
 obtain ⟨j8, H, gc⟩ := H.freezeE (k := 17) rfl
 replace H := H.nf
 have cm := gc
 obtain ⟨j9, H, cd, gf⟩ := H.joinE (i := 0) (j := 17) rfl rfl
 replace bc := bc.mono cd
 replace bg := bg.mono cd
 replace bm := bm.mono cd
 replace bo := bo.mono cd
 replace bv := bv.mono cd
 replace bB := bB.mono cd
 replace bD := bD.mono cd
 replace bI := bI.mono cd
 replace bP := bP.mono cd
 replace bY := bY.mono cd
 replace b8 := b8.mono cd
 replace cm := cm.mono gf
 obtain ⟨ka, H, gg⟩ := H.freezeE (k := 19) rfl
 replace H := H.nf
 have cx := gg
 obtain ⟨kb, H, b9, gh⟩ := H.joinE (i := 0) (j := 19) rfl rfl
 replace bc := bc.mono b9
 replace bg := bg.mono b9
 replace bm := bm.mono b9
 replace bo := bo.mono b9
 replace bv := bv.mono b9
 replace bB := bB.mono b9
 replace bD := bD.mono b9
 replace bI := bI.mono b9
 replace bP := bP.mono b9
 replace bY := bY.mono b9
 replace b8 := b8.mono b9
 replace cm := cm.mono b9
 replace cx := cx.mono gh
 obtain ⟨kc, H, gi⟩ := H.freezeE (k := 21) rfl
 replace H := H.nf
 have cX := gi
 obtain ⟨ke, H, b4, gj⟩ := H.joinE (i := 0) (j := 21) rfl rfl
 replace bc := bc.mono b4
 replace bg := bg.mono b4
 replace bm := bm.mono b4
 replace bo := bo.mono b4
 replace bv := bv.mono b4
 replace bB := bB.mono b4
 replace bD := bD.mono b4
 replace bI := bI.mono b4
 replace bP := bP.mono b4
 replace bY := bY.mono b4
 replace b8 := b8.mono b4
 replace cm := cm.mono b4
 replace cx := cx.mono b4
 replace cX := cX.mono gj
 obtain ⟨kg, H, gk⟩ := H.freezeE (k := 23) rfl
 obtain ⟨kh, H, gl, gm⟩ := H.joinE (i := 23) (j := 24) rfl rfl
 have gn := unraw (α := Flood) rfl (gk.mono gl) (ed.mono gm)
 replace H := H.nf
 have dC := gn
 obtain ⟨dN, H, bZ, gp⟩ := H.joinE (i := 1) (j := 0) rfl rfl
 replace bc := bc.mono bZ
 replace bg := bg.mono bZ
 replace bm := bm.mono bZ
 replace bo := bo.mono bZ
 replace bv := bv.mono bZ
 replace bB := bB.mono bZ
 replace bD := bD.mono bZ
 replace bI := bI.mono bZ
 replace bP := bP.mono bZ
 replace bY := bY.mono bZ
 replace b8 := b8.mono bZ
 replace cm := cm.mono bZ
 replace cx := cx.mono bZ
 replace cX := cX.mono bZ
 replace dC := dC.mono gp
 obtain ⟨cY, eB⟩ : ∃ r : Raw 6, r.cs = [aQ, aR, aS, aU, I av, I aw, aT] := ⟨Raw.of [aQ, aR, aS, aU, I av, I aw, aT] rfl (by simp only [List.all_cons, List.all_nil, Bool.true_and, Bool.and_true, Sl.oc bc, Sl.oc bg, Sl.oc bm, Sl.oc bo, Sl.oc bv]; try rfl), rfl⟩
 obtain ⟨cZ, eC⟩ : ∃ r : Raw 6, r.cs = [aX, aY, aZ, a6, I ax, I (ao + r8), a7] := ⟨Raw.of [aX, aY, aZ, a6, I ax, I (ao + r8), a7] rfl (by simp only [List.all_cons, List.all_nil, Bool.true_and, Bool.and_true, Sl.oc bB, Sl.oc bD, Sl.oc bI, Sl.oc bP, Sl.oc bY]; try rfl), rfl⟩
 obtain ⟨c0, eD⟩ : ∃ r : Raw 6, r.cs = [bq, br, bt, cu, I aJ, I aK, bu] := ⟨Raw.of [bq, br, bt, cu, I aJ, I aK, bu] rfl (by simp only [List.all_cons, List.all_nil, Bool.true_and, Bool.and_true, Sl.oc b8, Sl.oc cm, Sl.oc cx, Sl.oc cX, Sl.oc dC]; try rfl), rfl⟩
 have dD : RepR (α := River) dN.cells [cY, cZ, c0] [(⟨ay, az, aA, l, (av : Int), (aw : Int), a8⟩ : River), (⟨aD, aE, aF, aG, (ax : Int), (ao + r8 : Int), ba⟩ : River), (⟨aN, aO, aP, l4, (aJ : Int), (aK : Int), bb⟩ : River)] := .cons (by rw [eB]; exact ⟨_, _, _, _, _, rfl, bc, bg, bm, bo, bv⟩) <| .cons (by rw [eC]; exact ⟨_, _, _, _, _, rfl, bB, bD, bI, bP, bY⟩) <| .cons (by rw [eD]; exact ⟨_, _, _, _, _, rfl, b8, cm, cx, cX, dC⟩) <| .nil
 refine t_bs (α := Raw 6) T56 [.agg #[aQ, aR, aS, aU, I av, I aw, aT], .agg #[aX, aY, aZ, a6, I ax, I (ao + r8), a7], .agg #[bq, br, bt, cu, I aJ, I aK, bu]] [cY, cZ, c0] H rfl (.cons (by rw [show (Flat.enc cY : List Value) = cY.cs from rfl, eB]; rfl) (Flat.rep_enc _ _) <| .cons (by rw [show (Flat.enc cZ : List Value) = cZ.cs from rfl, eC]; rfl) (Flat.rep_enc _ _) <| .cons (by rw [show (Flat.enc c0 : List Value) = c0.cs from rfl, eD]; rfl) (Flat.rep_enc _ _) <| .nil) rfl rfl rfl ?_
 intro c6 gq H
 replace H := H.nf
 have ki := ((rowSl rfl (H.get (k := 0) rfl) (roLe _ (H.get (k := 1) rfl)) dD)).len_le
 refine s_val (x_lenS T56.und rfl (rowSl rfl (H.get (k := 0) rfl) (roLe _ (H.get (k := 1) rfl)) dD)) ?_
 refine zM (I 0) rfl ?_
 refine s_nil ?_
 replace H : St w gq [cOwn (α := Raw 6) 30 c6 ([cY, cZ, c0]), cRo dN, cRo cW, cRo cQ, cOwn (α := Int) 3 ch cc, cBlk aM [bh, I s5, I s6] 71, cRo cR, cRo cS, cRo cU, cRo cV, cRo cM, cRo cN, cRo cO, cRo cP, cBlk aC [ae, ag, ah, ai, I r4, I r5, aj] 30, cOwn (α := Int) 3 ae r0, cOwn (α := Span) 27 ag aV, cOwn (α := Int) 3 ah aW, cOwn (α := Town) 54 ai r3, cOwn (α := Raw 1) 67 aj bi, cRo bj, cBlk bn [aQ, aR, aS, aU, I av, I aw, aT] 30, cBlk bf [aX, aY, aZ, a6, I ax, I (ao + r8), a7] 30] R := H.pick [0, 1, 8, 14, 20, 21, 28, 29, 30, 31, 34, 35, 36, 37, 40, 41, 42, 43, 44, 45, 46, 48, 49] (by decide) rfl
 refine W.block ?_
 obtain ⟨gr, dO, eE⟩ := M.e_bind hM
 obtain ⟨c8, dO⟩ := M.e_iter dO
 refine W.loop (fun m σ W => ∃ (s7 : Nat) (ρ : Env), σ = upds ρ [(5, Pq aC), (6, Pq aM), (7, Pq bn), (8, Pq bf), (11, ch), (12, I aa), (97, c6), (98, I (([(⟨ay, az, aA, l, (av : Int), (aw : Int), a8⟩ : River), (⟨aD, aE, aF, aG, (ax : Int), (ao + r8 : Int), ba⟩ : River), (⟨aN, aO, aP, l4, (aJ : Int), (aK : Int), bb⟩ : River)]).length : Int)), (99, I (s7 : Int))] /\ M.iterN (zbb ay az aA av aw a8 aD aE aF aG ax ao ba aN aO aP aJ aK bb l r8 l4 cc aa) m s7 = some gr /\ St w W [cOwn (α := Raw 6) 30 c6 ([cY, cZ, c0]), cRo dN, cRo cW, cRo cQ, cOwn (α := Int) 3 ch cc, cBlk aM [bh, I s5, I s6] 71, cRo cR, cRo cS, cRo cU, cRo cV, cRo cM, cRo cN, cRo cO, cRo cP, cBlk aC [ae, ag, ah, ai, I r4, I r5, aj] 30, cOwn (α := Int) 3 ae r0, cOwn (α := Span) 27 ag aV, cOwn (α := Int) 3 ah aW, cOwn (α := Town) 54 ai r3, cOwn (α := Raw 1) 67 aj bi, cRo bj, cBlk bn [aQ, aR, aS, aU, I av, I aw, aT] 30, cBlk bf [aX, aY, aZ, a6, I ax, I (ao + r8), a7] 30] R) ?_ ?_
 ·exact ⟨_, 0, _, upds_of _ _ ⟨rfl, rfl, rfl, rfl, rfl, rfl, rfl, rfl, rfl, trivial⟩, dO, H⟩
 rintro kj σ kl ⟨s7, ρ, rfl, eF, H⟩
 obtain ⟨gu, gv, ko, hM, dP⟩ := M.e_iterN eF
 simp only [zbb] at hM
 clear eF
 refine W.seq ?_
 refine W.region rfl ?_
 refine zC (s7 : Int) (([(⟨ay, az, aA, l, (av : Int), (aw : Int), a8⟩ : River), (⟨aD, aE, aF, aG, (ax : Int), (ao + r8 : Int), ba⟩ : River), (⟨aN, aO, aP, l4, (aJ : Int), (aK : Int), bb⟩ : River)]).length : Int) (decide ((s7 : Int) < (([(⟨ay, az, aA, l, (av : Int), (aw : Int), a8⟩ : River), (⟨aD, aE, aF, aG, (ax : Int), (ao + r8 : Int), ba⟩ : River), (⟨aN, aO, aP, l4, (aJ : Int), (aK : Int), bb⟩ : River)]).length : Int))) rfl rfl rfl ?_
 refine s_nil ?_
 refine W.seq ?_
 refine W.cond (decide ((s7 : Int) < (([(⟨ay, az, aA, l, (av : Int), (aw : Int), a8⟩ : River), (⟨aD, aE, aF, aG, (ax : Int), (ao + r8 : Int), ba⟩ : River), (⟨aN, aO, aP, l4, (aJ : Int), (aK : Int), bb⟩ : River)]).length : Int))) rfl (fun dc => ?_) (fun dc => ?_)
 ·replace hM := M.e_t hM dc
  simp only [qy1, qy2, qy3, qy4, qy5, qy6, ne_eq, qy7] at dc
  refine W.skip ?_
  refine W.seq ?_
  refine W.block ?_
  refine W.seq ?_
  refine W.region rfl ?_
  obtain ⟨gw, hM⟩ := M.e_grd hM
  simp only [Bool.and_eq_true, decide_eq_true_eq] at gw
  refine s_val (x_ix (a := c6) (b := I (s7 : Int)) (v := vat c6 7 (Int.toNat (s7 : Int))) rfl rfl (Sl.ix (α := River) T56.und T56.size (rowSl rfl (H.get (k := 0) rfl) (roLe _ (H.get (k := 1) rfl)) dD) (by omega) (by omega))) ?_
  obtain ⟨cD, cE, cF, cG, cH, gx, dd, de, dg, di, dk⟩ := River_atA (rowSl rfl (H.get (k := 0) rfl) (roLe _ (H.get (k := 1) rfl)) dD) (i := (s7 : Int)) (by omega) (by omega)
  replace dd : Sl _ cD (([(⟨ay, az, aA, l, (av : Int), (aw : Int), a8⟩ : River), (⟨aD, aE, aF, aG, (ax : Int), (ao + r8 : Int), ba⟩ : River), (⟨aN, aO, aP, l4, (aJ : Int), (aK : Int), bb⟩ : River)]).getD s7 default).down := dd
  have kq := dd.len_le
  replace de : Sl _ cE (([(⟨ay, az, aA, l, (av : Int), (aw : Int), a8⟩ : River), (⟨aD, aE, aF, aG, (ax : Int), (ao + r8 : Int), ba⟩ : River), (⟨aN, aO, aP, l4, (aJ : Int), (aK : Int), bb⟩ : River)]).getD s7 default).travel := de
  have kr := de.len_le
  replace dg : Sl _ cF (([(⟨ay, az, aA, l, (av : Int), (aw : Int), a8⟩ : River), (⟨aD, aE, aF, aG, (ax : Int), (ao + r8 : Int), ba⟩ : River), (⟨aN, aO, aP, l4, (aJ : Int), (aK : Int), bb⟩ : River)]).getD s7 default).springs := dg
  have ku := dg.len_le
  replace di : Sl _ cG (([(⟨ay, az, aA, l, (av : Int), (aw : Int), a8⟩ : River), (⟨aD, aE, aF, aG, (ax : Int), (ao + r8 : Int), ba⟩ : River), (⟨aN, aO, aP, l4, (aJ : Int), (aK : Int), bb⟩ : River)]).getD s7 default).towns := di
  have kv := di.len_le
  replace dk : Sl _ cH (([(⟨ay, az, aA, l, (av : Int), (aw : Int), a8⟩ : River), (⟨aD, aE, aF, aG, (ax : Int), (ao + r8 : Int), ba⟩ : River), (⟨aN, aO, aP, l4, (aJ : Int), (aK : Int), bb⟩ : River)]).getD s7 default).floods := dk
  have kw := dk.len_le
  refine s_val (x_ld (p := vat c6 7 (Int.toNat (s7 : Int))) (v := .agg #[cD, cE, cF, cG, I ((([(⟨ay, az, aA, l, (av : Int), (aw : Int), a8⟩ : River), (⟨aD, aE, aF, aG, (ax : Int), (ao + r8 : Int), ba⟩ : River), (⟨aN, aO, aP, l4, (aJ : Int), (aK : Int), bb⟩ : River)]).getD s7 default).dlo), I ((([(⟨ay, az, aA, l, (av : Int), (aw : Int), a8⟩ : River), (⟨aD, aE, aF, aG, (ax : Int), (ao + r8 : Int), ba⟩ : River), (⟨aN, aO, aP, l4, (aJ : Int), (aK : Int), bb⟩ : River)]).getD s7 default).dhi), cH]) rfl (ld_ag Ag30 Sz30 (At.mono gx (Cells.sup_le (H.ol 0) (roLe _ (H.get (k := 1) rfl)))))) ?_
  refine t_alloc (cs := [.slice none 0 0, .slice none 0 0, .slice none 0 0, .slice none 0 0, I 0, I 0, .slice none 0 0]) H Al30 rfl ?_
  intro gy kx H
  refine t_sw 0 0 [cD, cE, cF, cG, I ((([(⟨ay, az, aA, l, (av : Int), (aw : Int), a8⟩ : River), (⟨aD, aE, aF, aG, (ax : Int), (ao + r8 : Int), ba⟩ : River), (⟨aN, aO, aP, l4, (aJ : Int), (aK : Int), bb⟩ : River)]).getD s7 default).dlo), I ((([(⟨ay, az, aA, l, (av : Int), (aw : Int), a8⟩ : River), (⟨aD, aE, aF, aG, (ax : Int), (ao + r8 : Int), ba⟩ : River), (⟨aN, aO, aP, l4, (aJ : Int), (aK : Int), bb⟩ : River)]).getD s7 default).dhi), cH] (.agg #[cD, cE, cF, cG, I ((([(⟨ay, az, aA, l, (av : Int), (aw : Int), a8⟩ : River), (⟨aD, aE, aF, aG, (ax : Int), (ao + r8 : Int), ba⟩ : River), (⟨aN, aO, aP, l4, (aJ : Int), (aK : Int), bb⟩ : River)]).getD s7 default).dlo), I ((([(⟨ay, az, aA, l, (av : Int), (aw : Int), a8⟩ : River), (⟨aD, aE, aF, aG, (ax : Int), (ao + r8 : Int), ba⟩ : River), (⟨aN, aO, aP, l4, (aJ : Int), (aK : Int), bb⟩ : River)]).getD s7 default).dhi), cH]) H rfl rfl Sz30 rfl rfl rfl (by simp only [List.all_cons, List.all_nil, Bool.true_and, Bool.and_true, Sl.oc dd, Sl.oc de, Sl.oc dg, Sl.oc di, Sl.oc dk]; try rfl) ?_
  intro ky H
  refine s_nil ?_
  refine W.seq ?_
  refine W.region rfl ?_
  refine s_val (x_ld (p := Pq gy) (v := .agg #[cD, cE, cF, cG, I ((([(⟨ay, az, aA, l, (av : Int), (aw : Int), a8⟩ : River), (⟨aD, aE, aF, aG, (ax : Int), (ao + r8 : Int), ba⟩ : River), (⟨aN, aO, aP, l4, (aJ : Int), (aK : Int), bb⟩ : River)]).getD s7 default).dlo), I ((([(⟨ay, az, aA, l, (av : Int), (aw : Int), a8⟩ : River), (⟨aD, aE, aF, aG, (ax : Int), (ao + r8 : Int), ba⟩ : River), (⟨aN, aO, aP, l4, (aJ : Int), (aK : Int), bb⟩ : River)]).getD s7 default).dhi), cH]) rfl (ldb_ag (ds := [cD, cE, cF, cG, I ((([(⟨ay, az, aA, l, (av : Int), (aw : Int), a8⟩ : River), (⟨aD, aE, aF, aG, (ax : Int), (ao + r8 : Int), ba⟩ : River), (⟨aN, aO, aP, l4, (aJ : Int), (aK : Int), bb⟩ : River)]).getD s7 default).dlo), I ((([(⟨ay, az, aA, l, (av : Int), (aw : Int), a8⟩ : River), (⟨aD, aE, aF, aG, (ax : Int), (ao + r8 : Int), ba⟩ : River), (⟨aN, aO, aP, l4, (aJ : Int), (aK : Int), bb⟩ : River)]).getD s7 default).dhi), cH]) Ag30 Sz30 (H.bl 0) rfl rfl)) ?_
  obtain ⟨kz, gz, hM⟩ := M.e_bind hM
  refine s_call cf22 [.agg #[cD, cE, cF, cG, I ((([(⟨ay, az, aA, l, (av : Int), (aw : Int), a8⟩ : River), (⟨aD, aE, aF, aG, (ax : Int), (ao + r8 : Int), ba⟩ : River), (⟨aN, aO, aP, l4, (aJ : Int), (aK : Int), bb⟩ : River)]).getD s7 default).dlo), I ((([(⟨ay, az, aA, l, (av : Int), (aw : Int), a8⟩ : River), (⟨aD, aE, aF, aG, (ax : Int), (ao + r8 : Int), ba⟩ : River), (⟨aN, aO, aP, l4, (aJ : Int), (aK : Int), bb⟩ : River)]).getD s7 default).dhi), cH]] rfl (zbg ((([(⟨ay, az, aA, l, (av : Int), (aw : Int), a8⟩ : River), (⟨aD, aE, aF, aG, (ax : Int), (ao + r8 : Int), ba⟩ : River), (⟨aN, aO, aP, l4, (aJ : Int), (aK : Int), bb⟩ : River)]).getD s7 default).down) ((([(⟨ay, az, aA, l, (av : Int), (aw : Int), a8⟩ : River), (⟨aD, aE, aF, aG, (ax : Int), (ao + r8 : Int), ba⟩ : River), (⟨aN, aO, aP, l4, (aJ : Int), (aK : Int), bb⟩ : River)]).getD s7 default).travel) ((([(⟨ay, az, aA, l, (av : Int), (aw : Int), a8⟩ : River), (⟨aD, aE, aF, aG, (ax : Int), (ao + r8 : Int), ba⟩ : River), (⟨aN, aO, aP, l4, (aJ : Int), (aK : Int), bb⟩ : River)]).getD s7 default).springs) ((([(⟨ay, az, aA, l, (av : Int), (aw : Int), a8⟩ : River), (⟨aD, aE, aF, aG, (ax : Int), (ao + r8 : Int), ba⟩ : River), (⟨aN, aO, aP, l4, (aJ : Int), (aK : Int), bb⟩ : River)]).getD s7 default).towns) ((([(⟨ay, az, aA, l, (av : Int), (aw : Int), a8⟩ : River), (⟨aD, aE, aF, aG, (ax : Int), (ao + r8 : Int), ba⟩ : River), (⟨aN, aO, aP, l4, (aJ : Int), (aK : Int), bb⟩ : River)]).getD s7 default).dlo) ((([(⟨ay, az, aA, l, (av : Int), (aw : Int), a8⟩ : River), (⟨aD, aE, aF, aG, (ax : Int), (ao + r8 : Int), ba⟩ : River), (⟨aN, aO, aP, l4, (aJ : Int), (aK : Int), bb⟩ : River)]).getD s7 default).dhi) ((([(⟨ay, az, aA, l, (av : Int), (aw : Int), a8⟩ : River), (⟨aD, aE, aF, aG, (ax : Int), (ao + r8 : Int), ba⟩ : River), (⟨aN, aO, aP, l4, (aJ : Int), (aK : Int), bb⟩ : River)]).getD s7 default).floods) (Reads.sup (rdo 1) (Reads.of (k := 2) rfl roLe)) dd (Reads.sup (rdo 1) (Reads.of (k := 2) rfl roLe)) de (Reads.sup (rdo 1) (Reads.of (k := 2) rfl roLe)) dg (Reads.sup (rdo 1) (Reads.of (k := 2) rfl roLe)) di (Reads.sup (rdo 1) (Reads.of (k := 2) rfl roLe)) dk gz _ (H.gt 24)) ?_
  rintro vq kA ⟨cy, ab, cI, gA, hvq, au⟩
  subst gA
  subst vq
  try dsimp only at hM
  replace H := H.bk au
  clear au
  refine zM (.tuple #[cI, I ab]) rfl ?_
  refine zX [cI, I ab] cI rfl rfl ?_
  refine zX [cI, I ab] (I ab) rfl rfl ?_
  refine zA cI rfl ?_
  refine zA (I ab) rfl ?_
  refine s_nil ?_
  refine W.seq ?_
  refine W.region rfl ?_
  refine zM (I aa) rfl ?_
  refine zC aa 0 (aa != 0) rfl rfl rfl ?_
  refine zM (B (aa != 0)) rfl ?_
  refine g_val (aa != 0) (gy_t rfl) (fun hg => x_mv (v := I aa) rfl) ?_
  refine g_val (aa != 0) (gy_t rfl) (fun hg => x_cmp (kd := .i64) (a := aa) (b := 6) (r := aa != 6) (gd_of (c := aa != 0) hg (I aa)) rfl rfl) ?_
  refine g_val (aa != 0) (gy_t rfl) (fun hg => x_mv (v := B (aa != 6)) (gd_of (c := aa != 0) hg (B (aa != 6)))) ?_
  refine g_val ((aa != 0) && !(aa != 6)) (gy_gf rfl rfl) (fun hg => x_mv (v := I ab) rfl) ?_
  refine g_val ((aa != 0) && !(aa != 6)) (gy_gf rfl rfl) (fun hg => x_mv (v := I aa) rfl) ?_
  refine g_val ((aa != 0) && !(aa != 6)) (gy_gf rfl rfl) (fun hg => x_cmp (kd := .i64) (a := ab) (b := aa) (r := ab != aa) (gd_of (c := ((aa != 0) && !(aa != 6))) hg (I ab)) (gd_of (c := ((aa != 0) && !(aa != 6))) hg (I aa)) rfl) ?_
  refine g_val (aa != 0) (gy_t rfl) (fun hg => x_por (b := aa != 6) (r := ab != aa) (gd_of (c := aa != 0) hg (B (aa != 6))) rfl (fun hb => gd_of (c := ((aa != 0) && !(aa != 6))) (by first | exact hb | (rw [hb]; rfl) | simp_all) (B (ab != aa)))) ?_
  refine s_val (x_pand (b := aa != 0) (r := ((aa != 6) || (ab != aa))) rfl (fun hb => gd_of (c := aa != 0) (by first | exact hb | (rw [hb]; rfl) | simp_all) (B ((aa != 6) || (ab != aa)))) rfl) ?_
  refine zM (B ((aa != 0) && ((aa != 6) || (ab != aa)))) rfl ?_
  refine g_val (!((aa != 0) && ((aa != 6) || (ab != aa)))) (gy_f rfl) (fun hg => x_mv (v := I aa) rfl) ?_
  refine g_val (!((aa != 0) && ((aa != 6) || (ab != aa)))) (gy_f rfl) (fun hg => x_cmp (kd := .i64) (a := aa) (b := 0) (r := aa == 0) (gd_of (c := !((aa != 0) && ((aa != 6) || (ab != aa)))) hg (I aa)) rfl rfl) ?_
  refine g_val (!((aa != 0) && ((aa != 6) || (ab != aa)))) (gy_f rfl) (fun hg => x_mv (v := B (aa == 0)) (gd_of (c := !((aa != 0) && ((aa != 6) || (ab != aa)))) hg (B (aa == 0)))) ?_
  refine g_val ((!((aa != 0) && ((aa != 6) || (ab != aa)))) && (aa == 0)) (gy_gt rfl rfl) (fun hg => x_mv (v := I ab) rfl) ?_
  refine g_val ((!((aa != 0) && ((aa != 6) || (ab != aa)))) && (aa == 0)) (gy_gt rfl rfl) (fun hg => x_cmp (kd := .i64) (a := ab) (b := 0) (r := ab != 0) (gd_of (c := ((!((aa != 0) && ((aa != 6) || (ab != aa)))) && (aa == 0))) hg (I ab)) rfl rfl) ?_
  refine g_val (!((aa != 0) && ((aa != 6) || (ab != aa)))) (gy_f rfl) (fun hg => x_pand (b := aa == 0) (r := ab != 0) (gd_of (c := !((aa != 0) && ((aa != 6) || (ab != aa)))) hg (B (aa == 0))) (fun hb => gd_of (c := ((!((aa != 0) && ((aa != 6) || (ab != aa)))) && (aa == 0))) (by first | exact hb | (rw [hb]; rfl) | simp_all) (B (ab != 0))) rfl) ?_
  refine g_val (!((aa != 0) && ((aa != 6) || (ab != aa)))) (gy_f rfl) (fun hg => x_mv (v := B ((aa == 0) && (ab != 0))) (gd_of (c := !((aa != 0) && ((aa != 6) || (ab != aa)))) hg (B ((aa == 0) && (ab != 0))))) ?_
  refine g_val ((!((aa != 0) && ((aa != 6) || (ab != aa)))) && ((aa == 0) && (ab != 0))) (gy_gt rfl rfl) (fun hg => x_mv (v := I ab) rfl) ?_
  refine g_val ((!((aa != 0) && ((aa != 6) || (ab != aa)))) && ((aa == 0) && (ab != 0))) (gy_gt rfl rfl) (fun hg => x_cmp (kd := .i64) (a := ab) (b := 6) (r := ab != 6) (gd_of (c := ((!((aa != 0) && ((aa != 6) || (ab != aa)))) && ((aa == 0) && (ab != 0)))) hg (I ab)) rfl rfl) ?_
  refine g_val (!((aa != 0) && ((aa != 6) || (ab != aa)))) (gy_f rfl) (fun hg => x_pand (b := ((aa == 0) && (ab != 0))) (r := ab != 6) (gd_of (c := !((aa != 0) && ((aa != 6) || (ab != aa)))) hg (B ((aa == 0) && (ab != 0)))) (fun hb => gd_of (c := ((!((aa != 0) && ((aa != 6) || (ab != aa)))) && ((aa == 0) && (ab != 0)))) (by first | exact hb | (rw [hb]; rfl) | simp_all) (B (ab != 6))) rfl) ?_
  refine s_val (x_por (b := ((aa != 0) && ((aa != 6) || (ab != aa)))) (r := (((aa == 0) && (ab != 0)) && (ab != 6))) rfl rfl (fun hb => gd_of (c := !((aa != 0) && ((aa != 6) || (ab != aa)))) (by first | exact hb | (rw [hb]; rfl) | simp_all) (B (((aa == 0) && (ab != 0)) && (ab != 6))))) ?_
  refine zM (B (((aa != 0) && ((aa != 6) || (ab != aa))) || (((aa == 0) && (ab != 0)) && (ab != 6)))) rfl ?_
  refine g_val (!(((aa != 0) && ((aa != 6) || (ab != aa))) || (((aa == 0) && (ab != 0)) && (ab != 6)))) (gy_f rfl) (fun hg => x_mv (v := I ab) rfl) ?_
  refine g_val (!(((aa != 0) && ((aa != 6) || (ab != aa))) || (((aa == 0) && (ab != 0)) && (ab != 6)))) (gy_f rfl) (fun hg => x_cmp (kd := .i64) (a := ab) (b := 0) (r := ab == 0) (gd_of (c := !(((aa != 0) && ((aa != 6) || (ab != aa))) || (((aa == 0) && (ab != 0)) && (ab != 6)))) hg (I ab)) rfl rfl) ?_
  refine g_val (!(((aa != 0) && ((aa != 6) || (ab != aa))) || (((aa == 0) && (ab != 0)) && (ab != 6)))) (gy_f rfl) (fun hg => x_mv (v := B (ab == 0)) (gd_of (c := !(((aa != 0) && ((aa != 6) || (ab != aa))) || (((aa == 0) && (ab != 0)) && (ab != 6)))) hg (B (ab == 0)))) ?_
  refine g_val ((!(((aa != 0) && ((aa != 6) || (ab != aa))) || (((aa == 0) && (ab != 0)) && (ab != 6)))) && (ab == 0)) (gy_gt rfl rfl) (fun hg => x_mv (v := cI) rfl) ?_
  refine g_val ((!(((aa != 0) && ((aa != 6) || (ab != aa))) || (((aa == 0) && (ab != 0)) && (ab != 6)))) && (ab == 0)) (gy_gt rfl rfl) (fun hg => x_lenS T23.und (gd_of (c := ((!(((aa != 0) && ((aa != 6) || (ab != aa))) || (((aa == 0) && (ab != 0)) && (ab != 6)))) && (ab == 0))) hg (cI)) (H.os 0)) ?_
  refine g_val ((!(((aa != 0) && ((aa != 6) || (ab != aa))) || (((aa == 0) && (ab != 0)) && (ab != 6)))) && (ab == 0)) (gy_gt rfl rfl) (fun hg => x_mv (v := ch) rfl) ?_
  refine g_val ((!(((aa != 0) && ((aa != 6) || (ab != aa))) || (((aa == 0) && (ab != 0)) && (ab != 6)))) && (ab == 0)) (gy_gt rfl rfl) (fun hg => x_lenS T23.und (gd_of (c := ((!(((aa != 0) && ((aa != 6) || (ab != aa))) || (((aa == 0) && (ab != 0)) && (ab != 6)))) && (ab == 0))) hg (ch)) (H.os 6)) ?_
  refine g_val ((!(((aa != 0) && ((aa != 6) || (ab != aa))) || (((aa == 0) && (ab != 0)) && (ab != 6)))) && (ab == 0)) (gy_gt rfl rfl) (fun hg => x_cmp (kd := .i64) (a := (cy.length : Int)) (b := (cc.length : Int)) (r := decide ((cy.length : Int) < (cc.length : Int))) (gd_of (c := ((!(((aa != 0) && ((aa != 6) || (ab != aa))) || (((aa == 0) && (ab != 0)) && (ab != 6)))) && (ab == 0))) hg (I (cy.length : Int))) (gd_of (c := ((!(((aa != 0) && ((aa != 6) || (ab != aa))) || (((aa == 0) && (ab != 0)) && (ab != 6)))) && (ab == 0))) hg (I (cc.length : Int))) rfl) ?_
  refine g_val (!(((aa != 0) && ((aa != 6) || (ab != aa))) || (((aa == 0) && (ab != 0)) && (ab != 6)))) (gy_f rfl) (fun hg => x_pand (b := ab == 0) (r := decide ((cy.length : Int) < (cc.length : Int))) (gd_of (c := !(((aa != 0) && ((aa != 6) || (ab != aa))) || (((aa == 0) && (ab != 0)) && (ab != 6)))) hg (B (ab == 0))) (fun hb => gd_of (c := ((!(((aa != 0) && ((aa != 6) || (ab != aa))) || (((aa == 0) && (ab != 0)) && (ab != 6)))) && (ab == 0))) (by first | exact hb | (rw [hb]; rfl) | simp_all) (B (decide ((cy.length : Int) < (cc.length : Int))))) rfl) ?_
  refine s_val (x_por (b := (((aa != 0) && ((aa != 6) || (ab != aa))) || (((aa == 0) && (ab != 0)) && (ab != 6)))) (r := ((ab == 0) && (decide ((cy.length : Int) < (cc.length : Int))))) rfl rfl (fun hb => gd_of (c := !(((aa != 0) && ((aa != 6) || (ab != aa))) || (((aa == 0) && (ab != 0)) && (ab != 6)))) (by first | exact hb | (rw [hb]; rfl) | simp_all) (B ((ab == 0) && (decide ((cy.length : Int) < (cc.length : Int))))))) ?_
  refine s_nil ?_
  refine W.cond ((((aa != 0) && ((aa != 6) || (ab != aa))) || (((aa == 0) && (ab != 0)) && (ab != 6))) || ((ab == 0) && (decide ((cy.length : Int) < (cc.length : Int))))) rfl (fun dQ => ?_) (fun dQ => ?_)
  ·replace hM := M.e_t hM dQ
   refine W.seq ?_
   refine W.region rfl ?_
   refine zA (B false) rfl ?_
   refine s_nil ?_
   replace H := H.dp 2
   refine W.ret ?_
   have gB := M.e_inr hM dP
   subst gB
   replace hM := eE
   try dsimp only at hM
   have bS := M.e_pure hM
   exact ⟨_, resE_tmp rfl, ⟨false, bS, rfl, (H.dp 23)⟩⟩
  replace hM := M.e_f hM dQ
  refine W.skip ?_
  refine W.region rfl ?_
  refine zR (s7 : Int) 1 ((s7 : Int) + 1) rfl rfl rfl (by omega) ?_
  refine zM (I ((s7 : Int) + 1)) rfl ?_
  refine s_nil ?_
  exact ⟨gu, gv, s7 + 1, _, upds_of _ _ ⟨rfl, rfl, rfl, rfl, rfl, rfl, rfl, rfl, rfl, trivial⟩, M.e_inl hM dP, (H.dp 2)⟩
 replace hM := M.e_f hM dc
 simp only [qy1, qy2, qy3, qy4, qy5, qy6, ne_eq, qy7] at dc
 refine W.exit ?_
 have gC := M.e_inr hM dP
 subst gC
 replace hM := eE
 try dsimp only at hM
 replace H := H.er 4 |>.dp 2
 refine W.seq ?_
 refine W.region rfl ?_
 refine s_val (x_ld (p := Pq aC) (v := .agg #[ae, ag, ah, ai, I r4, I r5, aj]) rfl (ldb_ag (ds := [ae, ag, ah, ai, I r4, I r5, aj]) Ag30 Sz30 (H.bl 11) rfl rfl)) ?_
 obtain ⟨kB, gD, hM⟩ := M.e_bind hM
 refine s_call cf23 [.agg #[ae, ag, ah, ai, I r4, I r5, aj]] rfl (zdC r0 aV aW r3 r4 r5 r6 (rdo 12) (H.os 12) (rdo 13) (H.os 13) (rdo 14) (H.os 14) (rdo 15) (H.os 15) (Reads.sup (rdo 16) (Reads.of (k := 17) rfl roLe)) (rowSl rfl (H.get (k := 16) rfl) (roLe _ (H.get (k := 17) rfl)) cn) gD _ (H.gt 20)) ?_
 rintro vq kC ⟨bx, cq, bz, gE, hvq, au⟩
 subst gE
 subst vq
 try dsimp only at hM
 replace H := H.bk au
 clear au
 refine zM (.tuple #[bz, I cq]) rfl ?_
 refine zX [bz, I cq] bz rfl rfl ?_
 refine zX [bz, I cq] (I cq) rfl rfl ?_
 refine zA bz rfl ?_
 refine zA (I cq) rfl ?_
 refine s_nil ?_
 refine W.seq ?_
 refine W.seq ?_
 refine W.region rfl ?_
 refine zM (I cq) rfl ?_
 refine zC cq 0 (cq != 0) rfl rfl rfl ?_
 refine s_nil ?_
 refine W.cond (cq != 0) rfl (fun dm => ?_) (fun dm => ?_)
 ·replace hM := M.e_t hM dm
  simp only [qy1, qy2, qy3, qy4, qy5, qy6, ne_eq, qy7] at dm
  refine W.seq ?_
  refine W.region rfl ?_
  refine zA (B false) rfl ?_
  refine s_nil ?_
  replace H := H.dp 21
  refine W.ret ?_
  have bS := M.e_pure hM
  exact ⟨_, resE_tmp rfl, ⟨false, bS, rfl, H⟩⟩
 replace hM := M.e_f hM dm
 simp only [qy1, qy2, qy3, qy4, qy5, qy6, ne_eq, qy7] at dm
 refine W.skip ?_
 refine W.seq ?_
 refine W.seq ?_
 refine W.region rfl ?_
 refine zA (I 0) rfl ?_
 refine s_nil ?_
 refine W.block ?_
 obtain ⟨gF, dR, eG⟩ := M.e_bind hM
 obtain ⟨c8, dR⟩ := M.e_iter dR
 refine W.loop (fun m σ W => ∃ (i2 : Nat) (ρ : Env), σ = upds ρ [(5, Pq aC), (6, Pq aM), (7, Pq bn), (8, Pq bf), (17, bz), (18, I (i2 : Int))] /\ M.iterN (zbI r0 aV aW r3 r4 r5 r6 ay az aA av aw a8 aD aE aF aG ax ao ba l r8 bx) m i2 = some gF /\ St w W [cOwn (α := Dem) 62 bz bx, cRo cW, cRo cQ, cBlk aM [bh, I s5, I s6] 71, cRo cR, cRo cS, cRo cU, cRo cV, cRo cM, cRo cN, cRo cO, cRo cP, cBlk aC [ae, ag, ah, ai, I r4, I r5, aj] 30, cOwn (α := Int) 3 ae r0, cOwn (α := Span) 27 ag aV, cOwn (α := Int) 3 ah aW, cOwn (α := Town) 54 ai r3, cOwn (α := Raw 1) 67 aj bi, cRo bj, cBlk bn [aQ, aR, aS, aU, I av, I aw, aT] 30, cBlk bf [aX, aY, aZ, a6, I ax, I (ao + r8), a7] 30] R) ?_ ?_
 ·exact ⟨_, 0, _, upds_of _ _ ⟨rfl, rfl, rfl, rfl, rfl, rfl, trivial⟩, dR, H⟩
 rintro kD σ kE ⟨i2, ρ, rfl, eH, H⟩
 obtain ⟨gG, gH, kF, hM, dS⟩ := M.e_iterN eH
 simp only [zbI] at hM
 clear eH
 refine W.seq ?_
 refine W.seq ?_
 refine W.region rfl ?_
 refine zM (I (i2 : Int)) rfl ?_
 refine zM bz rfl ?_
 have kG := ((H.os 0)).len_le
 refine s_val (x_lenS T57.und rfl (H.os 0)) ?_
 refine zC (i2 : Int) (bx.length : Int) (decide ((i2 : Int) < (bx.length : Int))) rfl rfl rfl ?_
 refine s_nil ?_
 refine W.cond (decide ((i2 : Int) < (bx.length : Int))) rfl (fun dq => ?_) (fun dq => ?_)
 ·replace hM := M.e_t hM dq
  simp only [qy1, qy2, qy3, qy4, qy5, qy6, ne_eq, qy7] at dq
  refine W.skip ?_
  refine W.seq ?_
  refine W.block ?_
  refine W.seq ?_
  refine W.draw (fun W => St w W [cOwn (α := Dem) 62 bz bx, cRo cW, cRo cQ, cBlk aM [bh, I s5, I s6] 71, cRo cR, cRo cS, cRo cU, cRo cV, cRo cM, cRo cN, cRo cO, cRo cP, cBlk aC [ae, ag, ah, ai, I r4, I r5, aj] 30, cOwn (α := Int) 3 ae r0, cOwn (α := Span) 27 ag aV, cOwn (α := Int) 3 ah aW, cOwn (α := Town) 54 ai r3, cOwn (α := Raw 1) 67 aj bi, cRo bj, cBlk bn [aQ, aR, aS, aU, I av, I aw, aT] 30, cBlk bf [aX, aY, aZ, a6, I ax, I (ao + r8), a7] 30] R) [(0, true), (1, true), (2, true), (3, true), (4, true), (5, false), (6, true), (7, true), (8, true), (9, true), (10, true)] mixed (by decide +kernel) rfl ?_
  intro kH aL
  replace H := H.ext aL
  clear aL
  refine ⟨(H), ?_⟩
  refine d_q rfl (fun w' H => x_ld (p := Pq aC) (v := .agg #[ae, ag, ah, ai, I r4, I r5, aj]) rfl (ldb_ag (ds := [ae, ag, ah, ai, I r4, I r5, aj]) Ag30 Sz30 (H.bl 12) rfl rfl)) ?_
  refine d_q rfl (fun w' H => x_mv (v := bz) rfl) ?_
  refine d_q rfl (fun w' H => x_mv (v := I (i2 : Int)) rfl) ?_
  obtain ⟨gI, hM⟩ := M.e_grd hM
  simp only [Bool.and_eq_true, decide_eq_true_eq] at gI
  refine d_q rfl (fun w' H => x_ix (a := bz) (b := I (i2 : Int)) (v := vat bz 2 (Int.toNat (i2 : Int))) rfl rfl (Sl.ix (α := Dem) T57.und T57.size (H.os 0) (by omega) (by omega))) ?_
  refine d_q rfl (fun w' H => x_ld (p := vat bz 2 (Int.toNat (i2 : Int))) (v := .agg #[I ((bx.getD i2 default).spring), I ((bx.getD i2 default).town)]) rfl (ld_ag Ag62 Sz62 (At.mono (Dem_atA (H.os 0) (i := (i2 : Int)) (by omega) (by omega)) (H.ol 0)))) ?_
  refine d_l rfl ?_
  obtain ⟨kI, gJ, hM⟩ := M.e_bind hM
  refine s_call cf24 [.agg #[ae, ag, ah, ai, I r4, I r5, aj], .agg #[I ((bx.getD i2 default).spring), I ((bx.getD i2 default).town)]] rfl (zbv r0 aV aW r3 r4 r5 r6 (bx.getD i2 default) (rdo 13) (H.os 13) (rdo 14) (H.os 14) (rdo 15) (H.os 15) (rdo 16) (H.os 16) (Reads.sup (rdo 17) (Reads.of (k := 18) rfl roLe)) (rowSl rfl (H.get (k := 17) rfl) (roLe _ (H.get (k := 18) rfl)) cn) gJ _ (H.gt 21)) ?_
  rintro vq kJ ⟨ac, ak, bJ, gK, hvq, au⟩
  subst gK
  subst vq
  try dsimp only at hM
  replace H := H.bk au
  clear au
  have kK := Sl.cells (H.os 0)
  have kL := Sl.oc (H.os 0)
  refine s_nil ⟨(H.dp 1), ?_⟩
  refine d_q rfl (fun w' H => x_mv (v := .tuple #[bJ, I ak]) rfl) ?_
  refine d_q rfl (fun w' H => x_ext (vs := [bJ, I ak]) (v := bJ) rfl rfl) ?_
  refine d_q rfl (fun w' H => x_ext (vs := [bJ, I ak]) (v := I ak) rfl rfl) ?_
  refine d_q rfl (fun w' H => x_as (v := bJ) rfl) ?_
  refine d_q rfl (fun w' H => x_as (v := I ak) rfl) ?_
  refine d_nil ?_
  refine W.seq ?_
  refine W.draw (fun W => St w W [cOwn (α := Int) 3 bJ ac, cOwn (α := Dem) 62 bz bx, cRo cW, cRo cQ, cBlk aM [bh, I s5, I s6] 71, cRo cR, cRo cS, cRo cU, cRo cV, cRo cM, cRo cN, cRo cO, cRo cP, cBlk aC [ae, ag, ah, ai, I r4, I r5, aj] 30, cOwn (α := Int) 3 ae r0, cOwn (α := Span) 27 ag aV, cOwn (α := Int) 3 ah aW, cOwn (α := Town) 54 ai r3, cOwn (α := Raw 1) 67 aj bi, cRo bj, cBlk bn [aQ, aR, aS, aU, I av, I aw, aT] 30, cBlk bf [aX, aY, aZ, a6, I ax, I (ao + r8), a7] 30] R) [(0, true), (1, true), (2, true), (3, true), (4, true), (5, false), (6, true), (7, true), (8, true), (9, true), (10, true)] mixed (by decide +kernel) rfl ?_
  intro kM aL
  replace H := H.ext aL
  clear aL
  refine ⟨(H), ?_⟩
  refine d_q rfl (fun w' H => x_ld (p := Pq bn) (v := .agg #[aQ, aR, aS, aU, I av, I aw, aT]) rfl (ldb_ag (ds := [aQ, aR, aS, aU, I av, I aw, aT]) Ag30 Sz30 (H.bl 20) rfl rfl)) ?_
  refine d_q rfl (fun w' H => x_mv (v := bz) rfl) ?_
  refine d_q rfl (fun w' H => x_mv (v := I (i2 : Int)) rfl) ?_
  refine d_q rfl (fun w' H => x_ix (a := bz) (b := I (i2 : Int)) (v := vat bz 2 (Int.toNat (i2 : Int))) rfl rfl (Sl.ix (α := Dem) T57.und T57.size (H.os 1) (by omega) (by omega))) ?_
  refine d_q rfl (fun w' H => x_ld (p := vat bz 2 (Int.toNat (i2 : Int))) (v := .agg #[I ((bx.getD i2 default).spring), I ((bx.getD i2 default).town)]) rfl (ld_ag Ag62 Sz62 (At.mono (Dem_atA (H.os 1) (i := (i2 : Int)) (by omega) (by omega)) (H.ol 1)))) ?_
  refine d_l rfl ?_
  obtain ⟨kN, gL, hM⟩ := M.e_bind hM
  refine s_call cf24 [.agg #[aQ, aR, aS, aU, I av, I aw, aT], .agg #[I ((bx.getD i2 default).spring), I ((bx.getD i2 default).town)]] rfl (zbv ay az aA l av aw a8 (bx.getD i2 default) (Reads.of (k := 9) rfl roLe) ei (Reads.of (k := 10) rfl roLe) ej (Reads.of (k := 11) rfl roLe) em (Reads.of (k := 12) rfl roLe) eo (Reads.of (k := 3) rfl roLe) ep gL _ (H.gt 22)) ?_
  rintro vq kO ⟨aq, al, b5, gM, hvq, au⟩
  subst gM
  subst vq
  try dsimp only at hM
  replace H := H.bk au
  clear au
  have kP := Sl.cells (H.os 0)
  have kR := Sl.oc (H.os 0)
  refine s_nil ⟨(H.dp 1), ?_⟩
  refine d_q rfl (fun w' H => x_mv (v := .tuple #[b5, I al]) rfl) ?_
  refine d_q rfl (fun w' H => x_ext (vs := [b5, I al]) (v := b5) rfl rfl) ?_
  refine d_q rfl (fun w' H => x_ext (vs := [b5, I al]) (v := I al) rfl rfl) ?_
  refine d_q rfl (fun w' H => x_as (v := b5) rfl) ?_
  refine d_q rfl (fun w' H => x_as (v := I al) rfl) ?_
  refine d_nil ?_
  refine W.seq ?_
  refine W.draw (fun W => St w W [cOwn (α := Int) 3 b5 aq, cOwn (α := Int) 3 bJ ac, cOwn (α := Dem) 62 bz bx, cRo cW, cRo cQ, cBlk aM [bh, I s5, I s6] 71, cRo cR, cRo cS, cRo cU, cRo cV, cRo cM, cRo cN, cRo cO, cRo cP, cBlk aC [ae, ag, ah, ai, I r4, I r5, aj] 30, cOwn (α := Int) 3 ae r0, cOwn (α := Span) 27 ag aV, cOwn (α := Int) 3 ah aW, cOwn (α := Town) 54 ai r3, cOwn (α := Raw 1) 67 aj bi, cRo bj, cBlk bn [aQ, aR, aS, aU, I av, I aw, aT] 30, cBlk bf [aX, aY, aZ, a6, I ax, I (ao + r8), a7] 30] R) [(0, true), (1, true), (2, true), (3, true), (4, true), (5, false), (6, true), (7, true), (8, true), (9, true), (10, true)] mixed (by decide +kernel) rfl ?_
  intro kS aL
  replace H := H.ext aL
  clear aL
  refine ⟨(H), ?_⟩
  refine d_q rfl (fun w' H => x_ld (p := Pq bf) (v := .agg #[aX, aY, aZ, a6, I ax, I (ao + r8), a7]) rfl (ldb_ag (ds := [aX, aY, aZ, a6, I ax, I (ao + r8), a7]) Ag30 Sz30 (H.bl 22) rfl rfl)) ?_
  refine d_q rfl (fun w' H => x_mv (v := bz) rfl) ?_
  refine d_q rfl (fun w' H => x_mv (v := I (i2 : Int)) rfl) ?_
  refine d_q rfl (fun w' H => x_ix (a := bz) (b := I (i2 : Int)) (v := vat bz 2 (Int.toNat (i2 : Int))) rfl rfl (Sl.ix (α := Dem) T57.und T57.size (H.os 2) (by omega) (by omega))) ?_
  refine d_q rfl (fun w' H => x_ld (p := vat bz 2 (Int.toNat (i2 : Int))) (v := .agg #[I ((bx.getD i2 default).spring), I ((bx.getD i2 default).town)]) rfl (ld_ag Ag62 Sz62 (At.mono (Dem_atA (H.os 2) (i := (i2 : Int)) (by omega) (by omega)) (H.ol 2)))) ?_
  refine d_l rfl ?_
  obtain ⟨kT, gN, hM⟩ := M.e_bind hM
  refine s_call cf24 [.agg #[aX, aY, aZ, a6, I ax, I (ao + r8), a7], .agg #[I ((bx.getD i2 default).spring), I ((bx.getD i2 default).town)]] rfl (zbv aD aE aF aG ax (ao + r8) ba (bx.getD i2 default) (Reads.of (k := 6) rfl roLe) eq (Reads.of (k := 7) rfl roLe) eu (Reads.of (k := 8) rfl roLe) ew (Reads.of (k := 9) rfl roLe) ez (Reads.of (k := 3) rfl roLe) eA gN _ (H.gt 23)) ?_
  rintro vq kU ⟨aH, am, ca, gO, hvq, au⟩
  subst gO
  subst vq
  try dsimp only at hM
  replace H := H.bk au
  clear au
  have kV := Sl.cells (H.os 0)
  have kW := Sl.oc (H.os 0)
  refine s_nil ⟨(H.dp 1), ?_⟩
  refine d_q rfl (fun w' H => x_mv (v := .tuple #[ca, I am]) rfl) ?_
  refine d_q rfl (fun w' H => x_ext (vs := [ca, I am]) (v := ca) rfl rfl) ?_
  refine d_q rfl (fun w' H => x_ext (vs := [ca, I am]) (v := I am) rfl rfl) ?_
  refine d_q rfl (fun w' H => x_as (v := ca) rfl) ?_
  refine d_q rfl (fun w' H => x_as (v := I am) rfl) ?_
  refine d_nil ?_
  refine W.seq ?_
  refine W.region rfl ?_
  refine zM (I ak) rfl ?_
  refine zC ak 0 (ak != 0) rfl rfl rfl ?_
  refine zM (B (ak != 0)) rfl ?_
  refine g_val (!(ak != 0)) (gy_f rfl) (fun hg => x_mv (v := I al) rfl) ?_
  refine g_val (!(ak != 0)) (gy_f rfl) (fun hg => x_cmp (kd := .i64) (a := al) (b := 0) (r := al != 0) (gd_of (c := !(ak != 0)) hg (I al)) rfl rfl) ?_
  refine s_val (x_por (b := ak != 0) (r := al != 0) rfl rfl (fun hb => gd_of (c := !(ak != 0)) (by first | exact hb | (rw [hb]; rfl) | simp_all) (B (al != 0)))) ?_
  refine zM (B ((ak != 0) || (al != 0))) rfl ?_
  refine g_val (!((ak != 0) || (al != 0))) (gy_f rfl) (fun hg => x_mv (v := I am) rfl) ?_
  refine g_val (!((ak != 0) || (al != 0))) (gy_f rfl) (fun hg => x_cmp (kd := .i64) (a := am) (b := 0) (r := am != 0) (gd_of (c := !((ak != 0) || (al != 0))) hg (I am)) rfl rfl) ?_
  refine s_val (x_por (b := ((ak != 0) || (al != 0))) (r := am != 0) rfl rfl (fun hb => gd_of (c := !((ak != 0) || (al != 0))) (by first | exact hb | (rw [hb]; rfl) | simp_all) (B (am != 0)))) ?_
  refine zM (B (((ak != 0) || (al != 0)) || (am != 0))) rfl ?_
  refine g_val (!(((ak != 0) || (al != 0)) || (am != 0))) (gy_f rfl) (fun hg => x_mv (v := b5) rfl) ?_
  refine g_val (!(((ak != 0) || (al != 0)) || (am != 0))) (gy_f rfl) (fun hg => x_lenS T23.und (gd_of (c := !(((ak != 0) || (al != 0)) || (am != 0))) hg (b5)) (H.os 1)) ?_
  refine g_val (!(((ak != 0) || (al != 0)) || (am != 0))) (gy_f rfl) (fun hg => x_mv (v := bJ) rfl) ?_
  refine g_val (!(((ak != 0) || (al != 0)) || (am != 0))) (gy_f rfl) (fun hg => x_lenS T23.und (gd_of (c := !(((ak != 0) || (al != 0)) || (am != 0))) hg (bJ)) (H.os 2)) ?_
  refine g_val (!(((ak != 0) || (al != 0)) || (am != 0))) (gy_f rfl) (fun hg => x_cmp (kd := .i64) (a := (aq.length : Int)) (b := (ac.length : Int)) (r := decide ((ac.length : Int) < (aq.length : Int))) (gd_of (c := !(((ak != 0) || (al != 0)) || (am != 0))) hg (I (aq.length : Int))) (gd_of (c := !(((ak != 0) || (al != 0)) || (am != 0))) hg (I (ac.length : Int))) rfl) ?_
  refine s_val (x_por (b := (((ak != 0) || (al != 0)) || (am != 0))) (r := decide ((ac.length : Int) < (aq.length : Int))) rfl rfl (fun hb => gd_of (c := !(((ak != 0) || (al != 0)) || (am != 0))) (by first | exact hb | (rw [hb]; rfl) | simp_all) (B (decide ((ac.length : Int) < (aq.length : Int)))))) ?_
  refine zM (B ((((ak != 0) || (al != 0)) || (am != 0)) || (decide ((ac.length : Int) < (aq.length : Int))))) rfl ?_
  refine g_val (!((((ak != 0) || (al != 0)) || (am != 0)) || (decide ((ac.length : Int) < (aq.length : Int))))) (gy_f rfl) (fun hg => x_mv (v := ca) rfl) ?_
  refine g_val (!((((ak != 0) || (al != 0)) || (am != 0)) || (decide ((ac.length : Int) < (aq.length : Int))))) (gy_f rfl) (fun hg => x_lenS T23.und (gd_of (c := !((((ak != 0) || (al != 0)) || (am != 0)) || (decide ((ac.length : Int) < (aq.length : Int))))) hg (ca)) (H.os 0)) ?_
  refine g_val (!((((ak != 0) || (al != 0)) || (am != 0)) || (decide ((ac.length : Int) < (aq.length : Int))))) (gy_f rfl) (fun hg => x_mv (v := bJ) rfl) ?_
  refine g_val (!((((ak != 0) || (al != 0)) || (am != 0)) || (decide ((ac.length : Int) < (aq.length : Int))))) (gy_f rfl) (fun hg => x_lenS T23.und (gd_of (c := !((((ak != 0) || (al != 0)) || (am != 0)) || (decide ((ac.length : Int) < (aq.length : Int))))) hg (bJ)) (H.os 2)) ?_
  refine g_val (!((((ak != 0) || (al != 0)) || (am != 0)) || (decide ((ac.length : Int) < (aq.length : Int))))) (gy_f rfl) (fun hg => x_cmp (kd := .i64) (a := (aH.length : Int)) (b := (ac.length : Int)) (r := decide ((ac.length : Int) < (aH.length : Int))) (gd_of (c := !((((ak != 0) || (al != 0)) || (am != 0)) || (decide ((ac.length : Int) < (aq.length : Int))))) hg (I (aH.length : Int))) (gd_of (c := !((((ak != 0) || (al != 0)) || (am != 0)) || (decide ((ac.length : Int) < (aq.length : Int))))) hg (I (ac.length : Int))) rfl) ?_
  refine s_val (x_por (b := ((((ak != 0) || (al != 0)) || (am != 0)) || (decide ((ac.length : Int) < (aq.length : Int))))) (r := decide ((ac.length : Int) < (aH.length : Int))) rfl rfl (fun hb => gd_of (c := !((((ak != 0) || (al != 0)) || (am != 0)) || (decide ((ac.length : Int) < (aq.length : Int))))) (by first | exact hb | (rw [hb]; rfl) | simp_all) (B (decide ((ac.length : Int) < (aH.length : Int)))))) ?_
  refine zM (B (((((ak != 0) || (al != 0)) || (am != 0)) || (decide ((ac.length : Int) < (aq.length : Int)))) || (decide ((ac.length : Int) < (aH.length : Int))))) rfl ?_
  refine g_val (!(((((ak != 0) || (al != 0)) || (am != 0)) || (decide ((ac.length : Int) < (aq.length : Int)))) || (decide ((ac.length : Int) < (aH.length : Int))))) (gy_f rfl) (fun hg => x_mv (v := b5) rfl) ?_
  refine g_val (!(((((ak != 0) || (al != 0)) || (am != 0)) || (decide ((ac.length : Int) < (aq.length : Int)))) || (decide ((ac.length : Int) < (aH.length : Int))))) (gy_f rfl) (fun hg => x_mv (v := bJ) rfl) ?_
  refine g_val (!(((((ak != 0) || (al != 0)) || (am != 0)) || (decide ((ac.length : Int) < (aq.length : Int)))) || (decide ((ac.length : Int) < (aH.length : Int))))) (gy_f rfl) (fun hg => x_mv (v := b5) rfl) ?_
  refine g_val (!(((((ak != 0) || (al != 0)) || (am != 0)) || (decide ((ac.length : Int) < (aq.length : Int)))) || (decide ((ac.length : Int) < (aH.length : Int))))) (gy_f rfl) (fun hg => x_lenS T23.und (gd_of (c := !(((((ak != 0) || (al != 0)) || (am != 0)) || (decide ((ac.length : Int) < (aq.length : Int)))) || (decide ((ac.length : Int) < (aH.length : Int))))) hg (b5)) (H.os 1)) ?_
  obtain ⟨dr, hM⟩ := M.e_grd hM
  replace dr := M.imp_of dr
  simp only [Bool.and_eq_true, decide_eq_true_eq] at dr
  obtain ⟨dE, gP, dT⟩ := gd_ex (c := !(((((ak != 0) || (al != 0)) || (am != 0)) || (decide ((ac.length : Int) < (aq.length : Int)))) || (decide ((ac.length : Int) < (aH.length : Int))))) fun hg => sl_hi T23.und T23.size (H.os 2) (j := (aq.length : Int)) (by have aI := dr.resolve_left (by rw [hg]; decide); first | exact aI | exact aI.1 | exact aI.2 | omega | (have aL := hg; simp at aL; omega)) (by have aI := dr.resolve_left (by rw [hg]; decide); first | exact aI | exact aI.1 | exact aI.2 | omega | (have aL := hg; simp at aL; omega))
  replace dT : (!(((((ak != 0) || (al != 0)) || (am != 0)) || (decide ((ac.length : Int) < (aq.length : Int)))) || (decide ((ac.length : Int) < (aH.length : Int))))) = true -> Sl _ dE (ac.take (aq.length)) := dT
  refine g_val (!(((((ak != 0) || (al != 0)) || (am != 0)) || (decide ((ac.length : Int) < (aq.length : Int)))) || (decide ((ac.length : Int) < (aH.length : Int))))) (gy_f rfl) (fun hg => x_sl (v := bJ) (u := dE) (lo' := none) (hi' := some (I (aq.length : Int))) (mx' := none) (gd_of (c := !(((((ak != 0) || (al != 0)) || (am != 0)) || (decide ((ac.length : Int) < (aq.length : Int)))) || (decide ((ac.length : Int) < (aH.length : Int))))) hg (bJ)) rfl (congrArg some (gd_of (c := !(((((ak != 0) || (al != 0)) || (am != 0)) || (decide ((ac.length : Int) < (aq.length : Int)))) || (decide ((ac.length : Int) < (aH.length : Int))))) hg (I (aq.length : Int)))) rfl (gP hg _)) ?_
  obtain ⟨bw, gQ, hM⟩ := M.e_bind hM
  refine t_gcall (!(((((ak != 0) || (al != 0)) || (am != 0)) || (decide ((ac.length : Int) < (aq.length : Int)))) || (decide ((ac.length : Int) < (aH.length : Int))))) (gy_f rfl) cf18 (B bw) (fun _ => [b5, dE]) (fun hg => lst2 (gd_of (c := !(((((ak != 0) || (al != 0)) || (am != 0)) || (decide ((ac.length : Int) < (aq.length : Int)))) || (decide ((ac.length : Int) < (aH.length : Int))))) hg (b5)) (gd_of (c := !(((((ak != 0) || (al != 0)) || (am != 0)) || (decide ((ac.length : Int) < (aq.length : Int)))) || (decide ((ac.length : Int) < (aH.length : Int))))) hg (dE))) H (fun hg => (zai aq (ac.take (aq.length)) (rdo 1) (H.os 1) (rdo 2) (dT hg) (M.e_opt gQ hg) _ (H.give (A := []) rfl)).mono fun v_ w_ ⟨y_, bS, dU, H_⟩ => by subst bS; exact ⟨dU, H.via H_⟩) ?_
  intro kX H
  refine g_val (!(((((ak != 0) || (al != 0)) || (am != 0)) || (decide ((ac.length : Int) < (aq.length : Int)))) || (decide ((ac.length : Int) < (aH.length : Int))))) (gy_f rfl) (fun hg => x_not (b := bw) (gd_of (c := !(((((ak != 0) || (al != 0)) || (am != 0)) || (decide ((ac.length : Int) < (aq.length : Int)))) || (decide ((ac.length : Int) < (aH.length : Int))))) hg (B bw))) ?_
  refine s_val (x_por (b := (((((ak != 0) || (al != 0)) || (am != 0)) || (decide ((ac.length : Int) < (aq.length : Int)))) || (decide ((ac.length : Int) < (aH.length : Int))))) (r := !bw) rfl rfl (fun hb => gd_of (c := !(((((ak != 0) || (al != 0)) || (am != 0)) || (decide ((ac.length : Int) < (aq.length : Int)))) || (decide ((ac.length : Int) < (aH.length : Int))))) (by first | exact hb | (rw [hb]; rfl) | simp_all) (B (!bw)))) ?_
  refine zM (B ((((((ak != 0) || (al != 0)) || (am != 0)) || (decide ((ac.length : Int) < (aq.length : Int)))) || (decide ((ac.length : Int) < (aH.length : Int)))) || (!bw))) rfl ?_
  refine g_val (!((((((ak != 0) || (al != 0)) || (am != 0)) || (decide ((ac.length : Int) < (aq.length : Int)))) || (decide ((ac.length : Int) < (aH.length : Int)))) || (!bw))) (gy_f rfl) (fun hg => x_mv (v := ca) rfl) ?_
  refine g_val (!((((((ak != 0) || (al != 0)) || (am != 0)) || (decide ((ac.length : Int) < (aq.length : Int)))) || (decide ((ac.length : Int) < (aH.length : Int)))) || (!bw))) (gy_f rfl) (fun hg => x_mv (v := bJ) rfl) ?_
  refine g_val (!((((((ak != 0) || (al != 0)) || (am != 0)) || (decide ((ac.length : Int) < (aq.length : Int)))) || (decide ((ac.length : Int) < (aH.length : Int)))) || (!bw))) (gy_f rfl) (fun hg => x_mv (v := ca) rfl) ?_
  refine g_val (!((((((ak != 0) || (al != 0)) || (am != 0)) || (decide ((ac.length : Int) < (aq.length : Int)))) || (decide ((ac.length : Int) < (aH.length : Int)))) || (!bw))) (gy_f rfl) (fun hg => x_lenS T23.und (gd_of (c := !((((((ak != 0) || (al != 0)) || (am != 0)) || (decide ((ac.length : Int) < (aq.length : Int)))) || (decide ((ac.length : Int) < (aH.length : Int)))) || (!bw))) hg (ca)) (H.os 0)) ?_
  obtain ⟨dt, hM⟩ := M.e_grd hM
  replace dt := M.imp_of dt
  simp only [Bool.and_eq_true, decide_eq_true_eq] at dt
  obtain ⟨dF, gR, dV⟩ := gd_ex (c := !((((((ak != 0) || (al != 0)) || (am != 0)) || (decide ((ac.length : Int) < (aq.length : Int)))) || (decide ((ac.length : Int) < (aH.length : Int)))) || (!bw))) fun hg => sl_hi T23.und T23.size (H.os 2) (j := (aH.length : Int)) (by have aI := dt.resolve_left (by rw [hg]; decide); first | exact aI | exact aI.1 | exact aI.2 | omega | (have aL := hg; simp at aL; omega)) (by have aI := dt.resolve_left (by rw [hg]; decide); first | exact aI | exact aI.1 | exact aI.2 | omega | (have aL := hg; simp at aL; omega))
  replace dV : (!((((((ak != 0) || (al != 0)) || (am != 0)) || (decide ((ac.length : Int) < (aq.length : Int)))) || (decide ((ac.length : Int) < (aH.length : Int)))) || (!bw))) = true -> Sl _ dF (ac.take (aH.length)) := dV
  refine g_val (!((((((ak != 0) || (al != 0)) || (am != 0)) || (decide ((ac.length : Int) < (aq.length : Int)))) || (decide ((ac.length : Int) < (aH.length : Int)))) || (!bw))) (gy_f rfl) (fun hg => x_sl (v := bJ) (u := dF) (lo' := none) (hi' := some (I (aH.length : Int))) (mx' := none) (gd_of (c := !((((((ak != 0) || (al != 0)) || (am != 0)) || (decide ((ac.length : Int) < (aq.length : Int)))) || (decide ((ac.length : Int) < (aH.length : Int)))) || (!bw))) hg (bJ)) rfl (congrArg some (gd_of (c := !((((((ak != 0) || (al != 0)) || (am != 0)) || (decide ((ac.length : Int) < (aq.length : Int)))) || (decide ((ac.length : Int) < (aH.length : Int)))) || (!bw))) hg (I (aH.length : Int)))) rfl (gR hg _)) ?_
  obtain ⟨c7, gS, hM⟩ := M.e_bind hM
  refine t_gcall (!((((((ak != 0) || (al != 0)) || (am != 0)) || (decide ((ac.length : Int) < (aq.length : Int)))) || (decide ((ac.length : Int) < (aH.length : Int)))) || (!bw))) (gy_f rfl) cf18 (B c7) (fun _ => [ca, dF]) (fun hg => lst2 (gd_of (c := !((((((ak != 0) || (al != 0)) || (am != 0)) || (decide ((ac.length : Int) < (aq.length : Int)))) || (decide ((ac.length : Int) < (aH.length : Int)))) || (!bw))) hg (ca)) (gd_of (c := !((((((ak != 0) || (al != 0)) || (am != 0)) || (decide ((ac.length : Int) < (aq.length : Int)))) || (decide ((ac.length : Int) < (aH.length : Int)))) || (!bw))) hg (dF))) H (fun hg => (zai aH (ac.take (aH.length)) (rdo 0) (H.os 0) (rdo 2) (dV hg) (M.e_opt gS hg) _ (H.give (A := []) rfl)).mono fun v_ w_ ⟨y_, bS, dU, H_⟩ => by subst bS; exact ⟨dU, H.via H_⟩) ?_
  intro kY H
  refine g_val (!((((((ak != 0) || (al != 0)) || (am != 0)) || (decide ((ac.length : Int) < (aq.length : Int)))) || (decide ((ac.length : Int) < (aH.length : Int)))) || (!bw))) (gy_f rfl) (fun hg => x_not (b := c7) (gd_of (c := !((((((ak != 0) || (al != 0)) || (am != 0)) || (decide ((ac.length : Int) < (aq.length : Int)))) || (decide ((ac.length : Int) < (aH.length : Int)))) || (!bw))) hg (B c7))) ?_
  refine s_val (x_por (b := ((((((ak != 0) || (al != 0)) || (am != 0)) || (decide ((ac.length : Int) < (aq.length : Int)))) || (decide ((ac.length : Int) < (aH.length : Int)))) || (!bw))) (r := !c7) rfl rfl (fun hb => gd_of (c := !((((((ak != 0) || (al != 0)) || (am != 0)) || (decide ((ac.length : Int) < (aq.length : Int)))) || (decide ((ac.length : Int) < (aH.length : Int)))) || (!bw))) (by first | exact hb | (rw [hb]; rfl) | simp_all) (B (!c7)))) ?_
  refine s_nil ?_
  refine W.cond (((((((ak != 0) || (al != 0)) || (am != 0)) || (decide ((ac.length : Int) < (aq.length : Int)))) || (decide ((ac.length : Int) < (aH.length : Int)))) || (!bw)) || (!c7)) rfl (fun dW => ?_) (fun dW => ?_)
  ·replace hM := M.e_t hM dW
   refine W.seq ?_
   refine W.region rfl ?_
   refine zA (B false) rfl ?_
   refine s_nil ?_
   replace H := H.dp 3
   refine W.ret ?_
   have gT := M.e_inr hM dS
   subst gT
   replace hM := eG
   try dsimp only at hM
   have bS := M.e_pure hM
   exact ⟨_, resE_tmp rfl, ⟨false, bS, rfl, (H.dp 21)⟩⟩
  replace hM := M.e_f hM dW
  refine W.skip ?_
  refine W.region rfl ?_
  refine zM (I (i2 : Int)) rfl ?_
  refine zR (i2 : Int) 1 ((i2 : Int) + 1) rfl rfl rfl (by omega) ?_
  refine zA (I ((i2 : Int) + 1)) rfl ?_
  refine s_nil ?_
  exact ⟨gG, gH, i2 + 1, _, upds_of _ _ ⟨rfl, rfl, rfl, rfl, rfl, rfl, trivial⟩, M.e_inl hM dS, (H.dp 3)⟩
 replace hM := M.e_f hM dq
 simp only [qy1, qy2, qy3, qy4, qy5, qy6, ne_eq, qy7] at dq
 refine W.exit ?_
 have gU := M.e_inr hM dS
 subst gU
 replace hM := eG
 try dsimp only at hM
 replace H := H.pk [3, 12, 13, 14, 15, 16, 17, 18]
 refine W.seq ?_
 refine W.region rfl ?_
 refine zA (.slice none 0 0) rfl ?_
 refine zA (.slice none 0 0) rfl ?_
 refine s_nil ?_
 refine W.seq ?_
 refine W.seq ?_
 refine W.region rfl ?_
 refine zA (I 0) rfl ?_
 refine s_nil ?_
 refine W.block ?_
 replace H := H.nilOwn (α := Int) 3
 replace H := H.nilOwn (α := Int) 3
 obtain ⟨gV, dX, gW⟩ := M.e_bind hM
 obtain ⟨c8, dX⟩ := M.e_iter dX
 refine W.loop (fun m σ W => ∃ (s8 : Int) (s9 : Int) (aB : Nat) (l5 : List Int) (l6 : List Int) (cz : Value) (ct : Value) (ρ : Env), σ = upds ρ [(5, Pq aC), (6, Pq aM), (25, cz), (26, ct), (27, I (aB : Int))] /\ M.iterN (za2 more r0) m (s8, s9, aB, l5, l6) = some gV /\ St w W [cOwn (α := Int) 3 ct l6, cOwn (α := Int) 3 cz l5, cBlk aM [bh, I s8, I s9] 71, cBlk aC [ae, ag, ah, ai, I r4, I r5, aj] 30, cOwn (α := Int) 3 ae r0, cOwn (α := Span) 27 ag aV, cOwn (α := Int) 3 ah aW, cOwn (α := Town) 54 ai r3, cOwn (α := Raw 1) 67 aj bi, cRo bj] R) ?_ ?_
 ·exact ⟨_, s5, s6, 0, [], [], (.slice none 0 0), (.slice none 0 0), _, upds_of _ _ ⟨rfl, rfl, rfl, rfl, rfl, trivial⟩, dX, H⟩
 rintro kZ σ k9 ⟨s8, s9, aB, l5, l6, cz, ct, ρ, rfl, eI, H⟩
 obtain ⟨dG, dH, lc, hM, du⟩ := M.e_iterN eI
 simp only [za2] at hM
 clear eI
 refine W.seq ?_
 refine W.seq ?_
 refine W.region rfl ?_
 refine zM (I (aB : Int)) rfl ?_
 refine s_val (x_fa (a := Pq aC) (v := Pq aC) rfl (fa_blk (o := 0) Fd30_0 Sz23)) ?_
 refine s_val (x_ld (p := Pq aC) (v := ae) rfl (ldb_sc Sc23 (H.bl 3) rfl)) ?_
 have lf := ((H.os 4)).len_le
 refine s_val (x_lenS T23.und rfl (H.os 4)) ?_
 refine zC (aB : Int) (r0.length : Int) (decide ((aB : Int) < (r0.length : Int))) rfl rfl rfl ?_
 refine s_nil ?_
 refine W.cond (decide ((aB : Int) < (r0.length : Int))) rfl (fun dv => ?_) (fun dv => ?_)
 ·replace hM := M.e_t hM dv
  simp only [qy1, qy2, qy3, qy4, qy5, qy6, ne_eq, qy7] at dv
  refine W.skip ?_
  refine W.seq ?_
  refine W.block ?_
  refine W.seq ?_
  refine W.region rfl ?_
  refine zM (Pq aM) rfl ?_
  obtain ⟨lg, gX, hM⟩ := M.e_bind hM
  refine s_call cf10 [Pq aM, I 3] rfl (zab more s8 s9 3 (cK.app _) cL gX _ ((H.mv 2).gt 9)) ?_
  rintro vq lh ⟨b6, dI, dJ, gY, hvq, au⟩
  subst gY
  subst vq
  try dsimp only at hM
  replace H := H.mv 2 |>.bk au
  clear au
  refine zA (I b6) rfl ?_
  refine s_nil ?_
  refine W.seq ?_
  refine W.seq ?_
  refine W.region rfl ?_
  refine zM (I b6) rfl ?_
  refine zC b6 0 (b6 == 0) rfl rfl rfl ?_
  refine s_nil ?_
  refine W.cond (b6 == 0) rfl (fun dw => ?_) (fun dw => ?_)
  ·replace hM := M.e_t hM dw
   simp only [qy1, qy2, qy3, qy4, qy5, qy6, ne_eq, qy7] at dw
   refine W.region rfl ?_
   refine zM cz rfl ?_
   refine zM (I (aB : Int)) rfl ?_
   refine t_bs (α := Int) T23 [I (aB : Int)] [(aB : Int)] H rfl (.cons rfl (Flat.rep_enc _ (aB : Int)) <| .nil) rfl rfl rfl ?_
   intro gZ li H
   obtain ⟨g0, hM⟩ := M.e_grd hM
   simp only [Bool.and_eq_true, decide_eq_true_eq] at g0
   refine t_app (α := Int) (k := 3) (l := l5) (l2 := [(aB : Int)]) (l' := l5 ++ ([(aB : Int)])) (vy := gZ) T23 rfl H rfl rfl rfl (H.os 0) (H.ol 0) (rfl) (by first | omega | (simp only [List.length_nil] at *; omega)) ?_
   intro dY lj H
   replace H := H.nf
   refine zA dY rfl ?_
   refine s_nil ?_
   refine W.seq ?_
   refine W.region rfl ?_
   refine zM (I b6) rfl ?_
   refine zC b6 2 (decide (b6 < 2)) rfl rfl rfl ?_
   refine s_nil ?_
   refine W.cond (decide (b6 < 2)) rfl (fun dx => ?_) (fun dx => ?_)
   ·replace hM := M.e_t hM dx
    simp only [qy1, qy2, qy3, qy4, qy5, qy6, ne_eq, qy7] at dx
    refine W.region rfl ?_
    refine zM ct rfl ?_
    refine zM (I (aB : Int)) rfl ?_
    refine t_bs (α := Int) T23 [I (aB : Int)] [(aB : Int)] H rfl (.cons rfl (Flat.rep_enc _ (aB : Int)) <| .nil) rfl rfl rfl ?_
    intro hG lk H
    obtain ⟨hJ, hM⟩ := M.e_grd hM
    simp only [Bool.and_eq_true, decide_eq_true_eq] at hJ
    refine t_app (α := Int) (k := 3) (l := l6) (l2 := [(aB : Int)]) (l' := l6 ++ ([(aB : Int)])) (vy := hG) T23 rfl H rfl rfl rfl (H.os 0) (H.ol 0) (rfl) (by first | omega | (simp only [List.length_nil] at *; omega)) ?_
    intro eJ ll H
    replace H := H.nf
    refine zA eJ rfl ?_
    refine s_nil ?_
    replace H := H.dp 2
    refine W.region rfl ?_
    refine zM (I (aB : Int)) rfl ?_
    refine zR (aB : Int) 1 ((aB : Int) + 1) rfl rfl rfl (by omega) ?_
    refine zA (I ((aB : Int) + 1)) rfl ?_
    refine s_nil ?_
    exact ⟨dG, dH, dI, dJ, aB + 1, l5 ++ ([(aB : Int)]), l6 ++ ([(aB : Int)]), dY, eJ, _, upds_of _ _ ⟨rfl, rfl, rfl, rfl, rfl, trivial⟩, M.e_inl hM du, (H.pk [1, 2, 0, 3, 4, 5, 6, 7, 8, 9])⟩
   replace hM := M.e_f hM dx
   simp only [qy1, qy2, qy3, qy4, qy5, qy6, ne_eq, qy7] at dx
   refine W.skip ?_
   refine W.region rfl ?_
   refine zM (I (aB : Int)) rfl ?_
   refine zR (aB : Int) 1 ((aB : Int) + 1) rfl rfl rfl (by omega) ?_
   refine zA (I ((aB : Int) + 1)) rfl ?_
   refine s_nil ?_
   exact ⟨dG, dH, dI, dJ, aB + 1, l5 ++ ([(aB : Int)]), l6, dY, ct, _, upds_of _ _ ⟨rfl, rfl, rfl, rfl, rfl, trivial⟩, M.e_inl hM du, (H.pk [2, 3, 1, 4, 5, 6, 7, 8, 9, 10])⟩
  replace hM := M.e_f hM dw
  simp only [qy1, qy2, qy3, qy4, qy5, qy6, ne_eq, qy7] at dw
  refine W.skip ?_
  refine W.seq ?_
  refine W.region rfl ?_
  refine zM (I b6) rfl ?_
  refine zC b6 2 (decide (b6 < 2)) rfl rfl rfl ?_
  refine s_nil ?_
  refine W.cond (decide (b6 < 2)) rfl (fun dy => ?_) (fun dy => ?_)
  ·replace hM := M.e_t hM dy
   simp only [qy1, qy2, qy3, qy4, qy5, qy6, ne_eq, qy7] at dy
   refine W.region rfl ?_
   refine zM ct rfl ?_
   refine zM (I (aB : Int)) rfl ?_
   refine t_bs (α := Int) T23 [I (aB : Int)] [(aB : Int)] H rfl (.cons rfl (Flat.rep_enc _ (aB : Int)) <| .nil) rfl rfl rfl ?_
   intro hN lm H
   obtain ⟨hO, hM⟩ := M.e_grd hM
   simp only [Bool.and_eq_true, decide_eq_true_eq] at hO
   refine t_app (α := Int) (k := 2) (l := l6) (l2 := [(aB : Int)]) (l' := l6 ++ ([(aB : Int)])) (vy := hN) T23 rfl H rfl rfl rfl (H.os 0) (H.ol 0) (rfl) (by first | omega | (simp only [List.length_nil] at *; omega)) ?_
   intro eK lp H
   replace H := H.nf
   refine zA eK rfl ?_
   refine s_nil ?_
   refine W.region rfl ?_
   refine zM (I (aB : Int)) rfl ?_
   refine zR (aB : Int) 1 ((aB : Int) + 1) rfl rfl rfl (by omega) ?_
   refine zA (I ((aB : Int) + 1)) rfl ?_
   refine s_nil ?_
   exact ⟨dG, dH, dI, dJ, aB + 1, l5, l6 ++ ([(aB : Int)]), cz, eK, _, upds_of _ _ ⟨rfl, rfl, rfl, rfl, rfl, trivial⟩, M.e_inl hM du, (H.pk [2, 3, 1, 4, 5, 6, 7, 8, 9, 10])⟩
  replace hM := M.e_f hM dy
  simp only [qy1, qy2, qy3, qy4, qy5, qy6, ne_eq, qy7] at dy
  refine W.skip ?_
  refine W.region rfl ?_
  refine zM (I (aB : Int)) rfl ?_
  refine zR (aB : Int) 1 ((aB : Int) + 1) rfl rfl rfl (by omega) ?_
  refine zA (I ((aB : Int) + 1)) rfl ?_
  refine s_nil ?_
  exact ⟨dG, dH, dI, dJ, aB + 1, l5, l6, cz, ct, _, upds_of _ _ ⟨rfl, rfl, rfl, rfl, rfl, trivial⟩, M.e_inl hM du, (H.pk [1, 2, 0, 3, 4, 5, 6, 7, 8, 9])⟩
 replace hM := M.e_f hM dv
 simp only [qy1, qy2, qy3, qy4, qy5, qy6, ne_eq, qy7] at dv
 refine W.exit ?_
 have hP := M.e_inr hM du
 subst hP
 replace hM := gW
 try dsimp only at hM
 refine W.seq ?_
 refine W.region rfl ?_
 refine s_val (x_ld (p := Pq aC) (v := .agg #[ae, ag, ah, ai, I r4, I r5, aj]) rfl (ldb_ag (ds := [ae, ag, ah, ai, I r4, I r5, aj]) Ag30 Sz30 (H.bl 3) rfl rfl)) ?_
 refine zM cz rfl ?_
 obtain ⟨lq, hZ, hM⟩ := M.e_bind hM
 refine s_call cf25 [.agg #[ae, ag, ah, ai, I r4, I r5, aj], cz] rfl (zc9 r0 aV aW r3 r4 r5 r6 l5 (rdo 4) (H.os 4) (rdo 5) (H.os 5) (rdo 6) (H.os 6) (rdo 7) (H.os 7) (Reads.sup (rdo 8) (Reads.of (k := 9) rfl roLe)) (rowSl rfl (H.get (k := 8) rfl) (roLe _ (H.get (k := 9) rfl)) cn) (rdo 1) (H.os 1) hZ _ (H.gt 10)) ?_
 rintro vq lr ⟨bK, bT, bL, ia, hvq, au⟩
 subst ia
 subst vq
 try dsimp only at hM
 replace H := H.bk au
 clear au
 refine zM (.tuple #[bL, I bT]) rfl ?_
 refine zX [bL, I bT] bL rfl rfl ?_
 refine zX [bL, I bT] (I bT) rfl rfl ?_
 refine zA bL rfl ?_
 refine zA (I bT) rfl ?_
 refine s_nil ?_
 replace H := H.er 3 |>.er 2
 refine W.seq ?_
 refine W.region rfl ?_
 refine s_val (x_ld (p := Pq aC) (v := .agg #[ae, ag, ah, ai, I r4, I r5, aj]) rfl (ldb_ag (ds := [ae, ag, ah, ai, I r4, I r5, aj]) Ag30 Sz30 (H.bl 2) rfl rfl)) ?_
 refine zM ct rfl ?_
 obtain ⟨ls, ib, hM⟩ := M.e_bind hM
 refine s_call cf25 [.agg #[ae, ag, ah, ai, I r4, I r5, aj], ct] rfl (zc9 r0 aV aW r3 r4 r5 r6 l6 (rdo 3) (H.os 3) (rdo 4) (H.os 4) (rdo 5) (H.os 5) (rdo 6) (H.os 6) (Reads.sup (rdo 7) (Reads.of (k := 8) rfl roLe)) (rowSl rfl (H.get (k := 7) rfl) (roLe _ (H.get (k := 8) rfl)) cn) (rdo 1) (H.os 1) ib _ (H.gt 9)) ?_
 rintro vq lu ⟨bM, cb, bN, ic, hvq, au⟩
 subst ic
 subst vq
 try dsimp only at hM
 replace H := H.bk au
 clear au
 refine zM (.tuple #[bN, I cb]) rfl ?_
 refine zX [bN, I cb] bN rfl rfl ?_
 refine zX [bN, I cb] (I cb) rfl rfl ?_
 refine zA bN rfl ?_
 refine zA (I cb) rfl ?_
 refine s_nil ?_
 replace H := H.pk [0, 1]
 refine W.seq ?_
 refine W.seq ?_
 refine W.region rfl ?_
 refine zM (I bT) rfl ?_
 refine zC bT 0 (bT != 0) rfl rfl rfl ?_
 refine zM (B (bT != 0)) rfl ?_
 refine g_val (!(bT != 0)) (gy_f rfl) (fun hg => x_mv (v := I cb) rfl) ?_
 refine g_val (!(bT != 0)) (gy_f rfl) (fun hg => x_cmp (kd := .i64) (a := cb) (b := 0) (r := cb != 0) (gd_of (c := !(bT != 0)) hg (I cb)) rfl rfl) ?_
 refine s_val (x_por (b := bT != 0) (r := cb != 0) rfl rfl (fun hb => gd_of (c := !(bT != 0)) (by first | exact hb | (rw [hb]; rfl) | simp_all) (B (cb != 0)))) ?_
 refine s_nil ?_
 refine W.cond ((bT != 0) || (cb != 0)) rfl (fun dZ => ?_) (fun dZ => ?_)
 ·replace hM := M.e_t hM dZ
  refine W.seq ?_
  refine W.region rfl ?_
  refine zA (B false) rfl ?_
  refine s_nil ?_
  replace H := H.pk []
  refine W.ret ?_
  have bS := M.e_pure hM
  exact ⟨_, resE_tmp rfl, ⟨false, bS, rfl, H⟩⟩
 replace hM := M.e_f hM dZ
 refine W.skip ?_
 refine W.seq ?_
 refine W.seq ?_
 refine W.region rfl ?_
 refine zA (I 0) rfl ?_
 refine s_nil ?_
 refine W.block ?_
 obtain ⟨ie, d3, eL⟩ := M.e_bind hM
 obtain ⟨c8, d3⟩ := M.e_iter d3
 refine W.loop (fun m σ W => ∃ (i3 : Nat) (ρ : Env), σ = upds ρ [(29, bL), (30, bN), (32, I (i3 : Int))] /\ M.iterN (za4 bK bM) m i3 = some ie /\ St w W [cOwn (α := Dem) 62 bN bM, cOwn (α := Dem) 62 bL bK] R) ?_ ?_
 ·exact ⟨_, 0, _, upds_of _ _ ⟨rfl, rfl, rfl, trivial⟩, d3, H⟩
 rintro lv σ lw ⟨i3, ρ, rfl, eM, H⟩
 obtain ⟨ig, ii, lx, hM, d4⟩ := M.e_iterN eM
 simp only [za4] at hM
 clear eM
 refine W.seq ?_
 refine W.seq ?_
 refine W.region rfl ?_
 refine zM (I (i3 : Int)) rfl ?_
 refine zM bN rfl ?_
 have ly := ((H.os 0)).len_le
 refine s_val (x_lenS T57.und rfl (H.os 0)) ?_
 refine zC (i3 : Int) (bM.length : Int) (decide ((i3 : Int) < (bM.length : Int))) rfl rfl rfl ?_
 refine s_nil ?_
 refine W.cond (decide ((i3 : Int) < (bM.length : Int))) rfl (fun dz => ?_) (fun dz => ?_)
 ·replace hM := M.e_t hM dz
  simp only [qy1, qy2, qy3, qy4, qy5, qy6, ne_eq, qy7] at dz
  refine W.skip ?_
  refine W.seq ?_
  refine W.block ?_
  refine W.seq ?_
  refine W.region rfl ?_
  refine zA (B false) rfl ?_
  refine s_nil ?_
  refine W.seq ?_
  refine W.seq ?_
  refine W.region rfl ?_
  refine zA (I 0) rfl ?_
  refine s_nil ?_
  refine W.block ?_
  obtain ⟨ij, d5, ik⟩ := M.e_bind hM
  obtain ⟨c8, d5⟩ := M.e_iter d5
  refine W.loop (fun m σ W => ∃ (met : Bool) (k : Nat) (ρ : Env), σ = upds ρ [(29, bL), (30, bN), (32, I (i3 : Int)), (33, B met), (34, I (k : Int))] /\ M.iterN (zaF bK bM i3) m (met, k) = some ij /\ St w W [cOwn (α := Dem) 62 bN bM, cOwn (α := Dem) 62 bL bK] R) ?_ ?_
  ·exact ⟨_, false, 0, _, upds_of _ _ ⟨rfl, rfl, rfl, rfl, rfl, trivial⟩, d5, H⟩
  rintro lz σ lA ⟨met, k, ρ, rfl, eN, H⟩
  obtain ⟨il, im, lB, hM, eO⟩ := M.e_iterN eN
  simp only [zaF] at hM
  clear eN
  refine W.seq ?_
  refine W.seq ?_
  refine W.region rfl ?_
  refine zM (I (k : Int)) rfl ?_
  refine zM bL rfl ?_
  have lC := ((H.os 1)).len_le
  refine s_val (x_lenS T57.und rfl (H.os 1)) ?_
  refine zC (k : Int) (bK.length : Int) (decide ((k : Int) < (bK.length : Int))) rfl rfl rfl ?_
  refine s_nil ?_
  refine W.cond (decide ((k : Int) < (bK.length : Int))) rfl (fun dA => ?_) (fun dA => ?_)
  ·replace hM := M.e_t hM dA
   simp only [qy1, qy2, qy3, qy4, qy5, qy6, ne_eq, qy7] at dA
   refine W.skip ?_
   refine W.seq ?_
   refine W.block ?_
   refine W.draw (fun W => St w W [cOwn (α := Dem) 62 bN bM, cOwn (α := Dem) 62 bL bK] R) [(0, true), (1, true), (2, true), (3, true), (4, true), (5, true), (6, true), (7, true), (8, true), (9, true), (10, true), (11, true), (12, true)] mixed (by decide +kernel) rfl ?_
   intro lD aL
   replace H := H.ext aL
   clear aL
   refine ⟨(H.pk [0, 1]), ?_⟩
   refine d_q rfl (fun w' H => x_mv (v := B met) rfl) ?_
   refine d_q rfl (fun w' H => x_mv (v := B met) rfl) ?_
   refine d_qg (!met) rfl (gy_f rfl) (fun hg => (fun w' H => x_mv (v := bL) rfl)) ?_
   refine d_qg (!met) rfl (gy_f rfl) (fun hg => (fun w' H => x_mv (v := I (k : Int)) rfl)) ?_
   obtain ⟨ce, hM⟩ := M.e_grd hM
   replace ce := M.imp_of ce
   simp only [Bool.and_eq_true, decide_eq_true_eq] at ce
   refine d_qg (!met) rfl (gy_f rfl) (fun hg => (fun w' H => x_ix (a := bL) (b := I (k : Int)) (v := vat bL 2 (Int.toNat (k : Int))) (gd_of (c := !met) hg (bL)) (gd_of (c := !met) hg (I (k : Int))) (Sl.ix (α := Dem) T57.und T57.size (H.os 1) (by have aI := ce.resolve_left (by rw [hg]; decide); first | exact aI | exact aI.1 | exact aI.2 | omega | (have aL := hg; simp at aL; omega)) (by have aI := ce.resolve_left (by rw [hg]; decide); first | exact aI | exact aI.1 | exact aI.2 | omega | (have aL := hg; simp at aL; omega))))) ?_
   refine d_qg (!met) rfl (gy_f rfl) (fun hg => (fun w' H => x_ld (p := vat bL 2 (Int.toNat (k : Int))) (v := .agg #[I ((bK.getD k default).spring), I ((bK.getD k default).town)]) (gd_of (c := !met) hg (vat bL 2 (Int.toNat (k : Int)))) (ld_ag Ag62 Sz62 (At.mono (Dem_atA (H.os 1) (i := (k : Int)) (by have aI := ce.resolve_left (by rw [hg]; decide); first | exact aI | exact aI.1 | exact aI.2 | omega | (have aL := hg; simp at aL; omega)) (by have aI := ce.resolve_left (by rw [hg]; decide); first | exact aI | exact aI.1 | exact aI.2 | omega | (have aL := hg; simp at aL; omega))) (H.ol 1))))) ?_
   refine d_qg (!met) rfl (gy_f rfl) (fun hg => (fun w' H => x_mv (v := bN) rfl)) ?_
   refine d_qg (!met) rfl (gy_f rfl) (fun hg => (fun w' H => x_mv (v := I (i3 : Int)) rfl)) ?_
   obtain ⟨cJ, hM⟩ := M.e_grd hM
   replace cJ := M.imp_of cJ
   simp only [Bool.and_eq_true, decide_eq_true_eq] at cJ
   refine d_qg (!met) rfl (gy_f rfl) (fun hg => (fun w' H => x_ix (a := bN) (b := I (i3 : Int)) (v := vat bN 2 (Int.toNat (i3 : Int))) (gd_of (c := !met) hg (bN)) (gd_of (c := !met) hg (I (i3 : Int))) (Sl.ix (α := Dem) T57.und T57.size (H.os 0) (by have aI := ce.resolve_left (by rw [hg]; decide); have bU := cJ.resolve_left (by rw [hg]; decide); first | exact aI | exact aI.1 | exact aI.2 | exact bU | exact bU.1 | exact bU.2 | omega | (have aL := hg; simp at aL; omega)) (by have aI := ce.resolve_left (by rw [hg]; decide); have bU := cJ.resolve_left (by rw [hg]; decide); first | exact aI | exact aI.1 | exact aI.2 | exact bU | exact bU.1 | exact bU.2 | omega | (have aL := hg; simp at aL; omega))))) ?_
   refine d_qg (!met) rfl (gy_f rfl) (fun hg => (fun w' H => x_ld (p := vat bN 2 (Int.toNat (i3 : Int))) (v := .agg #[I ((bM.getD i3 default).spring), I ((bM.getD i3 default).town)]) (gd_of (c := !met) hg (vat bN 2 (Int.toNat (i3 : Int)))) (ld_ag Ag62 Sz62 (At.mono (Dem_atA (H.os 0) (i := (i3 : Int)) (by have aI := ce.resolve_left (by rw [hg]; decide); have bU := cJ.resolve_left (by rw [hg]; decide); first | exact aI | exact aI.1 | exact aI.2 | exact bU | exact bU.1 | exact bU.2 | omega | (have aL := hg; simp at aL; omega)) (by have aI := ce.resolve_left (by rw [hg]; decide); have bU := cJ.resolve_left (by rw [hg]; decide); first | exact aI | exact aI.1 | exact aI.2 | exact bU | exact bU.1 | exact bU.2 | omega | (have aL := hg; simp at aL; omega))) (H.ol 0))))) ?_
   refine d_qg (!met) rfl (gy_f rfl) (fun hg => (fun w' H => x_eqS (eqT62 (bK.getD k default) (bM.getD i3 default) _) gdT62 (gd_of (c := !met) hg (.agg #[I ((bK.getD k default).spring), I ((bK.getD k default).town)])) (gd_of (c := !met) hg (.agg #[I ((bM.getD i3 default).spring), I ((bM.getD i3 default).town)])))) ?_
   refine d_q rfl (fun w' H => x_por (b := met) (r := decide ((bK.getD k default) = (bM.getD i3 default))) rfl rfl (fun hb => gd_of (c := !met) (by first | exact hb | (rw [hb]; rfl) | simp_all) (B (decide ((bK.getD k default) = (bM.getD i3 default)))))) ?_
   refine d_q rfl (fun w' H => x_as (v := B (met || (decide ((bK.getD k default) = (bM.getD i3 default))))) rfl) ?_
   refine d_nil ?_
   refine W.region rfl ?_
   refine zM (I (k : Int)) rfl ?_
   refine zR (k : Int) 1 ((k : Int) + 1) rfl rfl rfl (by omega) ?_
   refine zA (I ((k : Int) + 1)) rfl ?_
   refine s_nil ?_
   exact ⟨il, im, (met || (decide ((bK.getD k default) = (bM.getD i3 default)))), k + 1, _, upds_of _ _ ⟨rfl, rfl, rfl, rfl, rfl, trivial⟩, M.e_inl hM eO, H⟩
  replace hM := M.e_f hM dA
  simp only [qy1, qy2, qy3, qy4, qy5, qy6, ne_eq, qy7] at dA
  refine W.exit ?_
  have io := M.e_inr hM eO
  subst io
  replace hM := ik
  try dsimp only at hM
  refine W.seq ?_
  refine W.region rfl ?_
  refine zM (B met) rfl ?_
  refine s_val (x_not (b := met) rfl) ?_
  refine s_nil ?_
  refine W.cond (!met) rfl (fun d6 => ?_) (fun d6 => ?_)
  ·replace hM := M.e_t hM d6
   refine W.seq ?_
   refine W.region rfl ?_
   refine zA (B false) rfl ?_
   refine s_nil ?_
   refine W.ret ?_
   have ip := M.e_inr hM d4
   subst ip
   replace hM := eL
   try dsimp only at hM
   have bS := M.e_pure hM
   exact ⟨_, resE_tmp rfl, ⟨false, bS, rfl, (H.pk [])⟩⟩
  replace hM := M.e_f hM d6
  refine W.skip ?_
  refine W.region rfl ?_
  refine zM (I (i3 : Int)) rfl ?_
  refine zR (i3 : Int) 1 ((i3 : Int) + 1) rfl rfl rfl (by omega) ?_
  refine zA (I ((i3 : Int) + 1)) rfl ?_
  refine s_nil ?_
  exact ⟨ig, ii, i3 + 1, _, upds_of _ _ ⟨rfl, rfl, rfl, trivial⟩, M.e_inl hM d4, H⟩
 replace hM := M.e_f hM dz
 simp only [qy1, qy2, qy3, qy4, qy5, qy6, ne_eq, qy7] at dz
 refine W.exit ?_
 have iq := M.e_inr hM d4
 subst iq
 replace hM := eL
 try dsimp only at hM
 replace H := H.pk []
 refine W.seq ?_
 refine W.region rfl ?_
 obtain ⟨lE, ir, hM⟩ := M.e_bind hM
 refine s_call cf15 [] rfl (zdb ir _ (H.gt 0)) ?_
 rintro vq lF ⟨eP, iu, hvq, au⟩
 subst iu
 subst vq
 try dsimp only at hM
 replace H := H.bk au
 clear au
 refine zA (B eP) rfl ?_
 refine s_nil ?_
 refine W.ret ?_
 have bS := M.e_pure hM
 exact ⟨_, resE_tmp rfl, ⟨eP, bS, rfl, H⟩⟩

end Go.Proofs.Ytbaehghammbjdaa
end
namespace Go.Nm
theorem M.i_eq {α : Type} {m : M α} {a b : α} (h : m.Ends a) (e : a = b) : m.Ends b := e ▸ h
theorem take_set_app {α : Type} {l : List α} {i : Nat} {x : α} (hi : i < l.length) : (l.set i x).take (i + 1) = l.take i ++ [x] := by
  rw [List.take_succ_eq_append_getElem (by rw [List.length_set]; exact hi), List.getElem_set_self]
  congr 1
  apply List.ext_getElem?
  intro p
  rw [List.getElem?_take, List.getElem?_take]
  split
  · rw [List.getElem?_set_ne (by omega)]
  · rfl
/-- Of two beginnings of a list the narrower one is a beginning of the other. -/
theorem filter_pre {α : Type} {q q' : α -> Bool} : ∀ {p : List α}, p.Pairwise (fun a b => q' b = true -> q' a = true) -> (∀ x ∈ p, q' x = true -> q x = true) -> p.filter q' = (p.filter q).take (p.filter q').length
  | [], _, _ => rfl
  | a :: p, h, hi => by
    rw [List.pairwise_cons] at h
    by_cases e : q' a = true
    · rw [List.filter_cons_of_pos e, List.filter_cons_of_pos (hi a (by simp) e), List.length_cons, List.take_succ_cons]
      exact congrArg (a :: ·) (filter_pre h.2 fun x hx => hi x (by simp [hx]))
    · have : (a :: p).filter q' = [] := by
        rw [List.filter_eq_nil_iff]
        intro x hx
        rcases List.mem_cons.1 hx with rfl | hx
        · exact e
        · exact fun hq => e (h.1 x hx hq)
      rw [this]
      rfl
namespace Wn
/-- Whether some watch meets a demand. -/
def mt (dn : List Int) (tr : List Span) (tw : List Town) (dh : Int) (W : List Int) (d : Dem) : Bool := (Sd dn tr tw dh d).any fun s => decide (s ∈ W)
variable {dn : List Int} {tr : List Span} {tw tw' : List Town} {dh dh' : Int}
theorem Sd_first (hD : Dn dn) (hlo : ∀ x : Int, 0 <= x -> x < (dn.length : Int) -> 0 <= lo tr x /\ lo tr x <= 1000) {d : Dem} (hd : OkD dn tw d) : (P dn d.spring).Pairwise (fun a b => meetB dn tr tw dh d b = true -> meetB dn tr tw dh d a = true) := by
  have hst : Stn dn d.spring := .inr hd.1
  rw [List.pairwise_iff_getElem]
  intro i j hi hj hij hm
  have hu := P_up hD _ hst
  have hlt := List.pairwise_iff_getElem.1 hu i j hi hj hij
  have ri := P_mem hD _ hst _ (List.getElem_mem hi)
  have hF := P_fwd hD hst (List.getElem_mem hi) (List.getElem_mem hj) (by omega)
  unfold meetB at hm ⊢
  rw [Bool.and_eq_true, decide_eq_true_eq, decide_eq_true_eq] at hm ⊢
  obtain ⟨c1, c2⟩ := upto_trans hD (.inr ri.2) hF hm.1
  refine ⟨c1, ?_⟩
  rw [c2, sm_app]
  have := sm_bound (lo tr) (upto (P dn (P dn d.spring)[i]) (P dn d.spring)[j]) fun w hw => by
    have h1 := P_mem hD _ (.inr ri.2) w (upto_mem hw).1
    exact hlo w h1.2.1 h1.2.2
  omega
/-- What asks more of watches: the same stations, longer Leads, a greater Delay. -/
structure Hard (tw tw' : List Town) (dh dh' : Int) : Prop where
  ln : tw.length <= tw'.length
  st : ∀ i, i < tw.length -> (tw'.getD i default).station = (tw.getD i default).station
  ld : ∀ i, i < tw.length -> (tw.getD i default).lead <= (tw'.getD i default).lead
  dh : dh <= dh'
theorem Hard.met (h : Hard tw tw' dh dh') {d : Dem} (hd : 0 <= d.town /\ d.town < (tw.length : Int)) {s : Int} (hm : meetB dn tr tw' dh' d s = true) : meetB dn tr tw dh d s = true := by
  have a := h.st (Int.toNat d.town) (by omega)
  have b := h.ld (Int.toNat d.town) (by omega)
  have c := h.dh
  unfold meetB stn led at hm ⊢
  rw [Bool.and_eq_true, decide_eq_true_eq, decide_eq_true_eq] at hm ⊢
  rw [a] at hm
  exact ⟨hm.1, by omega⟩
theorem Hard.sub (h : Hard tw tw' dh dh') {d : Dem} (hd : 0 <= d.town /\ d.town < (tw.length : Int)) : ∀ s ∈ Sd dn tr tw' dh' d, s ∈ Sd dn tr tw dh d := fun s hs => by
  unfold Sd at hs ⊢
  rw [List.mem_filter] at hs ⊢
  exact ⟨hs.1, h.met hd hs.2⟩
theorem Hard.pre (h : Hard tw tw' dh dh') (hD : Dn dn) (hlo : ∀ x : Int, 0 <= x -> x < (dn.length : Int) -> 0 <= lo tr x /\ lo tr x <= 1000) {d : Dem} (hd : OkD dn tw d) : Sd dn tr tw' dh' d = (Sd dn tr tw dh d).take (Sd dn tr tw' dh' d).length := by
  have hd' : OkD dn tw' d := ⟨hd.1, hd.2.1, by have := hd.2.2; have := h.ln; omega⟩
  exact filter_pre (Sd_first hD hlo hd') fun x _ hx => h.met hd.2 hx
end Wn
end Go.Nm
namespace Go.Proofs.Ytbaehghammbjdaa
open Go Go.Nm
variable {dn : List Int} {tr : List Span} {sp : List Int} {tw : List Town} {dl dh : Int} {fl : List Flood} {W : List Int}
theorem contains_ints (l : List Int) (f : Int -> M Bool) (p : Int -> Bool) (h : ∀ t ∈ l, (f t).Ends (p t)) : (zaR l f).Ends (l.any p) := by
  refine M.Out.ends ?_
  unfold zaR zbZ
  refine M.o_bind (P := fun r => decide (0 <= r) = l.any p) (M.o_bind (P := fun r => match r with | .inl r => (0 : Int) <= r /\ l.any p = true | .inr (_ : Unit) => l.any p = false) ?_ ?_) (fun r h => M.o_pure h)
  · refine M.o_for l.length (fun i (k : Nat) => k = i /\ ∀ j, j < i -> p (l.getD j 0) = false) ?_ ?_ ⟨rfl, fun j hj => by omega⟩
    · rintro _ i hi ⟨rfl, hp⟩
      simp only [zaE]
      have hm : l.getD i 0 ∈ l := by rw [getD_el l hi]; exact List.getElem_mem hi
      refine M.o_t (decide_eq_true (by omega)) (M.o_grdD (by omega) (M.o_bindE (h _ hm) (M.o_if (fun hb => M.o_pure ⟨by omega, ?_⟩) (fun hb => M.o_pure ⟨rfl, fun j hj => ?_⟩))))
      · rw [List.any_eq_true]
        exact ⟨_, hm, hb⟩
      · rcases Nat.lt_or_eq_of_le (Nat.le_of_lt_succ hj) with e | e
        · exact hp j e
        · subst e
          exact hb
    · rintro _ ⟨rfl, hp⟩
      simp only [zaE]
      refine M.o_f (decide_eq_false (by omega)) (M.o_pure ?_)
      rw [List.any_eq_false]
      intro x hx
      obtain ⟨i, hi, e⟩ := mem_getD hx 0
      rw [← e, hp i hi]
      exact Bool.false_ne_true
  · rintro (r | r) h
    · exact M.o_pure (by rw [h.2, decide_eq_true h.1])
    · exact M.o_pure (by dsimp only at h; rw [h]; rfl)
theorem contains_dem (l : List Dem) (f : Dem -> M Bool) (p : Dem -> Bool) (h : ∀ t ∈ l, (f t).Ends (p t)) : (zcf l f).Ends (l.any p) := by
  refine M.Out.ends ?_
  unfold zcf zcy
  refine M.o_bind (P := fun r => decide (0 <= r) = l.any p) (M.o_bind (P := fun r => match r with | .inl r => (0 : Int) <= r /\ l.any p = true | .inr (_ : Unit) => l.any p = false) ?_ ?_) (fun r h => M.o_pure h)
  · refine M.o_for l.length (fun i (k : Nat) => k = i /\ ∀ j, j < i -> p (l.getD j default) = false) ?_ ?_ ⟨rfl, fun j hj => by omega⟩
    · rintro _ i hi ⟨rfl, hp⟩
      simp only [zbE]
      have hm : l.getD i default ∈ l := by rw [getD_el l hi]; exact List.getElem_mem hi
      refine M.o_t (decide_eq_true (by omega)) (M.o_grdD (by omega) (M.o_bindE (h _ hm) (M.o_if (fun hb => M.o_pure ⟨by omega, ?_⟩) (fun hb => M.o_pure ⟨rfl, fun j hj => ?_⟩))))
      · rw [List.any_eq_true]
        exact ⟨_, hm, hb⟩
      · rcases Nat.lt_or_eq_of_le (Nat.le_of_lt_succ hj) with e | e
        · exact hp j e
        · subst e
          exact hb
    · rintro _ ⟨rfl, hp⟩
      simp only [zbE]
      refine M.o_f (decide_eq_false (by omega)) (M.o_pure ?_)
      rw [List.any_eq_false]
      intro x hx
      obtain ⟨i, hi, e⟩ := mem_getD hx default
      rw [← e, hp i hi]
      exact Bool.false_ne_true
  · rintro (r | r) h
    · exact M.o_pure (by rw [h.2, decide_eq_true h.1])
    · exact M.o_pure (by dsimp only at h; rw [h]; rfl)
theorem late1_ends (R : Wn.Rv dn tr sp tw dl dh fl) {d : Dem} (hd : Wn.OkD dn tw d) {ar : List Bool} (h : ∀ j : Nat, ar.getD j false = true ↔ (j : Int) ∈ W) : (zbk d dn tr sp tw dl dh fl ar).Ends (Wn.mt dn tr tw dh W d) := by
  have h12 := R.n12
  unfold zbk
  refine M.i_bind (stretch_ends R hd) (M.i_bind (contains_ints _ _ (fun s => decide (s ∈ W)) fun s hs => ?_) M.i_pure)
  have := stretch_in R hd s hs
  unfold zbV
  refine M.i_grd (gA2 (by omega) (by omega)) (M.i_eq M.i_pure ?_)
  rw [Bool.eq_iff_iff, decide_eq_true_iff, h, Int.toNat_of_nonneg this.1]
theorem delete_ends (R : Wn.Rv dn tr sp tw dl dh fl) {D : List Dem} (hl : D.length <= 64) (ho : ∀ d ∈ D, Wn.OkD dn tw d) {ar : List Bool} (h : ∀ j : Nat, ar.getD j false = true ↔ (j : Int) ∈ W) :
    (zbW D dn tr sp tw dl dh fl ar).Ends (D.filter fun d => !Wn.mt dn tr tw dh W d) := by
  refine M.Out.ends ?_
  have hin : ∀ i, i < D.length -> D.getD i default ∈ D := fun i hi => by rw [getD_el D hi]; exact List.getElem_mem hi
  unfold zbW
  refine M.o_bind (P := fun (r : Int) => (r = -1 /\ ∀ i, i < D.length -> Wn.mt dn tr tw dh W (D.getD i default) = false) ∨ ∃ k : Nat, r = k /\ k < D.length /\ Wn.mt dn tr tw dh W (D.getD k default) = true /\ ∀ j, j < k -> Wn.mt dn tr tw dh W (D.getD j default) = false) ?_ ?_
  · unfold zcw
    refine M.o_bind (P := fun r => match r with | .inl r => ∃ k : Nat, r = (k : Int) /\ k < D.length /\ Wn.mt dn tr tw dh W (D.getD k default) = true /\ ∀ j, j < k -> Wn.mt dn tr tw dh W (D.getD j default) = false | .inr (_ : Unit) => ∀ i, i < D.length -> Wn.mt dn tr tw dh W (D.getD i default) = false) ?_ ?_
    · refine M.o_for D.length (fun i (k : Nat) => k = i /\ ∀ j, j < i -> Wn.mt dn tr tw dh W (D.getD j default) = false) ?_ ?_ ⟨rfl, fun j hj => by omega⟩
      · rintro _ i hi ⟨rfl, hp⟩
        simp only [zbc]
        refine M.o_t (decide_eq_true (by omega)) (M.o_grdD (by omega) (M.o_bindE (late1_ends R (ho _ (hin i hi)) h) (M.o_if (fun hb => M.o_pure ⟨i, rfl, hi, hb, hp⟩) (fun hb => M.o_pure ⟨rfl, fun j hj => ?_⟩))))
        rcases Nat.lt_or_eq_of_le (Nat.le_of_lt_succ hj) with e | e
        · exact hp j e
        · subst e
          exact hb
      · rintro _ ⟨rfl, hp⟩
        simp only [zbc]
        exact M.o_f (decide_eq_false (by omega)) (M.o_pure hp)
    · rintro (r | r) h
      · exact M.o_pure (.inr h)
      · exact M.o_pure (.inl ⟨rfl, h⟩)
  have hsub : ∀ m, m <= D.length -> (∀ j, j < m -> Wn.mt dn tr tw dh W (D.getD j default) = false) -> (D.take m).filter (fun d => !Wn.mt dn tr tw dh W d) = D.take m := by
    intro m hm hf
    rw [List.filter_eq_self]
    intro d hd
    obtain ⟨j, hj, rfl⟩ := List.mem_take_iff_getElem.1 hd
    have := hf j (by omega)
    rw [getD_el D (by omega)] at this
    rw [this]
    rfl
  · rintro r (⟨rfl, h1⟩ | ⟨k, rfl, hk, h1, h2⟩)
    · refine M.o_t rfl (M.o_pure ?_)
      have := hsub D.length (Nat.le_refl _) h1
      rw [List.take_length] at this
      exact this.symm
    · refine M.o_f (beq_eq_false_iff_ne.2 (by omega)) (M.o_grd (gA2 (by omega) (by omega)) ?_)
      refine M.o_bind (P := fun y => (0 <= y.2.1 /\ y.2.1 <= (y.2.2.length : Int)) /\ y.2.2.take (Int.toNat y.2.1) = D.filter fun d => !Wn.mt dn tr tw dh W d) ?_ ?_
      · refine M.o_for (D.length - (k + 1)) (fun m (t : List Dem × Int × Int) => t.2.2 = (k : Int) + 1 + m /\ t.1.length = D.length /\ (0 <= t.2.1 /\ t.2.1 < t.2.2) /\ (∀ p : Nat, t.2.2 <= p -> t.1.getD p default = D.getD p default) /\ t.1.take (Int.toNat t.2.1) = (D.take (k + 1 + m)).filter fun d => !Wn.mt dn tr tw dh W d) ?_ ?_ ⟨by dsimp only; omega, rfl, ⟨by dsimp only; omega, by dsimp only; omega⟩, fun p _ => rfl, ?_⟩
        · rintro m ⟨l, i, j⟩ hm ⟨e1, e2, ⟨e3, e4⟩, e5, e6⟩
          dsimp only at e1 e2 e3 e4 e5 e6
          obtain ⟨q, rfl⟩ : ∃ q : Nat, j = q := ⟨Int.toNat j, by omega⟩
          obtain ⟨p, rfl⟩ : ∃ p : Nat, i = p := ⟨Int.toNat i, by omega⟩
          have hq := e5 q (Int.le_refl _)
          have eq1 : q = k + 1 + m := by omega
          simp only [zbq, Int.toNat_natCast]
          rw [Int.toNat_natCast] at e6
          rw [hq]
          have hstep : (D.take (k + 1 + (m + 1))).filter (fun d => !Wn.mt dn tr tw dh W d) = l.take p ++ if Wn.mt dn tr tw dh W (D.getD q default) = true then [] else [D.getD q default] := by
            rw [← eq1] at e6
            rw [show k + 1 + (m + 1) = q + 1 by omega, List.take_succ_eq_append_getElem (show q < D.length by omega), List.filter_append, ← e6, ← getD_el D (show q < D.length by omega) default]
            congr 1
            cases hh : Wn.mt dn tr tw dh W (D.getD q default) with
            | true => rw [if_pos rfl, List.filter_cons_of_neg (by rw [hh]; exact Bool.false_ne_true)]; rfl
            | false => rw [if_neg Bool.false_ne_true, List.filter_cons_of_pos (by rw [hh]; rfl)]; rfl
          refine M.o_t (decide_eq_true (by omega)) (M.o_grd (gA2 (by omega) (by omega)) (M.o_bindE (late1_ends R (ho _ (hin q (by omega))) h) (M.o_if (fun hb => ?_) (fun hb => ?_))))
          · refine M.o_grd (gA2 (by omega) (by omega)) (M.o_pure ⟨by dsimp only; omega, by dsimp only; rw [List.length_set, e2], ⟨by dsimp only; omega, by dsimp only; omega⟩, fun p' hp => ?_, ?_⟩)
            · dsimp only at hp ⊢
              rw [gset _ _ _ _ _ (by omega), if_neg (by omega)]
              exact e5 p' (by omega)
            · dsimp only
              have hb : Wn.mt dn tr tw dh W (D.getD q default) = false := by simpa using hb
              rw [hb, if_neg Bool.false_ne_true] at hstep
              rw [hstep, show Int.toNat ((p : Int) + 1) = p + 1 by omega]
              exact take_set_app (by omega)
          · refine M.o_pure ⟨by dsimp only; omega, e2, ⟨e3, by dsimp only; omega⟩, fun p hp => e5 p (by dsimp only at hp; omega), ?_⟩
            dsimp only
            have hb : Wn.mt dn tr tw dh W (D.getD q default) = true := by simpa using hb
            rw [hb, if_pos rfl, List.append_nil] at hstep
            rw [hstep, Int.toNat_natCast]
        · rintro ⟨l, i, j⟩ ⟨e1, e2, ⟨e3, e4⟩, e5, e6⟩
          dsimp only at e1 e2 e3 e4 e5 e6
          simp only [zbq]
          refine M.o_f (decide_eq_false (by omega)) (M.o_pure ⟨⟨e3, by dsimp only; omega⟩, ?_⟩)
          dsimp only
          rw [e6, show k + 1 + (D.length - (k + 1)) = D.length by omega, List.take_length]
        · dsimp only
          rw [Int.toNat_natCast, Nat.add_zero, List.take_succ_eq_append_getElem hk, List.filter_append, hsub k (by omega) h2, ← getD_el D hk default, List.filter_cons_of_neg (by rw [h1]; exact Bool.false_ne_true)]
          simp
      · rintro ⟨l1, i, l⟩ ⟨⟨a1, a2⟩, a3⟩
        dsimp only at a1 a2 a3 ⊢
        exact M.o_grd (gA2 a1 a2) (M.o_pure a3)
theorem late_ends (R : Wn.Rv dn tr sp tw dl dh fl) {D : List Dem} (hD : (zal dn tr sp tw dl dh fl).Ends D) (hl : D.length <= 64) (ho : ∀ d ∈ D, Wn.OkD dn tw d) (hu : W.Pairwise (· < ·)) (hb : ∀ x ∈ W, 0 <= x /\ x < (dn.length : Int)) : (zbM dn tr sp tw dl dh fl W).Ends (D.filter fun d => !Wn.mt dn tr tw dh W d, 0) := by
  refine M.Out.ends ?_
  unfold zbM
  refine M.o_bind (posted_iff R hu hb) ?_
  rintro _ ⟨ar, rfl, h⟩
  dsimp only
  exact M.o_f rfl (M.o_bindE hD (M.o_bindE (delete_ends R hl ho h) (M.o_pure rfl)))
theorem dem_ok (R : Wn.Rv dn tr sp tw dl dh fl) {D : List Dem} (hm : ∀ d, d ∈ D ↔ d.spring ∈ sp /\ (0 <= d.town /\ d.town < (tw.length : Int)) /\ Wn.stn tw d ∈ Wn.P dn d.spring) : ∀ d ∈ D, Wn.OkD dn tw d := fun d hd => by
  have := (hm d).1 hd
  exact ⟨R.si _ this.1, this.2.1⟩
/-- A river with its demands and its fewest watches, if there are any. -/
structure Rd (dn : List Int) (tr : List Span) (sp : List Int) (tw : List Town) (dl dh : Int) (fl : List Flood) (D : List Dem) (ws : List Int) (e : Int) : Prop where
  R : Wn.Rv dn tr sp tw dl dh fl
  hD : (zal dn tr sp tw dl dh fl).Ends D
  hl : D.length <= 64
  hm : ∀ d, d ∈ D ↔ d.spring ∈ sp /\ (0 <= d.town /\ d.town < (tw.length : Int)) /\ Wn.stn tw d ∈ Wn.P dn d.spring
  w : (zam dn tr sp tw dl dh fl).Ends (ws, e)
  or : (e = 0 /\ ∃ ap, Wn.Few dn tr tw dh D ws ap) ∨ (e = 6 /\ ∃ d ∈ D, Wn.Sd dn tr tw dh d = [])
theorem river_is (R : Wn.Rv dn tr sp tw dl dh fl) : ∃ D ws e, Rd dn tr sp tw dl dh fl D ws e := by
  obtain ⟨D, hD, hl, hm⟩ := demands_is R
  have ho := dem_ok R hm
  by_cases hall : ∀ d ∈ D, Wn.Sd dn tr tw dh d ≠ []
  · obtain ⟨ws, ap, hF, F⟩ := fewest_is R hD hl fun d hd => ⟨ho d hd, hall d hd⟩
    refine ⟨D, ws, 0, R, hD, hl, hm, ?_, .inl ⟨rfl, ap, F⟩⟩
    unfold zam
    refine M.i_bind (opened_ends R) ?_
    dsimp only
    exact M.i_f rfl (M.i_bind hF (M.i_f rfl M.i_pure))
  · have hev := every_68 R ho
    have hfal : (D.all fun d => decide (0 < ((Wn.Sd dn tr tw dh d).length : Int))) = false := by
      rw [← Bool.not_eq_true, List.all_eq_true]
      intro hh
      apply hall
      intro d hd hz
      have := of_decide_eq_true (hh d hd)
      rw [hz] at this
      exact absurd this (by decide)
    rw [hfal] at hev
    have hfe : (zaz dn tr sp tw dl dh fl).Ends ([], [], false) := by
      unfold zaz
      exact M.i_bind hD (M.i_bind hev (M.i_t rfl M.i_pure))
    have hex : ∃ d ∈ D, Wn.Sd dn tr tw dh d = [] := by
      apply Classical.byContradiction
      intro hn
      exact hall fun d hd hz => hn ⟨d, hd, hz⟩
    refine ⟨D, [], 6, R, hD, hl, hm, ?_, .inr ⟨rfl, hex⟩⟩
    unfold zam
    refine M.i_bind (opened_ends R) ?_
    dsimp only
    exact M.i_f rfl (M.i_bind hfe (M.i_t rfl M.i_pure))
variable {D D' : List Dem} {ws ws' : List Int} {e e' : Int} {tw' : List Town} {dh' : Int}
theorem hard_dem (A : Rd dn tr sp tw dl dh fl D ws e) (B : Rd dn tr sp tw' dl dh' fl D' ws' e') (h : Wn.Hard tw tw' dh dh') : ∀ d ∈ D, d ∈ D' := fun d hd => by
  have := (A.hm d).1 hd
  have a := h.st (Int.toNat d.town) (by omega)
  have l := h.ln
  refine (B.hm d).2 ⟨this.1, by omega, ?_⟩
  unfold Wn.stn at this ⊢
  rw [a]
  exact this.2.2
/-- A harder river never takes fewer watches. -/
theorem hard_few (A : Rd dn tr sp tw dl dh fl D ws e) (B : Rd dn tr sp tw' dl dh' fl D' ws' e') (h : Wn.Hard tw tw' dh dh') : ((((e != 0) && ((e != 6) || (e' != e))) || (((e == 0) && (e' != 0)) && (e' != 6))) || ((e' == 0) && (decide ((ws'.length : Int) < (ws.length : Int))))) = false := by
  have hsub := hard_dem A B h
  rcases A.or with ⟨rfl, ap, F⟩ | ⟨rfl, d, hd, hz⟩
  · rcases B.or with ⟨rfl, ap', F'⟩ | ⟨rfl, _⟩
    · have hle := Wn.dj_few F.dj fun a ha => by
        obtain ⟨s, s1, s2⟩ := F'.cov a (hsub a (F.sub a ha))
        exact ⟨s, h.sub ((A.hm a).1 (F.sub a ha)).2.1 s s1, s2⟩
      have hln := F.ln
      rw [decide_eq_false (by omega)]
      rfl
    · rfl
  · rcases B.or with ⟨rfl, ap', F'⟩ | ⟨rfl, _⟩
    · obtain ⟨s, s1, _⟩ := F'.cov d (hsub d hd)
      have := h.sub ((A.hm d).1 hd).2.1 s s1
      rw [hz] at this
      cases this
    · rfl
theorem stretchd (A : Rd dn tr sp tw dl dh fl D ws e) {d : Dem} (hd : d ∈ D) : (zaq dn tr sp tw dl dh fl d).Ends (Wn.Sd dn tr tw dh d, 0) := by
  have R := A.R
  have ho := dem_ok R A.hm d hd
  have hsh := Wn.P_short R.nx (.inr ho.1)
  have h12 := R.n12
  have hle : (Wn.Sd dn tr tw dh d).length <= (Wn.P dn d.spring).length := List.length_filter_le _ _
  have h : (zb8 dn tr sp tw dl dh fl d).Ends true := by
    unfold zb8
    refine M.i_bind A.hD (M.i_bind (contains_dem D _ (fun x => decide (x = d)) fun x _ => ?_) ?_)
    · unfold zbR
      exact M.i_pure
    · have e : (D.any fun x => decide (x = d)) = true := by
        rw [List.any_eq_true]
        exact ⟨d, hd, decide_eq_true rfl⟩
      rw [e]
      exact M.i_pure
  unfold zaq
  refine M.i_bind (opened_ends R) ?_
  dsimp only
  exact M.i_f rfl (M.i_bind h (M.i_f rfl (M.i_bind (stretch_ends R ho) (M.i_grd (decide_eq_true (by omega)) M.i_pure))))
theorem copy_ints {l : List Int} (h : l.length <= 1000) : (zbp l).Ends l := M.i_grd (decide_eq_true (by simp; omega)) M.i_pure
theorem copy_river (R : Wn.Rv dn tr sp tw dl dh fl) : (zaW dn tr sp tw dl dh fl).Ends (dn, tr, sp, tw, dl, dh, fl) := by
  have h12 := R.n12
  have tl := R.tl
  have s8 := R.s8
  have t8 := R.t8
  have f20 := R.f20
  have ff : ∀ i, i < fl.length -> (fl.getD i default).stages.length <= 12 := fun i hi => by
    have hf : fl.getD i default ∈ fl := by rw [getD_el fl hi]; exact List.getElem_mem hi
    have := R.fok _ hf
    have := Wn.P_short R.nx (.inr (R.si _ this.1))
    omega
  unfold zaW zbQ
  refine M.i_bind (copy_ints (by omega)) (M.i_bind (a := tr) (M.i_grd (decide_eq_true (by simp; omega)) M.i_pure) (M.i_bind (copy_ints (by omega)) (M.i_bind (a := tw) (M.i_grd (decide_eq_true (by simp; omega)) M.i_pure) (M.i_bind (a := (fl, fl)) ?_ M.i_pure))))
  refine M.Out.ends (M.o_for fl.length (fun i (t : Nat × List Flood) => t = (i, fl.take i)) ?_ ?_ (by simp))
  · rintro i _ hi rfl
    simp only [zbG]
    refine M.o_t (decide_eq_true (by omega)) (M.o_grdD (by omega) (M.o_bindE (copy_ints (by have := ff i hi; omega)) (M.o_grdD (by simp; omega) (M.o_pure ?_))))
    rw [← take_succ_D fl i hi default]
  · rintro _ rfl
    simp only [zbG]
    refine M.o_f (decide_eq_false (by omega)) (M.o_pure ?_)
    rw [List.take_length]
/-- Longer Leads. -/
def Str (tw l : List Town) (i : Nat) : Prop := l.length = tw.length /\ ∀ j, j < tw.length -> (l.getD j default).station = (tw.getD j default).station /\ (l.getD j default).alarm = (tw.getD j default).alarm /\ (tw.getD j default).lead <= (l.getD j default).lead /\ (l.getD j default).lead <= (tw.getD j default).lead + 3 /\ (i <= j -> (l.getD j default).lead = (tw.getD j default).lead)
theorem more_b0 {b : List UInt8} (ht : tw.length <= 8) (hld : ∀ t ∈ tw, 0 <= t.lead /\ t.lead <= 7) {c u x : Int} (hS : SOk c u x) (hc : c <= 1000000) :
    (M.iter (zaY b) (u, x, tw, 0)).Out (fun y => SOk (c + 8) y.1 y.2.1 /\ Str tw y.2.2.2 tw.length /\ y.2.2.1 = y.2.2.2) := by
  refine M.o_for tw.length (fun i (t : Int × Int × List Town × Nat) => t.2.2.2 = i /\ SOk (c + i) t.1 t.2.1 /\ Str tw t.2.2.1 i) ?_ ?_ ⟨rfl, hS.mono (by omega), rfl, fun j _ => ⟨rfl, rfl, Int.le_refl _, by dsimp only; omega, fun _ => rfl⟩⟩
  · rintro _ ⟨u1, x1, l, i⟩ hi ⟨rfl, h1, h2, h3⟩
    dsimp only at hi h1 h2 h3
    simp only [zaY]
    have hl := hld (tw.getD i default) (by rw [getD_el tw hi]; exact List.getElem_mem hi)
    have hx := (h3 i hi).2.2.2.2 (Nat.le_refl _)
    refine M.o_t (decide_eq_true (by omega)) (M.o_grdD (by omega) (M.o_bind (next_out h1 (by omega) (by omega)) ?_))
    rintro ⟨r, u2, x2⟩ ⟨k, g, _⟩
    have g := g (by omega)
    dsimp only at k g ⊢
    refine M.o_grd (gA2 (by omega) (by omega)) (M.o_pure ⟨rfl, k.mono (by omega), by dsimp only; rw [List.length_set, h2], fun j hj => ?_⟩)
    dsimp only
    rw [gset _ _ _ _ _ (by omega)]
    by_cases c : j = i
    · subst c
      rw [if_pos rfl]
      have := h3 j hj
      exact ⟨this.1, this.2.1, by dsimp only; omega, by dsimp only; omega, fun h => by omega⟩
    · rw [if_neg c]
      have := h3 j hj
      exact ⟨this.1, this.2.1, this.2.2.1, this.2.2.2.1, fun h => this.2.2.2.2 (by omega)⟩
  · rintro ⟨u1, x1, l, i⟩ ⟨e, h1, h2, h3⟩
    dsimp only at e h1 h2 h3
    subst e
    simp only [zaY]
    exact M.o_f (decide_eq_false (by omega)) (M.o_pure ⟨h1.mono (by omega), ⟨h2, h3⟩, rfl⟩)
theorem more_b3 {b : List UInt8} (h12 : dn.length <= 12) {c u x : Int} (hS : SOk c u x) (hc : c <= 1000000) :
    (M.iter (za2 b dn) (u, x, 0, [], [])).Out (fun y => (y.2.2.2.1 = y.1 /\ y.2.2.1 = y.2.1) /\ (y.1.Pairwise (· < ·) /\ ∀ z ∈ y.1, 0 <= z /\ z < (dn.length : Int)) /\ (y.2.1.Pairwise (· < ·) /\ ∀ z ∈ y.2.1, 0 <= z /\ z < (dn.length : Int)) /\ ∀ z ∈ y.1, z ∈ y.2.1) := by
  refine M.o_for dn.length (fun i (t : Int × Int × Nat × List Int × List Int) => t.2.2.1 = i /\ SOk (c + i) t.1 t.2.1 /\ (t.2.2.2.1.length <= i /\ t.2.2.2.1.Pairwise (· < ·) /\ ∀ z ∈ t.2.2.2.1, 0 <= z /\ z < (i : Int)) /\ (t.2.2.2.2.length <= i /\ t.2.2.2.2.Pairwise (· < ·) /\ ∀ z ∈ t.2.2.2.2, 0 <= z /\ z < (i : Int)) /\ ∀ z ∈ t.2.2.2.1, z ∈ t.2.2.2.2) ?_ ?_ ⟨rfl, hS.mono (by omega), ⟨Nat.le_refl _, List.Pairwise.nil, fun z hz => (by cases hz)⟩, ⟨Nat.le_refl _, List.Pairwise.nil, fun z hz => (by cases hz)⟩, fun z hz => (by cases hz)⟩
  · rintro _ ⟨u1, x1, i, l, l2⟩ hi ⟨rfl, h1, h2, h3, h4⟩
    dsimp only at hi h1 h2 h3 h4
    have put : ∀ {l : List Int}, (l.length <= i /\ l.Pairwise (· < ·) /\ ∀ z ∈ l, 0 <= z /\ z < (i : Int)) -> ((l ++ [(i : Int)]).length <= i + 1 /\ (l ++ [(i : Int)]).Pairwise (· < ·) /\ ∀ z ∈ l ++ [(i : Int)], 0 <= z /\ z < ((i + 1 : Nat) : Int)) := fun {l} h => by
      refine ⟨by simp; omega, ?_, fun z hz => ?_⟩
      · rw [List.pairwise_append]
        refine ⟨h.2.1, List.pairwise_singleton _ _, fun a ha b hb => ?_⟩
        rw [List.mem_singleton] at hb
        have := h.2.2 a ha
        omega
      · rw [List.mem_append, List.mem_singleton] at hz
        rcases hz with hz | hz
        · have := h.2.2 z hz
          omega
        · omega
    have keep : ∀ {l : List Int}, (l.length <= i /\ l.Pairwise (· < ·) /\ ∀ z ∈ l, 0 <= z /\ z < (i : Int)) -> (l.length <= i + 1 /\ l.Pairwise (· < ·) /\ ∀ z ∈ l, 0 <= z /\ z < ((i + 1 : Nat) : Int)) := fun {l} h => ⟨by omega, h.2.1, fun z hz => by have := h.2.2 z hz; omega⟩
    simp only [za2]
    refine M.o_t (decide_eq_true (by omega)) (M.o_bind (next_out h1 (by omega) (by omega)) ?_)
    rintro ⟨r, u2, x2⟩ ⟨k, _, _⟩
    dsimp only at k ⊢
    refine M.o_if (fun hb => M.o_grdD (by simp; omega) (M.o_if (fun _ => M.o_grdD (by simp; omega) (M.o_pure ⟨rfl, k.mono (by omega), put h2, put h3, fun z hz => ?_⟩)) (fun hf => ?_))) (fun _ => M.o_if (fun _ => M.o_grdD (by simp; omega) (M.o_pure ⟨rfl, k.mono (by omega), keep h2, put h3, fun z hz => List.mem_append_left _ (h4 z hz)⟩)) (fun _ => M.o_pure ⟨rfl, k.mono (by omega), keep h2, keep h3, h4⟩))
    · dsimp only at hz ⊢
      rw [List.mem_append] at hz ⊢
      exact hz.imp (h4 z) id
    · have hb := beq_iff_eq.1 hb
      have hf := of_decide_eq_false hf
      omega
  · rintro ⟨u1, x1, i, l, l2⟩ ⟨e, h1, h2, h3, h4⟩
    dsimp only at e h1 h2 h3 h4
    subst e
    simp only [za2]
    exact M.o_f (decide_eq_false (by omega)) (M.o_pure ⟨⟨rfl, rfl⟩, h2.2, h3.2, h4⟩)
theorem more_b6 {l m : List Dem} (h : ∀ d ∈ m, d ∈ l) : (M.iter (za4 l m) 0).Ends (.inr ()) := by
  refine M.i_for (fun i => i) m.length (fun i hi => ?_) ?_
  · simp only [za4]
    have hb : (M.iter (zaF l m i) (false, 0)).Ends true := by
      have := M.i_for (body := zaF l m i) (r := l.any fun x => decide (x = m.getD i default)) (fun k => ((l.take k).any fun x => decide (x = m.getD i default), k)) l.length (fun k hk => ?_) ?_
      · have e : (l.any fun x => decide (x = m.getD i default)) = true := by
          rw [List.any_eq_true]
          exact ⟨_, h _ (by rw [getD_el m hi]; exact List.getElem_mem hi), decide_eq_true rfl⟩
        rw [e] at this
        simpa using this
      · simp only [zaF]
        refine M.i_t (decide_eq_true (by omega)) (M.i_grd (gOr (by omega)) (M.i_grd (gOr (by omega)) ?_))
        rw [List.take_succ_eq_append_getElem hk, List.any_append, ← getD_el l hk default]
        simp only [List.any_cons, List.any_nil, Bool.or_false]
        exact M.i_pure
      · simp only [zaF, List.take_length]
        exact M.i_f (decide_eq_false (by omega)) M.i_pure
    exact M.i_t (decide_eq_true (by omega)) (M.i_bind hb (M.i_f rfl M.i_pure))
  · simp only [za4]
    exact M.i_f (decide_eq_false (by omega)) M.i_pure
theorem Rv_hard (R : Wn.Rv dn tr sp tw dl dh fl) (h8 : tw'.length <= 8) (hd : dl <= dh' /\ dh' <= 1000) (ht : ∀ t ∈ tw', (0 <= t.station /\ t.station < dn.length) /\ (0 <= t.lead /\ t.lead <= 1000) /\ 0 <= t.alarm /\ t.alarm <= 2000) : Wn.Rv dn tr sp tw' dl dh' fl :=
  ⟨R.n1, R.n12, R.nx, R.tl, R.hr, R.s1, R.s8, R.sr, R.si, h8, ht, R.d0, hd.1, hd.2, R.f20, R.fok⟩
theorem more_j7 {b : List UInt8} (R : Wn.Rv dn tr sp tw dl dh fl) (hdh : dh <= 4) (hld : ∀ t ∈ tw, t.lead <= 7) {l3 : List Town} (h3 : Str tw l3 tw.length) {r8 : Int} (h8 : 0 <= r8 /\ r8 < 4) {l4 : List Town} (h4 : l4 = tw ∨ ∃ t, l4 = tw ++ [t] /\ tw.length < 8 /\ (0 <= t.station /\ t.station < (dn.length : Int)) /\ (0 <= t.lead /\ t.lead <= 5) /\ t.alarm = 200) {c u x q1 q2 : Int} (hS : SOk c u x) (hc : c <= 100000) :
    (zaX b dn tr sp tw dl dh fl q1 q2 dn tr sp dl dh fl dn tr sp tw dl dh fl dn tr sp dl dh fl l3 r8 u x l4).Ends true := by
  have t8 := R.t8
  have h12 := R.n12
  have d1 := R.d1
  have hD3 : Wn.Rv dn tr sp l3 dl dh fl := Rv_hard R (by have := h3.1; omega) ⟨R.d1, R.d2⟩ fun t ht => by
    obtain ⟨i, hi, rfl⟩ := mem_getD ht default
    have hi' : i < tw.length := by have := h3.1; omega
    have hm : tw.getD i default ∈ tw := by rw [getD_el tw hi']; exact List.getElem_mem hi'
    have a := h3.2 i hi'
    have b := R.tok _ hm
    have c := hld _ hm
    omega
  have hD8 : Wn.Rv dn tr sp tw dl (dh + r8) fl := Rv_hard R t8 (by omega) R.tok
  have hD4 : Wn.Rv dn tr sp l4 dl dh fl := by
    rcases h4 with rfl | ⟨t, rfl, h5, h6, h7, h9⟩
    · exact R
    · refine Rv_hard R (by simp; omega) ⟨R.d1, R.d2⟩ fun t' ht => ?_
      rcases List.mem_append.1 ht with ht | ht
      · exact R.tok t' ht
      · rw [List.mem_singleton] at ht
        subst ht
        omega
  have H3 : Wn.Hard tw l3 dh dh := ⟨by have := h3.1; omega, fun i hi => (h3.2 i hi).1, fun i hi => (h3.2 i hi).2.2.1, Int.le_refl _⟩
  have H8 : Wn.Hard tw tw dh (dh + r8) := ⟨Nat.le_refl _, fun _ _ => rfl, fun _ _ => Int.le_refl _, by omega⟩
  have H4 : Wn.Hard tw l4 dh dh := by
    rcases h4 with rfl | ⟨t, rfl, _⟩
    · exact ⟨Nat.le_refl _, fun _ _ => rfl, fun _ _ => Int.le_refl _, Int.le_refl _⟩
    · have e : ∀ i, i < tw.length -> (tw ++ [t]).getD i default = tw.getD i default := fun i hi => by
        rw [List.getD_eq_getElem?_getD, List.getElem?_append_left hi, ← List.getD_eq_getElem?_getD]
      exact ⟨by simp, fun i hi => by rw [e i hi], fun i hi => by rw [e i hi]; exact Int.le_refl _, Int.le_refl _⟩
  obtain ⟨D, ws, e, A⟩ := river_is R
  obtain ⟨D3, ws3, e3, A3⟩ := river_is hD3
  obtain ⟨D8, ws8, e8, A8⟩ := river_is hD8
  obtain ⟨D4, ws4, e4, A4⟩ := river_is hD4
  have ho := dem_ok R A.hm
  refine M.Out.ends ?_
  unfold zaX
  refine M.o_bindE A.w ?_
  dsimp only
  refine M.o_bindE (a := (.inr () : Unit ⊕ Unit)) ?_ ?_
  · refine M.i_for (fun i => i) 3 (fun i hi => ?_) ?_
    · have key : ∀ X ∈ [(⟨dn, tr, sp, l3, dl, dh, fl⟩ : River), ⟨dn, tr, sp, tw, dl, dh + r8, fl⟩, ⟨dn, tr, sp, l4, dl, dh, fl⟩], ∃ b f, (zam X.down X.travel X.springs X.towns X.dlo X.dhi X.floods).Ends (b, f) /\ ((((e != 0) && ((e != 6) || (f != e))) || (((e == 0) && (f != 0)) && (f != 6))) || ((f == 0) && (decide ((b.length : Int) < (ws.length : Int))))) = false := by
        intro X hX
        simp only [List.mem_cons, List.not_mem_nil, or_false] at hX
        rcases hX with rfl | rfl | rfl
        · exact ⟨_, _, A3.w, hard_few A A3 H3⟩
        · exact ⟨_, _, A8.w, hard_few A A8 H8⟩
        · exact ⟨_, _, A4.w, hard_few A A4 H4⟩
      simp only [zbb]
      have hlt : i < [(⟨dn, tr, sp, l3, dl, dh, fl⟩ : River), ⟨dn, tr, sp, tw, dl, dh + r8, fl⟩, ⟨dn, tr, sp, l4, dl, dh, fl⟩].length := hi
      obtain ⟨b', f, k1, k2⟩ := key ([(⟨dn, tr, sp, l3, dl, dh, fl⟩ : River), ⟨dn, tr, sp, tw, dl, dh + r8, fl⟩, ⟨dn, tr, sp, l4, dl, dh, fl⟩].getD i default) (by rw [getD_el _ hlt]; exact List.getElem_mem hlt)
      exact M.i_t (decide_eq_true (by omega)) (M.i_grd (decide_eq_true (by omega)) (M.i_bind k1 (M.i_f k2 M.i_pure)))
    · simp only [zbb]
      exact M.i_f (decide_eq_false (by simp)) M.i_pure
  dsimp only
  have hdem : (zb0 dn tr sp tw dl dh fl).Ends (D, 0) := by
    unfold zb0
    refine M.i_bind (opened_ends R) ?_
    dsimp only
    exact M.i_f rfl (M.i_bind A.hD M.i_pure)
  refine M.o_bindE hdem ?_
  dsimp only
  refine M.o_f rfl (M.o_bindE (a := (.inr () : Unit ⊕ Unit)) ?_ ?_)
  · refine M.i_for (fun i => i) D.length (fun i hi => ?_) ?_
    · simp only [zbI]
      have hd : D.getD i default ∈ D := by rw [getD_el D hi]; exact List.getElem_mem hi
      have p3 := H3.pre (dn := dn) (tr := tr) R.nx (lo_small R) (ho _ hd)
      have p8 := H8.pre (dn := dn) (tr := tr) R.nx (lo_small R) (ho _ hd)
      have n3 : (Wn.Sd dn tr l3 dh (D.getD i default)).length <= (Wn.Sd dn tr tw dh (D.getD i default)).length := by rw [p3, List.length_take]; exact Nat.min_le_right _ _
      have n8 : (Wn.Sd dn tr tw (dh + r8) (D.getD i default)).length <= (Wn.Sd dn tr tw dh (D.getD i default)).length := by rw [p8, List.length_take]; exact Nat.min_le_right _ _
      refine M.i_t (decide_eq_true (by omega)) (M.i_grd (decide_eq_true (by omega)) (M.i_bind (stretchd A hd) ?_))
      dsimp only
      refine M.i_bind (stretchd A3 (hard_dem A A3 H3 _ hd)) ?_
      dsimp only
      refine M.i_bind (stretchd A8 (hard_dem A A8 H8 _ hd)) ?_
      dsimp only
      rw [decide_eq_false (show ¬ ((Wn.Sd dn tr tw dh (D.getD i default)).length : Int) < ((Wn.Sd dn tr l3 dh (D.getD i default)).length : Int) by omega), decide_eq_false (show ¬ ((Wn.Sd dn tr tw dh (D.getD i default)).length : Int) < ((Wn.Sd dn tr tw (dh + r8) (D.getD i default)).length : Int) by omega), ← p3, ← p8]
      refine M.i_grd (gOr2 (by omega) (by omega)) (M.i_bind (M.i_opt (fun _ => same_int _) (fun h => by cases h)) (M.i_grd (gOr2 (by omega) (by omega)) (M.i_bind (M.i_opt (fun _ => same_int _) (fun h => by cases h)) (M.i_f rfl M.i_pure))))
    · simp only [zbI]
      exact M.i_f (decide_eq_false (by omega)) M.i_pure
  dsimp only
  refine M.o_bind (more_b3 h12 hS (by omega)) ?_
  rintro ⟨l7, l8, l9, l10, s11, s12⟩ ⟨⟨e1, e2⟩, ⟨a1, a2⟩, ⟨b1, b2⟩, hsub⟩
  dsimp only at e1 e2 a1 a2 b1 b2 hsub ⊢
  subst e1 e2
  refine M.o_bindE (late_ends R A.hD A.hl ho a1 a2) ?_
  dsimp only
  refine M.o_bindE (late_ends R A.hD A.hl ho b1 b2) ?_
  dsimp only
  refine M.o_f rfl (M.o_bindE (more_b6 fun d hd => ?_) (M.o_bindE awake_ends (M.o_pure rfl)))
  rw [List.mem_filter] at hd ⊢
  refine ⟨hd.1, ?_⟩
  have h2 := hd.2
  unfold Wn.mt at h2 ⊢
  simp only [Bool.not_eq_true', List.any_eq_false, decide_eq_true_eq] at h2 ⊢
  exact fun s hs hw => h2 s hs (hsub s hw)
theorem zdD (p t : List UInt8) : (zco p t).Ends true := by
  refine M.Out.ends ?_
  unfold zco
  have hnew : ∀ p, (zci p).Ends (0, 0) := fun p => M.i_pure
  refine M.o_bindE (hnew p) (M.o_bind (made_out SOk.zero) ?_)
  rintro ⟨dn, tr, sp, tw, dl, dh, fl, q1, q2⟩ ⟨R, ⟨_, hdh, hld⟩, _⟩
  dsimp only at R hdh hld ⊢
  have h12 := R.n12
  have n1 := R.n1
  have d0 := R.d0
  have d1 := R.d1
  refine M.o_bindE (hnew t) ?_
  dsimp only
  refine M.o_bindE (copy_river R) ?_
  dsimp only
  refine M.o_bindE (copy_river R) ?_
  dsimp only
  refine M.o_bindE (copy_river R) ?_
  dsimp only
  refine M.o_bind (more_b0 R.t8 (fun t ht => ⟨(R.tok t ht).2.1.1, hld t ht⟩) SOk.zero (by decide)) ?_
  rintro ⟨s3, s4, l2, l3⟩ ⟨k1, h3, _⟩
  dsimp only at k1 h3 ⊢
  refine M.o_bind (next_out k1 (by omega) (by omega)) ?_
  rintro ⟨r8, q13, q23⟩ ⟨k2, g2, _⟩
  have g2 := g2 (by omega)
  dsimp only at k2 g2 ⊢
  refine M.o_grd (gA2 (by omega) (by omega)) ?_
  unfold zcd
  refine M.o_if (fun hb => ?_) (fun _ => M.o_of (more_j7 R hdh hld h3 g2 (.inl rfl) k2 (by omega)) rfl)
  have hb := of_decide_eq_true hb
  refine M.o_bind (next_out k2 (by omega) (by omega)) ?_
  rintro ⟨r9, q14, q24⟩ ⟨k3, g3, _⟩
  have g3 := g3 (by omega)
  dsimp only at k3 g3 ⊢
  refine M.o_bind (next_out k3 (by omega) (by omega)) ?_
  rintro ⟨r10, q15, q25⟩ ⟨k4, g4, _⟩
  have g4 := g4 (by omega)
  dsimp only at k4 g4 ⊢
  exact M.o_grdD (by simp; omega) (M.o_of (more_j7 R hdh hld h3 g2 (.inr ⟨_, rfl, by omega, g3, by dsimp only; omega, rfl⟩) k4 (by omega)) rfl)
end Go.Proofs.Ytbaehghammbjdaa
